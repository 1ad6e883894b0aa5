/- A reference's play: the regions of roundelayplain.Log's end that draw their order. -/
import Derived.Test.YtfkokppncipgnaaGreatW22
set_option maxRecDepth 100000
set_option linter.unusedVariables false
set_option linter.unusedSimpArgs false
set_option linter.unnecessarySimpa false
namespace Go.Proofs.YtfkokppncipgnaaGreat
open List renaming getElem_toArray → zq1, getElem_cons_zero → zq2, getElem_cons_succ → zq3, setIfInBounds_toArray → zq4, set_cons_zero → zq5, set_cons_succ → zq6
open Go.RowKit
theorem fM.ev_some {w0 w:World} {J:RJ} {s:dS} {hl:List Value} {vs:List HV} {L:Value} {ea:Option Addr} {ec:Nat} {ers:List (Value×Value)} (h:fM w0 w J s hl vs L ea ec ers) {k:Nat} (hk:k<s.evs.length):∃ g,ea=some ⟨g,0,none⟩/\g<w.heap.size/\∀ f,f<8->w.cell? ⟨g,k*8+f,none⟩=(dK (s.evs.getD k iO) (ers.getD k wT))[f]?/\w.frozen? ⟨g,k*8+f,none⟩=false:=by
 obtain⟨g,c,h1,h2,h3⟩:=h.rest.evs.form (by omega)
 simp only [Value.slice.injEq] at h1
 obtain⟨rfl,_,_⟩:=h1
 have hr:=h.rest.evs
 obtain⟨_,_,hty⟩:=gG hr (b:=g) rfl
 exact⟨g,rfl,aC hty,λf hf=>⟨by rw [hr.cellAt _ (by omega),xC _ _ _ _ h.rest.lens.2.2.2.symm hk hf],hr.frozenAt _⟩⟩
theorem gV.afterL {w0 w w3:World} {J:RJ} {s:dS} {hl:List Value} {vs:List HV} {G K L:Value} {ea:Option Addr} {ec:Nat} {ers:List (Value×Value)} {p:Nat} {t t':aJ} {r r':RWD} {v:Value} {l:List Int} (h:gV w0 w J p s hl vs G K L ea ec ers t r) (hA:wQ ⟨w,eZ J p hl vs (.slice ea s.evs.length ec),G,K,L⟩ w3 t' r' v l) (ht:t'.thread=t.thread) (hi:t'.inv=t.inv) (hws:0<r'.mem.ws.length) :
  Chg (wP (eZ J p hl vs (.slice ea s.evs.length ec)) G K L) w w3/\∃ G' K' L',gV w0 w3 J p s hl vs G' K' L' ea ec ers t' r'/\Lst w3 (eX (eZ J p hl vs (.slice ea s.evs.length ec)) G' K' L') v l:=by
 obtain⟨G',K',L',h1,h2,h10⟩:=hA
 refine⟨h2.chg,G',K',L',⟨h1,h.rest.keep h2.chg (λb _ hb=>.inl hb) h2.mut h.ge (λb hb=>?_) (λb hb e=>?_),h.hp,h.opn,ht.trans h.thr,hi.trans h.inv,λb hb=>?_⟩,h10⟩
 ·have hd:=λhx=>h.tape.dis b hx hb
  refine⟨λe=>hd (.inl e),λe=>hd (.inr (.inl (.inl e))),λe=>hd (.inr (.inr (.inl e))),λq hq=>⟨λe=>hd (.inr (.inr (.inr ⟨q,hq,.inl e⟩))),λhP=>⟨λe=>hd (.inr (.inr (.inr ⟨q,hq,.inr ⟨hP,.inl e⟩⟩))),λe=>hd (.inr (.inr (.inr ⟨q,hq,.inr ⟨hP,.inr e⟩⟩)))⟩⟩⟩
 ·obtain⟨PV,LV,KV,ht3,_⟩:=h1.tape
  obtain⟨_,_,_,_,hq⟩:=ht3.mem.blk
  obtain⟨q,rest,e1,_,e2⟩:=hq hws
  have e3:J.bw=some q:=e1
  rw [e] at e3;cases e3
  exact⟨_,_,e2⟩
 ·rcases h2.sub b hb with h9|h9
  ·exact h.ge b h9
  ·exact Nat.le_trans h.rest.below.size h9
theorem gV.evOf {w0 w:World} {J:RJ} {s:dS} {hl:List Value} {vs:List HV} {G K L:Value} {ea:Option Addr} {ec:Nat} {ers:List (Value×Value)} {q:Nat} {t:aJ} {r:RWD} (hM:gV w0 w J q s hl vs G K L ea ec ers t r):w.cell? ⟨J.bH,q*16+1,none⟩=some (.int .i64 ((s.hands.getD q aY).ev:Int)):=by
 obtain⟨PV,LV,KV,ht,_⟩:=hM.tape.tape
 have hb:w.heap[J.bH]?=_:=ht.blk
 rw [aA hb]
 have h1:=hM.rest.c1 q hM.hp hM.opn
 have hlen:=hM.rest.lens.1
 have hp:=hM.hp
 show((hl.take (16*q+2)++_).toArray)[q*16+1]?=_
 rw [List.getElem?_toArray,List.getElem?_append_left (by simp;omega),List.getElem?_take_of_lt (by omega),Nat.mul_comm q 16]
 exact h1
def QH (l:List Int) (e:EvD):EvD:={ e with key:=l }
theorem Cm {w2 w:World} {J:RJ} {s:dS} {hl:List Value} {vs:List HV} {L:Value} {ea:Option Addr} {ec:Nat} {ers:List (Value×Value)} {late:aD->Nat->dW->RWD->List Int} {nt q k bC:Nat} {kd P Q:Int} (hA:fM w2 w J s hl vs L ea ec ers) (hq:q<J.nt) (hn:J.nt=nt) (hopn:(s.hands.getD q aY).opn=true) (hk:k=(s.hands.getD q aY).ev) (hev:k<s.evs.length) (LC:QZ kd P Q nt late)
  (hN:(s.hands.getD q aY).got.length<=1000000) (hcnt:s.rw.mem.c.all<=1000000) (hws:0<s.rw.mem.ws.length) (c:aD) (hcok:lF c) (hob:c.obj=0) (hC:w.heap[bC]?=some (.cells (BB c.thread 0 c.kind c.a c.b c.c) 48 (0,0))) (hCge:w2.heap.size<=bC) :
  ∃ g,ea=some ⟨g,0,none⟩/\Calls Tryz.prog 44 #[.pointer (some ⟨J.bH,q*16+2,none⟩),.int .i64 (nt:Int),.int .i64 0,QR kd P Q,QG c] w.drew λe u=>∃ ka kn kc,e=.returned (.slice ka kn kc)/\u.cell? ⟨J.bO,0,none⟩=some (.slice ea s.evs.length ec)/\u.cell? ⟨J.bH,q*16+1,none⟩=some (.int .i64 (k:Int))/\u.heap[bC]?=some (.cells (BB c.thread 0 c.kind c.a c.b c.c) 48 (0,0))/\Below w2.heap.size w2 u/\(∃ x,u.cell? ⟨g,k*8+7,none⟩=some x)/\u.frozen? ⟨g,k*8+7,none⟩=false/\
   ∃ hl' vs' L' ers',fM w2 (u.setCell ⟨g,k*8+7,none⟩ (.slice ka kn kc)) J { s with evs:=dA s.evs k (QH (late c q (s.hands.getD q aY) s.rw)) } hl' vs' L' ea ec ers':=by
 obtain⟨g,rfl,hgl,_⟩:=hA.ev_some hev
 refine⟨g,rfl,?_⟩
 obtain⟨a,f,ha,PV,er,vl,LV,KV,pl,ll,kl,hT,hPV,hLV,hKV,hale⟩:=hA.tapeAt hq hopn hN
 obtain⟨_,_,_,htl⟩:=(hA.rest.hand q hq trivial).opn hopn
 have hM:=hA.mid (w2:=w) (t:=⟨q,(s.hands.getD q aY).inv,(s.hands.getD q aY).got,(s.hands.getD q aY).ticks,a,f,ha,pl,er,vl,ll,kl⟩) hq hopn hT (Chg.refl _ _) hPV hLV hKV hale htl ⟨by omega,by show(s.hands.getD q aY).got.length+1<=_;omega⟩ rfl rfl
 have hMd:=hM.grown (Gr.refl w).drew
 have hra:RAt ⟨w.drew,eZ J q hl vs (.slice (some ⟨g,0,none⟩) s.evs.length ec),(vs.getD q hv0).1,(vs.getD q hv0).2.1,L⟩ w.drew ⟨q,(s.hands.getD q aY).inv,(s.hands.getD q aY).got,(s.hands.getD q aY).ticks,a,f,ha,pl,er,vl,ll,kl⟩ s.rw:=⟨_,_,_,hMd.tape,RTo.refl _ _ _ _ _⟩
 have hml:s.rw.marks.length=nt:=by rw [<-hn];exact hA.marks.len
 have C:=LC _ w.drew c _ s.rw (s.hands.getD q aY) hcok hob (by rw [<-hn];exact hq) rfl rfl rfl hml hra
 have hpre:(eZ J q hl vs (.slice (some ⟨g,0,none⟩) s.evs.length ec)).pre.length=q*16+2:=by have:=hA.rest.lens.1;show(hl.take (16*q+2)).length=_;simp;omega
 have hpt:(⟨(eZ J q hl vs (.slice (some ⟨g,0,none⟩) s.evs.length ec)).tb,(eZ J q hl vs (.slice (some ⟨g,0,none⟩) s.evs.length ec)).pre.length,none⟩:Addr)=⟨J.bH,q*16+2,none⟩:=by rw [hpre];rfl
 simp only [hpt] at C
 refine C.mono ?_
 rintro e u ⟨v,t',rfl,hL,h1,h2,h3,h4⟩
 obtain⟨hc,G',K',L',hM',hlst⟩:=hMd.afterL hL h1 h2 hws
 obtain⟨ka,kc,rfl,_⟩:=id hlst
 obtain⟨g',e9,_,hcl⟩:=hM'.ev_some hev
 cases e9
 have hst:=hM'.store (k:=k) (f:=7) (g:=g) (u:=.slice ka (late c q (s.hands.getD q aY) s.rw).length kc) (e':=QH (late c q (s.hands.getD q aY) s.rw) (s.evs.getD k iO)) (v':=((ers.getD k wT).1,.slice ka (late c q (s.hands.getD q aY) s.rw).length kc)) hev rfl (by omega) (by unfold dK QH;simp) (hM'.rest.lie k hev).1 hlst
 obtain⟨hl',hfin⟩:=hst.close
 have hql:q<s.hands.length:=by rw [hA.rest.lens.2.2.1];exact hq
 have e8:s.hands.set q { s.hands.getD q aY with got:=t'.got,ticks:=t'.ticks }=s.hands:=by
  rw [h3,h4]
  show s.hands.set q (s.hands.getD q aY)=s.hands
  rw [List.getD_eq_getElem?_getD,List.getElem?_eq_getElem hql];simp
 have hfin':fM w2 (u.setCell ⟨g,k*8+7,none⟩ (.slice ka (late c q (s.hands.getD q aY) s.rw).length kc)) J { s with evs:=dA s.evs k (QH (late c q (s.hands.getD q aY) s.rw)) } hl' (vs.set q (G',K',(vs.getD q hv0).2.2)) L' (some ⟨g,0,none⟩) ec (ers.set k ((ers.getD k wT).1,.slice ka (late c q (s.hands.getD q aY) s.rw).length kc)):=by
  have h9:=hfin
  simp only [e8] at h9
  exact h9
 have hCn:¬ wP (eZ J q hl vs (.slice (some ⟨g,0,none⟩) s.evs.length ec)) (vs.getD q hv0).1 (vs.getD q hv0).2.1 L bC:=λhb=>hA.notmut hC hCge (by decide) (TS hq (.inl hb))
 refine⟨ka,_,kc,rfl,?_,?_,?_,hM'.rest.below,⟨_,(hcl 7 (by omega)).1.trans rfl⟩,(hcl 7 (by omega)).2,hl',_,L',_,hfin'⟩
 ·rw [aA hM'.rest.out];rfl
 ·rw [hk];exact hM'.evOf
 ·exact(hc.block bC (by have:=aC hC;exact this) hCn).trans hC
set_option maxHeartbeats 4000000 in
theorem Ni {w2 w:World} {J:RJ} {s:dS} {hl:List Value} {vs:List HV} {L:Value} {ea:Option Addr} {ec:Nat} {ers:List (Value×Value)} {cb co ncl cc q k i:Nat} {th ob kn:Int} {xa xb xc:Nat} {x0 x1 x3 x4 x5 x6 x7 x8 x9 wC yE BA AR yI IB IK IA OC MR ZK ME x24 OY x27 x28 x29 JR x31 x32 GU x34 JO GA DX x38 x39 DY CP CK DV DL CF KN KT KA KG KI KS KW KL JZ FO JY KJ JM IC IU FQ JA GL FN GN IW FW GX JL GZ JN FX JQ JI IV JE GM JD GK JW IQ FP IY JV JP IX IR GV IZ x90 x91 FZ x93 JG x95 x96 JS x98 x99 pR x101 x102 nJ x104 oN mY lU oD lX oP nI x112 x113 x114 x115 mD qP qE uN uV uA tH sK qY rD tZ sI qM tO qQ qK qJ uI uL tN tT rJ pK nZ oM oW pG mV rG uM rC qO tK sG x150 x151 x152 x153 rT qU oU x157 x158 x159 x160 sM qX qR pX rF uG x167 x168 sJ uF tV qL tF uO tY uS qH lV nX mU lY mM nE oO mJ mQ oF qB pV qD sZ sU tC qV rO uH rQ qG qW oV nK pJ nY lZ pI nN oC nU oG mZ lT lS oL mI nD oI pU pQ pY rH uE rE sW uJ rW rR sS sD sV rX rV qN rM rA tX uQ uK qI qZ uC uD sN tQ uT rY uW qC tL uU uR tJ uB uP sH mF pM mH oJ mK pF mP nA oK mE mO oH nH nG mR pE mG nV rZ sO rP sF rU:Value} {K:Act->World->Prop} {Q0:Exit->Act->World->Prop} {cd:Code} (hcd:cd=logReg 42) (hQp:∀ c d v (a:Act) {w},Q0 (.panic c) (a.put d v) w->Q0 (.panic c) a w) (hA:fM w2 w J s hl vs L ea ec ers) (hq:q<J.nt) (hopn:(s.hands.getD q aY).opn=true) (hk:k=(s.hands.getD q aY).ev) (hev:k<s.evs.length) (hi:i=(s.evs.getD k iO).call) (hin:i<ncl) (y0:w.cell? ⟨cb,co+i*6,none⟩=some (.int .i64 th)) (y1:w.cell? ⟨cb,co+i*6+1,none⟩=some (.int .i64 ob)) (y2:w.cell? ⟨cb,co+i*6+2,none⟩=some (.int .i64 kn)) (y3:w.cell? ⟨cb,co+i*6+3,none⟩=some (.int .u64 (xa:Int))) (y4:w.cell? ⟨cb,co+i*6+4,none⟩=some (.int .u64 (xb:Int))) (y5:w.cell? ⟨cb,co+i*6+5,none⟩=some (.int .u64 (xc:Int)))
  (hK:∀(Xx Xg Zp Tt Yk Xj Wt Xl Yp Yq Uc Yb:Value) (w':World),w'.heap[w.heap.size]?=some (.cells (BB th ob kn xa xb xc) 48 (0,0))/\Below w.heap.size w w'->K ⟨#[x0,x1,.slice (some ⟨cb,co,none⟩) ncl cc,x3,x4,x5,x6,x7,x8,x9,wC,yE,BA,AR,yI,.pointer (some ⟨J.bW,0,none⟩),IB,IK,IA,.pointer (some ⟨J.bO,0,none⟩),OC,MR,ZK,ME,x24,.pointer (some ⟨J.bH,q*16,none⟩),.pointer (some ⟨w.heap.size,0,none⟩),x27,x28,x29,JR,x31,x32,GU,x34,JO,GA,DX,x38,x39,DY,CP,CK,DV,DL,CF,KN,KT,KA,KG,KI,KS,KW,KL,JZ,FO,JY,KJ,JM,IC,IU,FQ,JA,GL,FN,GN,IW,FW,GX,JL,GZ,JN,FX,JQ,JI,IV,JE,GM,JD,GK,JW,IQ,FP,IY,JV,JP,IX,IR,GV,IZ,x90,x91,FZ,x93,JG,x95,x96,JS,x98,x99,pR,x101,x102,nJ,x104,oN,mY,lU,oD,lX,oP,nI,x112,x113,x114,x115,mD,qP,qE,uN,uV,uA,tH,sK,qY,rD,tZ,sI,qM,tO,qQ,qK,qJ,uI,uL,tN,tT,rJ,pK,nZ,oM,oW,pG,mV,rG,uM,rC,qO,tK,sG,x150,x151,x152,x153,rT,qU,oU,x157,x158,x159,x160,sM,qX,qR,pX,rF,uG,x167,x168,sJ,uF,tV,qL,tF,uO,tY,uS,qH,lV,nX,mU,lY,mM,nE,oO,mJ,mQ,oF,qB,pV,qD,sZ,sU,tC,qV,rO,uH,rQ,qG,qW,oV,nK,pJ,nY,lZ,pI,nN,oC,nU,oG,mZ,lT,lS,oL,mI,nD,oI,pU,pQ,Xx,Xg,Zp,Tt,Yk,Xj,Wt,Xl,Yp,Yq,Uc,Yb,rV,qN,rM,rA,tX,uQ,uK,qI,qZ,uC,uD,sN,tQ,uT,rY,uW,qC,tL,uU,uR,tJ,uB,uP,sH,mF,pM,mH,oJ,mK,pF,mP,nA,oK,mE,mO,oH,nH,nG,mR,pE,mG,nV,rZ,sO,rP,sF,rU],[]⟩ w'):Code.wp Tryz.prog cd (Exit.then K Q0) ⟨#[x0,x1,.slice (some ⟨cb,co,none⟩) ncl cc,x3,x4,x5,x6,x7,x8,x9,wC,yE,BA,AR,yI,.pointer (some ⟨J.bW,0,none⟩),IB,IK,IA,.pointer (some ⟨J.bO,0,none⟩),OC,MR,ZK,ME,x24,.pointer (some ⟨J.bH,q*16,none⟩),OY,x27,x28,x29,JR,x31,x32,GU,x34,JO,GA,DX,x38,x39,DY,CP,CK,DV,DL,CF,KN,KT,KA,KG,KI,KS,KW,KL,JZ,FO,JY,KJ,JM,IC,IU,FQ,JA,GL,FN,GN,IW,FW,GX,JL,GZ,JN,FX,JQ,JI,IV,JE,GM,JD,GK,JW,IQ,FP,IY,JV,JP,IX,IR,GV,IZ,x90,x91,FZ,x93,JG,x95,x96,JS,x98,x99,pR,x101,x102,nJ,x104,oN,mY,lU,oD,lX,oP,nI,x112,x113,x114,x115,mD,qP,qE,uN,uV,uA,tH,sK,qY,rD,tZ,sI,qM,tO,qQ,qK,qJ,uI,uL,tN,tT,rJ,pK,nZ,oM,oW,pG,mV,rG,uM,rC,qO,tK,sG,x150,x151,x152,x153,rT,qU,oU,x157,x158,x159,x160,sM,qX,qR,pX,rF,uG,x167,x168,sJ,uF,tV,qL,tF,uO,tY,uS,qH,lV,nX,mU,lY,mM,nE,oO,mJ,mQ,oF,qB,pV,qD,sZ,sU,tC,qV,rO,uH,rQ,qG,qW,oV,nK,pJ,nY,lZ,pI,nN,oC,nU,oG,mZ,lT,lS,oL,mI,nD,oI,pU,pQ,pY,rH,uE,rE,sW,uJ,rW,rR,sS,sD,sV,rX,rV,qN,rM,rA,tX,uQ,uK,qI,qZ,uC,uD,sN,tQ,uT,rY,uW,qC,tL,uU,uR,tJ,uB,uP,sH,mF,pM,mH,oJ,mK,pF,mP,nA,oK,mE,mO,oH,nH,nG,mR,pE,mG,nV,rZ,sO,rP,sF,rU],[]⟩ w:=by
 subst hcd
 have HQp:=Lib.hid hQp;have HK:=Lib.hid hK
 clear hQp hK
 obtain⟨g,rfl,hgl,hgc⟩:=hA.ev_some hev
 have xo:w.cell? ⟨J.bO,0,none⟩=some (.slice (some ⟨g,0,none⟩) s.evs.length ec):=by rw [aA hA.rest.out];rfl
 have xh:w.cell? ⟨J.bH,q*16+1,none⟩=some (.int .i64 (k:Int)):=by rw [aA hA.hb,hk,Nat.mul_comm q 16];simpa using hA.rest.c1 q hq hopn
 have xe:w.cell? ⟨g,k*8,none⟩=some (.int .i64 (i:Int)):=by have h9:=(hgc 0 (by omega)).1;rw [Nat.add_zero] at h9;rw [h9,hi];rfl
 have l1:(k:Int)<(s.evs.length:Int):=by omega
 have l2:¬ (k:Int)<0:=by omega
 have l3:(i:Int)<(ncl:Int):=by omega
 have l4:¬ (i:Int)<0:=by omega
 have lOw:=aC hA.rest.out
 have lHw:=aC hA.hb
 have lcw:cb<w.heap.size:=World.block_lt_of_cell? _ _ y0
 have HY:=Lib.hid (And.intro y0 (And.intro y1 (And.intro y2 (And.intro y3 (And.intro y4 y5)))))
 have XX:=Lib.hid (And.intro xo (And.intro xh xe))
 clear hA hgc hk hi hopn hq
 conv=>arg 2;whnf
 refine bU ((λu=>u.cell? ⟨J.bO,0,none⟩=some (.slice (some ⟨g,0,none⟩) s.evs.length ec)/\u.cell? ⟨J.bH,q*16+1,none⟩=some (.int .i64 (k:Int))/\u.cell? ⟨g,k*8,none⟩=some (.int .i64 (i:Int))/\u.cell? ⟨cb,co+i*6,none⟩=some (.int .i64 th)/\u.cell? ⟨cb,co+i*6+1,none⟩=some (.int .i64 ob)/\u.cell? ⟨cb,co+i*6+2,none⟩=some (.int .i64 kn)/\u.cell? ⟨cb,co+i*6+3,none⟩=some (.int .u64 (xa:Int))/\u.cell? ⟨cb,co+i*6+4,none⟩=some (.int .u64 (xb:Int))/\u.cell? ⟨cb,co+i*6+5,none⟩=some (.int .u64 (xc:Int)))) 13 (by kernel_rfl) ?hS0L1 ?_
 case hS0L1=>
  (exact⟨xo,xh,xe,y0,y1,y2,y3,y4,y5⟩)
 intro hS hcl
 refine wK (i:=0) 14 rfl hcl hS ?_ (hQ:=by exact λ_ _ _ h=>HQp.out _ _ _ _ h)
 clear hcl;intro hcl
 (simp only [Act.put,zs])
 refine wK (i:=1) 14 rfl hcl hS ?_ (hQ:=by exact λ_ _ _ h=>HQp.out _ _ _ _ h)
 clear hcl;intro hcl
 (simp only [Act.put,zs])
 refine wK (i:=2) 14 rfl hcl hS ?_ (hQ:=by exact λ_ _ _ h=>HQp.out _ _ _ _ h)
 clear hcl;intro hcl
 (simp only [Act.put,zs])
 refine wK (i:=3) 14 rfl hcl hS ?_ (hQ:=by exact λ_ _ _ h=>HQp.out _ _ _ _ h)
 clear hcl;intro hcl
 (simp only [Act.put,zs])
 refine wK (i:=4) 14 rfl hcl hS ?_ (hQ:=by exact λ_ _ _ h=>HQp.out _ _ _ _ h)
 clear hcl;intro hcl
 (simp only [Act.put,zs])
 refine wK (i:=5) 14 rfl hcl hS ?_ (hQ:=by exact λ_ _ _ h=>HQp.out _ _ _ _ h)
 clear hcl;intro hcl
 (simp only [Act.put,zs])
 refine wK (i:=6) 14 rfl hcl hS ?_ (hQ:=by exact λ_ _ _ h=>HQp.out _ _ _ _ h)
 clear hcl;intro hcl
 (simp only [Act.put,zs])
 refine wK (i:=7) 14 rfl hcl hS ?_ (hQ:=by exact λ_ _ _ h=>HQp.out _ _ _ _ h)
 clear hcl;intro hcl
 (simp only [Act.put,zs])
 refine wK (i:=8) 14 rfl hcl hS ?_ (hQ:=by exact λ_ _ _ h=>HQp.out _ _ _ _ h)
 clear hcl;intro hcl
 (simp only [Act.put,zs])
 refine wK (i:=9) 14 rfl hcl hS ?_ (hQ:=by exact λ_ _ _ h=>HQp.out _ _ _ _ h)
 clear hcl;intro hcl
 (simp only [Act.put,zs])
 refine wK (i:=10) 14 rfl hcl hS ?_ (hQ:=by exact λ_ _ _ h=>HQp.out _ _ _ _ h)
 clear hcl;intro hcl
 (simp only [Act.put,zs])
 refine wK (i:=11) 14 rfl hcl hS ?_ (hQ:=by exact λ_ _ _ h=>HQp.out _ _ _ _ h)
 clear hcl;intro hcl
 (simp only [Act.put,zs])
 refine aL (i:=12) (by kernel_rfl) rfl hcl (λK' hK=>?_)
 have HK:=Lib.hid hK;clear hK
 ((rw [if_pos (by kernel_rfl)]);(simp only [zq1,zq2,zq3]);go_big_op)
 refine HK.out _ _ ?hS12L1 (λhcl=>?_)
 case hS12L1=>
  intro _
  (exact⟨((Gr.new w _).drew.cell lOw).trans xo,((Gr.new w _).drew.cell lHw).trans xh,((Gr.new w _).drew.cell hgl).trans xe,((Gr.new w _).drew.cell lcw).trans y0,((Gr.new w _).drew.cell lcw).trans y1,((Gr.new w _).drew.cell lcw).trans y2,((Gr.new w _).drew.cell lcw).trans y3,((Gr.new w _).drew.cell lcw).trans y4,((Gr.new w _).drew.cell lcw).trans y5⟩)
 clear HK
 refine aL (i:=13) (by kernel_rfl) rfl hcl (λK' hK=>?_)
 have HK:=Lib.hid hK;clear hK
 ((rw [if_pos (by kernel_rfl)]);(simp only [zq1,zq2,zq3]);go_big_op)
 refine HK.out _ _ (λh=>by cases h.symm.trans (by kernel_rfl:_=true)) (λ_=>bV (by kernel_rfl) ?_ _)
 clear HK
 (clear hS)
 exact HK.out _ _ _ _ _ _ _ _ _ _ _ _ _ ⟨heap_alloc_new _ _,(Gr.new w _).drew⟩
set_option maxHeartbeats 4000000 in
theorem Ob {w2 w:World} {J:RJ} {s:dS} {hl:List Value} {vs:List HV} {L:Value} {ea:Option Addr} {ec:Nat} {ers:List (Value×Value)} {late:aD->Nat->dW->RWD->List Int} {nt q k bC bS g0 gc:Nat} {kd P Q:Int} {th kn:Int} {xa xb xc:Nat} {x2 x3 x4 x5 x6 x7 x8 x9 wC yE AR yI IB IK IA OC MR ZK ME x24 x27 x28 x29 JR x31 x32 GU x34 JO GA DX x38 x39 DY CP CK DV DL CF KN KT KA KG KI KS KW KL JZ FO JY KJ JM IC IU FQ JA GL FN GN IW FW GX JL GZ JN FX JQ JI IV JE GM JD GK JW IQ FP IY JV JP IX IR GV IZ x90 x91 FZ x93 JG x95 x96 JS x98 x99 pR x101 x102 nJ x104 oN mY lU oD lX oP nI x112 x113 x114 x115 mD qP qE uN uV uA tH sK qY rD tZ sI qM tO qQ qK qJ uI uL tN tT rJ pK nZ oM oW pG mV rG uM rC qO tK sG x150 x151 x152 x153 rT qU oU x157 x158 x159 x160 sM qX qR pX rF uG x167 x168 sJ uF tV qL tF uO tY uS qH lV nX mU lY mM nE oO mJ mQ oF qB pV qD sZ sU tC qV rO uH rQ qG qW oV nK pJ nY lZ pI nN oC nU oG mZ lT lS oL mI nD oI pU pQ pY rH uE rE sW uJ rW rR sS sD sV rX rV qN rM rA tX uQ uK qI qZ uC uD sN tQ uT rY uW qC tL uU uR tJ uB uP sH mF pM mH oJ mK pF mP nA oK mE mO oH nH nG mR pE mG nV rZ sO rP sF rU:Value} {Q0:Exit->Act->World->Prop} {cd:Code} (hcd:cd=logReg 43) (hQp:∀ c d v (a:Act) {w},Q0 (.panic c) (a.put d v) w->Q0 (.panic c) a w) (hA:fM w2 w J s hl vs L ea ec ers) (hq:q<J.nt) (hn:J.nt=nt) (hopn:(s.hands.getD q aY).opn=true) (hk:k=(s.hands.getD q aY).ev) (hev:k<s.evs.length) (LC:QZ kd P Q nt late) (hN:(s.hands.getD q aY).got.length<=1000000) (hcnt:s.rw.mem.c.all<=1000000) (hws:0<s.rw.mem.ws.length) (hcok:lF ⟨th,0,kn,xa,xb,xc⟩) (hC:w.heap[bC]?=some (.cells (BB th 0 kn xa xb xc) 48 (0,0))) (hCge:w2.heap.size<=bC) (hS:kM w2 bS kd P Q) (hg0:w2.cell? ⟨g0,0,none⟩=some (.int .i64 0))
  (hK:∀(We Xo Xr Tn Tg Za Ty Ug Vm Ux Wp Yd Zh Wm Vk Yj Vo Xn Wh Xe Yy Xi Uz Va:Value) (w':World),(∃ hl' vs' L' ers',fM w2 w' J { s with evs:=dA s.evs k (QH (late ⟨th,0,kn,xa,xb,xc⟩ q (s.hands.getD q aY) s.rw)) } hl' vs' L' ea ec ers')->Q0 .normal ⟨#[.int .i64 (nt:Int),.slice (some ⟨bS,0,none⟩) 1 1,x2,x3,x4,x5,x6,x7,x8,x9,wC,yE,.slice (some ⟨g0,0,none⟩) 1 gc,AR,yI,.pointer (some ⟨J.bW,0,none⟩),IB,IK,IA,.pointer (some ⟨J.bO,0,none⟩),OC,MR,ZK,ME,x24,.pointer (some ⟨J.bH,q*16,none⟩),.pointer (some ⟨bC,0,none⟩),x27,x28,x29,JR,x31,x32,GU,x34,JO,GA,DX,x38,x39,DY,CP,CK,DV,DL,CF,KN,KT,KA,KG,KI,KS,KW,KL,JZ,FO,JY,KJ,JM,IC,IU,FQ,JA,GL,FN,GN,IW,FW,GX,JL,GZ,JN,FX,JQ,JI,IV,JE,GM,JD,GK,JW,IQ,FP,IY,JV,JP,IX,IR,GV,IZ,x90,x91,FZ,x93,JG,x95,x96,JS,x98,x99,pR,x101,x102,nJ,x104,oN,mY,lU,oD,lX,oP,nI,x112,x113,x114,x115,mD,qP,qE,uN,uV,uA,tH,sK,qY,rD,tZ,sI,qM,tO,qQ,qK,qJ,uI,uL,tN,tT,rJ,pK,nZ,oM,oW,pG,mV,rG,uM,rC,qO,tK,sG,x150,x151,x152,x153,rT,qU,oU,x157,x158,x159,x160,sM,qX,qR,pX,rF,uG,x167,x168,sJ,uF,tV,qL,tF,uO,tY,uS,qH,lV,nX,mU,lY,mM,nE,oO,mJ,mQ,oF,qB,pV,qD,sZ,sU,tC,qV,rO,uH,rQ,qG,qW,oV,nK,pJ,nY,lZ,pI,nN,oC,nU,oG,mZ,lT,lS,oL,mI,nD,oI,pU,pQ,pY,rH,uE,rE,sW,uJ,rW,rR,sS,sD,sV,rX,We,Xo,Xr,Tn,Tg,Za,Ty,Ug,Vm,Ux,Wp,Yd,Zh,Wm,Vk,Yj,Vo,Xn,Wh,Xe,Yy,Xi,Uz,Va,mF,pM,mH,oJ,mK,pF,mP,nA,oK,mE,mO,oH,nH,nG,mR,pE,mG,nV,rZ,sO,rP,sF,rU],[]⟩ w'):Code.wp Tryz.prog cd Q0 ⟨#[.int .i64 (nt:Int),.slice (some ⟨bS,0,none⟩) 1 1,x2,x3,x4,x5,x6,x7,x8,x9,wC,yE,.slice (some ⟨g0,0,none⟩) 1 gc,AR,yI,.pointer (some ⟨J.bW,0,none⟩),IB,IK,IA,.pointer (some ⟨J.bO,0,none⟩),OC,MR,ZK,ME,x24,.pointer (some ⟨J.bH,q*16,none⟩),.pointer (some ⟨bC,0,none⟩),x27,x28,x29,JR,x31,x32,GU,x34,JO,GA,DX,x38,x39,DY,CP,CK,DV,DL,CF,KN,KT,KA,KG,KI,KS,KW,KL,JZ,FO,JY,KJ,JM,IC,IU,FQ,JA,GL,FN,GN,IW,FW,GX,JL,GZ,JN,FX,JQ,JI,IV,JE,GM,JD,GK,JW,IQ,FP,IY,JV,JP,IX,IR,GV,IZ,x90,x91,FZ,x93,JG,x95,x96,JS,x98,x99,pR,x101,x102,nJ,x104,oN,mY,lU,oD,lX,oP,nI,x112,x113,x114,x115,mD,qP,qE,uN,uV,uA,tH,sK,qY,rD,tZ,sI,qM,tO,qQ,qK,qJ,uI,uL,tN,tT,rJ,pK,nZ,oM,oW,pG,mV,rG,uM,rC,qO,tK,sG,x150,x151,x152,x153,rT,qU,oU,x157,x158,x159,x160,sM,qX,qR,pX,rF,uG,x167,x168,sJ,uF,tV,qL,tF,uO,tY,uS,qH,lV,nX,mU,lY,mM,nE,oO,mJ,mQ,oF,qB,pV,qD,sZ,sU,tC,qV,rO,uH,rQ,qG,qW,oV,nK,pJ,nY,lZ,pI,nN,oC,nU,oG,mZ,lT,lS,oL,mI,nD,oI,pU,pQ,pY,rH,uE,rE,sW,uJ,rW,rR,sS,sD,sV,rX,rV,qN,rM,rA,tX,uQ,uK,qI,qZ,uC,uD,sN,tQ,uT,rY,uW,qC,tL,uU,uR,tJ,uB,uP,sH,mF,pM,mH,oJ,mK,pF,mP,nA,oK,mE,mO,oH,nH,nG,mR,pE,mG,nV,rZ,sO,rP,sF,rU],[]⟩ w:=by
 subst hcd
 have HQp:=Lib.hid hQp;have HK:=Lib.hid hK
 clear hQp hK
 obtain⟨g,rfl,LL⟩:=Cm hA hq hn hopn hk hev LC hN hcnt hws ⟨th,0,kn,xa,xb,xc⟩ hcok rfl hC hCge
 have hbel:=hA.rest.below
 have xo:w.cell? ⟨J.bO,0,none⟩=some (.slice (some ⟨g,0,none⟩) s.evs.length ec):=by rw [aA hA.rest.out];rfl
 have xh:w.cell? ⟨J.bH,q*16+1,none⟩=some (.int .i64 (k:Int)):=by rw [aA hA.hb,hk,Nat.mul_comm q 16];simpa using hA.rest.c1 q hq hopn
 have l1:(k:Int)<(s.evs.length:Int):=by omega
 have l2:¬ (k:Int)<0:=by omega
 have cs:∀ u:World,u.heap[bC]?=some (.cells (BB th 0 kn xa xb xc) 48 (0,0))->Below w2.heap.size w2 u->u.cell? ⟨bC,0,none⟩=some (.int .i64 th)/\u.cell? ⟨bC,1,none⟩=some (.int .i64 0)/\u.cell? ⟨bC,2,none⟩=some (.int .i64 kn)/\u.cell? ⟨bC,3,none⟩=some (.int .u64 (xa:Int))/\u.cell? ⟨bC,4,none⟩=some (.int .u64 (xb:Int))/\u.cell? ⟨bC,5,none⟩=some (.int .u64 (xc:Int))/\u.cell? ⟨g0,0,none⟩=some (.int .i64 0)/\u.cell? ⟨bS,0,none⟩=some (.int .i64 kd)/\u.cell? ⟨bS,1,none⟩=some (.int .i64 P)/\u.cell? ⟨bS,2,none⟩=some (.int .i64 Q):=λu hu hb=>by
  have hS':=hS.grown hb
  exact⟨by rw [aA hu];rfl,by rw [aA hu];rfl,by rw [aA hu];rfl,by rw [aA hu];rfl,by rw [aA hu];rfl,by rw [aA hu];rfl,(hb.cell (World.block_lt_of_cell? _ _ hg0)).trans hg0,by rw [aA hS'.blk];rfl,by rw [aA hS'.blk];rfl,by rw [aA hS'.blk];rfl⟩
 obtain⟨y0,y1,y2,y3,y4,y5,y6,y7,y8,y9⟩:=cs w hC hbel
 have CS:=Lib.hid cs
 have HL:=Lib.hid LL
 unfold QR QG at HL
 clear hA LC LL hC hS hg0 cs hk hopn hq hn hN hcnt hws hcok hbel
 conv=>arg 2;whnf
 refine bU ((λu=>u.cell? ⟨J.bO,0,none⟩=some (.slice (some ⟨g,0,none⟩) s.evs.length ec)/\u.cell? ⟨J.bH,q*16+1,none⟩=some (.int .i64 (k:Int))/\u.cell? ⟨bC,0,none⟩=some (.int .i64 th)/\u.cell? ⟨bC,1,none⟩=some (.int .i64 0)/\u.cell? ⟨bC,2,none⟩=some (.int .i64 kn)/\u.cell? ⟨bC,3,none⟩=some (.int .u64 (xa:Int))/\u.cell? ⟨bC,4,none⟩=some (.int .u64 (xb:Int))/\u.cell? ⟨bC,5,none⟩=some (.int .u64 (xc:Int))/\u.cell? ⟨g0,0,none⟩=some (.int .i64 0)/\u.cell? ⟨bS,0,none⟩=some (.int .i64 kd)/\u.cell? ⟨bS,1,none⟩=some (.int .i64 P)/\u.cell? ⟨bS,2,none⟩=some (.int .i64 Q))) 24 (by kernel_rfl) ?hS0L2 ?_
 case hS0L2=>
  (exact⟨xo,xh,y0,y1,y2,y3,y4,y5,y6,y7,y8,y9⟩)
 intro hS hcl
 refine wK (i:=0) 25 rfl hcl hS ?_ (hQ:=by exact λ_ _ _ h=>HQp.out _ _ _ _ h)
 clear hcl;intro hcl
 (simp only [Act.put,zs])
 refine wK (i:=1) 25 rfl hcl hS ?_ (hQ:=by exact λ_ _ _ h=>HQp.out _ _ _ _ h)
 clear hcl;intro hcl
 (simp only [Act.put,zs])
 refine wK (i:=2) 25 rfl hcl hS ?_ (hQ:=by exact λ_ _ _ h=>HQp.out _ _ _ _ h)
 clear hcl;intro hcl
 (simp only [Act.put,zs])
 refine wK (i:=3) 25 rfl hcl hS ?_ (hQ:=by exact λ_ _ _ h=>HQp.out _ _ _ _ h)
 clear hcl;intro hcl
 (simp only [Act.put,zs])
 refine wK (i:=4) 25 rfl hcl hS ?_ (hQ:=by exact λ_ _ _ h=>HQp.out _ _ _ _ h)
 clear hcl;intro hcl
 (simp only [Act.put,zs])
 refine wK (i:=5) 25 rfl hcl hS ?_ (hQ:=by exact λ_ _ _ h=>HQp.out _ _ _ _ h)
 clear hcl;intro hcl
 (simp only [Act.put,zs])
 refine wK (i:=6) 25 rfl hcl hS ?_ (hQ:=by exact λ_ _ _ h=>HQp.out _ _ _ _ h)
 clear hcl;intro hcl
 (simp only [Act.put,zs])
 refine wK (i:=7) 25 rfl hcl hS ?_ (hQ:=by exact λ_ _ _ h=>HQp.out _ _ _ _ h)
 clear hcl;intro hcl
 (simp only [Act.put,zs])
 refine wK (i:=8) 25 rfl hcl hS ?_ (hQ:=by exact λ_ _ _ h=>HQp.out _ _ _ _ h)
 clear hcl;intro hcl
 (simp only [Act.put,zs])
 refine wK (i:=9) 25 rfl hcl hS ?_ (hQ:=by exact λ_ _ _ h=>HQp.out _ _ _ _ h)
 clear hcl;intro hcl
 (simp only [Act.put,zs])
 refine wK (i:=10) 25 rfl hcl hS ?_ (hQ:=by exact λ_ _ _ h=>HQp.out _ _ _ _ h)
 clear hcl;intro hcl
 (simp only [Act.put,zs])
 refine wK (i:=11) 25 rfl hcl hS ?_ (hQ:=by exact λ_ _ _ h=>HQp.out _ _ _ _ h)
 clear hcl;intro hcl
 (simp only [Act.put,zs])
 refine wK (i:=12) 25 rfl hcl hS ?_ (hQ:=by exact λ_ _ _ h=>HQp.out _ _ _ _ h)
 clear hcl;intro hcl
 (simp only [Act.put,zs])
 refine wK (i:=13) 25 rfl hcl hS ?_ (hQ:=by exact λ_ _ _ h=>HQp.out _ _ _ _ h)
 clear hcl;intro hcl
 (simp only [Act.put,zs])
 refine wK (i:=14) 25 rfl hcl hS ?_ (hQ:=by exact λ_ _ _ h=>HQp.out _ _ _ _ h)
 clear hcl;intro hcl
 (simp only [Act.put,zs])
 refine wK (i:=15) 25 rfl hcl hS ?_ (hQ:=by exact λ_ _ _ h=>HQp.out _ _ _ _ h)
 clear hcl;intro hcl
 (simp only [Act.put,zs])
 refine wK (i:=16) 25 rfl hcl hS ?_ (hQ:=by exact λ_ _ _ h=>HQp.out _ _ _ _ h)
 clear hcl;intro hcl
 (simp only [Act.put,zs])
 refine wK (i:=17) 25 rfl hcl hS ?_ (hQ:=by exact λ_ _ _ h=>HQp.out _ _ _ _ h)
 clear hcl;intro hcl
 (simp only [Act.put,zs])
 refine wK (i:=18) 25 rfl hcl hS ?_ (hQ:=by exact λ_ _ _ h=>HQp.out _ _ _ _ h)
 clear hcl;intro hcl
 (simp only [Act.put,zs])
 refine wK (i:=19) 25 rfl hcl hS ?_ (hQ:=by exact λ_ _ _ h=>HQp.out _ _ _ _ h)
 clear hcl;intro hcl
 (simp only [Act.put,zs])
 refine wK (i:=20) 25 rfl hcl hS ?_ (hQ:=by exact λ_ _ _ h=>HQp.out _ _ _ _ h)
 clear hcl;intro hcl
 (simp only [Act.put,zs])
 refine aL (i:=21) (by kernel_rfl) rfl hcl (λK' hK=>?_)
 have HK:=Lib.hid hK;clear hK
 ((rw [if_pos (by kernel_rfl)]);(simp only [zq1,zq2,zq3]);go_big_op)
 (go_at_call 44;refine HL.out.mono ?_;rintro e9 w9 ⟨ka,kn9,kc,rfl,zo,zh,hC9,uZ,⟨x9,zx⟩,zf,hl',vs',L',ers',hA9⟩;obtain⟨z0,z1,z2,z3,z4,z5,z6,z7,z8,z9⟩:=CS.out w9 hC9 uZ)
 refine HK.out _ _ ?hS21L2 (λhcl=>?_)
 case hS21L2=>
  intro _
  (exact⟨zo,zh,z0,z1,z2,z3,z4,z5,z6,z7,z8,z9⟩)
 clear HK
 refine aL (i:=22) (by kernel_rfl) rfl hcl (λK' hK=>?_)
 have HK:=Lib.hid hK;clear hK
 ((rw [if_pos (by kernel_rfl)]);(simp only [zq1,zq2,zq3]);go_big_op)
 refine HK.out _ _ ?hS22L2 (λhcl=>?_)
 case hS22L2=>
  intro _
  (exact⟨zo,zh,z0,z1,z2,z3,z4,z5,z6,z7,z8,z9⟩)
 clear HK
 refine aL (i:=23) (by kernel_rfl) rfl hcl (λK' hK=>?_)
 have HK:=Lib.hid hK;clear hK
 ((rw [if_pos (by kernel_rfl)]);(simp only [zq1,zq2,zq3]);go_big_op)
 refine HK.out _ _ ?hS23L2 (λhcl=>?_)
 case hS23L2=>
  intro _
  (exact⟨zo,zh,z0,z1,z2,z3,z4,z5,z6,z7,z8,z9⟩)
 clear HK
 refine aL (i:=24) (by kernel_rfl) rfl hcl (λK' hK=>?_)
 have HK:=Lib.hid hK;clear hK
 ((rw [if_pos (by kernel_rfl)]);(simp only [zq1,zq2,zq3]);go_big_op)
 refine HK.out _ _ (λh=>by cases h.symm.trans (by kernel_rfl:_=true)) (λ_=>bV (by kernel_rfl) ?_ _)
 clear HK
 (clear hS)
 exact HK.out _ _ _ _ _ _ _ _ _ _ _ _ _ _ _ _ _ _ _ _ _ _ _ _ _ ⟨hl',vs',L',ers',hA9⟩
set_option maxHeartbeats 4000000 in
theorem Lx {w:World} {bR bW bO:Nat} {ea va la:Option Addr} {en ec vn vc ln lc:Nat} {rp:iN} {x0 x1 x2 x3 x4 x5 x6 x7 x9 wC yE BA AR yI IB IK IA OC MR ZK ME x24 x25 OY x27 x28 x29 JR x31 x32 GU x34 JO GA DX x38 x39 DY CP CK DV DL CF KN KT KA KG KI KS KW KL JZ FO JY KJ JM IC IU FQ JA GL FN GN IW FW GX JL GZ JN FX JQ JI IV JE GM JD GK JW IQ FP IY JV JP IX IR GV IZ x90 x91 FZ x93 JG x95 x96 JS x98 x99 pR x101 x102 nJ x104 oN mY lU oD lX oP nI x112 x113 x114 x115 mD qP qE uN uV uA tH sK qY rD tZ sI qM tO qQ qK qJ uI uL tN tT rJ pK nZ oM oW pG mV rG uM rC qO tK sG x150 x151 x152 x153 rT qU oU x157 x158 x159 x160 sM qX qR pX rF uG x167 x168 sJ uF tV qL tF uO tY uS qH lV nX mU lY mM nE oO mJ mQ oF qB pV qD sZ sU tC qV rO uH rQ qG qW oV nK pJ nY lZ pI nN oC nU oG mZ lT lS oL mI nD oI pU pQ pY rH uE rE sW uJ rW rR sS sD sV rX rV qN rM rA tX uQ uK qI qZ uC uD sN tQ uT rY uW qC tL uU uR tJ uB uP sH mF pM mH oJ mK pF mP nA oK mE mO oH nH nG mR pE mG nV rZ sO rP sF rU:Value} {K:Act->World->Prop} {Q0:Exit->Act->World->Prop} {cd:Code} (hcd:cd=logReg 48) (hQp:∀ c d v (a:Act) {w},Q0 (.panic c) (a.put d v) w->Q0 (.panic c) a w) (hO:w.heap[bO]?=some (.cells #[.slice ea en ec,.slice va vn vc,.int .i64 (rp.c.read:Int),.int .i64 (rp.c.write:Int),.int .i64 (rp.c.swap:Int),.int .i64 (rp.c.add:Int),.int .i64 (rp.c.fault:Int),.int .i64 (rp.ticks:Int),.int .i64 (rp.idle:Int)] 32 (0,0))) (hR:w.heap[bR]?=some (.cells #[.slice none 0 0,.slice none 0 0,.int .i64 0,.int .i64 0,.int .i64 0,.int .i64 0,.int .i64 0,.int .i64 0,.int .i64 0] 32 (0,0))) (hRO:bR≠bO) (hRW:bR≠bW) (hL:w.cell? ⟨bW,9,none⟩=some (.slice la ln lc))
  (hK:∀(y9 Zm Yg Tz Wn Xv:Value) (w':World),(∃ cs,lC (.slice ea en ec) (.slice va vn vc) rp=.agg cs/\cs.size=9/\w'.heap[bR]?=some (.cells cs 32 (0,0))/\Chg (λb=>b=bR) w w')->K ⟨#[x0,x1,x2,x3,x4,x5,x6,x7,.pointer (some ⟨bR,0,none⟩),y9,.int .i64 0,yE,BA,AR,yI,.pointer (some ⟨bW,0,none⟩),IB,IK,IA,.pointer (some ⟨bO,0,none⟩),OC,MR,ZK,ME,x24,x25,OY,x27,x28,x29,JR,x31,x32,GU,x34,JO,GA,DX,x38,x39,DY,CP,CK,DV,DL,CF,KN,KT,KA,KG,KI,KS,KW,KL,JZ,FO,JY,KJ,JM,IC,IU,FQ,JA,GL,FN,GN,IW,FW,GX,JL,GZ,JN,FX,JQ,JI,IV,JE,GM,JD,GK,JW,IQ,FP,IY,JV,JP,IX,IR,GV,IZ,x90,x91,FZ,x93,JG,x95,x96,JS,x98,x99,pR,x101,x102,nJ,x104,oN,mY,lU,oD,lX,oP,nI,x112,x113,x114,x115,mD,qP,qE,uN,uV,uA,tH,sK,qY,rD,tZ,sI,qM,tO,qQ,qK,qJ,uI,uL,tN,tT,rJ,pK,nZ,oM,oW,pG,mV,rG,uM,rC,qO,tK,sG,x150,x151,x152,x153,rT,qU,oU,x157,x158,x159,x160,sM,qX,qR,pX,rF,uG,x167,x168,sJ,uF,tV,qL,tF,uO,tY,uS,qH,lV,nX,mU,lY,mM,nE,oO,mJ,mQ,oF,qB,pV,qD,sZ,sU,tC,qV,rO,uH,rQ,qG,qW,oV,nK,pJ,nY,lZ,pI,nN,oC,nU,oG,mZ,lT,lS,oL,mI,nD,oI,pU,pQ,pY,rH,uE,rE,sW,uJ,rW,rR,sS,sD,sV,rX,rV,qN,rM,rA,tX,uQ,uK,qI,qZ,uC,uD,sN,tQ,uT,rY,uW,qC,tL,uU,uR,tJ,uB,uP,sH,mF,pM,mH,oJ,mK,pF,mP,nA,oK,mE,mO,oH,nH,nG,mR,pE,mG,nV,Zm,Yg,Tz,Wn,Xv],[]⟩ w'):Code.wp Tryz.prog cd (Exit.then K Q0) ⟨#[x0,x1,x2,x3,x4,x5,x6,x7,.pointer (some ⟨bR,0,none⟩),x9,wC,yE,BA,AR,yI,.pointer (some ⟨bW,0,none⟩),IB,IK,IA,.pointer (some ⟨bO,0,none⟩),OC,MR,ZK,ME,x24,x25,OY,x27,x28,x29,JR,x31,x32,GU,x34,JO,GA,DX,x38,x39,DY,CP,CK,DV,DL,CF,KN,KT,KA,KG,KI,KS,KW,KL,JZ,FO,JY,KJ,JM,IC,IU,FQ,JA,GL,FN,GN,IW,FW,GX,JL,GZ,JN,FX,JQ,JI,IV,JE,GM,JD,GK,JW,IQ,FP,IY,JV,JP,IX,IR,GV,IZ,x90,x91,FZ,x93,JG,x95,x96,JS,x98,x99,pR,x101,x102,nJ,x104,oN,mY,lU,oD,lX,oP,nI,x112,x113,x114,x115,mD,qP,qE,uN,uV,uA,tH,sK,qY,rD,tZ,sI,qM,tO,qQ,qK,qJ,uI,uL,tN,tT,rJ,pK,nZ,oM,oW,pG,mV,rG,uM,rC,qO,tK,sG,x150,x151,x152,x153,rT,qU,oU,x157,x158,x159,x160,sM,qX,qR,pX,rF,uG,x167,x168,sJ,uF,tV,qL,tF,uO,tY,uS,qH,lV,nX,mU,lY,mM,nE,oO,mJ,mQ,oF,qB,pV,qD,sZ,sU,tC,qV,rO,uH,rQ,qG,qW,oV,nK,pJ,nY,lZ,pI,nN,oC,nU,oG,mZ,lT,lS,oL,mI,nD,oI,pU,pQ,pY,rH,uE,rE,sW,uJ,rW,rR,sS,sD,sV,rX,rV,qN,rM,rA,tX,uQ,uK,qI,qZ,uC,uD,sN,tQ,uT,rY,uW,qC,tL,uU,uR,tJ,uB,uP,sH,mF,pM,mH,oJ,mK,pF,mP,nA,oK,mE,mO,oH,nH,nG,mR,pE,mG,nV,rZ,sO,rP,sF,rU],[]⟩ w:=by
 subst hcd
 have HQp:=Lib.hid hQp;have HK:=Lib.hid hK
 clear hQp hK
 have o0:w.cell? ⟨bO,0,none⟩=some (.slice ea en ec):=by rw [aA hO];rfl
 have o1:w.cell? ⟨bO,1,none⟩=some (.slice va vn vc):=by rw [aA hO];rfl
 have o2:w.cell? ⟨bO,2,none⟩=some (.int .i64 (rp.c.read:Int)):=by rw [aA hO];rfl
 have o3:w.cell? ⟨bO,3,none⟩=some (.int .i64 (rp.c.write:Int)):=by rw [aA hO];rfl
 have o4:w.cell? ⟨bO,4,none⟩=some (.int .i64 (rp.c.swap:Int)):=by rw [aA hO];rfl
 have o5:w.cell? ⟨bO,5,none⟩=some (.int .i64 (rp.c.add:Int)):=by rw [aA hO];rfl
 have o6:w.cell? ⟨bO,6,none⟩=some (.int .i64 (rp.c.fault:Int)):=by rw [aA hO];rfl
 have o7:w.cell? ⟨bO,7,none⟩=some (.int .i64 (rp.ticks:Int)):=by rw [aA hO];rfl
 have o8:w.cell? ⟨bO,8,none⟩=some (.int .i64 (rp.idle:Int)):=by rw [aA hO];rfl
 have kp:∀ u:World,Chg (λb=>b=bR) w u->u.cell? ⟨bO,0,none⟩=some (.slice ea en ec)/\u.cell? ⟨bO,1,none⟩=some (.slice va vn vc)/\u.cell? ⟨bO,2,none⟩=some (.int .i64 (rp.c.read:Int))/\u.cell? ⟨bO,3,none⟩=some (.int .i64 (rp.c.write:Int))/\u.cell? ⟨bO,4,none⟩=some (.int .i64 (rp.c.swap:Int))/\u.cell? ⟨bO,5,none⟩=some (.int .i64 (rp.c.add:Int))/\u.cell? ⟨bO,6,none⟩=some (.int .i64 (rp.c.fault:Int))/\u.cell? ⟨bO,7,none⟩=some (.int .i64 (rp.ticks:Int))/\u.cell? ⟨bO,8,none⟩=some (.int .i64 (rp.idle:Int))/\u.cell? ⟨bW,9,none⟩=some (.slice la ln lc):=λu hu=>⟨(hu.cell (p:=⟨bO,0,none⟩) (aC hO) (Ne.symm hRO)).trans o0,(hu.cell (p:=⟨bO,1,none⟩) (aC hO) (Ne.symm hRO)).trans o1,(hu.cell (p:=⟨bO,2,none⟩) (aC hO) (Ne.symm hRO)).trans o2,(hu.cell (p:=⟨bO,3,none⟩) (aC hO) (Ne.symm hRO)).trans o3,(hu.cell (p:=⟨bO,4,none⟩) (aC hO) (Ne.symm hRO)).trans o4,(hu.cell (p:=⟨bO,5,none⟩) (aC hO) (Ne.symm hRO)).trans o5,(hu.cell (p:=⟨bO,6,none⟩) (aC hO) (Ne.symm hRO)).trans o6,(hu.cell (p:=⟨bO,7,none⟩) (aC hO) (Ne.symm hRO)).trans o7,(hu.cell (p:=⟨bO,8,none⟩) (aC hO) (Ne.symm hRO)).trans o8,(hu.cell (p:=⟨bW,9,none⟩) (World.block_lt_of_cell? _ _ hL) (Ne.symm hRW)).trans hL⟩
 obtain⟨cs9,w9,hcs,hsz,hrun,hblk,hchg⟩:=zZ w.drew bR (.slice ea en ec) (.slice va vn vc) rp hR rfl rfl
 have e9:#[.slice ea en ec,.slice va vn vc,.int .i64 (rp.c.read:Int),.int .i64 (rp.c.write:Int),.int .i64 (rp.c.swap:Int),.int .i64 (rp.c.add:Int),.int .i64 (rp.c.fault:Int),.int .i64 (rp.ticks:Int),.int .i64 (rp.idle:Int)]=cs9:=by
  have h9:=hcs
  unfold lC at h9
  injection h9
 have KP:=Lib.hid kp;have HF:=Lib.hid (And.intro hcs (And.intro hsz (And.intro hblk hchg)));have HC:=Lib.hid hchg;have E9:=Lib.hid e9
 clear kp hO e9 hcs hblk hR hchg
 conv=>arg 2;whnf
 refine wp_region_held_drew (S:=(λu=>u.cell? ⟨bO,0,none⟩=some (.slice ea en ec)/\u.cell? ⟨bO,1,none⟩=some (.slice va vn vc)/\u.cell? ⟨bO,2,none⟩=some (.int .i64 (rp.c.read:Int))/\u.cell? ⟨bO,3,none⟩=some (.int .i64 (rp.c.write:Int))/\u.cell? ⟨bO,4,none⟩=some (.int .i64 (rp.c.swap:Int))/\u.cell? ⟨bO,5,none⟩=some (.int .i64 (rp.c.add:Int))/\u.cell? ⟨bO,6,none⟩=some (.int .i64 (rp.c.fault:Int))/\u.cell? ⟨bO,7,none⟩=some (.int .i64 (rp.ticks:Int))/\u.cell? ⟨bO,8,none⟩=some (.int .i64 (rp.idle:Int))/\u.cell? ⟨bW,9,none⟩=some (.slice la ln lc))) (by kernel_rfl) ?_ (λhHeld=>?_)
 ·(with_reducible exact KP.out _ ((Chg.refl (λb=>b=bR) w).drew))
 refine wpAnyH_take (i:=0) (v:=?tv1) rfl (by kernel_rfl) (by kernel_rfl) (by kernel_rfl) (λ_ _ _ h=>HQp.out _ _ _ _ h) (Or.inl ⟨by rfl,?Rp⟩) (by assumption) ?tr1
 (case Rp=>(intro w hSw;go_simp;with_reducible rfl))
 (simp only [Act.put,zs])
 refine wpAnyH_take (i:=1) (v:=?tv2) rfl (by kernel_rfl) (by kernel_rfl) (by kernel_rfl) (λ_ _ _ h=>HQp.out _ _ _ _ h) (Or.inl ⟨by rfl,?Qu⟩) (by assumption) ?tr2
 (case Qu=>(intro w hSw;go_simp;with_reducible rfl))
 (simp only [Act.put,zs])
 refine wpAnyH_take (i:=2) (v:=?tv3) rfl (by kernel_rfl) (by kernel_rfl) (by kernel_rfl) (λ_ _ _ h=>HQp.out _ _ _ _ h) (Or.inl ⟨by rfl,?Py⟩) (by assumption) ?tr3
 (case Py=>(intro w hSw;go_simp;with_reducible rfl))
 (simp only [Act.put,zs])
 refine wpAnyH_take (i:=3) (v:=?tv4) rfl (by kernel_rfl) (by kernel_rfl) (by kernel_rfl) (λ_ _ _ h=>HQp.out _ _ _ _ h) (Or.inl ⟨by rfl,?Vp⟩) (by assumption) ?tr4
 (case Vp=>(intro w hSw;go_simp;with_reducible rfl))
 (simp only [Act.put,zs])
 refine wpAnyH_take (i:=4) (v:=?tv5) rfl (by kernel_rfl) (by kernel_rfl) (by kernel_rfl) (λ_ _ _ h=>HQp.out _ _ _ _ h) (Or.inl ⟨by rfl,?Sm⟩) (by assumption) ?tr5
 (case Sm=>(intro w hSw;go_simp;with_reducible rfl))
 (simp only [Act.put,zs])
 refine wpAnyH_ready (rs:=[5]) (by kernel_rfl) (by simp) ?_
 refine AllReadyH.cons rfl (λK hK=>?_) AllReadyH.nil
 (rw [E9.out];go_simp)
 refine hK.out _ _ ?_ (λhHeld=>?_)
 ·(with_reducible exact KP.out _ (((Chg.refl (λb=>b=bR) w).drew).trans HC.out))
 clear hK K
 refine wpAnyH_take (i:=6) (v:=?tv6) rfl (by kernel_rfl) (by kernel_rfl) (by kernel_rfl) (λ_ _ _ h=>HQp.out _ _ _ _ h) (Or.inl ⟨by rfl,?Qm⟩) (by assumption) ?tr6
 (case Qm=>(intro w hSw;go_simp;with_reducible rfl))
 (simp only [Act.put,zs])
 refine wpAnyH_take (i:=7) (v:=?tv7) rfl (by kernel_rfl) (by kernel_rfl) (by kernel_rfl) (λ_ _ _ h=>HQp.out _ _ _ _ h) (Or.inl ⟨by rfl,?Ww⟩) (by assumption) ?tr7
 (case Ww=>(intro w hSw;go_simp;with_reducible rfl))
 (simp only [Act.put,zs])
 refine wpAnyH_done (by kernel_rfl) ?_ _
 exact HK.out _ _ _ _ _ _ _ ⟨cs9,HF.out.1,HF.out.2.1,HF.out.2.2.1,((Chg.refl (λb=>b=bR) w).drew).trans HF.out.2.2.2⟩
end Go.Proofs.YtfkokppncipgnaaGreat
