/- A reference's play: the regions of roundelayplain.Log that draw their order. -/
import Derived.Test.YtfkokppncipgnaaGreatW21
set_option maxRecDepth 100000
set_option linter.unusedVariables false
set_option linter.unusedSimpArgs false
set_option linter.unnecessarySimpa false
namespace Go.Proofs.YtfkokppncipgnaaGreat
open List renaming getElem_toArray → zq1, getElem_cons_zero → zq2, getElem_cons_succ → zq3, setIfInBounds_toArray → zq4, set_cons_zero → zq5, set_cons_succ → zq6
open Go.RowKit
theorem fM.finSl {w0 w:World} {J:RJ} {s:dS} {hl:List Value} {vs:List HV} {L:Value} {ea:Option Addr} {ec:Nat} {ers:List (Value×Value)} (h:fM w0 w J s hl vs L ea ec ers) (hn:J.nc<=1000000):cB w (some ⟨J.bF,0,none⟩) J.nc 1 (Ec s.fin):=by
 refine⟨by unfold maxLen;omega,λj hj=>⟨J.bF,0,rfl,aC h.rest.fin,λf hf=>?_⟩⟩
 obtain rfl:f=0:=by omega
 have hjl:j<s.fin.length:=by rw [h.rest.flen];exact hj
 rw [aA h.rest.fin]
 simp [Ec,List.getD_eq_getElem?_getD,hjl]
theorem GG (dO:aD->aJ->RWD->aJ×RWD) (calls:List aD) (s:dS) (picks:List Int) {k:Nat} (hk:k<picks.length):dL dO calls s (picks.take (k+1))=oQ dO calls (dL dO calls s (picks.take k)) (picks.getD k 0):=by
 unfold dL
 rw [List.take_add_one,List.foldl_append]
 simp [List.getD_eq_getElem?_getD,hk]
theorem PM (s:dS) (p i:Nat):(dM s p i).rw.now=s.rw.now/\(dM s p i).idle=s.idle:=by
 unfold dM
 split<;>exact⟨rfl,rfl⟩
theorem jM {dO:aD->aJ->RWD->aJ×RWD} (D:DoB dO) (calls:List aD):∀(picks:List Int) (s:dS),(dL dO calls s picks).rw.now+(dL dO calls s picks).idle=s.rw.now+s.idle+picks.length
 | [],s=>rfl
 | p::ps,s=>by
  have h1:(oQ dO calls s p).rw.now+(oQ dO calls s p).idle=s.rw.now+s.idle+1:=by
   unfold oQ
   split
   ·rfl
   ·rename_i i _
    have hrd:∀ c t r,(rdo dO c t r).2.now=r.now:=λc t r=>by
     unfold rdo
     split
     ·rfl
     ·exact(D.runs _ _ _).now
    have h2:=PM { s with rw:=s.rw.tick } p.toNat i
    unfold rgo
    have h3:({ s with rw:=s.rw.tick }:dS).rw.now=s.rw.now+1:=rfl
    have h4:({ s with rw:=s.rw.tick }:dS).idle=s.idle:=rfl
    split
    ·simp only [hrd];omega
    ·simp only [hrd];omega
  have:=jM D calls ps (oQ dO calls s p)
  show(dL dO calls (oQ dO calls s p) ps).rw.now+(dL dO calls (oQ dO calls s p) ps).idle=_
  rw [this,h1];simp only [List.length_cons];omega
def QR (kd P Q:Int):Value:=.agg #[.int .i64 kd,.int .i64 P,.int .i64 Q]
def DoC (kd P Q:Int) (n:Nat) (Pre:aD->aJ->RWD->Prop) (dO:aD->aJ->RWD->aJ×RWD):Prop:=
 ∀(B:fD) (u:World) (c:aD) (t:aJ) (r:RWD),lF c->c.obj=0->Pre c t r->RAt B u t r->Calls Tryz.prog 56 #[.pointer (some ⟨B.I.tb,B.I.pre.length,none⟩),.int .i64 (n:Int),.int .i64 0,QR kd P Q,QG c] u λe u'=>e=.returned (.tuple #[])/\∃ t',RAt B u' t' (dO c t r).2/\vM c t t' (dO c t r).1
def QZ (kd P Q:Int) (n:Nat) (late:aD->Nat->dW->RWD->List Int):Prop:=
 ∀(B:fD) (u:World) (c:aD) (t:aJ) (r:RWD) (h:dW),lF c->c.obj=0->t.thread<n->t.inv=h.inv->t.got=h.got->t.ticks=h.ticks->r.marks.length=n->RAt B u t r->Calls Tryz.prog 44 #[.pointer (some ⟨B.I.tb,B.I.pre.length,none⟩),.int .i64 (n:Int),.int .i64 0,QR kd P Q,QG c] u λe u'=>∃ v t',e=.returned v/\wQ B u' t' r v (late c t.thread h r)/\t'.thread=t.thread/\t'.inv=t.inv/\t'.got=t.got/\t'.ticks=t.ticks
def wE:Code->List Code
 | .loop c=>[c]
 | .seq a b=>wE a++wE b
 | .block _ c=>wE c
 | .scope c=>wE c
 | .cond _ a b=>wE a++wE b
 | _=>[]
def nL (n:Nat):Code->Option Code
 | .region m ops b=>if m=n then some (.region m ops b) else none
 | .loop c=>nL n c
 | .seq a b=>match nL n a with|some c=>some c|none=>nL n b
 | .block _ c=>nL n c
 | .scope c=>nL n c
 | .cond _ a b=>match nL n a with|some c=>some c|none=>nL n b
 | _=>none
noncomputable def logBody2:Code:=(Tryz.f22.body.map λc=>(wE c).getD 1 .skip).getD .skip
noncomputable def logBody3:Code:=(Tryz.f22.body.map λc=>(wE c).getD 2 .skip).getD .skip
noncomputable def logReg (n:Nat):Code:=(Tryz.f22.body.bind (nL n)).getD .skip
def BB (th ob kn:Int) (xa xb xc:Nat):Array Value:=#[.int .i64 th,.int .i64 ob,.int .i64 kn,.int .u64 (xa:Int),.int .u64 (xb:Int),.int .u64 (xc:Int)]
set_option maxHeartbeats 4000000 in
theorem Nz {w2 w:World} {J:RJ} {s:dS} {hl:List Value} {vs:List HV} {L:Value} {ea:Option Addr} {ec:Nat} {ers:List (Value×Value)} {bC:Nat} {cC:Array Value} {bp op np pc k q:Nat} {x0 x1 x2 x4 x5 x6 x7 x8 x9 wC yE BA AR yI IB IK IA MR ME x24 x25 OY x27 x28 x29 JR x31 x32 GU x34 JO GA DX x38 x39 DY CP CK DV DL CF KN KT KA KG KI KS KW KL JZ FO JY KJ JM IC IU FQ JA GL FN GN IW FW GX JL GZ JN FX JQ JI IV JE GM JD GK JW IQ FP IY JV JP IX IR GV IZ x90 x91 FZ x93 JG x95 x96 JS x98 x99 pR x101 x102 nJ x104 oN mY lU oD lX oP nI x112 x113 x114 x115 mD qP qE uN uV uA tH sK qY rD tZ sI qM tO qQ qK qJ uI uL tN tT rJ pK nZ oM oW pG mV rG uM rC qO tK sG x150 x151 x152 x153 rT qU oU x157 x158 x159 x160 sM qX qR pX rF uG x167 x168 sJ uF tV qL tF uO tY uS qH lV nX mU lY mM nE oO mJ mQ oF qB pV qD sZ sU tC qV rO uH rQ qG qW oV nK pJ nY lZ pI nN oC nU oG mZ lT lS oL mI nD oI pU pQ pY rH uE rE sW uJ rW rR sS sD sV rX rV qN rM rA tX uQ uK qI qZ uC uD sN tQ uT rY uW qC tL uU uR tJ uB uP sH mF pM mH oJ mK pF mP nA oK mE mO oH nH nG mR pE mG nV rZ sO rP sF rU:Value} {K:Act->World->Prop} {Q0:Exit->Act->World->Prop} {cd:Code} (hcd:cd=logReg 26) (hQp:∀ c d v (a:Act) {w},Q0 (.panic c) (a.put d v) w->Q0 (.panic c) a w) (hA:fM w2 w J s hl vs L ea ec ers) (hq:q<J.nt) (hn:J.nt<=16) (p3:w.cell? ⟨bp,op+k,none⟩=some (.int .i64 (q:Int))) (lk:k<np) (hC:w.heap[bC]?=some (.cells cC 48 (0,0)))
  (hK:∀(Zk Xu Yz Ui Zl Vj Xh Xz Wj Wx:Value) (w':World),w'.heap[bC]?=some (.cells cC 48 (0,0))/\(∃ hl4 Zq,fM w2 w' J { s with rw:=s.rw.begin q,hands:=s.hands.set q ⟨true,s.evs.length,s.rw.now,[],[],(s.hands.getD q aY).own⟩ } hl4 Zq L ea ec ers)->K ⟨#[x0,x1,x2,.slice (some ⟨bp,op,none⟩) np pc,x4,x5,x6,x7,x8,x9,wC,yE,BA,AR,yI,.pointer (some ⟨J.bW,0,none⟩),IB,IK,IA,.pointer (some ⟨J.bO,0,none⟩),.int .i64 (k:Int),MR,.pointer (some ⟨J.bH,q*16,none⟩),ME,x24,x25,OY,x27,x28,x29,JR,x31,x32,GU,x34,JO,GA,DX,x38,x39,DY,CP,CK,DV,DL,CF,KN,KT,KA,KG,KI,KS,KW,KL,JZ,FO,JY,KJ,JM,IC,IU,FQ,JA,GL,FN,GN,IW,FW,GX,JL,GZ,JN,FX,JQ,JI,IV,JE,GM,JD,GK,JW,IQ,FP,IY,JV,JP,IX,IR,GV,IZ,x90,x91,FZ,x93,JG,x95,x96,JS,x98,x99,pR,x101,x102,nJ,x104,oN,mY,lU,oD,lX,oP,nI,x112,x113,x114,x115,mD,Zk,Xu,Yz,Ui,Zl,Vj,Xh,Xz,Wj,Wx,sI,qM,tO,qQ,qK,qJ,uI,uL,tN,tT,rJ,pK,nZ,oM,oW,pG,mV,rG,uM,rC,qO,tK,sG,x150,x151,x152,x153,rT,qU,oU,x157,x158,x159,x160,sM,qX,qR,pX,rF,uG,x167,x168,sJ,uF,tV,qL,tF,uO,tY,uS,qH,lV,nX,mU,lY,mM,nE,oO,mJ,mQ,oF,qB,pV,qD,sZ,sU,tC,qV,rO,uH,rQ,qG,qW,oV,nK,pJ,nY,lZ,pI,nN,oC,nU,oG,mZ,lT,lS,oL,mI,nD,oI,pU,pQ,pY,rH,uE,rE,sW,uJ,rW,rR,sS,sD,sV,rX,rV,qN,rM,rA,tX,uQ,uK,qI,qZ,uC,uD,sN,tQ,uT,rY,uW,qC,tL,uU,uR,tJ,uB,uP,sH,mF,pM,mH,oJ,mK,pF,mP,nA,oK,mE,mO,oH,nH,nG,mR,pE,mG,nV,rZ,sO,rP,sF,rU],[]⟩ w'):Code.wp Tryz.prog cd (Exit.then K Q0) ⟨#[x0,x1,x2,.slice (some ⟨bp,op,none⟩) np pc,x4,x5,x6,x7,x8,x9,wC,yE,BA,AR,yI,.pointer (some ⟨J.bW,0,none⟩),IB,IK,IA,.pointer (some ⟨J.bO,0,none⟩),.int .i64 (k:Int),MR,.pointer (some ⟨J.bH,q*16,none⟩),ME,x24,x25,OY,x27,x28,x29,JR,x31,x32,GU,x34,JO,GA,DX,x38,x39,DY,CP,CK,DV,DL,CF,KN,KT,KA,KG,KI,KS,KW,KL,JZ,FO,JY,KJ,JM,IC,IU,FQ,JA,GL,FN,GN,IW,FW,GX,JL,GZ,JN,FX,JQ,JI,IV,JE,GM,JD,GK,JW,IQ,FP,IY,JV,JP,IX,IR,GV,IZ,x90,x91,FZ,x93,JG,x95,x96,JS,x98,x99,pR,x101,x102,nJ,x104,oN,mY,lU,oD,lX,oP,nI,x112,x113,x114,x115,mD,qP,qE,uN,uV,uA,tH,sK,qY,rD,tZ,sI,qM,tO,qQ,qK,qJ,uI,uL,tN,tT,rJ,pK,nZ,oM,oW,pG,mV,rG,uM,rC,qO,tK,sG,x150,x151,x152,x153,rT,qU,oU,x157,x158,x159,x160,sM,qX,qR,pX,rF,uG,x167,x168,sJ,uF,tV,qL,tF,uO,tY,uS,qH,lV,nX,mU,lY,mM,nE,oO,mJ,mQ,oF,qB,pV,qD,sZ,sU,tC,qV,rO,uH,rQ,qG,qW,oV,nK,pJ,nY,lZ,pI,nN,oC,nU,oG,mZ,lT,lS,oL,mI,nD,oI,pU,pQ,pY,rH,uE,rE,sW,uJ,rW,rR,sS,sD,sV,rX,rV,qN,rM,rA,tX,uQ,uK,qI,qZ,uC,uD,sN,tQ,uT,rY,uW,qC,tL,uU,uR,tJ,uB,uP,sH,mF,pM,mH,oJ,mK,pF,mP,nA,oK,mE,mO,oH,nH,nG,mR,pE,mG,nV,rZ,sO,rP,sF,rU],[]⟩ w:=by
 subst hcd
 have HQp:=Lib.hid hQp;have HK:=Lib.hid hK
 clear hQp hK
 have BG:=Lib.hid (Nw (p:=q) (hA.grown (Gr.refl _).drew) hq hn s.evs.length)
 rw [Nat.mul_comm 16 q] at BG
 have o3:w.cell? ⟨J.bO,0,none⟩=some (.slice ea s.evs.length ec):=by rw [aA hA.rest.out];rfl
 have hbCl:bC<w.heap.size:=aC hC
 have hCm:bC≠J.bH/\bC≠J.bM:=⟨λe=>by obtain⟨_,h9⟩:=hA.ty.H;exact dB hC h9 (by decide) e,λe=>by obtain⟨_,h9⟩:=hA.ty.M;exact dB hC h9 (by decide) e⟩
 have l1:(k:Int)<(np:Int):=by omega
 have l2:¬ (k:Int)<0:=by omega
 have HC:=Lib.hid hC
 clear hA hC
 conv=>arg 2;whnf
 refine bU ((λu=>u.cell? ⟨bp,op+k,none⟩=some (.int .i64 (q:Int))/\u.cell? ⟨J.bO,0,none⟩=some (.slice ea s.evs.length ec))) 9 (by kernel_rfl) ?hS0L1 ?_
 case hS0L1=>
  exact⟨p3,o3⟩
 intro hS hcl
 refine wK (i:=0) 10 rfl hcl hS ?_ (hQ:=by exact λ_ _ _ h=>HQp.out _ _ _ _ h)
 clear hcl;intro hcl
 (simp only [Act.put,zs])
 refine wK (i:=1) 10 rfl hcl hS ?_ (hQ:=by exact λ_ _ _ h=>HQp.out _ _ _ _ h)
 clear hcl;intro hcl
 (simp only [Act.put,zs])
 refine wK (i:=2) 10 rfl hcl hS ?_ (hQ:=by exact λ_ _ _ h=>HQp.out _ _ _ _ h)
 clear hcl;intro hcl
 (simp only [Act.put,zs])
 refine wK (i:=3) 10 rfl hcl hS ?_ (hQ:=by exact λ_ _ _ h=>HQp.out _ _ _ _ h)
 clear hcl;intro hcl
 (simp only [Act.put,zs])
 refine wK (i:=4) 10 rfl hcl hS ?_ (hQ:=by exact λ_ _ _ h=>HQp.out _ _ _ _ h)
 clear hcl;intro hcl
 (simp only [Act.put,zs])
 refine wK (i:=5) 10 rfl hcl hS ?_ (hQ:=by exact λ_ _ _ h=>HQp.out _ _ _ _ h)
 clear hcl;intro hcl
 (simp only [Act.put,zs])
 refine wK (i:=6) 10 rfl hcl hS ?_ (hQ:=by exact λ_ _ _ h=>HQp.out _ _ _ _ h)
 clear hcl;intro hcl
 (simp only [Act.put,zs])
 refine wK (i:=7) 10 rfl hcl hS ?_ (hQ:=by exact λ_ _ _ h=>HQp.out _ _ _ _ h)
 clear hcl;intro hcl
 (simp only [Act.put,zs])
 refine wK (i:=8) 10 rfl hcl hS ?_ (hQ:=by exact λ_ _ _ h=>HQp.out _ _ _ _ h)
 clear hcl;intro hcl
 (simp only [Act.put,zs])
 refine aL (i:=9) (by kernel_rfl) rfl hcl (λK' hK=>?_)
 have HK:=Lib.hid hK;clear hK
 ((rw [if_pos (by kernel_rfl)]);(simp only [zq1,zq2,zq3]);go_big_op)
 (go_at_call 41;refine BG.out.mono ?_;rintro e w4 ⟨rfl,hc4,hl4,Zq,hA4⟩)
 refine HK.out _ _ (λh=>by cases h.symm.trans (by kernel_rfl:_=true)) (λ_=>bV (by kernel_rfl) ?_ _)
 clear HK
 (clear hS)
 have hC4:w4.heap[bC]?=_:=(hc4.block bC hbCl (λe=>by rcases e with e|e;exact hCm.1 e;exact hCm.2 e)).trans HC.out
 exact HK.out _ _ _ _ _ _ _ _ _ _ _ ⟨hC4,hl4,Zq,hA4⟩
set_option maxHeartbeats 4000000 in
theorem Mg {w2 w:World} {J:RJ} {s:dS} {hl:List Value} {vs:List HV} {L:Value} {ea:Option Addr} {ec:Nat} {ers:List (Value×Value)} {bC:Nat} {cC:Array Value} {i:Nat} {x0 x1 x2 x3 x4 x5 x6 x7 x8 x9 wC yE BA AR yI IB IK IA OC ZK ME x24 x25 OY x27 x28 x29 JR x31 x32 GU x34 JO GA DX x38 x39 DY CP CK DV DL CF KN KT KA KG KI KS KW KL JZ FO JY KJ JM IC IU FQ JA GL FN GN IW FW GX JL GZ JN FX JQ JI IV JE GM JD GK JW IQ FP IY JV JP IX IR GV IZ x90 x91 FZ x93 JG x95 x96 JS x98 x99 pR x101 x102 nJ x104 oN mY lU oD lX oP nI x112 x113 x114 x115 mD qP qE uN uV uA tH sK qY rD tZ sI qM tO qQ qK qJ uI uL tN tT rJ pK nZ oM oW pG mV rG uM rC qO tK sG x150 x151 x152 x153 rT qU oU x157 x158 x159 x160 sM qX qR pX rF uG x167 x168 sJ uF tV qL tF uO tY uS qH lV nX mU lY mM nE oO mJ mQ oF qB pV qD sZ sU tC qV rO uH rQ qG qW oV nK pJ nY lZ pI nN oC nU oG mZ lT lS oL mI nD oI pU pQ pY rH uE rE sW uJ rW rR sS sD sV rX rV qN rM rA tX uQ uK qI qZ uC uD sN tQ uT rY uW qC tL uU uR tJ uB uP sH mF pM mH oJ mK pF mP nA oK mE mO oH nH nG mR pE mG nV rZ sO rP sF rU:Value} {K:Act->World->Prop} {Q0:Exit->Act->World->Prop} {cd:Code} (hcd:cd=logReg 27) (hQp:∀ c d v (a:Act) {w},Q0 (.panic c) (a.put d v) w->Q0 (.panic c) a w) (hA:fM w2 w J s hl vs L ea ec ers) (hel:s.evs.length<=1000000) (hC:w.heap[bC]?=some (.cells cC 48 (0,0)))
  (hK:∀(Tj Tk Uw Ti Yu Vt Sz Wy Wl Te Wv:Value) (w':World),w'.heap[bC]?=some (.cells cC 48 (0,0))/\(∃ ea' ec' ers',fM w2 w' J { s with evs:=s.evs++[⟨i,s.rw.now,0,0,SK,[]⟩] } hl vs L ea' ec' ers')->K ⟨#[x0,x1,x2,x3,x4,x5,x6,x7,x8,x9,wC,yE,BA,AR,yI,.pointer (some ⟨J.bW,0,none⟩),IB,IK,IA,.pointer (some ⟨J.bO,0,none⟩),OC,.int .i64 (i:Int),ZK,ME,x24,x25,OY,x27,x28,x29,JR,x31,x32,GU,x34,JO,GA,DX,x38,x39,DY,CP,CK,DV,DL,CF,KN,KT,KA,KG,KI,KS,KW,KL,JZ,FO,JY,KJ,JM,IC,IU,FQ,JA,GL,FN,GN,IW,FW,GX,JL,GZ,JN,FX,JQ,JI,IV,JE,GM,JD,GK,JW,IQ,FP,IY,JV,JP,IX,IR,GV,IZ,x90,x91,FZ,x93,JG,x95,x96,JS,x98,x99,pR,x101,x102,nJ,x104,oN,mY,lU,oD,lX,oP,nI,x112,x113,x114,x115,mD,qP,qE,uN,uV,uA,tH,sK,qY,rD,tZ,Tj,Tk,Uw,Ti,Yu,Vt,Sz,Wy,Wl,Te,Wv,pK,nZ,oM,oW,pG,mV,rG,uM,rC,qO,tK,sG,x150,x151,x152,x153,rT,qU,oU,x157,x158,x159,x160,sM,qX,qR,pX,rF,uG,x167,x168,sJ,uF,tV,qL,tF,uO,tY,uS,qH,lV,nX,mU,lY,mM,nE,oO,mJ,mQ,oF,qB,pV,qD,sZ,sU,tC,qV,rO,uH,rQ,qG,qW,oV,nK,pJ,nY,lZ,pI,nN,oC,nU,oG,mZ,lT,lS,oL,mI,nD,oI,pU,pQ,pY,rH,uE,rE,sW,uJ,rW,rR,sS,sD,sV,rX,rV,qN,rM,rA,tX,uQ,uK,qI,qZ,uC,uD,sN,tQ,uT,rY,uW,qC,tL,uU,uR,tJ,uB,uP,sH,mF,pM,mH,oJ,mK,pF,mP,nA,oK,mE,mO,oH,nH,nG,mR,pE,mG,nV,rZ,sO,rP,sF,rU],[]⟩ w'):Code.wp Tryz.prog cd (Exit.then K Q0) ⟨#[x0,x1,x2,x3,x4,x5,x6,x7,x8,x9,wC,yE,BA,AR,yI,.pointer (some ⟨J.bW,0,none⟩),IB,IK,IA,.pointer (some ⟨J.bO,0,none⟩),OC,.int .i64 (i:Int),ZK,ME,x24,x25,OY,x27,x28,x29,JR,x31,x32,GU,x34,JO,GA,DX,x38,x39,DY,CP,CK,DV,DL,CF,KN,KT,KA,KG,KI,KS,KW,KL,JZ,FO,JY,KJ,JM,IC,IU,FQ,JA,GL,FN,GN,IW,FW,GX,JL,GZ,JN,FX,JQ,JI,IV,JE,GM,JD,GK,JW,IQ,FP,IY,JV,JP,IX,IR,GV,IZ,x90,x91,FZ,x93,JG,x95,x96,JS,x98,x99,pR,x101,x102,nJ,x104,oN,mY,lU,oD,lX,oP,nI,x112,x113,x114,x115,mD,qP,qE,uN,uV,uA,tH,sK,qY,rD,tZ,sI,qM,tO,qQ,qK,qJ,uI,uL,tN,tT,rJ,pK,nZ,oM,oW,pG,mV,rG,uM,rC,qO,tK,sG,x150,x151,x152,x153,rT,qU,oU,x157,x158,x159,x160,sM,qX,qR,pX,rF,uG,x167,x168,sJ,uF,tV,qL,tF,uO,tY,uS,qH,lV,nX,mU,lY,mM,nE,oO,mJ,mQ,oF,qB,pV,qD,sZ,sU,tC,qV,rO,uH,rQ,qG,qW,oV,nK,pJ,nY,lZ,pI,nN,oC,nU,oG,mZ,lT,lS,oL,mI,nD,oI,pU,pQ,pY,rH,uE,rE,sW,uJ,rW,rR,sS,sD,sV,rX,rV,qN,rM,rA,tX,uQ,uK,qI,qZ,uC,uD,sN,tQ,uT,rY,uW,qC,tL,uU,uR,tJ,uB,uP,sH,mF,pM,mH,oJ,mK,pF,mP,nA,oK,mE,mO,oH,nH,nG,mR,pE,mG,nV,rZ,sO,rP,sF,rU],[]⟩ w:=by
 subst hcd
 have HQp:=Lib.hid hQp;have HK:=Lib.hid hK
 clear hQp hK
 obtain⟨i0,hi,hz0,hz1,hz2⟩:=info_parts GI
 obtain⟨_,_,_,hW4,_⟩:=hA.mem.blk
 have x6:w.cell? ⟨J.bW,6,none⟩=some (.int .i64 (s.rw.now:Int)):=by rw [aA hW4];rfl
 have xo:w.cell? ⟨J.bO,0,none⟩=some (.slice ea s.evs.length ec):=by rw [aA hA.rest.out];rfl
 have lWw:=aC hW4
 have lOw:=aC hA.rest.out
 have lCw:=aC hC
 have Hev:=Lib.hid hA.rest.evs
 have nW:(Value.slice ea s.evs.length ec).ownBlock≠some J.bW:=dJ hA.rest.evs hW4 (by decide)
 have nO:(Value.slice ea s.evs.length ec).ownBlock≠some J.bO:=dJ hA.rest.evs hA.rest.out (by decide)
 have nC:(Value.slice ea s.evs.length ec).ownBlock≠some bC:=dJ hA.rest.evs hC (by decide)
 have HA:=Lib.hid hA;have HC:=Lib.hid hC
 clear hW4 hA hC
 conv=>arg 2;whnf
 refine bU ((λu=>u.cell? ⟨J.bO,0,none⟩=some (.slice ea s.evs.length ec)/\u.cell? ⟨J.bW,6,none⟩=some (.int .i64 (s.rw.now:Int)))) 11 (by kernel_rfl) ?hS0L2 ?_
 case hS0L2=>
  (exact⟨xo,x6⟩)
 intro hS hcl
 refine wK (i:=0) 12 rfl hcl hS ?_ (hQ:=by exact λ_ _ _ h=>HQp.out _ _ _ _ h)
 clear hcl;intro hcl
 (simp only [Act.put,zs])
 refine wK (i:=1) 12 rfl hcl hS ?_ (hQ:=by exact λ_ _ _ h=>HQp.out _ _ _ _ h)
 clear hcl;intro hcl
 (simp only [Act.put,zs])
 refine wK (i:=2) 12 rfl hcl hS ?_ (hQ:=by exact λ_ _ _ h=>HQp.out _ _ _ _ h)
 clear hcl;intro hcl
 (simp only [Act.put,zs])
 refine wK (i:=3) 12 rfl hcl hS ?_ (hQ:=by exact λ_ _ _ h=>HQp.out _ _ _ _ h)
 clear hcl;intro hcl
 (simp only [Act.put,zs])
 refine wK (i:=4) 12 rfl hcl hS ?_ (hQ:=by exact λ_ _ _ h=>HQp.out _ _ _ _ h)
 clear hcl;intro hcl
 (simp only [Act.put,zs])
 refine wK (i:=5) 12 rfl hcl hS ?_ (hQ:=by exact λ_ _ _ h=>HQp.out _ _ _ _ h)
 clear hcl;intro hcl
 (simp only [Act.put,zs])
 refine wK (i:=6) 12 rfl hcl hS ?_ (hQ:=by exact λ_ _ _ h=>HQp.out _ _ _ _ h)
 clear hcl;intro hcl
 (simp only [Act.put,zs])
 refine wK (i:=7) 12 rfl hcl hS ?_ (hQ:=by exact λ_ _ _ h=>HQp.out _ _ _ _ h)
 clear hcl;intro hcl
 (simp only [Act.put,zs])
 refine aL (i:=8) (by kernel_rfl) rfl hcl (λK' hK=>?_)
 have HK:=Lib.hid hK;clear hK
 ((rw [if_pos (by kernel_rfl)]);(simp only [zq1,zq2,zq3]);go_big_op)
 refine HK.out _ _ ?hS8L2 (λhcl=>?_)
 case hS8L2=>
  intro _
  (exact⟨(((Gr.new w _).drew).cell lOw).trans xo,(((Gr.new w _).drew).cell lWw).trans x6⟩)
 clear HK
 refine aL (i:=9) (by kernel_rfl) rfl hcl (λK' hK=>?_)
 have HK:=Lib.hid hK;clear hK
 ((refine step_append_lies _ (by rfl) _ _ _ (by rfl) w2.heap.size 52 i0 _ 8 96 Tryz.underlying27 hi hz0 hz1 hz2 rfl (by omega) _ _ _ (by rfl) (dV Hev.out (Gr.new w _).drew) ⟨w.heap.size,0,none⟩ 1 1 [.int .i64 (i:Int),.int .i64 (s.rw.now:Int),.int .i64 0,.int .i64 0,.int .i64 0,.int .u64 0,.slice none 0 0,.slice none 0 0] (by rfl) (by rfl) (World.news_of_block (cs:=#[.int .i64 (i:Int),.int .i64 (s.rw.now:Int),.int .i64 0,.int .i64 0,.int .i64 0,.int .u64 0,.slice none 0 0,.slice none 0 0]) (t:=52) (fr:=(0,0)) (heap_alloc_new w _)) (by simp [Value.oneCell']) (by omega) (by unfold maxLen;omega) (by skip;omega) (by have:=HA.out.rest.below.size;simp;omega) (w.heap.size+1) (by simp) ?_;intro g8 xL w8 kQ dU vI KF;have zo:=((dU.cell_far _ (by simp;omega) (Ne.symm nO)).trans ((((Gr.new w _).drew).cell lOw).trans xo));have z6:=((dU.cell_far _ (by simp;omega) (Ne.symm nW)).trans ((((Gr.new w _).drew).cell lWw).trans x6));have zf:w8.frozen? ⟨J.bO,0,none⟩=false:=aB ((dU.block _ (by simp;omega) (Ne.symm nO)).trans ((((Gr.new w _).drew).block _ lOw).trans HA.out.rest.out)) _;have zc:=((dU.block bC (by simp;omega) (Ne.symm nC)).trans ((((Gr.new w _).drew).block _ lCw).trans HC.out))))
 refine HK.out _ _ ?hS9L2 (λhcl=>?_)
 case hS9L2=>
  intro _
  (exact⟨zo,z6⟩)
 clear HK
 (simp only [Act.put,zs])
 refine aL (i:=10) (by kernel_rfl) rfl hcl (λK' hK=>?_)
 have HK:=Lib.hid hK;clear hK
 ((rw [if_pos (by kernel_rfl)]);(simp only [zq1,zq2,zq3]);go_big_op)
 refine HK.out _ _ ?hS10L2 (λhcl=>?_)
 case hS10L2=>
  intro _
  (exact⟨zo,z6⟩)
 clear HK
 refine aL (i:=11) (by kernel_rfl) rfl hcl (λK' hK=>?_)
 have HK:=Lib.hid hK;clear hK
 ((rw [if_pos (by kernel_rfl)]);(simp only [zq1,zq2,zq3]);go_big_op)
 refine HK.out _ _ (λh=>by cases h.symm.trans (by kernel_rfl:_=true)) (λ_=>bV (by kernel_rfl) ?_ _)
 clear HK
 (clear hS)
 have hc8:Chg (λk=>(Value.slice ea s.evs.length ec).ownBlock=some k) w w8:=(((Chg.refl _ w).alloc _).drew).grown dU (λq hq=>.inl hq)
 have EU:dY w (.slice ea s.evs.length ec) (.slice (some ⟨g8,0,none⟩) (s.evs.length+1) xL):=λb hb=>by
  cases hb
  rcases vI with h9|h9
  ·exact .inl h9
  ·exact .inr (by show _<=g8;omega)
 have hA9:=HA.out.app (ea':=some ⟨g8,0,none⟩) (ec':=xL) ⟨i,s.rw.now,0,0,SK,[]⟩ ⟨rfl,rfl⟩ hc8 EU kQ
 have hC9:=(aH (dB HC.out HA.out.rest.out (by decide)) 0 (.slice (some ⟨g8,0,none⟩) (s.evs.length+1) xL)).trans zc
 exact HK.out _ _ _ _ _ _ _ _ _ _ _ _ ⟨hC9,_,_,_,hA9⟩
set_option maxHeartbeats 4000000 in
theorem Lc {w2 w:World} {J:RJ} {s:dS} {hl:List Value} {vs:List HV} {G K9 L:Value} {ea:Option Addr} {ec:Nat} {ers:List (Value×Value)} {bC:Nat} {cC:Array Value} {q k:Nat} {t:aJ} {r:RWD} {x0 x1 x2 x3 x4 x5 x6 x7 x8 x9 wC yE BA AR yI IB IK IA OC MR ME x24 x25 OY x27 x28 x29 JR x31 x32 GU x34 JO GA DX x38 x39 DY CP CK DV DL CF KN KT KA KG KI KS KW KL JZ FO JY KJ JM IC IU FQ JA GL FN GN IW FW GX JL GZ JN FX JQ JI IV JE GM JD GK JW IQ FP IY JV JP IX IR GV IZ x90 x91 FZ x93 JG x95 x96 JS x98 x99 pR x101 x102 nJ x104 oN mY lU oD lX oP nI x112 x113 x114 x115 mD qP qE uN uV uA tH sK qY rD tZ sI qM tO qQ qK qJ uI uL tN tT rJ pK nZ oM oW pG mV rG uM rC qO tK sG x150 x151 x152 x153 rT qU oU x157 x158 x159 x160 sM qX qR pX rF uG x167 x168 sJ uF tV qL tF uO tY uS qH lV nX mU lY mM nE oO mJ mQ oF qB pV qD sZ sU tC qV rO uH rQ qG qW oV nK pJ nY lZ pI nN oC nU oG mZ lT lS oL mI nD oI pU pQ pY rH uE rE sW uJ rW rR sS sD sV rX rV qN rM rA tX uQ uK qI qZ uC uD sN tQ uT rY uW qC tL uU uR tJ uB uP sH mF pM mH oJ mK pF mP nA oK mE mO oH nH nG mR pE mG nV rZ sO rP sF rU:Value} {K:Act->World->Prop} {Q0:Exit->Act->World->Prop} {cd:Code} (hcd:cd=logReg 29) (hQp:∀ c d v (a:Act) {w},Q0 (.panic c) (a.put d v) w->Q0 (.panic c) a w) (hM:gV w2 w J q s hl vs G K9 L ea ec ers t r) (hk:k=(s.hands.getD q aY).ev) (hev:k<s.evs.length) (hst:(s.evs.getD k iO).steps<=1000000) (hC:w.heap[bC]?=some (.cells cC 48 (0,0)))
  (hK:∀(Tp Tw Tq Xm Yv Xk y150 y151 y152 y153 Wi Ym:Value) (w':World),w'.heap[bC]?=some (.cells cC 48 (0,0))/\(∃ ers',gV w2 w' J q { s with evs:=dA s.evs k aS } hl vs G K9 L ea ec ers' t r)->K ⟨#[x0,x1,x2,x3,x4,x5,x6,x7,x8,x9,wC,yE,BA,AR,yI,.pointer (some ⟨J.bW,0,none⟩),IB,IK,IA,.pointer (some ⟨J.bO,0,none⟩),OC,MR,.pointer (some ⟨J.bH,q*16,none⟩),ME,x24,x25,OY,x27,x28,x29,JR,x31,x32,GU,x34,JO,GA,DX,x38,x39,DY,CP,CK,DV,DL,CF,KN,KT,KA,KG,KI,KS,KW,KL,JZ,FO,JY,KJ,JM,IC,IU,FQ,JA,GL,FN,GN,IW,FW,GX,JL,GZ,JN,FX,JQ,JI,IV,JE,GM,JD,GK,JW,IQ,FP,IY,JV,JP,IX,IR,GV,IZ,x90,x91,FZ,x93,JG,x95,x96,JS,x98,x99,pR,x101,x102,nJ,x104,oN,mY,lU,oD,lX,oP,nI,x112,x113,x114,x115,mD,qP,qE,uN,uV,uA,tH,sK,qY,rD,tZ,sI,qM,tO,qQ,qK,qJ,uI,uL,tN,tT,rJ,pK,nZ,oM,oW,pG,mV,Tp,Tw,Tq,Xm,Yv,Xk,y150,y151,y152,y153,Wi,Ym,oU,x157,x158,x159,x160,sM,qX,qR,pX,rF,uG,x167,x168,sJ,uF,tV,qL,tF,uO,tY,uS,qH,lV,nX,mU,lY,mM,nE,oO,mJ,mQ,oF,qB,pV,qD,sZ,sU,tC,qV,rO,uH,rQ,qG,qW,oV,nK,pJ,nY,lZ,pI,nN,oC,nU,oG,mZ,lT,lS,oL,mI,nD,oI,pU,pQ,pY,rH,uE,rE,sW,uJ,rW,rR,sS,sD,sV,rX,rV,qN,rM,rA,tX,uQ,uK,qI,qZ,uC,uD,sN,tQ,uT,rY,uW,qC,tL,uU,uR,tJ,uB,uP,sH,mF,pM,mH,oJ,mK,pF,mP,nA,oK,mE,mO,oH,nH,nG,mR,pE,mG,nV,rZ,sO,rP,sF,rU],[]⟩ w'):Code.wp Tryz.prog cd (Exit.then K Q0) ⟨#[x0,x1,x2,x3,x4,x5,x6,x7,x8,x9,wC,yE,BA,AR,yI,.pointer (some ⟨J.bW,0,none⟩),IB,IK,IA,.pointer (some ⟨J.bO,0,none⟩),OC,MR,.pointer (some ⟨J.bH,q*16,none⟩),ME,x24,x25,OY,x27,x28,x29,JR,x31,x32,GU,x34,JO,GA,DX,x38,x39,DY,CP,CK,DV,DL,CF,KN,KT,KA,KG,KI,KS,KW,KL,JZ,FO,JY,KJ,JM,IC,IU,FQ,JA,GL,FN,GN,IW,FW,GX,JL,GZ,JN,FX,JQ,JI,IV,JE,GM,JD,GK,JW,IQ,FP,IY,JV,JP,IX,IR,GV,IZ,x90,x91,FZ,x93,JG,x95,x96,JS,x98,x99,pR,x101,x102,nJ,x104,oN,mY,lU,oD,lX,oP,nI,x112,x113,x114,x115,mD,qP,qE,uN,uV,uA,tH,sK,qY,rD,tZ,sI,qM,tO,qQ,qK,qJ,uI,uL,tN,tT,rJ,pK,nZ,oM,oW,pG,mV,rG,uM,rC,qO,tK,sG,x150,x151,x152,x153,rT,qU,oU,x157,x158,x159,x160,sM,qX,qR,pX,rF,uG,x167,x168,sJ,uF,tV,qL,tF,uO,tY,uS,qH,lV,nX,mU,lY,mM,nE,oO,mJ,mQ,oF,qB,pV,qD,sZ,sU,tC,qV,rO,uH,rQ,qG,qW,oV,nK,pJ,nY,lZ,pI,nN,oC,nU,oG,mZ,lT,lS,oL,mI,nD,oI,pU,pQ,pY,rH,uE,rE,sW,uJ,rW,rR,sS,sD,sV,rX,rV,qN,rM,rA,tX,uQ,uK,qI,qZ,uC,uD,sN,tQ,uT,rY,uW,qC,tL,uU,uR,tJ,uB,uP,sH,mF,pM,mH,oJ,mK,pF,mP,nA,oK,mE,mO,oH,nH,nG,mR,pE,mG,nV,rZ,sO,rP,sF,rU],[]⟩ w:=by
 subst hcd
 have HQp:=Lib.hid hQp;have HK:=Lib.hid hK
 clear hQp hK
 obtain⟨g,rfl,hgl,hgc⟩:=hM.ev_some hev
 have hS:=hM.stepped hev rfl
 obtain⟨st,Dj⟩:∃ st,st=(s.evs.getD k iO).steps:=⟨_,rfl⟩
 rw [<-Dj] at hS hst
 have x3:w.cell? ⟨g,k*8+3,none⟩=some (.int .i64 (st:Int)):=by rw [(hgc 3 (by omega)).1,Dj];rfl
 have f3:w.frozen? ⟨g,k*8+3,none⟩=false:=(hgc 3 (by omega)).2
 have xo:w.cell? ⟨J.bO,0,none⟩=some (.slice (some ⟨g,0,none⟩) s.evs.length ec):=by rw [aA hM.rest.out];rfl
 have xh:w.cell? ⟨J.bH,q*16+1,none⟩=some (.int .i64 (k:Int)):=by
  obtain⟨PV,LV,KV,ht,_⟩:=hM.tape.tape
  have hb:w.heap[J.bH]?=_:=ht.blk
  rw [aA hb,hk]
  have h1:=hM.rest.c1 q hM.hp hM.opn
  have hlen:=hM.rest.lens.1
  have hp:=hM.hp
  show((hl.take (16*q+2)++_).toArray)[q*16+1]?=_
  rw [List.getElem?_toArray,List.getElem?_append_left (by simp;omega),List.getElem?_take_of_lt (by omega),Nat.mul_comm q 16]
  exact h1
 have l1:(k:Int)<(s.evs.length:Int):=by omega
 have l2:¬ (k:Int)<0:=by omega
 have lw:IntKind.i64.wrap ((st:Int)+1)=(st:Int)+1:=by rw [IntKind.wrap_i64];omega
 have lw2:wrap64 ((st:Int)+1)=(st:Int)+1:=by unfold wrap64;omega
 have nC:bC≠g:=λe=>by
  obtain⟨_,_,h9⟩:=gG hM.rest.evs (b:=g) rfl
  exact dB hC h9 (by decide) e
 have HS:=Lib.hid hS;have HC:=Lib.hid hC
 clear hS hC hM hgc hk Dj
 conv=>arg 2;whnf
 refine bU ((λu=>u.cell? ⟨J.bO,0,none⟩=some (.slice (some ⟨g,0,none⟩) s.evs.length ec)/\u.cell? ⟨J.bH,q*16+1,none⟩=some (.int .i64 (k:Int))/\u.cell? ⟨g,k*8+3,none⟩=some (.int .i64 (st:Int)))) 12 (by kernel_rfl) ?hS0L3 ?_
 case hS0L3=>
  exact⟨xo,xh,x3⟩
 intro hS hcl
 refine wK (i:=0) 13 rfl hcl hS ?_ (hQ:=by exact λ_ _ _ h=>HQp.out _ _ _ _ h)
 clear hcl;intro hcl
 (simp only [Act.put,zs])
 refine wK (i:=1) 13 rfl hcl hS ?_ (hQ:=by exact λ_ _ _ h=>HQp.out _ _ _ _ h)
 clear hcl;intro hcl
 (simp only [Act.put,zs])
 refine wK (i:=2) 13 rfl hcl hS ?_ (hQ:=by exact λ_ _ _ h=>HQp.out _ _ _ _ h)
 clear hcl;intro hcl
 (simp only [Act.put,zs])
 refine wK (i:=3) 13 rfl hcl hS ?_ (hQ:=by exact λ_ _ _ h=>HQp.out _ _ _ _ h)
 clear hcl;intro hcl
 (simp only [Act.put,zs])
 refine wK (i:=4) 13 rfl hcl hS ?_ (hQ:=by exact λ_ _ _ h=>HQp.out _ _ _ _ h)
 clear hcl;intro hcl
 (simp only [Act.put,zs])
 refine wK (i:=5) 13 rfl hcl hS ?_ (hQ:=by exact λ_ _ _ h=>HQp.out _ _ _ _ h)
 clear hcl;intro hcl
 (simp only [Act.put,zs])
 refine wK (i:=6) 13 rfl hcl hS ?_ (hQ:=by exact λ_ _ _ h=>HQp.out _ _ _ _ h)
 clear hcl;intro hcl
 (simp only [Act.put,zs])
 refine wK (i:=7) 13 rfl hcl hS ?_ (hQ:=by exact λ_ _ _ h=>HQp.out _ _ _ _ h)
 clear hcl;intro hcl
 (simp only [Act.put,zs])
 refine wK (i:=8) 13 rfl hcl hS ?_ (hQ:=by exact λ_ _ _ h=>HQp.out _ _ _ _ h)
 clear hcl;intro hcl
 (simp only [Act.put,zs])
 refine wK (i:=9) 13 rfl hcl hS ?_ (hQ:=by exact λ_ _ _ h=>HQp.out _ _ _ _ h)
 clear hcl;intro hcl
 (simp only [Act.put,zs])
 refine wK (i:=10) 13 rfl hcl hS ?_ (hQ:=by exact λ_ _ _ h=>HQp.out _ _ _ _ h)
 clear hcl;intro hcl
 (simp only [Act.put,zs])
 refine wK (i:=11) 13 rfl hcl hS ?_ (hQ:=by exact λ_ _ _ h=>HQp.out _ _ _ _ h)
 clear hcl;intro hcl
 (simp only [Act.put,zs])
 refine aL (i:=12) (by kernel_rfl) rfl hcl (λK' hK=>?_)
 have HK:=Lib.hid hK;clear hK
 ((rw [if_pos (by kernel_rfl)]);(simp only [zq1,zq2,zq3]);go_big_op)
 refine HK.out _ _ (λh=>by cases h.symm.trans (by kernel_rfl:_=true)) (λ_=>bV (by kernel_rfl) ?_ _)
 clear HK
 (clear hS)
 exact HK.out _ _ _ _ _ _ _ _ _ _ _ _ _ ⟨(aH nC _ _).trans HC.out,_,HS.out.grown (Gr.refl _).drew⟩
set_option maxHeartbeats 4000000 in
theorem Mv {w2 w:World} {J:RJ} {s:dS} {hl:List Value} {vs:List HV} {G K9 L:Value} {ea:Option Addr} {ec:Nat} {ers:List (Value×Value)} {bC:Nat} {cC:Array Value} {q k:Nat} {t:aJ} {r:RWD} {x0 x1 x2 x3 x4 x5 x6 x7 x8 x9 wC yE BA AR yI IB IK IA OC MR ME x24 x25 OY x27 x28 x29 JR x31 x32 GU x34 JO GA DX x38 x39 DY CP CK DV DL CF KN KT KA KG KI KS KW KL JZ FO JY KJ JM IC IU FQ JA GL FN GN IW FW GX JL GZ JN FX JQ JI IV JE GM JD GK JW IQ FP IY JV JP IX IR GV IZ x90 x91 FZ x93 JG x95 x96 JS x98 x99 pR x101 x102 nJ x104 oN mY lU oD lX oP nI x112 x113 x114 x115 mD qP qE uN uV uA tH sK qY rD tZ sI qM tO qQ qK qJ uI uL tN tT rJ pK nZ oM oW pG mV rG uM rC qO tK sG x150 x151 x152 x153 rT qU oU x157 x158 x159 x160 sM qX qR pX rF uG x167 x168 sJ uF tV qL tF uO tY uS qH lV nX mU lY mM nE oO mJ mQ oF qB pV qD sZ sU tC qV rO uH rQ qG qW oV nK pJ nY lZ pI nN oC nU oG mZ lT lS oL mI nD oI pU pQ pY rH uE rE sW uJ rW rR sS sD sV rX rV qN rM rA tX uQ uK qI qZ uC uD sN tQ uT rY uW qC tL uU uR tJ uB uP sH mF pM mH oJ mK pF mP nA oK mE mO oH nH nG mR pE mG nV rZ sO rP sF rU:Value} {K:Act->World->Prop} {Q0:Exit->Act->World->Prop} {cd:Code} (hcd:cd=logReg 31) (hQp:∀ c d v (a:Act) {w},Q0 (.panic c) (a.put d v) w->Q0 (.panic c) a w) (hM:gV w2 w J q s hl vs G K9 L ea ec ers t r) (hk:k=(s.hands.getD q aY).ev) (hev:k<s.evs.length) (hn:J.nt<=16) (hnow:r.now<=1000000) (hC:w.heap[bC]?=some (.cells cC 48 (0,0)))
  (hK:∀(Vn Vr Us Ua Zb Yt y167 y168 Xc Wq Uj Uu Tf Xb Ue Ur Ul:Value) (w':World),w'.heap[bC]?=some (.cells cC 48 (0,0))/\(∃ ers',gV w2 w' J q { s with evs:=dA s.evs k (lJ r q t) } hl vs G K9 L ea ec ers' t r)->K ⟨#[x0,x1,x2,x3,x4,x5,x6,x7,x8,x9,wC,yE,BA,AR,yI,.pointer (some ⟨J.bW,0,none⟩),IB,IK,IA,.pointer (some ⟨J.bO,0,none⟩),OC,MR,.pointer (some ⟨J.bH,q*16,none⟩),ME,x24,x25,OY,x27,x28,x29,JR,x31,x32,GU,x34,JO,GA,DX,x38,x39,DY,CP,CK,DV,DL,CF,KN,KT,KA,KG,KI,KS,KW,KL,JZ,FO,JY,KJ,JM,IC,IU,FQ,JA,GL,FN,GN,IW,FW,GX,JL,GZ,JN,FX,JQ,JI,IV,JE,GM,JD,GK,JW,IQ,FP,IY,JV,JP,IX,IR,GV,IZ,x90,x91,FZ,x93,JG,x95,x96,JS,x98,x99,pR,x101,x102,nJ,x104,oN,mY,lU,oD,lX,oP,nI,x112,x113,x114,x115,mD,qP,qE,uN,uV,uA,tH,sK,qY,rD,tZ,sI,qM,tO,qQ,qK,qJ,uI,uL,tN,tT,rJ,pK,nZ,oM,oW,pG,mV,rG,uM,rC,qO,tK,sG,x150,x151,x152,x153,rT,qU,oU,x157,x158,x159,x160,Vn,Vr,Us,Ua,Zb,Yt,y167,y168,Xc,Wq,Uj,Uu,Tf,Xb,Ue,Ur,Ul,lV,nX,mU,lY,mM,nE,oO,mJ,mQ,oF,qB,pV,qD,sZ,sU,tC,qV,rO,uH,rQ,qG,qW,oV,nK,pJ,nY,lZ,pI,nN,oC,nU,oG,mZ,lT,lS,oL,mI,nD,oI,pU,pQ,pY,rH,uE,rE,sW,uJ,rW,rR,sS,sD,sV,rX,rV,qN,rM,rA,tX,uQ,uK,qI,qZ,uC,uD,sN,tQ,uT,rY,uW,qC,tL,uU,uR,tJ,uB,uP,sH,mF,pM,mH,oJ,mK,pF,mP,nA,oK,mE,mO,oH,nH,nG,mR,pE,mG,nV,rZ,sO,rP,sF,rU],[]⟩ w'):Code.wp Tryz.prog cd (Exit.then K Q0) ⟨#[x0,x1,x2,x3,x4,x5,x6,x7,x8,x9,wC,yE,BA,AR,yI,.pointer (some ⟨J.bW,0,none⟩),IB,IK,IA,.pointer (some ⟨J.bO,0,none⟩),OC,MR,.pointer (some ⟨J.bH,q*16,none⟩),ME,x24,x25,OY,x27,x28,x29,JR,x31,x32,GU,x34,JO,GA,DX,x38,x39,DY,CP,CK,DV,DL,CF,KN,KT,KA,KG,KI,KS,KW,KL,JZ,FO,JY,KJ,JM,IC,IU,FQ,JA,GL,FN,GN,IW,FW,GX,JL,GZ,JN,FX,JQ,JI,IV,JE,GM,JD,GK,JW,IQ,FP,IY,JV,JP,IX,IR,GV,IZ,x90,x91,FZ,x93,JG,x95,x96,JS,x98,x99,pR,x101,x102,nJ,x104,oN,mY,lU,oD,lX,oP,nI,x112,x113,x114,x115,mD,qP,qE,uN,uV,uA,tH,sK,qY,rD,tZ,sI,qM,tO,qQ,qK,qJ,uI,uL,tN,tT,rJ,pK,nZ,oM,oW,pG,mV,rG,uM,rC,qO,tK,sG,x150,x151,x152,x153,rT,qU,oU,x157,x158,x159,x160,sM,qX,qR,pX,rF,uG,x167,x168,sJ,uF,tV,qL,tF,uO,tY,uS,qH,lV,nX,mU,lY,mM,nE,oO,mJ,mQ,oF,qB,pV,qD,sZ,sU,tC,qV,rO,uH,rQ,qG,qW,oV,nK,pJ,nY,lZ,pI,nN,oC,nU,oG,mZ,lT,lS,oL,mI,nD,oI,pU,pQ,pY,rH,uE,rE,sW,uJ,rW,rR,sS,sD,sV,rX,rV,qN,rM,rA,tX,uQ,uK,qI,qZ,uC,uD,sN,tQ,uT,rY,uW,qC,tL,uU,uR,tJ,uB,uP,sH,mF,pM,mH,oJ,mK,pF,mP,nA,oK,mE,mO,oH,nH,nG,mR,pE,mG,nV,rZ,sO,rP,sF,rU],[]⟩ w:=by
 subst hcd
 have HQp:=Lib.hid hQp;have HK:=Lib.hid hK
 clear hQp hK
 obtain⟨g,rfl,hgl,hgc⟩:=hM.ev_some hev
 obtain⟨⟨a6,k6,hv6,_⟩,⟨a7,k7,hv7,_⟩⟩:=hM.rest.lie k hev
 obtain⟨e,he⟩:∃ e,e=s.evs.getD k iO:=⟨_,rfl⟩
 obtain⟨v,hv⟩:∃ v,v=ers.getD k wT:=⟨_,rfl⟩
 rw [<-he,<-hv] at hgc
 rw [<-hv] at hv6 hv7
 have D8:=Ro (hM.grown (Gr.refl _).drew) e v ⟨_,_,_,hv6⟩ ⟨_,_,_,hv7⟩ hn hnow (q*16) (Nat.mul_comm _ _)
 have hfin:∀(u:World) (la:Option Addr) (lc:Nat) (kv:Value),Below w.heap.size w u->fK u (eX (eZ J q hl vs (.slice (some ⟨g,0,none⟩) s.evs.length ec)) G K9 L) (.slice la t.list.length lc) t.list->Lst u (eX (eZ J q hl vs (.slice (some ⟨g,0,none⟩) s.evs.length ec)) G K9 L) kv (yQ r q t.key)->_:=λu la lc kv hb h1 h2=>(hM.grown hb).done8 (k:=k) (g:=g) (la':=0) hev rfl h1 h2
 rw [<-he] at hfin
 obtain⟨v1,v2⟩:=v
 simp only at hv6 hv7
 obtain⟨n6,hn6⟩:∃ n6,n6=(s.evs.getD k iO).ans.list.length:=⟨_,rfl⟩
 obtain⟨n7,hn7⟩:∃ n7,n7=(s.evs.getD k iO).key.length:=⟨_,rfl⟩
 rw [<-hn6] at hv6;rw [<-hn7] at hv7
 subst hv6 hv7
 obtain⟨e0,e1,e2,e3,⟨e4,e5,el⟩,ek⟩:=e
 have D9:Calls Tryz.prog 43 #[.pointer (some ⟨J.bH,q*16,none⟩),.agg #[.int .i64 (e0:Int),.int .i64 (e1:Int),.int .i64 (e2:Int),.int .i64 (e3:Int),.int .i64 e4,.int .u64 (e5:Int),.slice a6 n6 k6,.slice a7 n7 k7]] w.drew λx w'=>∃ la lc ka kn kc,x=.returned (.agg #[.int .i64 (e0:Int),.int .i64 (e1:Int),.int .i64 (r.now:Int),.int .i64 (e3:Int),.int .i64 t.err,.int .u64 (t.val:Int),.slice la t.list.length lc,.slice ka kn kc])/\fK w' (eX (eZ J q hl vs (.slice (some ⟨g,0,none⟩) s.evs.length ec)) G K9 L) (.slice la t.list.length lc) t.list/\Lst w' (eX (eZ J q hl vs (.slice (some ⟨g,0,none⟩) s.evs.length ec)) G K9 L) (.slice ka kn kc) (yQ r q t.key)/\Below w.heap.size w w':=by
  refine Calls.mono D8 ?_
  rintro x w' ⟨la,lc,kv,rfl,h1,h2,h3⟩
  obtain⟨ka,kc,rfl,_⟩:=id h2
  exact⟨la,lc,ka,_,kc,rfl,h1,h2,XQ h3⟩
 have v0:w.cell? ⟨g,k*8,none⟩=some (.int .i64 (e0:Int)):=(hgc 0 (by omega)).1
 have vf0:w.frozen? ⟨g,k*8,none⟩=false:=(hgc 0 (by omega)).2
 have v1:w.cell? ⟨g,k*8+1,none⟩=some (.int .i64 (e1:Int)):=(hgc 1 (by omega)).1
 have vf1:w.frozen? ⟨g,k*8+1,none⟩=false:=(hgc 1 (by omega)).2
 have v2:w.cell? ⟨g,k*8+2,none⟩=some (.int .i64 (e2:Int)):=(hgc 2 (by omega)).1
 have vf2:w.frozen? ⟨g,k*8+2,none⟩=false:=(hgc 2 (by omega)).2
 have v3:w.cell? ⟨g,k*8+3,none⟩=some (.int .i64 (e3:Int)):=(hgc 3 (by omega)).1
 have vf3:w.frozen? ⟨g,k*8+3,none⟩=false:=(hgc 3 (by omega)).2
 have v4:w.cell? ⟨g,k*8+4,none⟩=some (.int .i64 e4):=(hgc 4 (by omega)).1
 have vf4:w.frozen? ⟨g,k*8+4,none⟩=false:=(hgc 4 (by omega)).2
 have v5:w.cell? ⟨g,k*8+5,none⟩=some (.int .u64 (e5:Int)):=(hgc 5 (by omega)).1
 have vf5:w.frozen? ⟨g,k*8+5,none⟩=false:=(hgc 5 (by omega)).2
 have v6:w.cell? ⟨g,k*8+6,none⟩=some (.slice a6 n6 k6):=(hgc 6 (by omega)).1
 have vf6:w.frozen? ⟨g,k*8+6,none⟩=false:=(hgc 6 (by omega)).2
 have v7:w.cell? ⟨g,k*8+7,none⟩=some (.slice a7 n7 k7):=(hgc 7 (by omega)).1
 have vf7:w.frozen? ⟨g,k*8+7,none⟩=false:=(hgc 7 (by omega)).2
 have xo:w.cell? ⟨J.bO,0,none⟩=some (.slice (some ⟨g,0,none⟩) s.evs.length ec):=by rw [aA hM.rest.out];rfl
 have xh:w.cell? ⟨J.bH,q*16+1,none⟩=some (.int .i64 (k:Int)):=by
  obtain⟨PV,LV,KV,ht,_⟩:=hM.tape.tape
  have hb:w.heap[J.bH]?=_:=ht.blk
  rw [aA hb,hk]
  have h1:=hM.rest.c1 q hM.hp hM.opn
  have hlen:=hM.rest.lens.1
  have hp:=hM.hp
  show((hl.take (16*q+2)++_).toArray)[q*16+1]?=_
  rw [List.getElem?_toArray,List.getElem?_append_left (by simp;omega),List.getElem?_take_of_lt (by omega),Nat.mul_comm q 16]
  exact h1
 have l1:(k:Int)<(s.evs.length:Int):=by omega
 have l2:¬ (k:Int)<0:=by omega
 have nC:bC≠g:=λe=>by
  obtain⟨_,_,h9⟩:=gG hM.rest.evs (b:=g) rfl
  exact dB hC h9 (by decide) e
 have hCl:=aC hC
 have lO9:J.bO<w.heap.size:=World.block_lt_of_cell? _ _ xo
 have lH9:J.bH<w.heap.size:=World.block_lt_of_cell? _ _ xh
 have HD:=Lib.hid D9;have HC:=Lib.hid hC;have HF:=Lib.hid hfin
 clear D8 D9 hC hM hgc hk he hv hn6 hn7 hfin
 conv=>arg 2;whnf
 refine bU ((λu=>u.cell? ⟨J.bO,0,none⟩=some (.slice (some ⟨g,0,none⟩) s.evs.length ec)/\u.cell? ⟨J.bH,q*16+1,none⟩=some (.int .i64 (k:Int))/\u.cell? ⟨g,k*8,none⟩=some (.int .i64 (e0:Int))/\u.cell? ⟨g,k*8+1,none⟩=some (.int .i64 (e1:Int))/\u.cell? ⟨g,k*8+2,none⟩=some (.int .i64 (e2:Int))/\u.cell? ⟨g,k*8+3,none⟩=some (.int .i64 (e3:Int))/\u.cell? ⟨g,k*8+4,none⟩=some (.int .i64 e4)/\u.cell? ⟨g,k*8+5,none⟩=some (.int .u64 (e5:Int))/\u.cell? ⟨g,k*8+6,none⟩=some (.slice a6 n6 k6)/\u.cell? ⟨g,k*8+7,none⟩=some (.slice a7 n7 k7))) 17 (by kernel_rfl) ?hS0L4 ?_
 case hS0L4=>
  (exact⟨xo,xh,v0,v1,v2,v3,v4,v5,v6,v7⟩)
 intro hS hcl
 refine wK (i:=0) 18 rfl hcl hS ?_ (hQ:=by exact λ_ _ _ h=>HQp.out _ _ _ _ h)
 clear hcl;intro hcl
 (simp only [Act.put,zs])
 refine wK (i:=1) 18 rfl hcl hS ?_ (hQ:=by exact λ_ _ _ h=>HQp.out _ _ _ _ h)
 clear hcl;intro hcl
 (simp only [Act.put,zs])
 refine wK (i:=2) 18 rfl hcl hS ?_ (hQ:=by exact λ_ _ _ h=>HQp.out _ _ _ _ h)
 clear hcl;intro hcl
 (simp only [Act.put,zs])
 refine wK (i:=3) 18 rfl hcl hS ?_ (hQ:=by exact λ_ _ _ h=>HQp.out _ _ _ _ h)
 clear hcl;intro hcl
 (simp only [Act.put,zs])
 refine wK (i:=4) 18 rfl hcl hS ?_ (hQ:=by exact λ_ _ _ h=>HQp.out _ _ _ _ h)
 clear hcl;intro hcl
 (simp only [Act.put,zs])
 refine wK (i:=5) 18 rfl hcl hS ?_ (hQ:=by exact λ_ _ _ h=>HQp.out _ _ _ _ h)
 clear hcl;intro hcl
 (simp only [Act.put,zs])
 refine wK (i:=6) 18 rfl hcl hS ?_ (hQ:=by exact λ_ _ _ h=>HQp.out _ _ _ _ h)
 clear hcl;intro hcl
 (simp only [Act.put,zs])
 refine wK (i:=7) 18 rfl hcl hS ?_ (hQ:=by exact λ_ _ _ h=>HQp.out _ _ _ _ h)
 clear hcl;intro hcl
 (simp only [Act.put,zs])
 refine wK (i:=8) 18 rfl hcl hS ?_ (hQ:=by exact λ_ _ _ h=>HQp.out _ _ _ _ h)
 clear hcl;intro hcl
 (simp only [Act.put,zs])
 refine wK (i:=9) 18 rfl hcl hS ?_ (hQ:=by exact λ_ _ _ h=>HQp.out _ _ _ _ h)
 clear hcl;intro hcl
 (simp only [Act.put,zs])
 refine wK (i:=10) 18 rfl hcl hS ?_ (hQ:=by exact λ_ _ _ h=>HQp.out _ _ _ _ h)
 clear hcl;intro hcl
 (simp only [Act.put,zs])
 refine wK (i:=11) 18 rfl hcl hS ?_ (hQ:=by exact λ_ _ _ h=>HQp.out _ _ _ _ h)
 clear hcl;intro hcl
 (simp only [Act.put,zs])
 refine wK (i:=12) 18 rfl hcl hS ?_ (hQ:=by exact λ_ _ _ h=>HQp.out _ _ _ _ h)
 clear hcl;intro hcl
 (simp only [Act.put,zs])
 refine wK (i:=13) 18 rfl hcl hS ?_ (hQ:=by exact λ_ _ _ h=>HQp.out _ _ _ _ h)
 clear hcl;intro hcl
 (simp only [Act.put,zs])
 refine wK (i:=14) 18 rfl hcl hS ?_ (hQ:=by exact λ_ _ _ h=>HQp.out _ _ _ _ h)
 clear hcl;intro hcl
 (simp only [Act.put,zs])
 refine aL (i:=15) (by kernel_rfl) rfl hcl (λK' hK=>?_)
 have HK:=Lib.hid hK;clear hK
 ((rw [if_pos (by kernel_rfl)]);(simp only [zq1,zq2,zq3]);go_big_op)
 (go_at_call 43;refine HD.out.mono ?_;rintro e9 w9 ⟨la,lc,ka,kn,kc,rfl,ZM,hk9,uZ⟩;have zo:=(uZ.cell (p:=⟨J.bO,0,none⟩) lO9).trans xo;have zh:=(uZ.cell (p:=⟨J.bH,q*16+1,none⟩) lH9).trans xh;have z0:=(uZ.cell (p:=⟨g,k*8,none⟩) hgl).trans v0;have zf0:=(uZ.frozen (p:=⟨g,k*8,none⟩) hgl).trans vf0;have z1:=(uZ.cell (p:=⟨g,k*8+1,none⟩) hgl).trans v1;have zf1:=(uZ.frozen (p:=⟨g,k*8+1,none⟩) hgl).trans vf1;have z2:=(uZ.cell (p:=⟨g,k*8+2,none⟩) hgl).trans v2;have zf2:=(uZ.frozen (p:=⟨g,k*8+2,none⟩) hgl).trans vf2;have z3:=(uZ.cell (p:=⟨g,k*8+3,none⟩) hgl).trans v3;have zf3:=(uZ.frozen (p:=⟨g,k*8+3,none⟩) hgl).trans vf3;have z4:=(uZ.cell (p:=⟨g,k*8+4,none⟩) hgl).trans v4;have zf4:=(uZ.frozen (p:=⟨g,k*8+4,none⟩) hgl).trans vf4;have z5:=(uZ.cell (p:=⟨g,k*8+5,none⟩) hgl).trans v5;have zf5:=(uZ.frozen (p:=⟨g,k*8+5,none⟩) hgl).trans vf5;have z6:=(uZ.cell (p:=⟨g,k*8+6,none⟩) hgl).trans v6;have zf6:=(uZ.frozen (p:=⟨g,k*8+6,none⟩) hgl).trans vf6;have z7:=(uZ.cell (p:=⟨g,k*8+7,none⟩) hgl).trans v7;have zf7:=(uZ.frozen (p:=⟨g,k*8+7,none⟩) hgl).trans vf7)
 refine HK.out _ _ ?hS15L4 (λhcl=>?_)
 case hS15L4=>
  intro _
  (exact⟨zo,zh,z0,z1,z2,z3,z4,z5,z6,z7⟩)
 clear HK
 refine aL (i:=16) (by kernel_rfl) rfl hcl (λK' hK=>?_)
 have HK:=Lib.hid hK;clear hK
 ((rw [if_pos (by kernel_rfl)]);(simp only [zq1,zq2,zq3]);go_big_op)
 refine HK.out _ _ ?hS16L4 (λhcl=>?_)
 case hS16L4=>
  intro _
  (exact⟨zo,zh,z0,z1,z2,z3,z4,z5,z6,z7⟩)
 clear HK
 refine aL (i:=17) (by kernel_rfl) rfl hcl (λK' hK=>?_)
 have HK:=Lib.hid hK;clear hK
 ((rw [if_pos (by kernel_rfl)]);(simp only [zq1,zq2,zq3]);go_big_op)
 refine HK.out _ _ (λh=>by cases h.symm.trans (by kernel_rfl:_=true)) (λ_=>bV (by kernel_rfl) ?_ _)
 clear HK
 (clear hS)
 obtain⟨ers',hZ⟩:=HF.out w9 la lc (.slice ka kn kc) uZ ZM hk9
 exact HK.out _ _ _ _ _ _ _ _ _ _ _ _ _ _ _ _ _ _ ⟨(aH nC _ _).trans ((aH nC _ _).trans ((aH nC _ _).trans ((aH nC _ _).trans ((aH nC _ _).trans ((aH nC _ _).trans ((aH nC _ _).trans ((aH nC _ _).trans ((uZ.block bC hCl).trans HC.out)))))))),ers',hZ⟩
set_option maxHeartbeats 4000000 in
theorem Lu {w2 w:World} {J:RJ} {s:dS} {hl:List Value} {vs:List HV} {G K9 L:Value} {ea:Option Addr} {ec:Nat} {ers:List (Value×Value)} {bC:Nat} {th kn:Int} {xa xb xc:Nat} {q k:Nat} {t:aJ} {r:RWD} {x0 x1 x2 x3 x4 x5 x6 x7 x8 x9 wC yE BA AR yI IB IK IA OC MR x24 x25 OY x27 x28 x29 JR x31 x32 GU x34 JO GA DX x38 x39 DY CP CK DV DL CF KN KT KA KG KI KS KW KL JZ FO JY KJ JM IC IU FQ JA GL FN GN IW FW GX JL GZ JN FX JQ JI IV JE GM JD GK JW IQ FP IY JV JP IX IR GV IZ x90 x91 FZ x93 JG x95 x96 JS x98 x99 pR x101 x102 nJ x104 oN mY lU oD lX oP nI x112 x113 x114 x115 mD qP qE uN uV uA tH sK qY rD tZ sI qM tO qQ qK qJ uI uL tN tT rJ pK nZ oM oW pG mV rG uM rC qO tK sG x150 x151 x152 x153 rT qU oU x157 x158 x159 x160 sM qX qR pX rF uG x167 x168 sJ uF tV qL tF uO tY uS qH lV nX mU lY mM nE oO mJ mQ oF qB pV qD sZ sU tC qV rO uH rQ qG qW oV nK pJ nY lZ pI nN oC nU oG mZ lT lS oL mI nD oI pU pQ pY rH uE rE sW uJ rW rR sS sD sV rX rV qN rM rA tX uQ uK qI qZ uC uD sN tQ uT rY uW qC tL uU uR tJ uB uP sH mF pM mH oJ mK pF mP nA oK mE mO oH nH nG mR pE mG nV rZ sO rP sF rU:Value} {K:Act->World->Prop} {Q0:Exit->Act->World->Prop} {cd:Code} (hcd:cd=logReg 33) (hQp:∀ c d v (a:Act) {w},Q0 (.panic c) (a.put d v) w->Q0 (.panic c) a w) (hM:gV w2 w J q s hl vs G K9 L ea ec ers t r) (hC:w.heap[bC]?=some (.cells (BB th 0 kn xa xb xc) 48 (0,0)))
  (hK:∀(Vx Tv Vf Sy Tm Zg Vz Vg Xt Sv Yc Ud:Value) (w':World),w'.heap[bC]?=some (.cells (BB th 0 kn xa xb xc) 48 (0,0))/\gV w2 w' J q { s with hands:=s.hands.set q { s.hands.getD q aY with own:=t.priv } } hl vs G K9 L ea ec ers t r->K ⟨#[x0,x1,x2,x3,x4,x5,x6,x7,x8,x9,wC,yE,BA,AR,yI,.pointer (some ⟨J.bW,0,none⟩),IB,IK,IA,.pointer (some ⟨J.bO,0,none⟩),OC,MR,.pointer (some ⟨J.bH,q*16,none⟩),.pointer (some ⟨bC,0,none⟩),x24,x25,OY,x27,x28,x29,JR,x31,x32,GU,x34,JO,GA,DX,x38,x39,DY,CP,CK,DV,DL,CF,KN,KT,KA,KG,KI,KS,KW,KL,JZ,FO,JY,KJ,JM,IC,IU,FQ,JA,GL,FN,GN,IW,FW,GX,JL,GZ,JN,FX,JQ,JI,IV,JE,GM,JD,GK,JW,IQ,FP,IY,JV,JP,IX,IR,GV,IZ,x90,x91,FZ,x93,JG,x95,x96,JS,x98,x99,pR,x101,x102,nJ,x104,oN,mY,lU,oD,lX,oP,nI,x112,x113,x114,x115,mD,qP,qE,uN,uV,uA,tH,sK,qY,rD,tZ,sI,qM,tO,qQ,qK,qJ,uI,uL,tN,tT,rJ,pK,nZ,oM,oW,pG,mV,rG,uM,rC,qO,tK,sG,x150,x151,x152,x153,rT,qU,oU,x157,x158,x159,x160,sM,qX,qR,pX,rF,uG,x167,x168,sJ,uF,tV,qL,tF,uO,tY,uS,qH,lV,nX,mU,lY,mM,nE,oO,mJ,mQ,oF,Vx,Tv,Vf,Sy,Tm,Zg,Vz,Vg,Xt,Sv,Yc,Ud,oV,nK,pJ,nY,lZ,pI,nN,oC,nU,oG,mZ,lT,lS,oL,mI,nD,oI,pU,pQ,pY,rH,uE,rE,sW,uJ,rW,rR,sS,sD,sV,rX,rV,qN,rM,rA,tX,uQ,uK,qI,qZ,uC,uD,sN,tQ,uT,rY,uW,qC,tL,uU,uR,tJ,uB,uP,sH,mF,pM,mH,oJ,mK,pF,mP,nA,oK,mE,mO,oH,nH,nG,mR,pE,mG,nV,rZ,sO,rP,sF,rU],[]⟩ w'):Code.wp Tryz.prog cd (Exit.then K Q0) ⟨#[x0,x1,x2,x3,x4,x5,x6,x7,x8,x9,wC,yE,BA,AR,yI,.pointer (some ⟨J.bW,0,none⟩),IB,IK,IA,.pointer (some ⟨J.bO,0,none⟩),OC,MR,.pointer (some ⟨J.bH,q*16,none⟩),.pointer (some ⟨bC,0,none⟩),x24,x25,OY,x27,x28,x29,JR,x31,x32,GU,x34,JO,GA,DX,x38,x39,DY,CP,CK,DV,DL,CF,KN,KT,KA,KG,KI,KS,KW,KL,JZ,FO,JY,KJ,JM,IC,IU,FQ,JA,GL,FN,GN,IW,FW,GX,JL,GZ,JN,FX,JQ,JI,IV,JE,GM,JD,GK,JW,IQ,FP,IY,JV,JP,IX,IR,GV,IZ,x90,x91,FZ,x93,JG,x95,x96,JS,x98,x99,pR,x101,x102,nJ,x104,oN,mY,lU,oD,lX,oP,nI,x112,x113,x114,x115,mD,qP,qE,uN,uV,uA,tH,sK,qY,rD,tZ,sI,qM,tO,qQ,qK,qJ,uI,uL,tN,tT,rJ,pK,nZ,oM,oW,pG,mV,rG,uM,rC,qO,tK,sG,x150,x151,x152,x153,rT,qU,oU,x157,x158,x159,x160,sM,qX,qR,pX,rF,uG,x167,x168,sJ,uF,tV,qL,tF,uO,tY,uS,qH,lV,nX,mU,lY,mM,nE,oO,mJ,mQ,oF,qB,pV,qD,sZ,sU,tC,qV,rO,uH,rQ,qG,qW,oV,nK,pJ,nY,lZ,pI,nN,oC,nU,oG,mZ,lT,lS,oL,mI,nD,oI,pU,pQ,pY,rH,uE,rE,sW,uJ,rW,rR,sS,sD,sV,rX,rV,qN,rM,rA,tX,uQ,uK,qI,qZ,uC,uD,sN,tQ,uT,rY,uW,qC,tL,uU,uR,tJ,uB,uP,sH,mF,pM,mH,oJ,mK,pF,mP,nA,oK,mE,mO,oH,nH,nG,mR,pE,mG,nV,rZ,sO,rP,sF,rU],[]⟩ w:=by
 subst hcd
 have HQp:=Lib.hid hQp;have HK:=Lib.hid hK
 clear hQp hK
 obtain⟨x0,x1,xM,PV,LV,KV,hH,hPV,_,_,hcl⟩:=hM.hand16
 obtain⟨OV,hO,_⟩:=hM.rest.own q hM.hp
 have hown:=hM.own PV t.priv hPV
 obtain⟨pa,pc,rfl,_⟩:=id hPV
 obtain⟨o,ho⟩:∃ o,o=(vs.getD q hv0).2.2:=⟨_,rfl⟩
 rw [<-ho] at hO hown
 have e15:w.cell? ⟨J.bH,q*16+15,none⟩=some (.slice (some ⟨o,0,none⟩) 1 1):=by
  obtain⟨PV9,LV9,KV9,ht,_⟩:=hM.tape.tape
  have hb:w.heap[J.bH]?=_:=ht.blk
  have hlen:=hM.rest.lens.1
  have hp:=hM.hp
  rw [aA hb,ho]
  show((hl.take (16*q+2)++(iH _ _ _ _++hl.drop (16*q+15))).toArray)[q*16+15]?=_
  rw [List.getElem?_toArray,List.getElem?_append_right (by simp;omega),List.getElem?_append_right (by simp [iH];omega)]
  have e1:(hl.take (16*q+2)).length=16*q+2:=by simp;omega
  rw [e1,show(iH (eZ J q hl vs (Value.slice ea s.evs.length ec)).tids.bW G K9 (t.raw PV9 LV9 KV9)).length=13 from rfl,List.getElem?_drop,show 16*q+15+(q*16+15 - (16*q+2) - 13)=16*q+15 by omega]
  exact hM.rest.c15 q hp
 have e10:w.cell? ⟨J.bH,q*16+10,none⟩=some (.slice pa t.priv.length pc):=by have h9:=hcl 8 _ rfl (by omega);rw [show 16*q+2+8=q*16+10 by omega] at h9;exact h9
 have y1:w.cell? ⟨bC,1,none⟩=some (.int .i64 0):=by rw [aA hC];rfl
 have eo:w.cell? ⟨o,0,none⟩=some OV:=by rw [aA hO];rfl
 have fo:w.frozen? ⟨o,0,none⟩=false:=aB hO _
 have nC:bC≠o:=dB hC hO (by decide)
 have HC:=Lib.hid hC;have HO:=Lib.hid hown
 clear hM hH hPV hcl hO hown hC ho
 conv=>arg 2;whnf
 refine bU ((λu=>u.cell? ⟨J.bH,q*16+15,none⟩=some (.slice (some ⟨o,0,none⟩) 1 1)/\u.cell? ⟨J.bH,q*16+10,none⟩=some (.slice pa t.priv.length pc)/\u.cell? ⟨bC,1,none⟩=some (.int .i64 0))) 12 (by kernel_rfl) ?hS0L5 ?_
 case hS0L5=>
  exact⟨e15,e10,y1⟩
 intro hS hcl
 refine wK (i:=0) 13 rfl hcl hS ?_ (hQ:=by exact λ_ _ _ h=>HQp.out _ _ _ _ h)
 clear hcl;intro hcl
 (simp only [Act.put,zs])
 refine wK (i:=1) 13 rfl hcl hS ?_ (hQ:=by exact λ_ _ _ h=>HQp.out _ _ _ _ h)
 clear hcl;intro hcl
 (simp only [Act.put,zs])
 refine wK (i:=2) 13 rfl hcl hS ?_ (hQ:=by exact λ_ _ _ h=>HQp.out _ _ _ _ h)
 clear hcl;intro hcl
 (simp only [Act.put,zs])
 refine wK (i:=3) 13 rfl hcl hS ?_ (hQ:=by exact λ_ _ _ h=>HQp.out _ _ _ _ h)
 clear hcl;intro hcl
 (simp only [Act.put,zs])
 refine wK (i:=4) 13 rfl hcl hS ?_ (hQ:=by exact λ_ _ _ h=>HQp.out _ _ _ _ h)
 clear hcl;intro hcl
 (simp only [Act.put,zs])
 refine wK (i:=5) 13 rfl hcl hS ?_ (hQ:=by exact λ_ _ _ h=>HQp.out _ _ _ _ h)
 clear hcl;intro hcl
 (simp only [Act.put,zs])
 refine wK (i:=6) 13 rfl hcl hS ?_ (hQ:=by exact λ_ _ _ h=>HQp.out _ _ _ _ h)
 clear hcl;intro hcl
 (simp only [Act.put,zs])
 refine wK (i:=7) 13 rfl hcl hS ?_ (hQ:=by exact λ_ _ _ h=>HQp.out _ _ _ _ h)
 clear hcl;intro hcl
 (simp only [Act.put,zs])
 refine wK (i:=8) 13 rfl hcl hS ?_ (hQ:=by exact λ_ _ _ h=>HQp.out _ _ _ _ h)
 clear hcl;intro hcl
 (simp only [Act.put,zs])
 refine wK (i:=9) 13 rfl hcl hS ?_ (hQ:=by exact λ_ _ _ h=>HQp.out _ _ _ _ h)
 clear hcl;intro hcl
 (simp only [Act.put,zs])
 refine wK (i:=10) 13 rfl hcl hS ?_ (hQ:=by exact λ_ _ _ h=>HQp.out _ _ _ _ h)
 clear hcl;intro hcl
 (simp only [Act.put,zs])
 refine wK (i:=11) 13 rfl hcl hS ?_ (hQ:=by exact λ_ _ _ h=>HQp.out _ _ _ _ h)
 clear hcl;intro hcl
 (simp only [Act.put,zs])
 refine aL (i:=12) (by kernel_rfl) rfl hcl (λK' hK=>?_)
 have HK:=Lib.hid hK;clear hK
 ((rw [if_pos (by kernel_rfl)]);(simp only [zq1,zq2,zq3]);go_big_op)
 refine HK.out _ _ (λh=>by cases h.symm.trans (by kernel_rfl:_=true)) (λ_=>bV (by kernel_rfl) ?_ _)
 clear HK
 (clear hS)
 exact HK.out _ _ _ _ _ _ _ _ _ _ _ _ _ ⟨(aH nC _ _).trans HC.out,HO.out.grown (Gr.refl _).drew⟩
end Go.Proofs.YtfkokppncipgnaaGreat
