/- Layer 10: what all operations of a play of a max register went by: in plain numbers. -/
import Derived.Test.YtlanekkbciffcaaF37
set_option maxRecDepth 100000
set_option linter.unusedVariables false
set_option linter.unusedSimpArgs false
set_option linter.unnecessarySimpa false
namespace Go.Proofs.Ytlanekkbciffcaa
open Go.RowKit
structure StepG (m q inv:Nat) (wd wd':WD) (s s':MxS) (done:Bool):Prop where
 word:WordOk m wd'
 old:∀ j,mxS wd.traces j≠0->mxS wd'.traces j=mxS wd.traces j
 new:∀ j,mxS wd'.traces j=mxS wd.traces j∨mxS wd'.traces j=(wd.now:Int)
 one:∀ j j2,1<=j->1<=j2->mxS wd'.traces j≠mxS wd.traces j->mxS wd'.traces j2≠mxS wd.traces j2->j=j2
 ok:GOk (mxS wd'.traces) wd.now m (gOf s' inv)
 hand:mHand (mxS wd'.traces) m s'
 set:∀ j,1<=j->mxS wd'.traces j≠mxS wd.traces j->(gOf s' inv).wr=true/\(gOf s' inv).up=true/\∃ d:Nat,(gOf s' inv).ts[d]?=some (j,true)/\∀(d':Nat) (t':Nat×Bool),d<d'->(gOf s' inv).ts[d']?=some t'->t'.2=true->mxS wd'.traces t'.1≠0
 keep:(gOf s inv).up=true->gOf s' inv=gOf s inv
 fin:done=true->(maxS m).answer s'=(⟨0,if (gOf s' inv).wr=true then 0 else (gOf s' inv).v,[]⟩,mxKey (mxS wd'.traces) (gOf s' inv).ts (gOf s' inv).last)/\((gOf s' inv).wr=false->(gOf s' inv).ts.length=m)/\((gOf s' inv).wr=true->(gOf s' inv).up=true/\RSet (mxS wd'.traces) (gOf s' inv).ts 0)
 wr:(gOf s' inv).wr=(gOf s inv).wr
 v:(gOf s inv).wr=true->(gOf s' inv).v=(gOf s inv).v
 now:wd'.now=wd.now
 iv:wd'.inv=wd.inv
 mks:wd'.marks=wd.marks
 cf:wd'.mem.c.fault=wd.mem.c.fault
 ca:wd'.mem.c.all=wd.mem.c.all+1
theorem wrGo_v (b:Nat) (wd:WD) (x:WrD):(wrGo b wd x).2.v=x.v:=by
 unfold wrGo
 split
 ·rfl
 ·split
  ·rfl
  ·unfold WrD.down;split<;>rfl
theorem wrStep_v (b p:Nat) (wd:WD) (x:WrD):(wrStep b p wd x).2.1.v=x.v:=by
 unfold wrStep
 split
 ·exact wrGo_v b wd x
 ·exact wrGo_v b wd x
theorem wrGo_cnt {m:Nat} {wd:WD} {x:WrD} (hw:WordOk m wd) (hp:WrOk m x) (hl:if x.up=true then 1<=x.nx else 0<x.y.left):(wrGo 0 wd x).1.mem.c.fault=wd.mem.c.fault/\(wrGo 0 wd x).1.mem.c.all=wd.mem.c.all+1:=by
 have hwl:=hw.1
 unfold wrGo
 split
 ·rename_i hup
  rw [if_pos hup] at hl
  have hnx:=hp.up hup
  have hx:x.y.turns[x.nx - 1]?=some x.y.turns[x.nx - 1]:=List.getElem?_eq_getElem (by omega)
  have hk:wrK x=(x.y.turns[x.nx - 1]'(by omega)).1:=by unfold wrK;rw [List.getD_eq_getElem?_getD,hx];rfl
  obtain⟨tk1,tk2⟩:=hp.way.tk _ (List.mem_of_getElem? hx)
  rw [<-hk] at tk1 tk2
  exact(memW (m:=wd.mem) (a:=0+wrK x - 1) 1 (by omega)).2
 ·rename_i hup
  rw [if_neg hup] at hl
  have hk1:=hp.way.k1
  have hk2:=hp.way.klt hl
  have h9:=memR (m:=wd.mem) (a:=0+x.y.k - 1) (by omega)
  split
  ·exact h9.2.2
  ·exact h9.2.2
theorem step_g {m q inv:Nat} {now:Int} {wd:WD} {s:MxS} (hpos:wd.now≠0) (hw:WordOk m wd) (hS0:∀ a x,x∈wd.traces a->0<=x/\x<=(wd.now:Int)) (hS:∀ k,mxS wd.traces k<=now) (hn:now<(wd.now:Int)) (hp:mxHand m wd.now s) (hu:mxUp s) (hh:mHand (mxS wd.traces) m s) (hg:GOk (mxS wd.traces) wd.now m (gOf s inv))
  (hlf:(∃ t,t∈(gOf s inv).ts/\t.2=false)->(gOf s inv).last<=now) (hiv:wd.inv.getD q 0=inv):StepG m q inv wd ((maxS m).step () wd q s).2.1 s ((maxS m).step () wd q s).2.2.1 ((maxS m).step () wd q s).2.2.2:=by
 match s,hp with
 | .rd x,⟨b1,b2,b3⟩=>
  have e:(maxS m).step () wd q (.rd x)=((),(rdStep 0 q wd x).1,.rd (rdStep 0 q wd x).2.1,(rdStep 0 q wd x).2.2):=rfl
  rw [e]
  obtain⟨g1,g2,g3,g4⟩:=rd_g (q:=q) hpos hw hS hn b2 b1 hh hg
  have hm:=rdStep_mem 0 q wd x
  have htr:(rdStep 0 q wd x).1.traces=wd.traces:=by rw [hm];rfl
  refine⟨?_,λj _=>by rw [htr],λj=>.inl (by rw [htr]),λj j2 _ _ h=>absurd (by rw [htr]) h,by rw [htr];exact g1,g2,λj _ h=>absurd (by rw [htr]) h,(λh=>by cases h),λhd=>?_,rfl,(λh=>by cases h),by show(rdStep 0 q wd x).1.now=_;rw [hm];rfl,by show(rdStep 0 q wd x).1.inv=_;rw [hm];rfl,by show(rdStep 0 q wd x).1.marks=_;rw [hm];rfl,by show(rdStep 0 q wd x).1.mem.c.fault=_;rw [hm];exact(memR (a:=0+x.y.k - 1) (by have:=hw.1;have:=b2.way.k1;have:=b2.way.klt b1;omega)).2.2.1,by show(rdStep 0 q wd x).1.mem.c.all=_;rw [hm];exact(memR (a:=0+x.y.k - 1) (by have:=hw.1;have:=b2.way.k1;have:=b2.way.klt b1;omega)).2.2.2⟩
  ·show WordOk m (rdStep 0 q wd x).1
   rw [hm]
   refine⟨?_,λk h1 h2=>?_⟩
   ·show(memRead wd.mem _).1.ws.length=_;rw [memRead_ws];exact hw.1
   ·show(memRead wd.mem _).1.ws.getD _ _=_;rw [memRead_ws];exact hw.2 k h1 h2
  ·obtain⟨f1,f2⟩:=g3 hd
   refine⟨?_,λ_=>f1,(λh=>by cases h)⟩
   have e2:(maxS m).answer (.rd (rdStep 0 q wd x).2.1)=(⟨0,(rdStep 0 q wd x).2.1.val,[]⟩,(rdStep 0 q wd x).2.1.ky):=rfl
   have e3:(gOf (.rd (rdStep 0 q wd x).2.1) inv).last=(wd.now:Int):=by
    show(if (rdStep 0 q wd x).2.1.y.last=0 then _ else _)=_
    rw [g4,if_neg hpos]
   rw [e2,e3,f2,htr]
   rfl
 | .wr x,⟨b1,b2,b3⟩=>
  have e:(maxS m).step () wd q (.wr x)=((),(wrStep 0 q wd x).1,.wr (wrStep 0 q wd x).2.1,(wrStep 0 q wd x).2.2):=rfl
  rw [e]
  obtain⟨h,hk⟩:=wr_g (q:=q) hpos hw hS hn b2 b1 hu hh hg hlf hiv
  obtain⟨t1,t2,t3,t4⟩:=wrGo_tr (b:=0) (x:=x) hS0
  have hfst:(wrStep 0 q wd x).1=(wrGo 0 wd x).1:=wrStep_fst _ _ _ _
  have hcnt:=wrGo_cnt hw b2 b1
  refine⟨h.word,h.old,h.new,h.one,h.ok,h.hand,λj h1 h2=>⟨rfl,h.set j h1 h2⟩,h.keep,λhd=>?_,rfl,λ_=>wrStep_v _ _ _ _,by show(wrStep 0 q wd x).1.now=_;rw [hfst];exact t3,by show(wrStep 0 q wd x).1.inv=_;rw [hfst];exact t2,by show(wrStep 0 q wd x).1.marks=_;rw [hfst];exact t4,by show(wrStep 0 q wd x).1.mem.c.fault=_;rw [hfst];exact hcnt.1,by show(wrStep 0 q wd x).1.mem.c.all=_;rw [hfst];exact hcnt.2⟩
  obtain⟨f1,f2⟩:=h.fin hd
  refine⟨?_,(λh=>by cases h),λ_=>⟨f1,?_⟩⟩
  ·have e2:(maxS m).answer (.wr (wrStep 0 q wd x).2.1)=(⟨0,0,[]⟩,(wrStep 0 q wd x).2.1.ky):=rfl
   rw [e2,hk hd]
   rfl
  ·have:=h.hand.2.2 f1
   rw [f2] at this;exact this
structure MxH (m:Nat) (calls:List CallD) (st:PlayD (maxS m)) (H:Nat->Option GOp):Prop where
 word:WordOk m st.wd
 inj:∀ k k',1<=k->1<=k'->mxS st.wd.traces k≠0->mxS st.wd.traces k=mxS st.wd.traces k'->k=k'
 marks:st.wd.marks=List.replicate 16 []
 cf:st.wd.mem.c.fault=0
 ca:st.wd.mem.c.all<=st.wd.now
 tk:∀ i j,i<st.evs.length->j<st.evs.length->i≠j->(evAt st.evs i).resp≠0->(evAt st.evs j).inv≠(evAt st.evs i).resp
 opn:∀ j,j<st.evs.length->(evAt st.evs j).resp=0->(evAt st.evs j).ans=ans0
 ivl:st.wd.inv.length=16
 ok:∀ j g,H j=some g->j<st.evs.length/\GOk (mxS st.wd.traces) st.wd.now m g/\g.inv=((evAt st.evs j).inv:Int)/\objOf calls (evAt st.evs j)=0/\kindOf calls (evAt st.evs j)=(if g.wr=true then 0 else 1)/\(g.wr=true->g.v=(calls.getD (evAt st.evs j).call d0).a)
 hand:∀ p s k,st.hands.getD p (none,0)=(some s,k)->H k=some (gOf s (evAt st.evs k).inv)/\mHand (mxS st.wd.traces) m s/\st.wd.inv.getD p 0=(evAt st.evs k).inv
 fin:∀ j g,H j=some g->(evAt st.evs j).resp≠0->(evAt st.evs j).ans=⟨0,if g.wr=true then 0 else g.v,[]⟩/\(evAt st.evs j).key=mxKey (mxS st.wd.traces) g.ts g.last/\(g.wr=false->g.ts.length=m)/\(g.wr=true->g.up=true/\RSet (mxS st.wd.traces) g.ts 0)
 kr:∀ j g,H j=some g->(evAt st.evs j).resp≠0->(evAt st.evs j).key.headD 0<=2*((evAt st.evs j).resp:Int)
 none_:∀ j,j<st.evs.length->H j=none->(evAt st.evs j).resp≠0/\(evAt st.evs j).key=[2*((evAt st.evs j).resp:Int)]/\∃ er,(∀ wd p,startD (maxS m) () wd p (calls.getD (evAt st.evs j).call d0)=.refuse er)/\(evAt st.evs j).ans=⟨er,0,[]⟩
 set:∀ k,1<=k->mxS st.wd.traces k≠0->∃(j:Nat) (g:GOp) (d:Nat),H j=some g/\g.wr=true/\g.up=true/\g.ts[d]?=some (k,true)/\g.last<=mxS st.wd.traces k/\∀(d':Nat) (t':Nat×Bool),d<d'->g.ts[d']?=some t'->t'.2=true->mxS st.wd.traces t'.1≠0/\mxS st.wd.traces t'.1<=mxS st.wd.traces k
theorem mxS_of {m:Nat} {st:PlayD (maxS m)} (h:MxBase m st) (k:Nat):0<=mxS st.wd.traces k/\mxS st.wd.traces k<=(st.wd.now:Int):=by
 unfold mxS mxSet
 cases hx:st.wd.traces ((0+k - 1:Nat):Int) with
 | nil=>exact⟨Int.le_refl _,Int.natCast_nonneg _⟩
 | cons a l=>exact h.tr _ a (by rw [hx];exact List.mem_cons_self ..)
theorem key_stable {S S':Nat->Int} {last now:Int} (hl:last<=now) (hS:∀ k,S k<=now) (ho:∀ k,S k≠0->S' k=S k) (hn:∀ k,S' k=S k∨now<S' k):∀ {ts:List (Nat×Bool)},(∀ t,t∈ts->t.2=true->S t.1≠0)->mxKey S' ts last=mxKey S ts last
 | [],_=>rfl
 | (k,b)::ts,h=>by
  have ih:=key_stable hl hS ho hn (ts:=ts) (λt ht=>h t (List.mem_cons_of_mem _ ht))
  have e1:mxKey S' ((k,b)::ts) last=mxKeyStep S' (k,b) (mxKey S' ts last):=rfl
  have e2:mxKey S ((k,b)::ts) last=mxKeyStep S (k,b) (mxKey S ts last):=rfl
  rw [e1,e2,ih]
  by_cases h0:S k=0
  ·rw [step_none (S:=S) (t:=(k,b)) h0]
   cases b with
   | true=>exact absurd h0 (h (k,true) (List.mem_cons_self ..) rfl)
   | false=>
    rcases hn k with h1|h1
    ·rw [step_none (S:=S') (t:=(k,false)) (by rw [<-h0];exact h1)]
    ·by_cases h2:S' k=0
     ·rw [step_none (S:=S') (t:=(k,false)) h2]
     ·rw [step_left h2]
      unfold fL
      rw [if_neg]
      have:=key_le (S:=S) (s:=now) hl (ts:=ts) (λt _ _=>hS t.1)
      omega
  ·have e:S' k=S k:=ho k h0
   unfold mxKeyStep
   rw [e]
theorem mx_gpre {m:Nat} (hm:0<m) {calls:List CallD} {st:PlayD (maxS m)} {H:Nat->Option GOp} {q i k:Nat} {s:MxS} {evs0:List EvD} {wd0:WD} (hq:q<16) (hb:MxBase m st) (h:MxH m calls st H) (hf:From calls st q i k s evs0 wd0) :
  GOk (mxS wd0.traces) wd0.now m (gOf s (evAt evs0 k).inv)/\mHand (mxS wd0.traces) m s/\wd0.inv.getD q 0=(evAt evs0 k).inv/\((∃ t,t∈(gOf s (evAt evs0 k).inv).ts/\t.2=false)->(gOf s (evAt evs0 k).inv).last<=(st.wd.now:Int))/\objOf calls (evAt evs0 k)=0/\kindOf calls (evAt evs0 k)=(if (gOf s (evAt evs0 k).inv).wr=true then 0 else 1)/\
  ((gOf s (evAt evs0 k).inv).wr=true->(gOf s (evAt evs0 k).inv).v=(calls.getD (evAt evs0 k).call d0).a)/\(∀ g,H k=some g->g=gOf s (evAt evs0 k).inv):=by
 have hS:=mxS_of hb
 rcases hf.or with⟨hh,hk,hc,hr,he,hw⟩|⟨hh,hs,hk,he,hw⟩
 ·obtain⟨a1,a2,a3⟩:=h.hand q s k hh
  obtain⟨b1,b2,b3,b4,b5,b6⟩:=h.ok k _ a1
  rw [he,hw]
  refine⟨?_,a2,a3,λ_=>b2.last,b4,b5,b6,λg hg=>by rw [a1] at hg;cases hg;rfl⟩
  exact b2.mono (λj=>(hS j).2) (λ_ _=>rfl) (λ_=>.inl rfl) (by show(st.wd.now:Int)<=((st.wd.now+1:Nat):Int);omega)
 ·have ei:evAt evs0 k=newEv i (st.wd.tick.begin q):=by rw [he,hk,evAt_last]
  have hiv:(newEv i (st.wd.tick.begin q)).inv=st.wd.now+1:=rfl
  have hnone:∀ g,H k=some g->g=gOf s (evAt evs0 k).inv:=λg hg=>by have:=(h.ok k g hg).1;omega
  rw [ei] at hnone ⊢
  have hi0:wd0.inv.getD q 0=(newEv i (st.wd.tick.begin q)).inv:=by
   rw [hw]
   show(st.wd.inv.set q (st.wd.now+1)).getD q 0=st.wd.now+1
   exact getD_set_eq (by rw [h.ivl];exact hq)
  have hobj:(calls.getD i d0).obj=0:=by
   by_cases ho:(calls.getD i d0).obj=0
   ·exact ho
   ·unfold startD at hs;rw [if_neg ho] at hs;cases hs
  have hnow:(wd0.now:Int)=((newEv i (st.wd.tick.begin q)).inv:Int):=by rw [hw];rfl
  unfold startD at hs
  rw [if_pos hobj] at hs
  have hs':(if (calls.getD i d0).kind=1 then Mc.run (MxS.rd ⟨way0 m,0,[]⟩) else if (calls.getD i d0).kind≠0 then .refuse 9 else if (calls.getD i d0).a / 2^m≠0 then .refuse 10 else .run (.wr (newWr m (calls.getD i d0).a)))=Mc.run s:=hs
  split at hs'
  ·rename_i hk1
   cases hs'
   refine⟨⟨Nat.zero_le _,WayBits.nil _ _,Nat.one_pos,Int.le_refl _,?_,(λ⟨t,ht,_⟩=>by cases ht),(λt ht=>by cases ht),λ_ d t ht=>?_,(λh=>by cases h)⟩,rfl,hi0,(λ⟨t,ht,_⟩=>by cases ht),hobj,hk1,(λh=>by cases h),hnone⟩
   ·rw [hnow];exact Int.le_refl _
   ·have ht':([]:List (Nat×Bool))[d]?=some t:=ht
    simp at ht'
  ·split at hs'
   ·cases hs'
   ·rename_i hk1 hk0
    split at hs'
    ·cases hs'
    ·rename_i h9
     cases hs'
     obtain⟨v,hv⟩:∃ v,v=(calls.getD i d0).a:=⟨_,rfl⟩
     rw [<-hv] at h9 hnone ⊢
     have hlt:v<2^m:=by
      rcases Nat.lt_or_ge v (2^m) with h8|h8
      ·exact h8
      ·have:=Nat.div_pos h8 (Nat.two_pow_pos m);omega
     have hw0:WayIs m v (way0 m):=⟨rfl,by simp [way0],WayBits.nil _ _⟩
     obtain⟨d1,d2⟩:=WayIs.downN m hw0 rfl
     obtain⟨l,l1,l2,_⟩:=downN_turns v m (way0 m)
     have hdl:=downN_last v m (way0 m)
     obtain⟨y2,hy2⟩:∃ y2,y2=downN v m (way0 m):=⟨_,rfl⟩
     rw [<-hy2] at d1 d2 l1 hdl
     obtain⟨z,hz⟩:∃ z,z=newWr m v:=⟨_,rfl⟩
     rw [<-hz] at hnone ⊢
     have z6:z.y=y2:=by rw [hz,hy2];unfold newWr WrD.down;split<;>rfl
     have z3:z.v=v:=by rw [hz];unfold newWr WrD.down;split<;>rfl
     have z4:z.up=true->y2.left=0:=by
      rw [hz,hy2];unfold newWr WrD.down
      split
      ·rename_i h9;exact λ_=>h9
      ·intro e;cases e
     have z7:z.up=true->RSet (mxS wd0.traces) z.y.turns z.nx:=by
      rw [hz];unfold newWr WrD.down
      split
      ·exact λ_=>(RSet.end_ _ _).skip
      ·intro e;cases e
     have z8:z.up=false->y2.left≠0:=by
      rw [hz,hy2];unfold newWr WrD.down
      split
      ·exact λe=>by cases e
      ·rename_i h9;exact λ_=>h9
     have hts:z.y.turns=l:=by rw [z6,l1];rfl
     have hnl:∀ t,t∈(gOf (.wr z) (newEv i (st.wd.tick.begin q)).inv).ts->t.2=false->False:=λt ht hf=>by
      have ht':t∈z.y.turns:=ht
      rw [hts] at ht';rw [l2 t ht'] at hf;cases hf
     have hla:(gOf (.wr z) (newEv i (st.wd.tick.begin q)).inv).last=((newEv i (st.wd.tick.begin q)).inv:Int):=by
      show(if z.y.last=0 then _ else _)=_
      rw [z6,hdl];exact if_pos rfl
     have hlen:=d1.len
     refine⟨⟨?_,?_,?_,?_,?_,λ⟨t,ht,hf⟩=>(hnl t ht hf).elim,λt ht hf=>(hnl t ht hf).elim,(λh=>by cases h),λhu hl=>?_⟩,⟨?_,λhu=>?_,z7⟩,hi0,λ⟨t,ht,hf⟩=>(hnl t ht hf).elim,hobj,?_,λ_=>?_,hnone⟩
     ·show z.y.turns.length<=m;rw [z6];omega
     ·show WayBits m z.v z.y.turns;rw [z6,z3];exact d1.bits
     ·show z.v<2^m;rw [z3];exact hlt
     ·rw [hla];exact Int.le_refl _
     ·rw [hla,hnow];exact Int.le_refl _
     ·have h1:z.y.turns.length<m:=hl
      have:=z4 hu
      rw [z6] at h1;omega
     ·rw [z6,z3];exact d1
     ·have:=z8 hu
      rw [z6,z3]
      rcases d2 with h9|h9
      ·exact absurd h9 this
      ·exact h9
     ·show(calls.getD i d0).kind=_
      have:(calls.getD i d0).kind=0:=by simpa using hk0
      rw [this];rfl
     ·show z.v=(calls.getD i d0).a
      rw [z3,hv]
end Go.Proofs.Ytlanekkbciffcaa
