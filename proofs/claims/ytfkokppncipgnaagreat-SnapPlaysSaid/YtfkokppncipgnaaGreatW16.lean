/- A reference's play under way: a hand's tape is taken up, and laid down. -/
import Derived.Test.YtfkokppncipgnaaGreatW15
set_option maxRecDepth 100000
set_option linter.unusedVariables false
set_option linter.unusedSimpArgs false
set_option linter.unnecessarySimpa false
namespace Go.Proofs.YtfkokppncipgnaaGreat
section
open Go.RowKit
variable {w0 w w':World} {J:RJ} {s:dS} {hl:List Value} {vs:List HV} {L:Value} {ea:Option Addr} {ec:Nat} {ers:List (Value×Value)} {Mut Mut':Nat->Prop} {P:Nat->Prop} {p:Nat}
theorem Ak {hl X:List Value} {a:Nat} (hX:a+X.length<=hl.length) (h:∀ j,j<X.length->hl[a+j]?=X[j]?):hl=hl.take a++(X++hl.drop (a+X.length)):=by
 apply List.ext_getElem?
 intro i
 have hta:(hl.take a).length=a:=by simp;omega
 by_cases h1:i<a
 ·rw [List.getElem?_append_left (by omega),List.getElem?_take_of_lt h1]
 ·rw [List.getElem?_append_right (by omega),hta]
  by_cases h2:i - a<X.length
  ·rw [List.getElem?_append_left h2,<-h _ h2];congr 1;omega
  ·rw [List.getElem?_append_right (by omega),List.getElem?_drop];congr 1;omega
theorem Ab {hl X:List Value} {a:Nat} (hX:a+X.length<=hl.length) (i:Nat):(hl.take a++(X++hl.drop (a+X.length)))[i]?=if a<=i/\i<a+X.length then X[i - a]? else hl[i]?:=by
 have hta:(hl.take a).length=a:=by simp;omega
 by_cases h1:i<a
 ·rw [if_neg (by omega),List.getElem?_append_left (by omega),List.getElem?_take_of_lt h1]
 ·rw [List.getElem?_append_right (by omega),hta]
  by_cases h2:i - a<X.length
  ·rw [if_pos (by omega),List.getElem?_append_left h2]
  ·rw [if_neg (by omega),List.getElem?_append_right (by omega),List.getElem?_drop];congr 1;omega
def AP (w:World) (b:Nat):Option TypeId:=match w.heap[b]? with|some (.cells _ T _)=>some T|_=>none
theorem jC {w:World} {b:Nat} {c:Array Value} {T:TypeId} {fz:Nat×Nat} (h:w.heap[b]?=some (.cells c T fz)):AP w b=some T:=by unfold AP;rw [h]
theorem ND.rset {EV:Value} (h:ND w J vs L EV P) (hp:p<J.nt) (hP:P p) {b:Nat} (hb:wP (eZ J p hl vs EV) (vs.getD p hv0).1 (vs.getD p hv0).2.1 L b) :
  (AP w b=some 100∨AP w b=some 93∨AP w b=some 212∨AP w b=some 24)∨(AP w b=some 46/\(J.bw=some b∨(vs.getD p hv0).1.ownBlock=some b))∨(AP w b=some 3/\(vs.getD p hv0).2.1.ownBlock=some b):=by
 rcases hb with(e|e|e|e|e|e)|e|e
 ·obtain⟨c,h1⟩:=h.H;rw [show b=J.bH from e];exact .inl (.inl (jC h1))
 ·obtain⟨c,h1⟩:=h.W;rw [show b=J.bW from e];exact .inl (.inr (.inl (jC h1)))
 ·obtain⟨c,fz,h1⟩:=h.U b e;exact .inr (.inl ⟨jC h1,.inl e⟩)
 ·obtain⟨c,fz,h1⟩:=h.G p hp hP b e;exact .inr (.inl ⟨jC h1,.inr e⟩)
 ·obtain⟨c,fz,h1⟩:=h.K p hp hP b e;exact .inr (.inr ⟨jC h1,e⟩)
 ·obtain⟨c,fz,h1⟩:=h.L b e;exact .inl (.inr (.inr (.inl (jC h1))))
 ·obtain⟨c,h1⟩:=h.M;rw [show b=J.bM from e];exact .inl (.inr (.inr (.inr (jC h1))))
 ·obtain⟨c,h1⟩:=h.T;rw [show b=J.bT from e];exact .inl (.inr (.inr (.inr (jC h1))))
theorem ND.rmx {EV:Value} (h:ND w J vs L EV P) (hP:∀ q,q≠p->P q) {b:Nat} (hb:RMx J p vs EV b) :
  ((AP w b=some 4∨AP w b=some 32∨AP w b=some 52∨AP w b=some 28)∨∃ q,q<J.nt/\q≠p/\((AP w b=some 46/\(vs.getD q hv0).1.ownBlock=some b)∨(AP w b=some 3/\(vs.getD q hv0).2.1.ownBlock=some b)))∨J.old b:=by
 rcases hb with e|e|e|⟨q,hq,e|⟨hqp,e|e⟩⟩
 ·obtain⟨c,h1⟩:=h.F;rw [e];exact .inl (.inl (.inl (jC h1)))
 ·rcases e with e|e
  ·obtain⟨c,h1⟩:=h.O;rw [e];exact .inl (.inl (.inr (.inl (jC h1))))
  ·exact .inr e
 ·obtain⟨c,fz,h1⟩:=h.E b e;exact .inl (.inl (.inr (.inr (.inl (jC h1)))))
 ·obtain⟨c,h1⟩:=h.o q hq;rw [<-e];exact .inl (.inl (.inr (.inr (.inr (jC h1)))))
 ·obtain⟨c,fz,h1⟩:=h.G q hq (hP q hqp) b e;exact .inl (.inr ⟨q,hq,hqp,.inl ⟨jC h1,e⟩⟩)
 ·obtain⟨c,fz,h1⟩:=h.K q hq (hP q hqp) b e;exact .inl (.inr ⟨q,hq,hqp,.inr ⟨jC h1,e⟩⟩)
theorem fM.ge (h:fM w0 w J s hl vs L ea ec ers) (hp:p<J.nt):∀ b,wP (eZ J p hl vs (.slice ea s.evs.length ec)) (vs.getD p hv0).1 (vs.getD p hv0).2.1 L b->w0.heap.size<=b:=λb hb=>by
 obtain⟨g1,g2,g3,g4,g5,g6,g7,g8⟩:=h.rest.ge
 rcases hb with(e|e|e|e|e|e)|e|e
 ·rw [show b=J.bH from e];exact g3
 ·rw [show b=J.bW from e];exact g4
 ·exact g7 b e
 ·exact((g8 p hp).2 trivial).1 b e
 ·exact((g8 p hp).2 trivial).2 b e
 ·exact h.logge b e
 ·rw [show b=J.bM from e];exact g5
 ·rw [show b=J.bT from e];exact g6
theorem fM.dis (h:fM w0 w J s hl vs L ea ec ers) (hp:p<J.nt):∀ b,RMx J p vs (.slice ea s.evs.length ec) b->¬ wP (eZ J p hl vs (.slice ea s.evs.length ec)) (vs.getD p hv0).1 (vs.getD p hv0).2.1 L b:=λb hm hs=>by
 have h1:=h.ty.rset hp trivial hs
 have h2:=h.ty.rmx (λ_ _=>trivial) hm
 rcases h2 with h2|h2
 rotate_left
 ·have:=h.ge hp b hs;have:=h.rest.res b h2;omega
 rcases h2 with h2|⟨q,hq,hqp,⟨t2,g2⟩|⟨t2,g2⟩⟩
 ·rcases h1 with h1|⟨t1,_⟩|⟨t1,_⟩
  ·rcases h1 with h1|h1|h1|h1<;>rcases h2 with h2|h2|h2|h2<;>(rw [h1] at h2;exact absurd h2 (by decide))
  ·rcases h2 with h2|h2|h2|h2<;>(rw [t1] at h2;exact absurd h2 (by decide))
  ·rcases h2 with h2|h2|h2|h2<;>(rw [t1] at h2;exact absurd h2 (by decide))
 ·rcases h1 with h1|⟨t1,g1|g1⟩|⟨t1,_⟩
  ·rcases h1 with h1|h1|h1|h1<;>(rw [h1] at t2;exact absurd t2 (by decide))
  ·exact h.rest.wg b g1 q hq trivial g2
  ·exact h.rest.gg p q hp hq trivial trivial (Ne.symm hqp) b g1 g2
  ·rw [t1] at t2;exact absurd t2 (by decide)
 ·rcases h1 with h1|⟨t1,_⟩|⟨t1,g1⟩
  ·rcases h1 with h1|h1|h1|h1<;>(rw [h1] at t2;exact absurd t2 (by decide))
  ·rw [t1] at t2;exact absurd t2 (by decide)
  ·exact h.rest.kk p q hp hq trivial trivial (Ne.symm hqp) b g1 g2
theorem Ls (J:RJ) (p:Nat) (hl:List Value) (vs:List HV) (EV:Value):(eZ J p hl vs EV).tids.T≠46/\(eZ J p hl vs EV).tids.T≠3/\(eZ J p hl vs EV).tids.T≠212/\(eZ J p hl vs EV).tids.T≠93:=by
 show 100≠_/\100≠_/\100≠_/\100≠_
 decide
theorem fM.tapeAt (h:fM w0 w J s hl vs L ea ec ers) (hp:p<J.nt) (ho:(s.hands.getD p aY).opn=true) (hN:(s.hands.getD p aY).got.length<=1000000) :
  ∃ a f ha PV er vl LV KV pl ll kl,dE w (eZ J p hl vs (.slice ea s.evs.length ec)).tids (vs.getD p hv0).1 (vs.getD p hv0).2.1 L ⟨(p:Int),((s.hands.getD p aY).inv:Int),(s.hands.getD p aY).got,(s.hands.getD p aY).ticks,a,f,ha,PV,er,vl,LV,KV⟩ s.rw.mem s.rw.now/\fK w (iB J vs L (.slice ea s.evs.length ec)) PV pl/\KR w (iB J vs L (.slice ea s.evs.length ec)) LV ll/\Lst w (iB J vs L (.slice ea s.evs.length ec)) KV kl/\a<=(s.hands.getD p aY).got.length:=by
 obtain⟨⟨a,f,ha,PV,er,vl,LV,KV,pl,ll,kl,h1,h6,h5,h7,h8⟩,h2,h3,h4⟩:=(h.rest.hand p hp trivial).opn ho
 refine⟨a,f,ha,PV,er,vl,LV,KV,pl,ll,kl,⟨?_,h.mem,h2,h3,h.log,Ls J p hl vs _,λq e=>?_,by simp only;omega,by simp only;rw [h4];omega⟩,h5,h7,h8,h6⟩
 ·have h9:=Ak (hl:=hl) (a:=16*p+2) (X:=iH J.bW (vs.getD p hv0).1 (vs.getD p hv0).2.1 ⟨(p:Int),((s.hands.getD p aY).inv:Int),(s.hands.getD p aY).got,(s.hands.getD p aY).ticks,a,f,ha,PV,er,vl,LV,KV⟩) (by have:=h.rest.lens.1;show 16*p+2+13<=_;omega) (λj hj=>h1 j hj)
  have h10:=h.hb
  rw [h9] at h10
  exact h10
 ·obtain⟨cs,fz,hb⟩:=h.ty.U q e
  refine⟨λe9=>?_,h.rest.wg q e p hp trivial,λe9=>?_,λe9=>?_⟩
  ·have e9':q=J.bH:=e9
   obtain⟨c,hh⟩:=h.ty.H
   exact dB hb hh (by decide) e9'
  ·obtain⟨c,fz',hk⟩:=h.ty.K p hp trivial q e9
   exact dB hb hk (by decide) rfl
  ·obtain⟨c,fz',hk⟩:=h.ty.L q e9
   exact dB hb hk (by decide) rfl
theorem TS {EV:Value} {b:Nat} (hp:p<J.nt) (hb:eX (eZ J p hl vs EV) (vs.getD p hv0).1 (vs.getD p hv0).2.1 L b):iB J vs L EV b:=by
 rcases hb with((e|e|e|e|e|e)|e|e)|e|e|e|⟨q,hq,e|⟨hqp,e|e⟩⟩
 ·exact .inr (.inr (.inr (.inr (.inl e))))
 ·exact .inl e
 ·exact .inr (.inr (.inr (.inr (.inr (.inr (.inl e))))))
 ·exact .inr (.inr (.inr (.inr (.inr (.inr (.inr (.inr (.inr ⟨p,hp,.inr (.inl e)⟩))))))))
 ·exact .inr (.inr (.inr (.inr (.inr (.inr (.inr (.inr (.inr ⟨p,hp,.inr (.inr e)⟩))))))))
 ·exact .inr (.inr (.inr (.inr (.inr (.inr (.inr (.inl e)))))))
 ·exact .inr (.inl e)
 ·exact .inr (.inr (.inl e))
 ·exact .inr (.inr (.inr (.inl e)))
 ·exact .inr (.inr (.inr (.inr (.inr (.inl e)))))
 ·exact .inr (.inr (.inr (.inr (.inr (.inr (.inr (.inr (.inl e))))))))
 ·exact .inr (.inr (.inr (.inr (.inr (.inr (.inr (.inr (.inr ⟨q,hq,.inl e⟩))))))))
 ·exact .inr (.inr (.inr (.inr (.inr (.inr (.inr (.inr (.inr ⟨q,hq,.inr (.inl e)⟩))))))))
 ·exact .inr (.inr (.inr (.inr (.inr (.inr (.inr (.inr (.inr ⟨q,hq,.inr (.inr e)⟩))))))))
theorem yY.weak {P':Nat->Prop} (h:yY w0 w Mut J P s hl vs ea ec ers) (hP:∀ q,P' q->P q):yY w0 w Mut J P' s hl vs ea ec ers:=
 ⟨h.below,h.fin,h.flen,h.lens,h.c0,h.c1,h.c15,h.own,λq hq hP'=>h.hand q hq (hP q hP'),h.out,h.evs,h.lie,λa b ha hb h1 h2=>h.gg a b ha hb (hP _ h1) (hP _ h2),λa b ha hb h1 h2=>h.kk a b ha hb (hP _ h1) (hP _ h2),h.oo,⟨h.ge.1,h.ge.2.1,h.ge.2.2.1,h.ge.2.2.2.1,h.ge.2.2.2.2.1,h.ge.2.2.2.2.2.1,h.ge.2.2.2.2.2.2.1,λq hq=>⟨(h.ge.2.2.2.2.2.2.2 q hq).1,λh1=>(h.ge.2.2.2.2.2.2.2 q hq).2 (hP _ h1)⟩⟩,h.wb,λb hb q hq h1=>h.wg b hb q hq (hP _ h1),h.res⟩
structure gV (w0 w:World) (J:RJ) (p:Nat) (s:dS) (hl:List Value) (vs:List HV) (G K L:Value) (ea:Option Addr) (ec:Nat) (ers:List (Value×Value)) (t:aJ) (r:RWD):Prop where
 tape:fI w (eZ J p hl vs (.slice ea s.evs.length ec)) G K L t r
 rest:yY w0 w (eX (eZ J p hl vs (.slice ea s.evs.length ec)) G K L) J (λq=>q≠p) s hl vs ea ec ers
 hp:p<J.nt
 opn:(s.hands.getD p aY).opn=true
 thr:t.thread=p
 inv:t.inv=(s.hands.getD p aY).inv
 ge:∀ b,wP (eZ J p hl vs (.slice ea s.evs.length ec)) G K L b->w0.heap.size<=b
theorem fM.mid (h:fM w0 w J s hl vs L ea ec ers) (hp:p<J.nt) (ho:(s.hands.getD p aY).opn=true) {w2:World} {t:aJ} {PV LV KV:Value}
  (ht:dE w2 (eZ J p hl vs (.slice ea s.evs.length ec)).tids (vs.getD p hv0).1 (vs.getD p hv0).2.1 L (t.raw PV LV KV) s.rw.mem s.rw.now) (hc:Chg (λb=>b=J.bH) w w2)
  (h1:fK w2 (iB J vs L (.slice ea s.evs.length ec)) PV t.priv) (h2:KR w2 (iB J vs L (.slice ea s.evs.length ec)) LV t.list) (h3:Lst w2 (iB J vs L (.slice ea s.evs.length ec)) KV t.key)
  (hat:t.at_<=t.got.length) (htl:t.ticks.length=t.got.length) (hroom:s.rw.mem.c.all+1<1000000000000/\t.got.length+1<=100000000) (hthr:t.thread=p) (hinv:t.inv=(s.hands.getD p aY).inv) :
  gV w0 w2 J p s hl vs (vs.getD p hv0).1 (vs.getD p hv0).2.1 L ea ec ers t s.rw:=by
 have hM:∀ b,eX (eZ J p hl vs (.slice ea s.evs.length ec)) (vs.getD p hv0).1 (vs.getD p hv0).2.1 L b->iB J vs L (.slice ea s.evs.length ec) b:=λb hb=>TS hp hb
 have hM2:aN (iB J vs L (.slice ea s.evs.length ec)) w2 (eX (eZ J p hl vs (.slice ea s.evs.length ec)) (vs.getD p hv0).1 (vs.getD p hv0).2.1 L):=λb hb=>.inl (hM b hb)
 have hM1:aN (iB J vs L (.slice ea s.evs.length ec)) w (eX (eZ J p hl vs (.slice ea s.evs.length ec)) (vs.getD p hv0).1 (vs.getD p hv0).2.1 L):=λb hb=>.inl (hM b hb)
 have hSl:∀ b,b=J.bH->iB J vs L (.slice ea s.evs.length ec) b:=λb e=>.inr (.inr (.inr (.inr (.inl e))))
 have ty:=h.ty
 obtain⟨cH,hH⟩:=ty.H
 have hne:∀ {b:Nat} {c:Array Value} {T:TypeId} {fz:Nat×Nat},w.heap[b]?=some (.cells c T fz)->T≠100->b≠J.bH:=λhb hT=>dB hb hH hT
 obtain⟨cM,hMb⟩:=ty.M
 obtain⟨cT,hTb⟩:=ty.T
 refine⟨⟨⟨PV,LV,KV,ht,?_,?_,?_⟩,h.marks.keep hc hSl hM1 (hne hMb (by decide)),h.traces.keep hc hSl hM1 (hne hTb (by decide)),⟨h.mt,(show 100≠24 by decide),λq e=>?_⟩,h.dis hp,λb hb=>?_,hat,htl,λ_ _=>hroom⟩,?_,hp,ho,hthr,hinv,h.ge hp⟩
 ·exact h1.keep (S:=noB) (Chg.refl _ _) (λ_ h=>h.elim) hM2
 ·exact h2.keep (S:=noB) (Chg.refl _ _) (λ_ h=>h.elim) hM2
 ·exact h3.keep (S:=noB) (Chg.refl _ _) (λ_ h=>h.elim) hM2
 ·obtain⟨cs,fz,hb⟩:=ty.U q e
  exact⟨dB hb hMb (by decide),dB hb hTb (by decide)⟩
 ·refine Nat.lt_of_lt_of_le ?_ hc.size
  rcases ty.rmx (p:=p) (λ_ _=>trivial) hb with h9|h9
  rotate_left
  ·exact Nat.lt_of_lt_of_le (h.rest.res b h9) h.rest.below.size
  rcases h9 with h9|⟨q,_,_,⟨h9,_⟩|⟨h9,_⟩⟩
  ·rcases Nat.lt_or_ge b w.heap.size with h8|h8
   ·exact h8
   ·exfalso;unfold AP at h9;rw [Array.getElem?_eq_none h8] at h9;simp at h9
  all_goals
   rcases Nat.lt_or_ge b w.heap.size with h8|h8
   ·exact h8
   ·exfalso;unfold AP at h9;rw [Array.getElem?_eq_none h8] at h9;simp at h9
 ·refine(h.rest.keep hc (λb _ e=>hSl b e) hM1 (λb e=>by rw [e];exact h.rest.ge.2.2.1) (λb e=>?_) (λb e e9=>?_)).weak (λ_ _=>trivial)
  ·rw [e]
   obtain⟨_,hF⟩:=ty.F
   obtain⟨_,hO⟩:=ty.O
   refine⟨Ne.symm (hne hF (by decide)),Ne.symm (hne hO (by decide)),λe8=>?_,λq hq=>⟨?_,λ_=>⟨λe8=>?_,λe8=>?_⟩⟩⟩
   ·obtain⟨_,_,h9⟩:=ty.E _ e8;exact hne h9 (by decide) rfl
   ·obtain⟨_,h9⟩:=ty.o q hq;exact hne h9 (by decide)
   ·obtain⟨_,_,h9⟩:=ty.G q hq trivial _ e8;exact hne h9 (by decide) rfl
   ·obtain⟨_,_,h9⟩:=ty.K q hq trivial _ e8;exact hne h9 (by decide) rfl
  ·obtain⟨_,_,h9⟩:=ty.U b e9;exact absurd e (hne h9 (by decide))
end
section
open Go.RowKit
variable {w0 w w':World} {J:RJ} {s s':dS} {hl:List Value} {vs:List HV} {G K L:Value} {ea ea':Option Addr} {ec ec':Nat} {ers ers':List (Value×Value)} {Mut Mut':Nat->Prop} {P:Nat->Prop} {p:Nat} {t:aJ} {r:RWD}
theorem fI.chgMx {S:Nat->Prop} {I:wN} (h:fI w I G K L t r) (hc:Chg S w w') (hS:∀ b,S b->I.Mx b):fI w' I G K L t r:=by
 obtain⟨PV,LV,KV,ht,hp,hl,hk⟩:=h.tape
 have hn:∀ b,S b->¬ wP I G K L b:=λb hb=>h.dis b (hS b hb)
 have hM:∀ b,S b->eX I G K L b:=λb hb=>.inr (hS b hb)
 exact⟨⟨PV,LV,KV,ht.chg hc (λk hk hs=>hn k hs (.inl hk)),hp.keep hc hM (aN.refl _ _),hl.keep hc hM (aN.refl _ _),hk.keep hc hM (aN.refl _ _)⟩,h.marks.keep hc hM (aN.refl _ _) (λhs=>hn _ hs (.inr (.inl rfl))),h.traces.keep hc hM (aN.refl _ _) (λhs=>hn _ hs (.inr (.inr rfl))),h.sep,h.dis,λb hb=>Nat.lt_of_lt_of_le (h.low b hb) hc.size,h.at_le,h.tl,h.room⟩
theorem gV.evs {S:Nat->Prop} (h:gV w0 w J p s hl vs G K L ea ec ers t r) (hc:Chg S w w') (hS:∀ b,S b->(Value.slice ea s.evs.length ec).ownBlock=some b) (evs':List EvD) (he:evs'.length=s.evs.length) (hel:ers'.length=evs'.length)
  (hev:w'.ownsRow w0.heap.size 52 8 (.slice ea s.evs.length ec) s.evs.length (iP evs' ers'))
  (hlie:∀ i,i<evs'.length->fK w' (eX (eZ J p hl vs (.slice ea s.evs.length ec)) G K L) (ers'.getD i wT).1 (evs'.getD i iO).ans.list/\Lst w' (eX (eZ J p hl vs (.slice ea s.evs.length ec)) G K L) (ers'.getD i wT).2 (evs'.getD i iO).key) :
  gV w0 w' J p { s with evs:=evs' } hl vs G K L ea ec ers' t r:=by
 have hx:∀ b,S b->RMx J p vs (.slice ea s.evs.length ec) b:=λb hb=>.inr (.inr (.inl (hS b hb)))
 have hty:∀ b,S b->∃ c fz,w.heap[b]?=some (.cells c 52 fz):=λb hb=>gG h.rest.evs (hS b hb)
 have hnt:∀ {b b':Nat} {c:Array Value} {T:TypeId} {fz:Nat×Nat},S b->w.heap[b']?=some (.cells c T fz)->T≠52->b'≠b:=λhb h9 hT e=>by
  obtain⟨c,fz,h8⟩:=hty _ hb
  rw [<-e] at h8
  exact dB h9 h8 hT rfl
 have hrest:=h.rest.turn (s':={ s with evs:=evs' }) (ea':=ea) (ec':=ec) (ers':=ers') hc (λb _ hb=>.inr (hx b hb)) (aN.refl _ _)
  (λb hb=>by
   rcases h.rest.evs.2 with⟨h1,_⟩|⟨g,cap,cur,h1,h2,_⟩
   ·have:=hS b hb;rw [h1] at this;cases this
   ·have:=hS b hb;rw [h1] at this;cases this;exact h2)
  (λb hb q hq=>by
   refine⟨?_,λhP=>⟨λe=>?_,λe=>?_⟩⟩
   ·obtain⟨_,h1,_⟩:=h.rest.own q hq;exact hnt hb h1 (by decide)
   ·obtain⟨_,_,h9⟩:=(h.rest.hand q hq hP).ty.1 b e;exact hnt hb h9 (by decide) rfl
   ·obtain⟨_,_,h9⟩:=(h.rest.hand q hq hP).ty.2 b e;exact hnt hb h9 (by decide) rfl)
  (λb hb e=>by obtain⟨_,_,h9⟩:=h.rest.wb b e;exact absurd rfl (hnt hb h9 (by decide)))
  rfl ((hc.block _ (aC h.rest.fin) (λhs=>hnt hs h.rest.fin (by decide) rfl)).trans h.rest.fin) h.rest.flen hel (by simp only [he];exact(hc.block _ (aC h.rest.out) (λhs=>hnt hs h.rest.out (by decide) rfl)).trans h.rest.out) (by simp only [he];exact hev) hlie
 have e9:({ s with evs:=evs' }:dS).evs.length=s.evs.length:=he
 refine⟨?_,?_,h.hp,h.opn,h.thr,h.inv,?_⟩
 ·rw [e9];exact h.tape.chgMx hc hx
 ·rw [e9];exact hrest
 ·rw [e9];exact h.ge
theorem gV.own (h:gV w0 w J p s hl vs G K L ea ec ers t r) (PV:Value) (l:List Nat) (hPV:fK w (eX (eZ J p hl vs (.slice ea s.evs.length ec)) G K L) PV l) :
  gV w0 (w.setCell ⟨(vs.getD p hv0).2.2,0,none⟩ PV) J p { s with hands:=s.hands.set p { s.hands.getD p aY with own:=l } } hl vs G K L ea ec ers t r:=by
 obtain⟨OV,ho,_⟩:=h.rest.own p h.hp
 have hc:Chg (λb=>b=(vs.getD p hv0).2.2) w (w.setCell ⟨(vs.getD p hv0).2.2,0,none⟩ PV):=(Chg.refl (λb=>b=(vs.getD p hv0).2.2) w).setCell (p:=⟨(vs.getD p hv0).2.2,0,none⟩) (.inl rfl) _
 have hx:∀ b,b=(vs.getD p hv0).2.2->RMx J p vs (.slice ea s.evs.length ec) b:=λb hb=>.inr (.inr (.inr ⟨p,h.hp,.inl hb.symm⟩))
 have hM:∀ b,b=(vs.getD p hv0).2.2->eX (eZ J p hl vs (.slice ea s.evs.length ec)) G K L b:=λb hb=>.inr (hx b hb)
 have hnt:∀ {b':Nat} {c:Array Value} {T:TypeId} {fz:Nat×Nat},w.heap[b']?=some (.cells c T fz)->T≠28->b'≠(vs.getD p hv0).2.2:=λh9 hT e=>by
  rw [e] at h9
  exact dB h9 ho hT rfl
 have hpl:p<s.hands.length:=by rw [h.rest.lens.2.2.1];exact h.hp
 obtain⟨g1,g2⟩:=h.rest.ge
 have hh:∀ q,q≠p->(s.hands.set p { s.hands.getD p aY with own:=l }).getD q aY=s.hands.getD q aY:=λq hq=>aK (Ne.symm hq)
 have hpp:(s.hands.set p { s.hands.getD p aY with own:=l }).getD p aY={ s.hands.getD p aY with own:=l }:=aI hpl
 have hop:∀ q,((s.hands.set p { s.hands.getD p aY with own:=l }).getD q aY).opn=(s.hands.getD q aY).opn/\((s.hands.set p { s.hands.getD p aY with own:=l }).getD q aY).ev=(s.hands.getD q aY).ev:=λq=>by
  by_cases e:q=p
  ·subst e;rw [hpp];exact⟨rfl,rfl⟩
  ·rw [hh q e];exact⟨rfl,rfl⟩
 refine⟨h.tape.chgMx hc hx,⟨h.rest.below.trans (hc.below (λb e=>by rw [e];exact(h.rest.ge.2.2.2.2.2.2.2 p h.hp).1) h.rest.below.size),(hc.block _ (aC h.rest.fin) (hnt h.rest.fin (by decide))).trans h.rest.fin,h.rest.flen,⟨h.rest.lens.1,h.rest.lens.2.1,by simpa using h.rest.lens.2.2.1,h.rest.lens.2.2.2⟩,
  λq hq=>by rw [show(({ s with hands:=s.hands.set p { s.hands.getD p aY with own:=l } }:dS).hands.getD q aY).opn=_ from(hop q).1];exact h.rest.c0 q hq,λq hq e=>by
   have e':(s.hands.getD q aY).opn=true:=by rw [<-(hop q).1];exact e
   show hl[16*q+1]?=some (.int .i64 ((((s.hands.set p { s.hands.getD p aY with own:=l }).getD q aY).ev:Nat):Int))
   rw [(hop q).2];exact h.rest.c1 q hq e',h.rest.c15,λq hq=>?_,λq hq hP=>?_,(hc.block _ (aC h.rest.out) (hnt h.rest.out (by decide))).trans h.rest.out,bB h.rest.evs hc (λb e e9=>by rw [e9] at e;exact dJ h.rest.evs ho (by decide) e),h.rest.lies hc (λb _ hb=>hM b hb) (aN.refl _ _),h.rest.gg,h.rest.kk,h.rest.oo,h.rest.ge,λb hb=>?_,h.rest.wg,h.rest.res⟩,h.hp,?_,h.thr,?_,h.ge⟩
 ·by_cases e:q=p
  ·subst e
   refine⟨PV,by rw [aG ho];rfl,?_⟩
   show fK _ _ PV ((s.hands.set q { s.hands.getD q aY with own:=l }).getD q aY).own
   rw [hpp]
   exact hPV.keep hc hM (aN.refl _ _)
  ·obtain⟨OV',h1,h2⟩:=h.rest.own q hq
   refine⟨OV',(hc.block _ (aC h1) (h.rest.oo q p hq h.hp e)).trans h1,?_⟩
   show fK _ _ OV' ((s.hands.set p { s.hands.getD p aY with own:=l }).getD q aY).own
   rw [hh q e]
   exact h2.keep hc hM (aN.refl _ _)
 ·show vW _ _ _ _ _ ((s.hands.set p { s.hands.getD p aY with own:=l }).getD q aY) _
  rw [hh q hP]
  exact(h.rest.hand q hq hP).keep hc hM (aN.refl _ _) (λb e e9=>by obtain⟨_,_,h9⟩:=(h.rest.hand q hq hP).ty.1 b e;exact hnt h9 (by decide) e9) (λb e e9=>by obtain⟨_,_,h9⟩:=(h.rest.hand q hq hP).ty.2 b e;exact hnt h9 (by decide) e9)
 ·obtain⟨cs,fz,h9⟩:=h.rest.wb b hb
  exact⟨cs,fz,(hc.block _ (aC h9) (hnt h9 (by decide))).trans h9⟩
 ·show((s.hands.set p { s.hands.getD p aY with own:=l }).getD p aY).opn=true
  rw [hpp];exact h.opn
 ·show t.inv=((s.hands.set p { s.hands.getD p aY with own:=l }).getD p aY).inv
  rw [hpp];exact h.inv
theorem Ma {EV:Value} {b o:Nat} (hp:p<vs.length) (hv:vs.length=J.nt) (ho:o=(vs.getD p hv0).2.2) (hb:iB J (vs.set p (G,K,o)) L EV b):eX (eZ J p hl vs EV) G K L b:=by
 rcases hb with e|e|e|e|e|e|e|e|e|⟨q,hq,e⟩
 ·exact .inl (.inl (.inr (.inl e)))
 ·exact .inl (.inr (.inl e))
 ·exact .inl (.inr (.inr e))
 ·exact .inr (.inl e)
 ·exact .inl (.inl (.inl e))
 ·exact .inr (.inr (.inl e))
 ·exact .inl (.inl (.inr (.inr (.inl e))))
 ·exact .inl (.inl (.inr (.inr (.inr (.inr (.inr e))))))
 ·exact .inr (.inr (.inr (.inl e)))
 ·by_cases hqp:q=p
  ·subst hqp
   rw [aI hp] at e
   rcases e with e|e|e
   ·exact .inr (.inr (.inr (.inr ⟨q,hq,.inl (ho.symm.trans e)⟩)))
   ·exact .inl (.inl (.inr (.inr (.inr (.inl e)))))
   ·exact .inl (.inl (.inr (.inr (.inr (.inr (.inl e))))))
  ·rw [aK (Ne.symm hqp)] at e
   rcases e with e|e|e
   ·exact .inr (.inr (.inr (.inr ⟨q,hq,.inl e⟩)))
   ·exact .inr (.inr (.inr (.inr ⟨q,hq,.inr ⟨hqp,.inl e⟩⟩)))
   ·exact .inr (.inr (.inr (.inr ⟨q,hq,.inr ⟨hqp,.inr e⟩⟩)))
theorem gV.close (h:gV w0 w J p s hl vs G K L ea ec ers t r):∃ hl',fM w0 w J { s with rw:=r,hands:=s.hands.set p { s.hands.getD p aY with got:=t.got,ticks:=t.ticks } } hl' (vs.set p (G,K,(vs.getD p hv0).2.2)) L ea ec ers:=by
 obtain⟨PV,LV,KV,ht,hPV,hLV,hKV⟩:=h.tape.tape
 have hpl:p<s.hands.length:=by rw [h.rest.lens.2.2.1];exact h.hp
 have hpv:p<vs.length:=by rw [h.rest.lens.2.1];exact h.hp
 have hlen:=h.rest.lens.1
 have hp:=h.hp
 have hb0:=ht.blk
 obtain⟨X,hX⟩:∃ X,X=iH J.bW G K (t.raw PV LV KV):=⟨_,rfl⟩
 have hX13:X.length=13:=by rw [hX];rfl
 have hin:16*p+2+X.length<=hl.length:=by rw [hX13,hlen];omega
 obtain⟨hl',hhl⟩:∃ hl',hl'=hl.take (16*p+2)++(X++hl.drop (16*p+2+X.length)):=⟨_,rfl⟩
 have hget:∀ i,hl'[i]?=if 16*p+2<=i/\i<16*p+2+X.length then X[i - (16*p+2)]? else hl[i]?:=λi=>by rw [hhl];exact Ab hin i
 have hlen':hl'.length=16*J.nt:=by rw [hhl];simp;omega
 have hget':∀ q j,(q≠p∨j<2∨15<=j)->j<16->hl'[16*q+j]?=hl[16*q+j]?:=λq j h1 h2=>by
  rw [hget,if_neg (by rw [hX13];omega)]
 have hM:aN (eX (eZ J p hl vs (.slice ea s.evs.length ec)) G K L) w (iB J (vs.set p (G,K,(vs.getD p hv0).2.2)) L (.slice ea s.evs.length ec)):=λb hb=>.inl (Ma hpv h.rest.lens.2.1 rfl hb)
 have hh:∀ q,q≠p->(s.hands.set p { s.hands.getD p aY with got:=t.got,ticks:=t.ticks }).getD q aY=s.hands.getD q aY:=λq hq=>aK (Ne.symm hq)
 have hpp:(s.hands.set p { s.hands.getD p aY with got:=t.got,ticks:=t.ticks }).getD p aY={ s.hands.getD p aY with got:=t.got,ticks:=t.ticks }:=aI hpl
 have hvq:∀ q,q≠p->(vs.set p (G,K,(vs.getD p hv0).2.2)).getD q hv0=vs.getD q hv0:=λq hq=>aK (Ne.symm hq)
 have hvp:(vs.set p (G,K,(vs.getD p hv0).2.2)).getD p hv0=(G,K,(vs.getD p hv0).2.2):=aI hpv
 have hop:∀ q,((s.hands.set p { s.hands.getD p aY with got:=t.got,ticks:=t.ticks }).getD q aY).opn=(s.hands.getD q aY).opn/\((s.hands.set p { s.hands.getD p aY with got:=t.got,ticks:=t.ticks }).getD q aY).ev=(s.hands.getD q aY).ev/\((s.hands.set p { s.hands.getD p aY with got:=t.got,ticks:=t.ticks }).getD q aY).own=(s.hands.getD q aY).own:=λq=>by
  by_cases e:q=p
  ·subst e;rw [hpp];exact⟨rfl,rfl,rfl⟩
  ·rw [hh q e];exact⟨rfl,rfl,rfl⟩
 have hvo:∀ q,((vs.set p (G,K,(vs.getD p hv0).2.2)).getD q hv0).2.2=(vs.getD q hv0).2.2:=λq=>by
  by_cases e:q=p
  ·subst e;rw [hvp]
  ·rw [hvq q e]
 have mxG:∀ q,q<J.nt->q≠p->∀ b,(vs.getD q hv0).1.ownBlock=some b->G.ownBlock≠some b:=λq hq hqp b e e9=>h.tape.dis b (.inr (.inr (.inr ⟨q,hq,.inr ⟨hqp,.inl e⟩⟩))) (.inl (.inr (.inr (.inr (.inl e9)))))
 have mxK:∀ q,q<J.nt->q≠p->∀ b,(vs.getD q hv0).2.1.ownBlock=some b->K.ownBlock≠some b:=λq hq hqp b e e9=>h.tape.dis b (.inr (.inr (.inr ⟨q,hq,.inr ⟨hqp,.inr e⟩⟩))) (.inl (.inr (.inr (.inr (.inr (.inl e9))))))
 refine⟨hl',⟨⟨h.rest.below,h.rest.fin,h.rest.flen,⟨hlen',by simpa using h.rest.lens.2.1,by simpa using h.rest.lens.2.2.1,h.rest.lens.2.2.2⟩,λq hq=>?_,λq hq e=>?_,λq hq=>?_,λq hq=>?_,λq hq _=>?_,h.rest.out,h.rest.evs,λi hi=>⟨(h.rest.lie i hi).1.keep (S:=noB) (Chg.refl _ _) (λ_ h=>h.elim) hM,(h.rest.lie i hi).2.keep (S:=noB) (Chg.refl _ _) (λ_ h=>h.elim) hM⟩,λa b ha hb _ _ hab c e1 e2=>?_,λa b ha hb _ _ hab c e1 e2=>?_,λa b ha hb hab=>?_,⟨h.rest.ge.1,h.rest.ge.2.1,h.rest.ge.2.2.1,h.rest.ge.2.2.2.1,h.rest.ge.2.2.2.2.1,h.rest.ge.2.2.2.2.2.1,h.rest.ge.2.2.2.2.2.2.1,λq hq=>?_⟩,h.rest.wb,λb hb q hq _ e=>?_,h.rest.res⟩,?_,ht.mem,ht.log,λb e=>h.ge b (.inl (.inr (.inr (.inr (.inr (.inr e)))))),?_,?_,h.tape.sep.1⟩⟩
 ·show hl'[16*q]?=some (.bool ((s.hands.set p { s.hands.getD p aY with got:=t.got,ticks:=t.ticks }).getD q aY).opn)
  rw [(hop q).1]
  have:=hget' q 0 (.inr (.inl (by omega))) (by omega)
  rw [Nat.add_zero] at this
  rw [this];exact h.rest.c0 q hq
 ·have e':(s.hands.getD q aY).opn=true:=by rw [<-(hop q).1];exact e
  show hl'[16*q+1]?=some (.int .i64 ((((s.hands.set p { s.hands.getD p aY with got:=t.got,ticks:=t.ticks }).getD q aY).ev:Nat):Int))
  rw [(hop q).2.1,hget' q 1 (.inr (.inl (by omega))) (by omega)];exact h.rest.c1 q hq e'
 ·rw [hvo,hget' q 15 (.inr (.inr (by omega))) (by omega)];exact h.rest.c15 q hq
 ·obtain⟨OV,h1,h2⟩:=h.rest.own q hq
  refine⟨OV,by rw [hvo];exact h1,?_⟩
  show fK w _ OV ((s.hands.set p { s.hands.getD p aY with got:=t.got,ticks:=t.ticks }).getD q aY).own
  rw [(hop q).2.2]
  exact h2.keep (S:=noB) (Chg.refl _ _) (λ_ h=>h.elim) hM
 ·show vW w _ J.bW hl' q ((s.hands.set p { s.hands.getD p aY with got:=t.got,ticks:=t.ticks }).getD q aY) _
  by_cases e:q=p
  ·subst e
   rw [hpp,hvp]
   refine⟨λ_=>⟨⟨t.at_,t.fresh,t.halt,PV,t.err,t.val,LV,KV,t.priv,t.list,t.key,λj hj=>?_,h.tape.at_le,hPV.keep (S:=noB) (Chg.refl _ _) (λ_ h=>h.elim) hM,hLV.keep (S:=noB) (Chg.refl _ _) (λ_ h=>h.elim) hM,hKV.keep (S:=noB) (Chg.refl _ _) (λ_ h=>h.elim) hM⟩,ht.got,ht.ticks,h.tape.tl⟩,λe=>?_⟩
   ·rw [hget,if_pos (by rw [hX13];omega),Nat.add_sub_cancel_left,hX]
    have e1:(t.raw PV LV KV)=⟨(q:Int),((s.hands.getD q aY).inv:Int),t.got,t.ticks,t.at_,t.fresh,t.halt,PV,t.err,t.val,LV,KV⟩:=by
     unfold aJ.raw;rw [h.thr,h.inv]
    rw [e1]
   ·have e':(s.hands.getD q aY).opn=false:=e
    rw [h.opn] at e';cases e'
  ·rw [hh q e,hvq q e]
   have H:=h.rest.hand q hq e
   refine⟨λe1=>?_,H.cl⟩
   obtain⟨⟨a,f,ha,PV',er,vl,LV',KV',pl,ll,kl,h1,h6,h5,h7,h8⟩,h2,h3,h4⟩:=H.opn e1
   exact⟨⟨a,f,ha,PV',er,vl,LV',KV',pl,ll,kl,λj hj=>by rw [show 16*q+2+j=16*q+(2+j) by omega,hget' q (2+j) (.inl e) (by omega),<-h1 j hj,Nat.add_assoc],h6,h5.keep (S:=noB) (Chg.refl _ _) (λ_ h=>h.elim) hM,h7.keep (S:=noB) (Chg.refl _ _) (λ_ h=>h.elim) hM,h8.keep (S:=noB) (Chg.refl _ _) (λ_ h=>h.elim) hM⟩,h2,h3,h4⟩
 ·by_cases WP:a=p
  ·subst WP
   rw [hvp] at e1;rw [hvq b (Ne.symm hab)] at e2
   exact mxG b hb (Ne.symm hab) c e2 e1
  ·rw [hvq a WP] at e1
   by_cases Bt:b=p
   ·subst Bt;rw [hvp] at e2;exact mxG a ha WP c e1 e2
   ·rw [hvq b Bt] at e2;exact h.rest.gg a b ha hb WP Bt hab c e1 e2
 ·by_cases WP:a=p
  ·subst WP
   rw [hvp] at e1;rw [hvq b (Ne.symm hab)] at e2
   exact mxK b hb (Ne.symm hab) c e2 e1
  ·rw [hvq a WP] at e1
   by_cases Bt:b=p
   ·subst Bt;rw [hvp] at e2;exact mxK a ha WP c e1 e2
   ·rw [hvq b Bt] at e2;exact h.rest.kk a b ha hb WP Bt hab c e1 e2
 ·rw [hvo,hvo];exact h.rest.oo a b ha hb hab
 ·refine⟨by rw [hvo];exact(h.rest.ge.2.2.2.2.2.2.2 q hq).1,λ_=>?_⟩
  by_cases e:q=p
  ·subst e
   rw [hvp]
   exact⟨λb e=>h.ge b (.inl (.inr (.inr (.inr (.inl e))))),λb e=>h.ge b (.inl (.inr (.inr (.inr (.inr (.inl e))))))⟩
  ·rw [hvq q e];exact(h.rest.ge.2.2.2.2.2.2.2 q hq).2 e
 ·by_cases e9:q=p
  ·subst e9;rw [hvp] at e;exact(ht.sep b hb).2.1 e
  ·rw [hvq q e9] at e;exact h.rest.wg b hb q hq e9 e
 ·rw [hhl,hX13,hX];exact hb0
 ·exact h.tape.marks.keep (S:=noB) (Chg.refl _ _) (λ_ h=>h.elim) hM (λh=>h)
 ·exact h.tape.traces.keep (S:=noB) (Chg.refl _ _) (λ_ h=>h.elim) hM (λh=>h)
end
end Go.Proofs.YtfkokppncipgnaaGreat
