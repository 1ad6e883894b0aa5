/- Layer 27: what the walks of the reference's objects share. -/
import Derived.Test.YtlepjmnhekeofaaP39
import Derived.Test.YtlepjmnhekeofaaP23
import Derived.Test.YtlepjmnhekeofaaP34
set_option maxRecDepth 100000
set_option linter.unusedVariables false
set_option linter.unusedSimpArgs false
set_option linter.unnecessarySimpa false
namespace Go.Proofs.Ytlepjmnhekeofaa
section
open Go.RowKit
theorem set3 {w1:World} {b:Nat} {y0 y1 y2:Value} {T:TypeId} (h:w1.heap[b]?=some (.cells #[y0,y1,y2] T (0,0))) (x0 x1 x2:Value) :
  (((w1.setCell ⟨b,0,none⟩ x0).setCell ⟨b,1,none⟩ x1).setCell ⟨b,2,none⟩ x2).heap[b]?=some (.cells #[x0,x1,x2] T (0,0))/\Chg (λk=>k=b) w1 (((w1.setCell ⟨b,0,none⟩ x0).setCell ⟨b,1,none⟩ x1).setCell ⟨b,2,none⟩ x2)/\(((w1.setCell ⟨b,0,none⟩ x0).setCell ⟨b,1,none⟩ x1).setCell ⟨b,2,none⟩ x2).heap.size=w1.heap.size:=by
 refine⟨?_,(((Chg.refl (λk=>k=b) w1).setCell (p:=⟨b,0,none⟩) (.inl rfl) _).setCell (p:=⟨b,1,none⟩) (.inl rfl) _).setCell (p:=⟨b,2,none⟩) (.inl rfl) _,by simp [World.setCell]⟩
 rw [blk_set (blk_set (blk_set h _ _) _ _) _ _];rfl
end
section

/- Layer 6: what every play keeps, whatever the object: no two operations turn at one tick; nobody has marks if nobody makes one. -/
open Go.RowKit
variable {S:Sys} {calls:List CallD}
def TickApart (st:PlayD S):Prop:=∀ i j,i<st.evs.length->j<st.evs.length->i≠j->(evAt st.evs i).resp≠0->(evAt st.evs i).resp≠(evAt st.evs j).inv
theorem Next.tickApart {st:PlayD S} {q k:Nat} {evs':List EvD} {e1:EvD} (hg:StGood calls st) (hT:TickApart st) (h:Next calls st q evs' k e1) (hr:e1.resp=0∨e1.resp=st.wd.now+1) (hi:st.evs.length<=k->e1.inv=st.wd.now+1) (hi2:k<st.evs.length->e1.inv=(evAt st.evs k).inv) :
  ∀ i j,i<evs'.length->j<evs'.length->i≠j->(evAt evs' i).resp≠0->(evAt evs' i).resp≠(evAt evs' j).inv:=by
 intro i j hil hjl hij hri
 by_cases hik:i=k
 ·subst hik
  obtain⟨j1,j2⟩:=h.other j hjl (Ne.symm hij)
  have hti:=hg.ev.tick j j1
  rw [j2]
  rw [h.self] at hri ⊢
  omega
 ·obtain⟨i1,i2⟩:=h.other i hil hik
  have hti:=hg.ev.tick i i1
  rw [i2] at hri ⊢
  by_cases hjk:j=k
  ·subst hjk
   rw [h.self]
   by_cases hjn:j<st.evs.length
   ·rw [hi2 hjn]
    exact hT i j i1 hjn hij hri
   ·have:=hi (by omega);omega
  ·obtain⟨j1,j2⟩:=h.other j hjl hjk
   rw [j2]
   exact hT i j i1 j1 hij hri
theorem ev1_fields (y:S.ω×WD×S.σ×Bool) (q:Nat) (e:EvD):(ev1 S y q e).call=e.call/\(ev1 S y q e).inv=e.inv/\(ev1 S y q e).steps=e.steps+1/\(y.2.2.2=true->(ev1 S y q e).resp=y.2.1.now/\(ev1 S y q e).ans=(S.answer y.2.2.1).1/\(ev1 S y q e).key=keyOf y.2.1 q (S.answer y.2.2.1).2)/\(y.2.2.2=false->(ev1 S y q e).resp=e.resp):=by
 unfold ev1
 cases hb:y.2.2.2 with
 | true=>exact⟨rfl,rfl,rfl,λ_=>⟨rfl,rfl,rfl⟩,λh=>Bool.noConfusion h⟩
 | false=>exact⟨rfl,rfl,rfl,λh=>Bool.noConfusion h,λ_=>rfl⟩
theorem no_marks {wd:WD} (h:wd.marks=List.replicate 16 []) (p:Nat):wd.marks.getD p []=[]:=by
 rw [h,List.getD_eq_getElem?_getD,List.getElem?_replicate]
 split<;>rfl
theorem keyOf_none {wd:WD} (h:wd.marks=List.replicate 16 []) (p:Nat) (k:List Int):keyOf wd p k=if k=[] then tickKey wd else k:=by
 unfold keyOf
 rw [no_marks h p,if_pos rfl]
theorem From.invs {st:PlayD S} {q i k:Nat} {s:S.σ} {evs0:List EvD} {wd0:WD} (h:From calls st q i k s evs0 wd0):(st.evs.length<=k->(evAt evs0 k).inv=st.wd.now+1)/\(k<st.evs.length->(evAt evs0 k).inv=(evAt st.evs k).inv):=by
 cases h with
 | old k s hh hk hc hr=>exact⟨λh=>by omega,λ_=>rfl⟩
 | new s hh hs=>exact⟨λ_=>by rw [evAt_last];rfl,λh=>absurd h (Nat.lt_irrefl _)⟩
theorem From.mark0 {st:PlayD S} {q i k:Nat} {s:S.σ} {evs0:List EvD} {wd0:WD} (h:From calls st q i k s evs0 wd0) (hm:st.wd.marks=List.replicate 16 []):wd0.marks=List.replicate 16 []:=by
 cases h with
 | old k s hh hk hc hr=>exact hm
 | new s hh hs=>exact begin_marks hm
theorem turn_apart (hnow:∀ o wd p s,(S.step o wd p s).2.1.now=wd.now) {st st':PlayD S} (hg:StGood calls st) (hT:TickApart st) (ht:Turn calls st st'):TickApart st':=by
 cases ht with
 | idle=>exact hT
 | refuse q i er hq hN hh hs=>
  exact(refuse_next hg hN (finishEv (st.wd.tick.begin q) q ⟨er,0,[]⟩ [] (newEv i (st.wd.tick.begin q))) rfl).tickApart hg hT (.inr rfl) (λ_=>rfl) (λh=>absurd h (Nat.lt_irrefl _))
 | step q i k s evs0 wd0 hq hN hf=>
  obtain⟨f1,f2,f3,f4,f5⟩:=ev1_fields (S.step st.obj wd0 q s) q (evAt evs0 k)
  have hn:=hnow st.obj wd0 q s
  have hn0:=hf.now
  refine(hf.next hg hN (ev1 S (S.step st.obj wd0 q s) q (evAt evs0 k)) f1).tickApart hg hT ?_ (λh=>f2.trans (hf.invs.1 h)) (λh=>f2.trans (hf.invs.2 h))
  cases hb:(S.step st.obj wd0 q s).2.2.2 with
  | true=>right;rw [(f4 hb).1];omega
  | false=>left;rw [f5 hb];exact hf.open_
end
section

/- Layer 14: what every play of a register keeps: what was written last ahead of a tick. -/
open Go.RowKit
variable {n k:Nat} {calls:List CallD}
def piW (calls:List CallD) (e:EvD):Prop:=objOf calls e=0/\kindOf calls e=0/\e.ans.err=0/\e.resp≠0
def PiAtT (k:Nat) (calls:List CallD) (evs:List EvD) (T:Nat) (f:Nat->Nat):Prop:=
 ((∀ j,j<evs.length->piW calls (evAt evs j)->T<=(evAt evs j).resp)/\∀ a,a<k->f a=0)∨
 ∃ j,j<evs.length/\piW calls (evAt evs j)/\(evAt evs j).resp<T/\(∀ i,i<evs.length->piW calls (evAt evs i)->(evAt evs i).resp<T->(evAt evs i).resp<=(evAt evs j).resp)/\∀ a,a<k->f a=((calls.getD (evAt evs j).call d0).a+a) % 18446744073709551616
theorem PiAtT.congr {evs:List EvD} {T:Nat} {f g:Nat->Nat} (h:PiAtT k calls evs T f) (e:∀ a,a<k->g a=f a):PiAtT k calls evs T g:=by
 rcases h with⟨h1,h2⟩|⟨j,h1,h2,h3,h4,h5⟩
 ·exact .inl ⟨h1,λa ha=>(e a ha).trans (h2 a ha)⟩
 ·exact .inr ⟨j,h1,h2,h3,h4,λa ha=>(e a ha).trans (h5 a ha)⟩
section
variable {st:PlayD (pinS n k)} {q j:Nat} {evs':List EvD} {e1:EvD}
theorem PiAtT.move {T T':Nat} {f:Nat->Nat} (h:PiAtT k calls st.evs T f) (hx:Next calls st q evs' j e1) (h1:∀ i,i<st.evs.length->piW calls (evAt st.evs i)->((evAt st.evs i).resp<T↔(evAt st.evs i).resp<T')) (hw:piW calls e1->T'<=e1.resp):PiAtT k calls evs' T' f:=by
 have old:∀ i,i<evs'.length->piW calls (evAt evs' i)->(evAt evs' i).resp<T'->i<st.evs.length/\evAt evs' i=evAt st.evs i:=λi hi hp hlt=>by
  by_cases hij:i=j
  ·subst hij
   rw [hx.self] at hp hlt
   have:=hw hp;omega
  ·exact hx.other i hi hij
 rcases h with⟨a1,a2⟩|⟨i,b1,b2,b3,b4,b5⟩
 ·refine .inl ⟨λi hi hp=>Nat.le_of_not_lt λhlt=>?_,a2⟩
  obtain⟨i1,i2⟩:=old i hi hp hlt
  rw [i2] at hp hlt
  have:=a1 i i1 hp
  have:=(h1 i i1 hp).2 hlt
  omega
 ·have hij:i≠j:=λe=>b2.2.2.2 (hx.old (by omega) ▸ (by rw [e]))
  have e:evAt evs' i=evAt st.evs i:=(hx.other i (Nat.lt_of_lt_of_le b1 hx.size) hij).2
  refine .inr ⟨i,Nat.lt_of_lt_of_le b1 hx.size,by rw [e];exact b2,by rw [e];exact(h1 i b1 b2).1 b3,λi' hi' hp hlt=>?_,λa ha=>by rw [e];exact b5 a ha⟩
  obtain⟨i1,i2⟩:=old i' hi' hp hlt
  rw [i2] at hp hlt ⊢
  rw [e]
  exact b4 i' i1 hp ((h1 i' i1 hp).2 hlt)
theorem PiAtT.keep {T:Nat} {f:Nat->Nat} (h:PiAtT k calls st.evs T f) (hx:Next calls st q evs' j e1) (hr:e1.resp=0∨e1.resp=st.wd.now+1) (hT:T<=st.wd.now+1):PiAtT k calls evs' T f:=
 h.move hx (λ_ _ _=>Iff.rfl) (λhp=>by rcases hr with h0|h0;exact absurd h0 hp.2.2.2;omega)
theorem PiAtT.up {f:Nat->Nat} (hg:StGood calls st) (h:PiAtT k calls st.evs (st.wd.now+1) f) (hx:Next calls st q evs' j e1) (hw:¬ piW calls e1):PiAtT k calls evs' (st.wd.now+2) f:=
 h.move hx (λi hi _=>by have:=(hg.ev.tick i hi).2.2.2;omega) (λhp=>absurd hp hw)
theorem PiAtT.new {f:Nat->Nat} (hg:StGood calls st) (hx:Next calls st q evs' j e1) (hw:piW calls e1) (hr:e1.resp=st.wd.now+1) (hf:∀ a,a<k->f a=((calls.getD e1.call d0).a+a) % 18446744073709551616):PiAtT k calls evs' (st.wd.now+2) f:=by
 refine .inr ⟨j,hx.lt,by rw [hx.self];exact hw,by rw [hx.self];omega,λi hi hp hlt=>?_,λa ha=>by rw [hx.self];exact hf a ha⟩
 rw [hx.self,hr];omega
end
structure PiTold (k:Nat) (calls:List CallD) (evs:List EvD) (e:EvD):Prop where
 rd:objOf calls e=0->kindOf calls e=1->PiAtT k calls evs e.inv (λa=>e.ans.list.getD a 0)/\e.ans.err=0/\e.ans.val=0/\e.key=[2*(e.inv:Int)]
 el:¬ (objOf calls e=0/\kindOf calls e=1)->e.key=[2*(e.resp:Int)]/\e.ans=(if objOf calls e≠0 then ⟨12,0,[]⟩ else if kindOf calls e≠0 then ⟨9,0,[]⟩ else if tn calls e≠0 then ⟨11,0,[]⟩ else ⟨0,0,[]⟩)
structure PiHist (n k:Nat) (calls:List CallD) (st:PlayD (pinS n k)):Prop where
 marks:st.wd.marks=List.replicate 16 []
 cf:st.wd.mem.c.fault=0
 ca:st.wd.mem.c.all<=st.wd.now
 cell:PiAtT k calls st.evs (st.wd.now+1) (λa=>st.wd.mem.ws.getD (piWord n k st.obj.now a) 0)
 hand:∀ p q j l key i,st.hands.getD p (none,0)=(some (.rd q j l key),i)->1<=j->PiAtT k calls st.evs (evAt st.evs i).inv (λa=>st.wd.mem.ws.getD (piWord n k q a) 0)/\key=[2*((evAt st.evs i).inv:Int)]
 told:∀ j,j<st.evs.length->(evAt st.evs j).resp≠0->PiTold k calls st.evs (evAt st.evs j)
theorem PiTold.keep {st:PlayD (pinS n k)} {q j:Nat} {evs':List EvD} {e1 e:EvD} (h:PiTold k calls st.evs e) (hx:Next calls st q evs' j e1) (hr:e1.resp=0∨e1.resp=st.wd.now+1) (hT:e.inv<=st.wd.now+1):PiTold k calls evs' e:=
 ⟨λh0 h1=>⟨(h.rd h0 h1).1.keep hx hr hT,(h.rd h0 h1).2⟩,h.el⟩
theorem pi_hist_rest {st st':PlayD (pinS n k)} {q j:Nat} {e1:EvD} {x:Option (pinS n k).σ×Nat} (hg:StGood calls st) (h:PiHist n k calls st) (hq:q<16) (hx:Next calls st q st'.evs j e1) (hh:st'.hands=st.hands.set q x) (hr:e1.resp=0∨e1.resp=st.wd.now+1)
  (hm:st'.wd.marks=List.replicate 16 []) (hcf:st'.wd.mem.c.fault=0) (hca:st'.wd.mem.c.all<=st'.wd.now)
  (hC:PiAtT k calls st'.evs (st'.wd.now+1) (λa=>st'.wd.mem.ws.getD (piWord n k st'.obj.now a) 0))
  (hO:∀ p q' jj l key i,p≠q->st.hands.getD p (none,0)=(some (.rd q' jj l key),i)->1<=jj->∀ a,a<k->st'.wd.mem.ws.getD (piWord n k q' a) 0=st.wd.mem.ws.getD (piWord n k q' a) 0)
  (hS:∀ q' jj l key i,x=(some (.rd q' jj l key),i)->1<=jj->i=j/\PiAtT k calls st'.evs e1.inv (λa=>st'.wd.mem.ws.getD (piWord n k q' a) 0)/\key=[2*(e1.inv:Int)])
  (hD:e1.resp≠0->PiTold k calls st'.evs e1):PiHist n k calls st':=by
 refine⟨hm,hcf,hca,hC,λp q' jj l key i hp hj=>?_,λi hi hri=>?_⟩
 ·rw [hh,hands_set hg.h16 hq] at hp
  split at hp
  ·obtain⟨rfl,g1,g2⟩:=hS q' jj l key i hp hj
   rw [hx.self]
   exact⟨g1,g2⟩
  ·rename_i hpq
   obtain⟨a1,a2⟩:=hx.apart p _ i hpq hp
   have e:=(hx.other i (Nat.lt_of_lt_of_le a2 hx.size) a1).2
   obtain⟨g1,g2⟩:=h.hand p q' jj l key i hp hj
   have hti:=(hg.ev.tick i a2).2.1
   rw [e]
   exact⟨(g1.keep hx hr (by omega)).congr (hO p q' jj l key i hpq hp hj),g2⟩
 ·by_cases hij:i=j
  ·subst hij
   rw [hx.self] at hri ⊢
   exact hD hri
  ·obtain⟨a1,e⟩:=hx.other i hi hij
   rw [e] at hri ⊢
   have hti:=(hg.ev.tick i a1).2.1
   exact(h.told i a1 hri).keep hx hr (by omega)
end
end Go.Proofs.Ytlepjmnhekeofaa
