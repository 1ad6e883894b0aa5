/- Operations done one by one, in the order of their keys: what makes a report whole, in plain numbers. -/
import Derived.Test.YtlanekkbciffcaaF23
import Derived.Test.YtlanekkbciffcaaF16
set_option maxRecDepth 100000
set_option linter.unusedVariables false
set_option linter.unusedSimpArgs false
set_option linter.unnecessarySimpa false
namespace Go.Proofs.Ytlanekkbciffcaa
open Go.RowKit
instance evLt_dec (evs:List EvD) (i j:Nat):Decidable (evLt evs i j):=inferInstanceAs (Decidable (_∨_))
theorem fold_of {ap:List Nat->CallD->List Nat×AnsD} {calls:List CallD} {evs:List EvD}:∀(L:List Nat) (st:List Nat),
  (∀ l i m,L=l++i::m->(evAt evs i).resp≠0->(evAt evs i).ans=if (calls.getD (evAt evs i).call d0).obj≠0 then ⟨12,0,[]⟩ else (ap (foldTo ap calls evs st l) (calls.getD (evAt evs i).call d0)).2)->Fold ap calls evs st L
 | [],_,_=>trivial
 | i::L,st,h=>by
  have h0:=h [] i L rfl
  unfold Fold
  split
  ·rename_i ho
   refine⟨λhr=>(h0 hr).trans (if_pos ho),fold_of L st λl j m hL hr=>?_⟩
   have:=h (i::l) j m (by rw [hL];rfl) hr
   rw [this,show foldTo ap calls evs st (i::l)=foldTo ap calls evs (if (calls.getD (evAt evs i).call d0).obj≠0 then st else (ap st (calls.getD (evAt evs i).call d0)).1) l from rfl,if_pos ho]
  ·rename_i ho
   refine⟨λhr=>(h0 hr).trans (if_neg ho),fold_of L _ λl j m hL hr=>?_⟩
   have:=h (i::l) j m (by rw [hL];rfl) hr
   rw [this,show foldTo ap calls evs st (i::l)=foldTo ap calls evs (if (calls.getD (evAt evs i).call d0).obj≠0 then st else (ap st (calls.getD (evAt evs i).call d0)).1) l from rfl,if_neg ho]
structure WholeGood (ap:List Nat->CallD->List Nat×AnsD) (s0:List Nat) (calls:List CallD) (n:Nat) (r:RepD):Prop where
 rows:RowsGood calls n r
 fold:Fold ap calls r.evs s0 (orderD r.evs)
theorem rows_ahead {calls:List CallD} {n:Nat} {r:RepD} (h:RowsGood calls n r) {i k:Nat} (hi:i<r.evs.length) (hk:k<r.evs.length) (hr:(evAt r.evs i).resp≠0) (hlt:(evAt r.evs i).resp<(evAt r.evs k).inv) (hne:kAt r.evs k≠[]):kAt r.evs i≠[]/\keyLt (kAt r.evs i) (kAt r.evs k)=true:=by
 obtain⟨_,_,_,w1,w2,w3⟩:=(h.ev i hi).resp hr
 have hk2:2*((evAt r.evs k).inv:Int)<=(kAt r.evs k).headD 0:=by
  by_cases hr2:(evAt r.evs k).resp=0
  ·rcases(h.ev k hk).open_ hr2 with h1|h1
   ·exact absurd h1 hne
   ·exact h1.2.1
  ·exact((h.ev k hk).resp hr2).2.2.2.2.1
 exact⟨w1,keyLt_head w1 hne (by unfold kAt at *;omega)⟩
end Go.Proofs.Ytlanekkbciffcaa
