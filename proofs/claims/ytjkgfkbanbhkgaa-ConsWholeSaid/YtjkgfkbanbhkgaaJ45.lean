/- Operations done one by one, in the order of their keys: what makes a report whole, in plain numbers. -/
import Derived.Test.YtjkgfkbanbhkgaaJ25
import Derived.Test.YtjkgfkbanbhkgaaJ21
set_option maxRecDepth 100000
set_option linter.unusedVariables false
set_option linter.unusedSimpArgs false
set_option linter.unnecessarySimpa false
namespace Go.Proofs.Ytjkgfkbanbhkgaa
open Go.RowKit

instance evLt_dec (evs : List EvD) (i j : Nat) : Decidable (evLt evs i j) := inferInstanceAs (Decidable (_ ∨ _))

theorem cnt_filter (P : EvD → Bool) : ∀ l : List EvD, cnt P l = (l.filter P).length
  | [] => rfl
  | e :: l => by
    rw [cnt_cons, cnt_filter P l, List.filter_cons]
    split
    · rw [List.length_cons]; omega
    · omega
theorem evs_range (evs : List EvD) : evs = (List.range evs.length).map (evAt evs) := by
  apply List.ext_getElem
  · simp
  · intro i h1 h2
    simp [evAt, List.getD_eq_getElem?_getD, h1]
theorem cnt_range (P : EvD → Bool) (evs : List EvD) : cnt P evs = ((List.range evs.length).filter fun i => P (evAt evs i)).length := by
  rw [cnt_filter]
  have h := evs_range evs
  have h2 : (evs.filter P).length = (((List.range evs.length).map (evAt evs)).filter P).length := by rw [← h]
  rw [h2, List.filter_map, List.length_map]; rfl
theorem order_count (evs : List EvD) (Q : Nat → Bool) : ∀ k, ((orderK evs k).filter Q).length = ((List.range k).filter fun i => Q i && decide (kAt evs i ≠ [])).length
  | 0 => rfl
  | k + 1 => by
    rw [List.range_succ, List.filter_append, List.length_append, ← order_count evs Q k]
    have hK : orderK evs (k + 1) = if kAt evs k = [] then orderK evs k else insK evs (orderK evs k) k := rfl
    rw [hK]
    split
    · rename_i h; simp [h]
    · rename_i h
      have e : ((orderK evs k).filter Q).length = (((orderK evs k).take (insAt evs (orderK evs k) k (orderK evs k).length)).filter Q).length + (((orderK evs k).drop (insAt evs (orderK evs k) k (orderK evs k).length)).filter Q).length := by
        rw [← List.length_append, ← List.filter_append, List.take_append_drop]
      unfold insK
      rw [List.filter_append, List.filter_cons, List.length_append, e]
      cases hq : Q k <;> simp [hq, h] <;> omega
/-- How many of a kind stand ahead of one in the order. -/
theorem pre_count {evs : List EvD} {l m : List Nat} {i : Nat} (h : orderD evs = l ++ i :: m) (Q : Nat → Bool) : (l.filter Q).length = ((List.range evs.length).filter fun j => Q j && decide (evLt evs j i) && decide (kAt evs j ≠ [])).length := by
  have h0 := order_count evs (fun j => Q j && decide (evLt evs j i)) evs.length
  rw [← h0]
  show _ = ((orderD evs).filter _).length
  have hs : (orderD evs).Pairwise (evLt evs) := (orderK_spec evs evs.length).1
  rw [h] at hs ⊢
  obtain ⟨_, p2, p3⟩ := List.pairwise_append.1 hs
  obtain ⟨p4, _⟩ := List.pairwise_cons.1 p2
  rw [List.filter_append, List.length_append]
  have e1 : l.filter (fun j => Q j && decide (evLt evs j i)) = l.filter Q := List.filter_congr fun j hj => by
    rw [decide_eq_true (p3 j hj i (by simp)), Bool.and_true]
  have e2 : (i :: m).filter (fun j => Q j && decide (evLt evs j i)) = [] := by
    rw [List.filter_eq_nil_iff]
    intro j hj
    rcases List.mem_cons.1 hj with rfl | hj
    · rw [decide_eq_false (evLt_irrefl evs j)]; simp
    · rw [decide_eq_false (evLt_asymm (p4 j hj))]; simp
  rw [e1, e2, List.length_nil, Nat.add_zero]

/-- A fold holds if each operation answers as the ones ahead of it make it answer. -/
theorem fold_of {ap : List Nat → CallD → List Nat × AnsD} {calls : List CallD} {evs : List EvD} : ∀ (L : List Nat) (st : List Nat),
    (∀ l i m, L = l ++ i :: m → (evAt evs i).resp ≠ 0 → (evAt evs i).ans = if (calls.getD (evAt evs i).call d0).obj ≠ 0 then ⟨12, 0, []⟩ else (ap (foldTo ap calls evs st l) (calls.getD (evAt evs i).call d0)).2) → Fold ap calls evs st L
  | [], _, _ => trivial
  | i :: L, st, h => by
    have h0 := h [] i L rfl
    unfold Fold
    split
    · rename_i ho
      refine ⟨fun hr => (h0 hr).trans (if_pos ho), fold_of L st fun l j m hL hr => ?_⟩
      have := h (i :: l) j m (by rw [hL]; rfl) hr
      rw [this, show foldTo ap calls evs st (i :: l) = foldTo ap calls evs (if (calls.getD (evAt evs i).call d0).obj ≠ 0 then st else (ap st (calls.getD (evAt evs i).call d0)).1) l from rfl, if_pos ho]
    · rename_i ho
      refine ⟨fun hr => (h0 hr).trans (if_neg ho), fold_of L _ fun l j m hL hr => ?_⟩
      have := h (i :: l) j m (by rw [hL]; rfl) hr
      rw [this, show foldTo ap calls evs st (i :: l) = foldTo ap calls evs (if (calls.getD (evAt evs i).call d0).obj ≠ 0 then st else (ap st (calls.getD (evAt evs i).call d0)).1) l from rfl, if_neg ho]

/-- A report is that of operations done one by one. -/
structure WholeGood (ap : List Nat → CallD → List Nat × AnsD) (s0 : List Nat) (calls : List CallD) (n : Nat) (r : RepD) : Prop where
  rows : RowsGood calls n r
  fold : Fold ap calls r.evs s0 (orderD r.evs)
theorem rows_ahead {calls : List CallD} {n : Nat} {r : RepD} (h : RowsGood calls n r) {i k : Nat} (hi : i < r.evs.length) (hk : k < r.evs.length) (hr : (evAt r.evs i).resp ≠ 0) (hlt : (evAt r.evs i).resp < (evAt r.evs k).inv) (hne : kAt r.evs k ≠ []) : kAt r.evs i ≠ [] ∧ keyLt (kAt r.evs i) (kAt r.evs k) = true := by
  obtain ⟨_, _, _, w1, w2, w3⟩ := (h.ev i hi).resp hr
  have hk2 : 2 * ((evAt r.evs k).inv : Int) ≤ (kAt r.evs k).headD 0 := by
    by_cases hr2 : (evAt r.evs k).resp = 0
    · rcases (h.ev k hk).open_ hr2 with h1 | h1
      · exact absurd h1 hne
      · exact h1.2.1
    · exact ((h.ev k hk).resp hr2).2.2.2.2.1
  exact ⟨w1, keyLt_head w1 hne (by unfold kAt at *; omega)⟩
end Go.Proofs.Ytjkgfkbanbhkgaa
