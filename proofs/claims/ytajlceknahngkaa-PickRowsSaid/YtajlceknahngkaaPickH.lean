/- Layer 5: the law PickRows: plain law and walk. -/
import Derived.Test.YtajlceknahngkaaPickG
set_option maxRecDepth 100000
namespace Go.Proofs.Ytajlceknahngkaa
open Go.RowKit

def thr (l : List CallD) (x : Nat) : Int := (l.getD x d0).thread
def rowsOrd (l : List CallD) (out : List Nat) : Prop := (∀ x ∈ out, x < l.length) ∧ out.Pairwise (fun x y => thr l x = thr l y → x ≤ y)

theorem nowN_first {l : List CallD} {fin : List Bool} {p : Int} {i : Nat} (h : nowN l fin p = some i) : ∀ y, y < i → thr l y = p → fin.getD y false = true := by
  intro y hy ht
  unfold nowN at h
  rw [List.find?_range_eq_some] at h
  obtain ⟨h1, h2, h3⟩ := h
  have := h3 y hy
  unfold nowIs at this
  unfold thr at ht
  rw [ht] at this
  simpa using this

theorem getD_set_true {fin : List Bool} {i y : Nat} (h : fin.getD y false = true) : (fin.set i true).getD y false = true := by
  simp only [List.getD_eq_getElem?_getD, List.getElem?_set] at h ⊢
  by_cases c : i = y
  · subst c
    by_cases c2 : i < fin.length
    · simp [c2]
    · simp [c2] at h
  · simp [c, h]

theorem turnsGo_inv (l : List CallD) (need : List Int) : ∀ (ps : List Int) (fin : List Bool) (made out : List Nat) (idle : Nat), rowsOrd l out → (∀ x ∈ out, ∀ y, y < x → thr l y = thr l x → fin.getD y false = true) →
    (turnsGo l need ps fin made out idle).1.length + (turnsGo l need ps fin made out idle).2 = out.length + idle + ps.length ∧ rowsOrd l (turnsGo l need ps fin made out idle).1
  | [], fin, made, out, idle, h, hf => ⟨rfl, h⟩
  | p :: ps, fin, made, out, idle, h, hf => by
    unfold turnsGo
    cases hn : nowN l fin p with
    | none =>
      simp only
      have := turnsGo_inv l need ps fin made out (idle + 1) h hf
      exact ⟨by rw [this.1]; simp; omega, this.2⟩
    | some i =>
      simp only
      obtain ⟨hil, hit, hif⟩ := nowN_spec hn
      have hfst := nowN_first hn
      have hord : rowsOrd l (out ++ [i]) := by
        refine ⟨fun x hx => ?_, ?_⟩
        · rcases List.mem_append.1 hx with hx | hx
          · exact h.1 x hx
          · simp at hx; omega
        · rw [List.pairwise_append]
          refine ⟨h.2, by simp, fun x hx y hy ht => ?_⟩
          simp at hy
          subst hy
          refine Nat.le_of_not_lt fun hlt => ?_
          have := hf x hx y hlt ht.symm
          rw [hif] at this
          cases this
      have hfin : ∀ f2 : List Bool, (∀ y, fin.getD y false = true → f2.getD y false = true) → ∀ x ∈ out ++ [i], ∀ y, y < x → thr l y = thr l x → f2.getD y false = true := by
        intro f2 h2 x hx y hy ht
        rcases List.mem_append.1 hx with hx | hx
        · exact h2 y (hf x hx y hy ht)
        · simp at hx
          subst hx
          exact h2 y (hfst y hy (by rw [ht]; exact hit))
      have := turnsGo_inv l need ps (if doneB need i (made.getD i 0 + 1) then fin.set i true else fin) (made.set i (made.getD i 0 + 1)) (out ++ [i]) idle hord (hfin _ (fun y hy => by
        split
        · exact getD_set_true hy
        · exact hy))
      exact ⟨by rw [this.1]; simp; omega, this.2⟩

theorem turnsN_inv {l : List CallD} {need picks : List Int} {out : List Nat} {idle : Nat} (h : turnsN l need picks = (out, idle)) : out.length + idle = picks.length ∧ rowsOrd l out := by
  have := turnsGo_inv l need picks (List.replicate l.length false) (List.replicate l.length 0) [] 0 ⟨by simp, by simp⟩ (by simp)
  unfold turnsN at h
  rw [h] at this
  simpa using this

theorem bad_none {n : Int} {l : List CallD} (h : anyBad n l = false) {x : Nat} (hx : x < l.length) : 0 ≤ thr l x ∧ thr l x < n := by
  unfold anyBad at h
  rw [List.any_eq_false] at h
  have := h l[x] (List.getElem_mem hx)
  unfold badT at this
  simp only [decide_eq_true_eq] at this
  unfold thr
  rw [List.getD_eq_getElem?_getD]
  simp only [List.getElem?_eq_getElem hx, Option.getD_some]
  omega

/-- What last keeps: of every thread, a call it has had (or the first). -/
def lastOk (l : List CallD) (seen last : List Nat) : Prop := ∀ t, last.getD t 0 = 0 ∨ (last.getD t 0 ∈ seen ∧ thr l (last.getD t 0) = (t : Int))
theorem lastOk_init (l : List CallD) : lastOk l [] (List.replicate 16 0) := fun t => .inl (by rw [List.getD_eq_getElem?_getD, List.getElem?_replicate]; split <;> rfl)
theorem lastOk_le {l : List CallD} {out last : List Nat} {k : Nat} (hk : k < out.length) (h : lastOk l (out.take k) last) (ho : rowsOrd l out) {t : Nat} (ht : thr l out[k] = (t : Int)) : last.getD t 0 ≤ out[k] := by
  rcases h t with h0 | ⟨h1, h2⟩
  · omega
  · obtain ⟨j, hj, hv⟩ := List.getElem_of_mem h1
    have hjk : j < k := by simp at hj; omega
    have hjo : j < out.length := by omega
    rw [List.getElem_take] at hv
    rw [← hv]
    exact List.pairwise_iff_getElem.1 ho.2 j k hjo hk hjk (by rw [ht, hv]; exact h2)
theorem lastOk_set {l : List CallD} {out last : List Nat} {k : Nat} (hk : k < out.length) (h : lastOk l (out.take k) last) {t : Nat} (ht : thr l out[k] = (t : Int)) (htl : t < last.length) : lastOk l (out.take (k + 1)) (last.set t out[k]) := by
  have htk : out.take (k + 1) = out.take k ++ [out[k]] := by rw [List.take_succ_eq_append_getElem hk]
  intro s
  rw [htk]
  by_cases c : t = s
  · subst c
    refine .inr ?_
    have : (last.set t out[k]).getD t 0 = out[k] := by simp [List.getD_eq_getElem?_getD, htl]
    rw [this]
    exact ⟨List.mem_append_right _ (List.mem_singleton.2 rfl), ht⟩
  · have : (last.set t out[k]).getD s 0 = last.getD s 0 := by simp [List.getD_eq_getElem?_getD, List.getElem?_set, c]
    rw [this]
    rcases h s with h0 | ⟨h1, h2⟩
    · exact .inl h0
    · exact .inr ⟨List.mem_append_left _ h1, h2⟩
end Go.Proofs.Ytajlceknahngkaa
