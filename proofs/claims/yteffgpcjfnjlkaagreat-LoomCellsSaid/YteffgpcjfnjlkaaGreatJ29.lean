/- Layer 6: the order of keys, in plain lists. -/
import Derived.Test.YteffgpcjfnjlkaaGreatJ28
import Derived.Test.YteffgpcjfnjlkaaGreatJ16
import Derived.Test.YteffgpcjfnjlkaaGreatJ20
set_option maxRecDepth 100000
set_option linter.unusedVariables false
set_option linter.unusedSimpArgs false
set_option linter.unnecessarySimpa false
namespace Go.Proofs.YteffgpcjfnjlkaaGreat
section
open Go.RowKit
end
section

/- Layer 9: adder.Play. -/
open Go.RowKit
abbrev adderS : Sys := onceSys adderRef adderAct
end
section

/- Layer 9: tickets, in plain numbers. -/
open Go.RowKit
structure TkInv (st : PlayD adderS) (k : Nat) : Prop where
  h16 : st.hands.length = 16
  none_ : ∀ p, (st.hands.getD p (none, 0)).1 = none
  now : st.wd.now = st.evs.length
  ws : st.wd.mem.ws = [st.evs.length]
  evs : ∀ i, i < st.evs.length → (st.evs.getD i ev0).ans.val = i ∧ (st.evs.getD i ev0).resp = i + 1
  len : st.evs.length ≤ k
end
section

/- Layer 9: the walk of AdderTickets. -/
open Go.RowKit
theorem RepAt.event {X : Nat → Prop} {B : Nat} {w : World} {ea : Option Addr} {en ec : Nat} {wv : Value} {ers : List (Value × Value)} {r : RepD} (h : RepAt X B w (.slice ea en ec) wv ers r) (hn : en = r.evs.length) (h0 : 0 < en) :
    ∃ g, ea = some ⟨g, 0, none⟩ ∧ g < w.heap.size ∧ ∀ i f, i < en → f < 8 → w.cell? ⟨g, i * 8 + f, none⟩ = (evCells (r.evs.getD i ev0) (ers.getD i vv0))[f]? := by
  obtain ⟨g, c, h1, h2, h3⟩ := h.row.form (by omega)
  simp only [Value.slice.injEq] at h1
  obtain ⟨rfl, h4, h5⟩ := h1
  refine ⟨g, rfl, h3, fun i f hi hf => ?_⟩
  have hr := h.row
  rw [← hn] at hr
  rw [hr.cellAt _ (by omega), evRow_get _ _ _ _ h.elen.symm (by omega) hf]
theorem RepAt.word {X : Nat → Prop} {B : Nat} {w : World} {ev : Value} {va : Option Addr} {vn vc : Nat} {ers : List (Value × Value)} {r : RepD} (h : RepAt X B w ev (.slice va vn vc) ers r) (hn : vn = r.words.length) (h0 : 0 < vn) :
    ∃ q, va = some ⟨q, 0, none⟩ ∧ q < w.heap.size ∧ ∀ j, j < vn → w.cell? ⟨q, j, none⟩ = some (.int .u64 ((r.words.getD j 0 : Nat) : Int)) := by
  obtain ⟨g, c, h1, h2, h3⟩ := h.words.form (by omega)
  simp only [Value.slice.injEq] at h1
  obtain ⟨rfl, h4, h5⟩ := h1
  refine ⟨g, rfl, h3, fun j hj => ?_⟩
  have hr := h.words
  rw [← hn] at hr
  rw [hr.cellAt _ (by omega)]
  simp [u64V, List.getD_eq_getElem?_getD, show j < r.words.length by omega]
def callL (c : CallD) : List Value := [.int .i64 c.thread, .int .i64 c.obj, .int .i64 c.kind, .int .u64 (c.a : Int), .int .u64 (c.b : Int), .int .u64 (c.c : Int)]
theorem callL_get : ∀ (l : List CallD) (j f : Nat), j < l.length → f < 6 → (l.flatMap callL)[j * 6 + f]? = some (callG l j f)
  | [], j, _, h, _ => by simp at h
  | c :: l, 0, f, _, hf => by
    simp only [List.flatMap_cons, Nat.zero_mul, Nat.zero_add]
    rw [List.getElem?_append_left (by simpa [callL] using hf)]
    match f, hf with
    | 0, _ => rfl
    | 1, _ => rfl
    | 2, _ => rfl
    | 3, _ => rfl
    | 4, _ => rfl
    | 5, _ => rfl
  | c :: l, j + 1, f, h, hf => by
    simp only [List.flatMap_cons]
    rw [List.getElem?_append_right (by simp [callL]; omega), show (j + 1) * 6 + f - (callL c).length = j * 6 + f by simp [callL]; omega, callL_get l j f (by simpa using h) hf]
    simp [callG]
theorem calls_block {w : World} {b : Nat} {l : List CallD} {fz : Nat × Nat} (h : w.heap[b]? = some (.cells (l.flatMap callL).toArray 48 fz)) (hl : l.length ≤ 1000000) : SlAt w (some ⟨b, 0, none⟩) l.length 6 (callG l) := by
  refine ⟨by unfold maxLen; omega, fun j hj => ⟨b, 0, rfl, blk_lt h, fun f hf => ?_⟩⟩
  rw [Nat.zero_add, cell_blk h]
  simpa using callL_get l j f hj hf
theorem ints_block {w : World} {b : Nat} {l : List Int} {fz : Nat × Nat} (h : w.heap[b]? = some (.cells (l.map (Value.int .i64)).toArray 3 fz)) (hl : l.length ≤ 1000000) : SlAt w (some ⟨b, 0, none⟩) l.length 1 (intG l) := by
  refine ⟨by unfold maxLen; omega, fun j hj => ⟨b, 0, rfl, blk_lt h, fun f hf => ?_⟩⟩
  obtain rfl : f = 0 := by omega
  rw [cell_blk h]
  simp [intG, List.getD_eq_getElem?_getD, hj]
theorem callOk_small {t k : Int} (h1 : 0 ≤ t) (h2 : t < 16) (h3 : 0 ≤ k) (h4 : k < 16) {a b c : Nat} (ha : a < 100) (hb : b < 100) (hc : c < 100) : CallOk ⟨t, 0, k, a, b, c⟩ :=
  ⟨by simp [Lit.wf, IntKind.min, IntKind.max, IntKind.signed, IntKind.bits]; omega, by rfl, by simp [Lit.wf, IntKind.min, IntKind.max, IntKind.signed, IntKind.bits]; omega, by simp only; omega, by simp only; omega, by simp only; omega⟩
end
section

/- Layer 6: the order of keys: the walks of ahead, Order. -/
open Go.RowKit
end
section

/- Layer 7: the walk of ConsAgrees. -/
open Go.RowKit
def manyB (l p : Nat) : Bool := decide ((60 < l ∧ l ≤ 1000) ∨ (600 < p ∧ p ≤ 65536) ∨ 1100 < l)
theorem many_any (ca pa : Option Addr) (l p cc pc : Nat) (w : World) (hl : l ≤ maxLen) (hp : p ≤ maxLen) :
    Calls Tryz.prog 11 #[.slice ca l cc, .slice pa p pc] w fun e w' => e = .returned (.bool (manyB l p)) ∧ w = w' := by
  unfold maxLen at hl hp
  obtain ⟨b, hb⟩ : ∃ b, b = manyB l p := ⟨_, rfl⟩
  rw [← hb]
  by_cases h1 : (60 : Int) < (l : Int) <;> by_cases h2 : (l : Int) ≤ 1000 <;> by_cases h3 : (600 : Int) < (p : Int) <;> by_cases h4 : (p : Int) ≤ 65536 <;> by_cases h5 : (1100 : Int) < (l : Int)
  all_goals first | (exfalso; omega) | skip
  all_goals
    have hv : b = decide ((60 < l ∧ l ≤ 1000) ∨ (600 < p ∧ p ≤ 65536) ∨ 1100 < l) := hb
    first
      | (have hb2 : b = true := by rw [hv]; simp; omega
         subst hb2; clear hb hv
         go_enter Tryz.func11, Tryz.ntmps11
         go_wp2
         go_ret
         exact ⟨rfl, rfl⟩)
      | (have hb2 : b = false := by rw [hv]; simp; omega
         subst hb2; clear hb hv
         go_enter Tryz.func11, Tryz.ntmps11
         go_wp2
         go_ret
         exact ⟨rfl, rfl⟩)
end
end Go.Proofs.YteffgpcjfnjlkaaGreat
