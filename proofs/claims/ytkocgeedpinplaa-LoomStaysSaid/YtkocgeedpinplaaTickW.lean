/- Layer 9: the walk of AdderTickets. -/
import Derived.Test.YtkocgeedpinplaaTick
set_option maxRecDepth 100000
namespace Go.Proofs.Ytkocgeedpinplaa
open Go.RowKit

/-- A report's event, as it lies. -/
theorem RepAt.event {X : Nat → Prop} {B : Nat} {w : World} {ea : Option Addr} {en ec : Nat} {wv : Value} {ers : List (Value × Value)} {r : RepD} (h : RepAt X B w (.slice ea en ec) wv ers r) (hn : en = r.evs.length) (h0 : 0 < en) :
    ∃ g, ea = some ⟨g, 0, none⟩ ∧ g < w.heap.size ∧ ∀ i f, i < en → f < 8 → w.cell? ⟨g, i * 8 + f, none⟩ = (evCells (r.evs.getD i ev0) (ers.getD i vv0))[f]? := by
  obtain ⟨g, c, h1, h2, h3⟩ := h.row.form (by omega)
  simp only [Value.slice.injEq] at h1
  obtain ⟨rfl, h4, h5⟩ := h1
  refine ⟨g, rfl, h3, fun i f hi hf => ?_⟩
  have hr := h.row
  rw [← hn] at hr
  rw [hr.cellAt _ (by omega), evRow_get _ _ _ _ h.elen.symm (by omega) hf]
theorem RepAt.word {X : Nat → Prop} {B : Nat} {w : World} {ev : Value} {va : Option Addr} {vn vc : Nat} {ers : List (Value × Value)} {r : RepD} (h : RepAt X B w ev (.slice va vn vc) ers r) (hn : vn = r.words.length) (h0 : 0 < vn) :
    ∃ q, va = some ⟨q, 0, none⟩ ∧ q < w.heap.size ∧ ∀ j, j < vn → w.cell? ⟨q, j, none⟩ = some (.int .u64 ((r.words.getD j 0 : Nat) : Int)) := by
  obtain ⟨g, c, h1, h2, h3⟩ := h.words.form (by omega)
  simp only [Value.slice.injEq] at h1
  obtain ⟨rfl, h4, h5⟩ := h1
  refine ⟨g, rfl, h3, fun j hj => ?_⟩
  have hr := h.words
  rw [← hn] at hr
  rw [hr.cellAt _ (by omega)]
  simp [u64V, List.getD_eq_getElem?_getD, show j < r.words.length by omega]

def callL (c : CallD) : List Value := [.int .i64 c.thread, .int .i64 c.obj, .int .i64 c.kind, .int .u64 (c.a : Int), .int .u64 (c.b : Int), .int .u64 (c.c : Int)]
theorem callL_get : ∀ (l : List CallD) (j f : Nat), j < l.length → f < 6 → (l.flatMap callL)[j * 6 + f]? = some (callG l j f)
  | [], j, _, h, _ => by simp at h
  | c :: l, 0, f, _, hf => by
    simp only [List.flatMap_cons, Nat.zero_mul, Nat.zero_add]
    rw [List.getElem?_append_left (by simpa [callL] using hf)]
    match f, hf with
    | 0, _ => rfl
    | 1, _ => rfl
    | 2, _ => rfl
    | 3, _ => rfl
    | 4, _ => rfl
    | 5, _ => rfl
  | c :: l, j + 1, f, h, hf => by
    simp only [List.flatMap_cons]
    rw [List.getElem?_append_right (by simp [callL]; omega), show (j + 1) * 6 + f - (callL c).length = j * 6 + f by simp [callL]; omega, callL_get l j f (by simpa using h) hf]
    simp [callG]
theorem calls_len (l : List CallD) : (l.flatMap callL).length = l.length * 6 := by
  induction l with
  | nil => rfl
  | cons c l ih => simp [ih, callL]; omega
/-- Calls in a block that holds them. -/
theorem calls_block {w : World} {b : Nat} {l : List CallD} {fz : Nat × Nat} (h : w.heap[b]? = some (.cells (l.flatMap callL).toArray 80 fz)) (hl : l.length ≤ 1000000) : SlAt w (some ⟨b, 0, none⟩) l.length 6 (callG l) := by
  refine ⟨by unfold maxLen; omega, fun j hj => ⟨b, 0, rfl, blk_lt h, fun f hf => ?_⟩⟩
  rw [Nat.zero_add, cell_blk h]
  simpa using callL_get l j f hj hf
theorem ints_block {w : World} {b : Nat} {l : List Int} {fz : Nat × Nat} (h : w.heap[b]? = some (.cells (l.map (Value.int .i64)).toArray 3 fz)) (hl : l.length ≤ 1000000) : SlAt w (some ⟨b, 0, none⟩) l.length 1 (intG l) := by
  refine ⟨by unfold maxLen; omega, fun j hj => ⟨b, 0, rfl, blk_lt h, fun f hf => ?_⟩⟩
  obtain rfl : f = 0 := by omega
  rw [cell_blk h]
  simp [intG, List.getD_eq_getElem?_getD, hj]

def twoCalls9 : List CallD := [⟨0, 0, 2, 0, 0, 0⟩, ⟨1, 0, 2, 0, 0, 0⟩]
theorem two_rep9 : playD adderS () [0] twoCalls9 [1, 0] = ⟨[⟨1, 1, 1, 1, ⟨0, 0, []⟩, [2]⟩, ⟨0, 2, 2, 1, ⟨0, 1, []⟩, [4]⟩], [2], ⟨0, 0, 0, 2, 0⟩, 2, 0⟩ := by rfl
theorem two_check9 : checkN 2 twoCalls9 2 = 0 := by rfl
theorem callOk_small {t k : Int} (h1 : 0 ≤ t) (h2 : t < 16) (h3 : 0 ≤ k) (h4 : k < 16) {a b c : Nat} (ha : a < 100) (hb : b < 100) (hc : c < 100) : CallOk ⟨t, 0, k, a, b, c⟩ :=
  ⟨by simp [Lit.wf, IntKind.min, IntKind.max, IntKind.signed, IntKind.bits]; omega, by rfl, by simp [Lit.wf, IntKind.min, IntKind.max, IntKind.signed, IntKind.bits]; omega, by simp only; omega, by simp only; omega, by simp only; omega⟩

set_option maxHeartbeats 4000000 in
theorem adder_two (w : World) : Calls Try.prog 44 #[] w fun e w' => e = .returned (.bool true) ∧ Below w.heap.size w w' := by
  obtain ⟨wa, hwa⟩ : ∃ wa, wa = (w.alloc (.cells #[.int .i64 0, .int .i64 0, .int .i64 2, .int .u64 0, .int .u64 0, .int .u64 0, .int .i64 1, .int .i64 0, .int .i64 2, .int .u64 0, .int .u64 0, .int .u64 0] 80)).alloc (.cells #[.int .i64 1, .int .i64 0] 3) := ⟨_, rfl⟩
  have hga : Below w.heap.size w wa := by rw [hwa]; exact Gr.alloc (Gr.new _ _) _
  have h1 : wa.heap[w.heap.size]? = some (.cells (twoCalls9.flatMap callL).toArray 80 (0, 0)) := by rw [hwa, Below.heap_alloc _ _ _ (by simp), heap_alloc_new]; rfl
  have h2 : wa.heap[w.heap.size + 1]? = some (.cells (([1, 0] : List Int).map (Value.int .i64)).toArray 3 (0, 0)) := by
    rw [hwa]
    have := heap_alloc_new (w.alloc (.cells #[.int .i64 0, .int .i64 0, .int .i64 2, .int .u64 0, .int .u64 0, .int .u64 0, .int .i64 1, .int .i64 0, .int .i64 2, .int .u64 0, .int .u64 0, .int .u64 0] 80)) (.cells #[.int .i64 1, .int .i64 0] 3 (0, 0))
    simp only [World.size_alloc] at this
    exact this
  have P := adderPlay_any noB wa 2 twoCalls9 [1, 0] (some ⟨w.heap.size, 0, none⟩) (some ⟨w.heap.size + 1, 0, none⟩) 2 2 (fun b hb => hb.elim) ⟨calls_block h1 (by decide), (by
      intro x hx
      simp only [twoCalls9, List.mem_cons, List.not_mem_nil, or_false] at hx
      rcases hx with rfl | rfl <;> exact callOk_small (by decide) (by decide) (by decide) (by decide) (by decide) (by decide) (by decide)), fun _ _ _ _ h => h⟩ ⟨ints_block h2 (by decide), by intro x hx; simp only [List.mem_cons, List.not_mem_nil, or_false] at hx; rcases hx with rfl | rfl <;> rfl⟩
  rw [show ([1, 0] : List Int).length = 2 from rfl, two_check9, two_rep9, show twoCalls9.length = 2 from rfl] at P
  have HP := Lib.hid P; have Hwa := Lib.hid hwa; have Hga := Lib.hid hga
  clear P h1 h2 hwa hga
  go_enter Try.func44, Try.ntmps44
  go_wp2_with fail
  rw [← Hwa.out]
  refine HP.out.mono ?_
  rintro e w1 ⟨ea, en, ec, va, vn, vc, rp, rfl, hb, hr⟩
  rcases hr with ⟨h0, _⟩ | ⟨_, hrp, hen, hvn, ers, hrep⟩
  · exact absurd rfl h0
  obtain ⟨g, rfl, hg, hev⟩ := hrep.event hen (by rw [hen]; decide)
  obtain ⟨q, rfl, hq, hwd⟩ := hrep.word hvn (by rw [hvn]; decide)
  have hen2 : en = 2 := hen
  have hvn2 : vn = 1 := hvn
  subst hen2 hvn2 hrp
  have c0 : w1.cell? ⟨g, 0, none⟩ = some (.int .i64 1) := hev 0 0 (by omega) (by omega)
  have c5 : w1.cell? ⟨g, 5, none⟩ = some (.int .u64 0) := hev 0 5 (by omega) (by omega)
  have c13 : w1.cell? ⟨g, 13, none⟩ = some (.int .u64 1) := hev 1 5 (by omega) (by omega)
  have d0 : w1.cell? ⟨q, 0, none⟩ = some (.int .u64 2) := hwd 0 (by omega)
  have Hb := Lib.hid hb
  clear hrep hev hwd hb hen hvn
  unfold repV
  go_wp2
  go_ret
  exact ⟨rfl, Gr.trans Hga.out (Gr.trans Hb.out (Gr.new _ _))⟩
end Go.Proofs.Ytkocgeedpinplaa
