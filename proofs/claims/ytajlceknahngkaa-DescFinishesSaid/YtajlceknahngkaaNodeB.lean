/- Contracts of package node: the words. -/
import Derived.Test.YtajlceknahngkaaNodeA
namespace Go.Proofs.Ytajlceknahngkaa
open Go.RowKit

theorem packGo_cons {s v a x : Nat} {l : List (Int × Nat)} (h1 : 1 ≤ s) (h2 : a + s ≤ 64) (hx : x < 2 ^ a) :
    packGo (((s : Int), v) :: l) a x = if 2 ^ s ≤ v then (10, 0) else packGo l (a + s) (x + 2 ^ a * v) := by
  have hB : isB (a : Int) (s : Int) = true := by unfold isB; simp; omega
  simp only [packGo, hB, Int.toNat_natCast]
  rw [if_neg (by simp)]
  have e1 : x / 2 ^ (a + s) = 0 := Nat.div_eq_of_lt (Nat.lt_of_lt_of_le hx (Nat.pow_le_pow_right (by omega) (by omega)))
  have e2 : x % 2 ^ a = x := Nat.mod_eq_of_lt hx
  have e3 : putN x a s v = x + 2 ^ a * v := by unfold putN; rw [e1, e2]; omega
  rw [e3]

theorem sl_alloc (w : World) (arr : Array Value) (T : TypeId) {n k : Nat} {g : Nat → Nat → Value} (hn : n ≤ maxLen) (h : ∀ j, j < n → ∀ f, f < k → arr[j * k + f]? = some (g j f)) :
    SlAt (w.alloc (.cells arr T)) (some ⟨w.heap.size, 0, none⟩) n k g :=
  ⟨hn, fun j hj => ⟨_, _, rfl, by simp, fun f hf => by rw [Nat.zero_add, cell_new]; exact h j hj f hf⟩⟩

theorem fields2 (w : World) (a b : Int) (x y : Nat) : SlAt (w.alloc (.cells #[.int .i64 a, .int .u64 (x : Int), .int .i64 b, .int .u64 (y : Int)] 39)) (some ⟨w.heap.size, 0, none⟩) ([(a, x), (b, y)] : List (Int × Nat)).length 2 (fieldG [(a, x), (b, y)]) :=
  sl_alloc _ _ _ (by unfold maxLen; simp) fun j hj f hf => by
    simp only [List.length_cons, List.length_nil] at hj
    obtain rfl | rfl : j = 0 ∨ j = 1 := by omega
    all_goals
      obtain rfl | rfl : f = 0 ∨ f = 1 := by omega
      all_goals rfl
theorem fields3 (w : World) (a b c : Int) (x y z : Nat) : SlAt (w.alloc (.cells #[.int .i64 a, .int .u64 (x : Int), .int .i64 b, .int .u64 (y : Int), .int .i64 c, .int .u64 (z : Int)] 39)) (some ⟨w.heap.size, 0, none⟩) ([(a, x), (b, y), (c, z)] : List (Int × Nat)).length 2 (fieldG [(a, x), (b, y), (c, z)]) :=
  sl_alloc _ _ _ (by unfold maxLen; simp) fun j hj f hf => by
    simp only [List.length_cons, List.length_nil] at hj
    obtain rfl | rfl | rfl : j = 0 ∨ j = 1 ∨ j = 2 := by omega
    all_goals
      obtain rfl | rfl : f = 0 ∨ f = 1 := by omega
      all_goals rfl

/-- The word of fields, or why there is none. -/
def word2 (s1 v1 s2 v2 : Nat) : Int × Nat := if 2 ^ s1 ≤ v1 ∨ 2 ^ s2 ≤ v2 then (10, 0) else (0, v1 + 2 ^ s1 * v2)
theorem pack2 {s1 v1 s2 v2 : Nat} (h1 : 1 ≤ s1) (h2 : 1 ≤ s2) (h : s1 + s2 ≤ 64) : packGo [((s1 : Int), v1), ((s2 : Int), v2)] 0 0 = word2 s1 v1 s2 v2 := by
  unfold word2
  rw [packGo_cons h1 (by omega) (by simp)]
  by_cases c1 : 2 ^ s1 ≤ v1
  · simp [c1]
  · rw [if_neg c1, packGo_cons h2 (by omega) (by simp; omega)]
    by_cases c2 : 2 ^ s2 ≤ v2
    · simp [c2]
    · simp [c1, c2, packGo]

theorem ref_yes (i v : Nat) (w : World) (h1 : 1 ≤ i) (h2 : i < 1024) (hv : U64 v) :
    Calls Try.prog 35 #[.int .i64 (i : Int), .int .u64 (v : Int)] w fun e w' => ∃ (er : Int) (x : Nat), e = .returned (.tuple #[.int .u64 (x : Int), .int .i64 er]) ∧ Below w.heap.size w w' ∧ Hid ((er, x) = word2 10 i 20 v) := by
  have hp := Lib.hid (pack2 (s1 := 10) (v1 := i) (s2 := 20) (v2 := v) (by omega) (by omega) (by omega))
  go_enter Try.func35, Try.ntmps35
  go_wp2_with fail
  refine (pack_any [(10, i), (20, v)] _ _ _ (fields2 _ _ _ _ _) (by simp; exact ⟨by unfold U64; omega, hv⟩)).mono ?_
  rintro e w1 ⟨er, x, rfl, hb1, hx⟩
  go_wp2
  go_ret2
  exact ⟨er, x, rfl, Gr.trans (Gr.new _ _) hb1, hx.out.trans hp.out⟩
theorem ref_no (i v : Int) (w : World) (h : i < 1 ∨ (1 ≤ i ∧ 1024 ≤ i)) :
    Calls Try.prog 35 #[.int .i64 i, .int .u64 v] w fun e w' => e = .returned (.tuple #[.int .u64 0, .int .i64 10]) ∧ w = w' := by
  rcases h with h | ⟨h0, h⟩
  all_goals
    go_enter Try.func35, Try.ntmps35
    go_wp2
    go_ret2
    exact ⟨rfl, rfl⟩

theorem stamp_any (v x : Nat) (w : World) (hv : U64 v) (hx : U64 x) :
    Calls Try.prog 37 #[.int .u64 (v : Int), .int .u64 (x : Int)] w fun e w' => ∃ (er : Int) (y : Nat), e = .returned (.tuple #[.int .u64 (y : Int), .int .i64 er]) ∧ Below w.heap.size w w' ∧ Hid ((er, y) = word2 30 x 20 v) := by
  have hp := Lib.hid (pack2 (s1 := 30) (v1 := x) (s2 := 20) (v2 := v) (by omega) (by omega) (by omega))
  go_enter Try.func37, Try.ntmps37
  go_wp2_with fail
  refine (pack_any [(30, x), (20, v)] _ _ _ (fields2 _ _ _ _ _) (by simp; exact ⟨hx, hv⟩)).mono ?_
  rintro e w1 ⟨er, y, rfl, hb1, hy⟩
  go_wp2
  go_ret2
  exact ⟨er, y, rfl, Gr.trans (Gr.new _ _) hb1, hy.out.trans hp.out⟩

def word3 (x v : Nat) : Int × Nat := if 2 ^ 24 ≤ x ∨ 2 ^ 20 ≤ v then (10, 0) else (0, x + 2 ^ 32 * v)
theorem pack3 {v x : Nat} : packGo [(24, x), (8, 0), (20, v)] 0 0 = word3 x v := by
  unfold word3
  rw [show (24 : Int) = ((24 : Nat) : Int) from rfl, packGo_cons (by omega) (by omega) (by simp)]
  by_cases c1 : 2 ^ 24 ≤ x
  · simp [c1]
  · rw [if_neg c1, show (8 : Int) = ((8 : Nat) : Int) from rfl, packGo_cons (by omega) (by omega) (by omega), if_neg (by omega), show (20 : Int) = ((20 : Nat) : Int) from rfl, packGo_cons (by omega) (by omega) (by omega)]
    by_cases c2 : 2 ^ 20 ≤ v
    · simp [c2]
    · simp [c1, c2, packGo]

theorem value_any (v x : Nat) (w : World) (hv : U64 v) (hx : U64 x) :
    Calls Try.prog 39 #[.int .u64 (v : Int), .int .u64 (x : Int)] w fun e w' => ∃ (er : Int) (y : Nat), e = .returned (.tuple #[.int .u64 (y : Int), .int .i64 er]) ∧ Below w.heap.size w w' ∧ Hid ((er, y) = word3 x v) := by
  have hp := Lib.hid (pack3 (v := v) (x := x))
  go_enter Try.func39, Try.ntmps39
  go_wp2_with fail
  refine (pack_any [(24, x), (8, 0), (20, v)] _ _ _ (fields3 _ _ _ _ _ _ _) (by simp; exact ⟨hx, by unfold U64; omega, hv⟩)).mono ?_
  rintro e w1 ⟨er, y, rfl, hb1, hy⟩
  go_wp2
  go_ret2
  exact ⟨er, y, rfl, Gr.trans (Gr.new _ _) hb1, hy.out.trans hp.out⟩

theorem split_any (x : Nat) (w : World) (hx : U64 x) :
    Calls Try.prog 36 #[.int .u64 (x : Int)] w fun e w' => ∃ a b : Nat, e = .returned (.tuple #[.int .i64 (a : Int), .int .u64 (b : Int)]) ∧ w = w' ∧ Hid (a = x % 1024) ∧ Hid (b = x / 1024) := by
  go_enter Try.func36, Try.ntmps36
  go_wp2
  go_ret2
  exact ⟨x % 1024, x / 1024, by simp, rfl, rfl, rfl⟩
theorem unstamp_any (x : Nat) (w : World) (hx : U64 x) :
    Calls Try.prog 38 #[.int .u64 (x : Int)] w fun e w' => ∃ a b : Nat, e = .returned (.tuple #[.int .u64 (a : Int), .int .u64 (b : Int)]) ∧ w = w' ∧ Hid (a = x / 1073741824) ∧ Hid (b = x % 1073741824) := by
  go_enter Try.func38, Try.ntmps38
  go_wp2
  go_ret2
  exact ⟨x / 1073741824, x % 1073741824, by simp, rfl, rfl, rfl⟩
theorem unvalue_any (x : Nat) (w : World) (hx : U64 x) :
    Calls Try.prog 40 #[.int .u64 (x : Int)] w fun e w' => ∃ a b : Nat, e = .returned (.tuple #[.int .u64 (a : Int), .int .u64 (b : Int)]) ∧ w = w' ∧ Hid (a = x / 4294967296) ∧ Hid (b = x % 4294967296) := by
  go_enter Try.func40, Try.ntmps40
  go_wp2
  go_ret2
  exact ⟨x / 4294967296, x % 4294967296, by simp, rfl, rfl, rfl⟩
end Go.Proofs.Ytajlceknahngkaa
