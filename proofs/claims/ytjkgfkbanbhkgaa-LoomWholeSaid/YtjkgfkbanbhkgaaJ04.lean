/- Plain arithmetic of bit fields of words: no program in sight. -/
import Derived.WalkKit
import Derived.Test.YtjkgfkbanbhkgaaJ01
import Derived.Test.YtjkgfkbanbhkgaaJ02
import Derived.StillTailTactics
set_option maxRecDepth 100000
set_option linter.unusedVariables false
set_option linter.unusedSimpArgs false
set_option linter.unnecessarySimpa false
namespace Go.Proofs.Ytjkgfkbanbhkgaa
section
open Go.RowKit

def U64 (x : Nat) : Prop := x < 18446744073709551616
theorem U64.lt {x : Nat} (h : U64 x) : x < 18446744073709551616 := h
theorem pow64 {s : Nat} (h2 : s ≤ 64) : 2 ^ s ≤ 18446744073709551616 := by
  have : 2 ^ s ≤ 2 ^ 64 := Nat.pow_le_pow_right (by omega) h2
  omega
theorem pow63 {s : Nat} (h2 : s < 64) : 2 ^ s ≤ 9223372036854775808 := by
  have : 2 ^ s ≤ 2 ^ 63 := Nat.pow_le_pow_right (by omega) (by omega)
  omega
theorem pow1 (s : Nat) : 1 ≤ 2 ^ s := Nat.one_le_two_pow
theorem mask_val {s : Nat} (h : s < 64) : IntKind.u64.wrap (IntKind.u64.wrap ((2 : Int) ^ s) - 1) = ((2 ^ s - 1 : Nat) : Int) := by
  have h1 := pow63 h
  have h2 := pow1 s
  have e : ((2 : Int) ^ s) = ((2 ^ s : Nat) : Int) := by simp
  rw [e, IntKind.wrap_u64, IntKind.wrap_u64]
  omega
theorem get_val {x a s : Nat} (hx : U64 x) (h2 : s ≤ 64) : bits BinOp.and IntKind.u64 ((x : Int) / 2 ^ a) ((2 ^ s - 1 : Nat) : Int) = ((x / 2 ^ a % 2 ^ s : Nat) : Int) := by
  have e : ((x : Int) / 2 ^ a) = ((x / 2 ^ a : Nat) : Int) := by simp
  have h1 := pow64 h2
  have h3 : x / 2 ^ a ≤ x := Nat.div_le_self _ _
  unfold U64 at hx
  rw [e, u64_and_nat _ _ (by omega) (by omega), Nat.and_two_pow_sub_one_eq_mod]

/-- The word with v in the field. -/
def putN (x a s v : Nat) : Nat := 2 ^ (a + s) * (x / 2 ^ (a + s)) + (2 ^ a * v + x % 2 ^ a)

theorem putN_low {x a s v : Nat} (hv : v < 2 ^ s) : 2 ^ a * v + x % 2 ^ a < 2 ^ (a + s) := by
  have h1 : x % 2 ^ a < 2 ^ a := Nat.mod_lt _ (pow1 a)
  have h2 : 2 ^ a * (v + 1) ≤ 2 ^ a * 2 ^ s := Nat.mul_le_mul_left _ hv
  rw [Nat.pow_add]
  rw [Nat.mul_add, Nat.mul_one] at h2
  omega

theorem putN_lt {x a s v : Nat} (hx : U64 x) (h : a + s ≤ 64) (hv : v < 2 ^ s) : U64 (putN x a s v) := by
  unfold U64 at *
  unfold putN
  have h1 := putN_low (x := x) (a := a) hv
  have e : 2 ^ 64 = 2 ^ (a + s) * 2 ^ (64 - (a + s)) := by rw [← Nat.pow_add]; congr 1; omega
  have h2 : x / 2 ^ (a + s) < 2 ^ (64 - (a + s)) := by
    rw [Nat.div_lt_iff_lt_mul (pow1 _), Nat.mul_comm, ← e]; omega
  have h3 : 2 ^ (a + s) * (x / 2 ^ (a + s) + 1) ≤ 2 ^ (a + s) * 2 ^ (64 - (a + s)) := Nat.mul_le_mul_left _ h2
  rw [← e, Nat.mul_add, Nat.mul_one] at h3
  omega

theorem putN_bit {x a s v : Nat} (hv : v < 2 ^ s) (i : Nat) : (putN x a s v).testBit i = if a ≤ i ∧ i < a + s then v.testBit (i - a) else x.testBit i := by
  unfold putN
  rw [Nat.testBit_two_pow_mul_add _ (putN_low hv), Nat.testBit_two_pow_mul_add _ (Nat.mod_lt _ (pow1 a))]
  by_cases h1 : i < a + s
  · by_cases h2 : i < a
    · simp [h1, h2]; try omega
    · simp [h1, h2]; try omega
  · rw [if_neg h1, if_neg (by omega), Nat.testBit_div_two_pow]; congr 1; omega

theorem put_val {x a s v : Nat} (hx : U64 x) (h1 : 1 ≤ s) (h : a + s ≤ 64) (hv : v < 2 ^ s) :
    bits BinOp.or IntKind.u64 (bits BinOp.andNot IntKind.u64 (x : Int) (IntKind.u64.wrap (((2 ^ s - 1 : Nat) : Int) * 2 ^ a))) (IntKind.u64.wrap ((v : Int) * 2 ^ a)) = ((putN x a s v : Nat) : Int) := by
  have hx' := hx
  unfold U64 at hx'
  have e1 : (((2 ^ s - 1 : Nat) : Int) * 2 ^ a) = (((2 ^ s - 1) * 2 ^ a : Nat) : Int) := by simp
  have e2 : ((v : Int) * 2 ^ a) = ((v * 2 ^ a : Nat) : Int) := by simp
  have p : 2 ^ a * 2 ^ s ≤ 18446744073709551616 := by rw [← Nat.pow_add]; exact pow64 h
  have m1 : (2 ^ s - 1) * 2 ^ a < 18446744073709551616 := by
    have : 2 ^ a * (2 ^ s - 1 + 1) ≤ 18446744073709551616 := by rw [Nat.sub_add_cancel (pow1 s)]; exact p
    have q := pow1 a
    rw [Nat.mul_add, Nat.mul_one] at this
    rw [Nat.mul_comm]
    omega
  have m2 : v * 2 ^ a < 18446744073709551616 := by
    have : 2 ^ a * (v + 1) ≤ 2 ^ a * 2 ^ s := Nat.mul_le_mul_left _ hv
    have q := pow1 a
    rw [Nat.mul_add, Nat.mul_one] at this
    rw [Nat.mul_comm]
    omega
  have w1 : (((2 ^ s - 1) * 2 ^ a : Nat) : Int) % 18446744073709551616 = (((2 ^ s - 1) * 2 ^ a : Nat) : Int) := by omega
  have w2 : ((v * 2 ^ a : Nat) : Int) % 18446744073709551616 = ((v * 2 ^ a : Nat) : Int) := by omega
  rw [e1, e2, IntKind.wrap_u64, IntKind.wrap_u64, w1, w2,
    u64_andNot_nat _ _ hx' m1, u64_or_nat _ _ (Nat.lt_of_le_of_lt Nat.and_le_left hx') m2]
  congr 1
  apply Nat.eq_of_testBit_eq
  intro i
  rw [putN_bit hv, Nat.testBit_or, Nat.testBit_and]
  have e3 : 18446744073709551615 - (2 ^ s - 1) * 2 ^ a = 2 ^ 64 - ((2 ^ s - 1) * 2 ^ a + 1) := by omega
  rw [e3, Nat.testBit_two_pow_sub_succ (by omega)]
  rw [Nat.mul_comm (2 ^ s - 1), Nat.mul_comm v, Nat.testBit_two_pow_mul, Nat.testBit_two_pow_mul, Nat.testBit_two_pow_sub_one]
  by_cases c1 : a ≤ i
  · by_cases c2 : i < a + s
    · have d1 : i - a < s := by omega
      simp [c1, c2, d1]
    · have d1 : ¬ i - a < s := by omega
      have d2 : v.testBit (i - a) = false := Nat.testBit_lt_two_pow (Nat.lt_of_lt_of_le hv (Nat.pow_le_pow_right (by omega) (by omega)))
      by_cases c3 : i < 64
      · simp [c1, c2, d1, d2, c3]
      · have d3 : x.testBit i = false := Nat.testBit_lt_two_pow (Nat.lt_of_lt_of_le (show x < 2 ^ 64 by omega) (Nat.pow_le_pow_right (by omega) (by omega)))
        simp [c1, c2, d1, d2, c3, d3]
  · by_cases c3 : i < 64
    · simp [c1, c3]
    · omega

/-- 'v &^ mask != 0': v has more bits than the field. -/
theorem over_val {s v : Nat} (hv : U64 v) (h2 : s ≤ 64) : (bits BinOp.andNot IntKind.u64 (v : Int) ((2 ^ s - 1 : Nat) : Int) != 0) = decide (2 ^ s ≤ v) := by
  have h1 := pow64 h2
  have h3 := pow1 s
  have hv' := hv
  unfold U64 at hv'
  rw [u64_andNot_nat _ _ hv' (by omega)]
  have e3 : 18446744073709551615 - (2 ^ s - 1) = 2 ^ 64 - (2 ^ s - 1 + 1) := by omega
  rw [e3]
  have key : v &&& (2 ^ 64 - (2 ^ s - 1 + 1)) = 2 ^ s * (v / 2 ^ s) := by
    apply Nat.eq_of_testBit_eq
    intro i
    rw [Nat.testBit_and, Nat.testBit_two_pow_sub_succ (by omega), Nat.testBit_two_pow_sub_one, Nat.testBit_two_pow_mul]
    by_cases c1 : s ≤ i
    · have d : ¬ i < s := by omega
      by_cases c3 : i < 64
      · simp [c1, d, c3, Nat.testBit_div_two_pow]
      · have d3 : v.testBit i = false := Nat.testBit_lt_two_pow (Nat.lt_of_lt_of_le (show v < 2 ^ 64 by omega) (Nat.pow_le_pow_right (by omega) (by omega)))
        simp [c1, d, c3, d3, Nat.testBit_div_two_pow]
    · have d : i < s := by omega
      simp [c1, d]
  rw [key]
  by_cases c : 2 ^ s ≤ v
  · have : 1 ≤ v / 2 ^ s := (Nat.one_le_div_iff h3).2 c
    have q : 0 < 2 ^ s * (v / 2 ^ s) := Nat.mul_pos h3 this
    simp only [c, decide_true, bne_iff_ne]
    omega
  · have : v / 2 ^ s = 0 := Nat.div_eq_of_lt (by omega)
    rw [this]
    simp [c]

theorem get_step (x k i : Nat) : x / 2 ^ i % 2 ^ (k + 1) = 2 * (x / 2 ^ (i + 1) % 2 ^ k) + x / 2 ^ i % 2 := by
  have e : x / 2 ^ (i + 1) = x / 2 ^ i / 2 := by rw [Nat.pow_succ, Nat.div_div_eq_div_mul]
  rw [e, Nat.pow_succ, Nat.mul_comm (2 ^ k) 2, Nat.mod_mul]
  omega
theorem div_step (x i : Nat) : x / 2 ^ i = 2 * (x / 2 ^ (i + 1)) + x / 2 ^ i % 2 := by
  have e : x / 2 ^ (i + 1) = x / 2 ^ i / 2 := by rw [Nat.pow_succ, Nat.div_div_eq_div_mul]
  rw [e]; omega
theorem putN_digit {x a s v : Nat} (hv : v < 2 ^ s) (i : Nat) : putN x a s v / 2 ^ i % 2 = if a ≤ i ∧ i < a + s then v / 2 ^ (i - a) % 2 else x / 2 ^ i % 2 := by
  have h := putN_bit (x := x) (a := a) hv i
  have t (y j : Nat) : y / 2 ^ j % 2 = (y.testBit j).toNat := by
    rw [Nat.testBit_eq_decide_div_mod_eq]
    by_cases c : y / 2 ^ j % 2 = 1
    · simp [c]
    · have : y / 2 ^ j % 2 = 0 := by omega
      simp [this]
  rw [t, t, t, h]
  split <;> rfl

theorem putN_get {x a s v : Nat} (hv : v < 2 ^ s) : putN x a s v / 2 ^ a % 2 ^ s = v := by
  apply Nat.eq_of_testBit_eq
  intro i
  rw [Nat.testBit_mod_two_pow, Nat.testBit_div_two_pow, putN_bit hv]
  by_cases c : i < s
  · simp [c]; omega
  · have : v.testBit i = false := Nat.testBit_lt_two_pow (Nat.lt_of_lt_of_le hv (Nat.pow_le_pow_right (by omega) (by omega)))
    simp [c, this]
end
section

/- Layer 2: contracts of package mem. -/
open Go.RowKit

theorem cell_set_other {w : World} {p q : Addr} (v : Value) (h : q.block ≠ p.block) : (w.setCell p v).cell? q = w.cell? q := World.cell?_of_block (w := w) (Below.heap_setCell _ _ _ _ h)
theorem frozen_set_other {w : World} {p q : Addr} (v : Value) (h : q.block ≠ p.block) : (w.setCell p v).frozen? q = w.frozen? q := by
  have := Below.heap_setCell w p v _ h
  simp only [World.frozen?, this]

theorem cnt_read (b : Nat) (w : World) : Calls Try.prog 130 #[.pointer (some ⟨b, 1, none⟩)] w fun e w' => e = .returned (.pointer (some ⟨b, 1, none⟩)) ∧ w = w' := by
  go_enter Try.func130, Try.ntmps130
  go_wp2
  go_ret
  exact ⟨rfl, rfl⟩
theorem do_read (b j b2 j2 : Nat) (x o : Int) (w : World) (h : w.cell? ⟨b, j, none⟩ = some (.int .u64 x)) (ho : w.cell? ⟨b2, j2, none⟩ = some (.int .u64 o)) (hf : w.frozen? ⟨b2, j2, none⟩ = false) :
    Calls Try.prog 131 #[.pointer (some ⟨b, j, none⟩), .pointer (some ⟨b2, j2, none⟩)] w fun e w' => e = .returned (.tuple #[]) ∧ w' = w.setCell ⟨b2, j2, none⟩ (.int .u64 x) := by
  go_enter Try.func131, Try.ntmps131
  go_wp2
  go_end0
  exact ⟨rfl, rfl⟩
theorem neq_nilFunc (u : World) : Sem.run Try.prog (binOp BinOp.neq 164 Value.nilFunc Value.nilFunc) u = Result.ok (.bool false) u := by
  first
  | kernel_rfl
  | rfl
theorem access_read (bm bw j b2 j2 : Nat) (len cap : Nat) (n x o : Int) (w : World) (h0 : w.cell? ⟨bm, 0, none⟩ = some (.slice (some ⟨bw, 0, none⟩) len cap)) (h1 : w.cell? ⟨bm, 1, none⟩ = some (.int .i64 n)) (hn : 0 ≤ n) (hn2 : n < 1000000000000)
    (h6 : w.cell? ⟨bm, 6, none⟩ = some .nilFunc) (hw : w.cell? ⟨bw, j, none⟩ = some (.int .u64 x)) (hj : j < len) (hlen : len ≤ 1048576) (hbw : bw ≠ bm) (ho : w.cell? ⟨b2, j2, none⟩ = some (.int .u64 o)) (hf : w.frozen? ⟨b2, j2, none⟩ = false) (hf1 : w.frozen? ⟨bm, 1, none⟩ = false) (hb2 : b2 ≠ bm) (hb3 : b2 ≠ bw) :
    Calls Try.prog 129 #[.pointer (some ⟨bm, 0, none⟩), .int .i64 0, .int .i64 (j : Int), .func (.func 130) #[] #[], .func (.func 131) #[] #[.pointer (some ⟨b2, j2, none⟩)]] w fun e w' =>
      e = .returned (.tuple #[]) ∧ w' = (w.setCell ⟨bm, 1, none⟩ (.int .i64 (n + 1))).setCell ⟨b2, j2, none⟩ (.int .u64 x) := by
  have hj1 : (j : Int) < len := by omega
  have C := Lib.hid (cnt_read bm)
  have hnn := neq_nilFunc
  go_enter Try.func129, Try.ntmps129
  go_wp2_with fail
  refine (C.out _).mono ?_
  rintro e w1 ⟨rfl, rfl⟩
  have ho2 : (w.setCell ⟨bm, 1, none⟩ (.int .i64 (n + 1))).cell? ⟨b2, j2, none⟩ = some (.int .u64 o) := by rw [cell_set_other _ (by exact hb2)]; exact ho
  have hf2 : (w.setCell ⟨bm, 1, none⟩ (.int .i64 (n + 1))).frozen? ⟨b2, j2, none⟩ = false := by rw [frozen_set_other _ (by exact hb2)]; exact hf
  have hw2 : (w.setCell ⟨bm, 1, none⟩ (.int .i64 (n + 1))).cell? ⟨bw, j, none⟩ = some (.int .u64 x) := by rw [cell_set_other _ (by exact hbw)]; exact hw
  go_wp2_with fail
  refine (do_read bw j b2 j2 x o _ hw2 ho2 hf2).mono ?_
  rintro e w1 ⟨rfl, rfl⟩
  go_wp2
  go_end0
  exact ⟨rfl, rfl⟩
theorem cnt_write (b : Nat) (w : World) : Calls Try.prog 164 #[.pointer (some ⟨b, 1, none⟩)] w fun e w' => e = .returned (.pointer (some ⟨b, 2, none⟩)) ∧ w = w' := by
  go_enter Try.func164, Try.ntmps164
  go_wp2
  go_ret
  exact ⟨rfl, rfl⟩
theorem cnt_swap (b : Nat) (w : World) : Calls Try.prog 158 #[.pointer (some ⟨b, 1, none⟩)] w fun e w' => e = .returned (.pointer (some ⟨b, 3, none⟩)) ∧ w = w' := by
  go_enter Try.func158, Try.ntmps158
  go_wp2
  go_ret
  exact ⟨rfl, rfl⟩
theorem cnt_add (b : Nat) (w : World) : Calls Try.prog 137 #[.pointer (some ⟨b, 1, none⟩)] w fun e w' => e = .returned (.pointer (some ⟨b, 4, none⟩)) ∧ w = w' := by
  go_enter Try.func137, Try.ntmps137
  go_wp2
  go_ret
  exact ⟨rfl, rfl⟩
theorem do_write (b j b2 j2 : Nat) (v o : Int) (w : World) (h : w.cell? ⟨b, j, none⟩ = some (.int .u64 o)) (hf : w.frozen? ⟨b, j, none⟩ = false) (hv : w.cell? ⟨b2, j2, none⟩ = some (.int .u64 v)) :
    Calls Try.prog 165 #[.pointer (some ⟨b, j, none⟩), .pointer (some ⟨b2, j2, none⟩)] w fun e w' => e = .returned (.tuple #[]) ∧ w' = w.setCell ⟨b, j, none⟩ (.int .u64 v) := by
  go_enter Try.func165, Try.ntmps165
  go_wp2
  go_end0
  exact ⟨rfl, rfl⟩
theorem do_swap (b j b2 b3 b4 : Nat) (o old fresh : Int) (w : World) (h : w.cell? ⟨b, j, none⟩ = some (.int .u64 o)) (hf : w.frozen? ⟨b, j, none⟩ = false) (h2 : w.cell? ⟨b2, 0, none⟩ = some (.int .u64 old)) (h3 : w.cell? ⟨b3, 0, none⟩ = some (.int .u64 fresh)) (h4 : w.cell? ⟨b4, 0, none⟩ = some (.bool false)) (hf4 : w.frozen? ⟨b4, 0, none⟩ = false) (hb4 : b4 ≠ b) :
    Calls Try.prog 159 #[.pointer (some ⟨b, j, none⟩), .pointer (some ⟨b2, 0, none⟩), .pointer (some ⟨b3, 0, none⟩), .pointer (some ⟨b4, 0, none⟩)] w fun e w' => e = .returned (.tuple #[]) ∧
      ∃ nq, w' = if o = old then ((w.drewN nq).setCell ⟨b, j, none⟩ (.int .u64 fresh)).setCell ⟨b4, 0, none⟩ (.bool true) else w.drewN nq := by
  have h5 : ∀ nq, ((w.drewN nq).setCell ⟨b, j, none⟩ (.int .u64 fresh)).cell? ⟨b4, 0, none⟩ = some (.bool false) := fun nq => by rw [cell_set_other _ (by exact hb4)]; exact h4
  have h6 : ∀ nq, ((w.drewN nq).setCell ⟨b, j, none⟩ (.int .u64 fresh)).frozen? ⟨b4, 0, none⟩ = false := fun nq => by rw [frozen_set_other _ (by exact hb4)]; exact hf4
  by_cases ho : o = old
  · simp only [if_pos ho]
    subst ho
    go_enter Try.func159, Try.ntmps159
    go_wp2_with fail
    go_quiet (fail)
    have g0 : (w.drewN nq).cell? ⟨b, j, none⟩ = some (.int .u64 o) := h
    have g1 : (w.drewN nq).frozen? ⟨b, j, none⟩ = false := hf
    have g3 : (w.drewN nq).cell? ⟨b3, 0, none⟩ = some (.int .u64 fresh) := h3
    have g5 := h5 nq; have g6 := h6 nq
    clear h5 h6
    go_wp2
    go_end0
    exact ⟨rfl, nq, rfl⟩
  · simp only [if_neg ho]
    have hne : (o == old) = false := by simpa using ho
    go_enter Try.func159, Try.ntmps159
    go_wp2_with fail
    go_quiet (fail)
    go_wp2
    go_end0
    exact ⟨rfl, nq, rfl⟩
theorem do_add (b j b2 b3 : Nat) (o d z : Int) (w : World) (h : w.cell? ⟨b, j, none⟩ = some (.int .u64 o)) (hf : w.frozen? ⟨b, j, none⟩ = false) (h2 : w.cell? ⟨b2, 0, none⟩ = some (.int .u64 z)) (hf2 : w.frozen? ⟨b2, 0, none⟩ = false) (h3 : w.cell? ⟨b3, 0, none⟩ = some (.int .u64 d)) (hb2 : b2 ≠ b) (hb3 : b3 ≠ b) (hb23 : b3 ≠ b2) :
    Calls Try.prog 138 #[.pointer (some ⟨b, j, none⟩), .pointer (some ⟨b2, 0, none⟩), .pointer (some ⟨b3, 0, none⟩)] w fun e w' => e = .returned (.tuple #[]) ∧
      w' = ((w.setCell ⟨b2, 0, none⟩ (.int .u64 o)).setCell ⟨b, j, none⟩ (.int .u64 (IntKind.u64.wrap (o + d)))).drew := by
  have h5 : (w.setCell ⟨b2, 0, none⟩ (.int .u64 o)).cell? ⟨b, j, none⟩ = some (.int .u64 o) := by rw [cell_set_other _ (by exact Ne.symm hb2)]; exact h
  have h6 : (w.setCell ⟨b2, 0, none⟩ (.int .u64 o)).frozen? ⟨b, j, none⟩ = false := by rw [frozen_set_other _ (by exact Ne.symm hb2)]; exact hf
  have h7 : (w.setCell ⟨b2, 0, none⟩ (.int .u64 o)).cell? ⟨b3, 0, none⟩ = some (.int .u64 d) := by rw [cell_set_other _ (by exact hb23)]; exact h3
  go_enter Try.func138, Try.ntmps138
  go_wp2
  obtain ⟨wA, hA⟩ : ∃ wA, wA = w.setCell ⟨b2, 0, none⟩ (.int .u64 o) := ⟨_, rfl⟩
  rw [← hA] at h5 h6 h7
  rw [← hA]
  have HA := Lib.hid hA; clear hA
  have k5 : wA.drew.cell? ⟨b, j, none⟩ = some (.int .u64 o) := h5
  have k6 : wA.drew.frozen? ⟨b, j, none⟩ = false := h6
  have k7 : wA.drew.cell? ⟨b3, 0, none⟩ = some (.int .u64 d) := h7
  go_still_tail 6, (by kernel_rfl)
  change wpList _ _ _ _ _ wA.drew
  go_wp2
  go_end0
  exact ⟨rfl, by rw [HA.out]⟩

theorem access_write (bm bw j b2 j2 : Nat) (len cap : Nat) (n x o : Int) (w : World) (h0 : w.cell? ⟨bm, 0, none⟩ = some (.slice (some ⟨bw, 0, none⟩) len cap)) (h1 : w.cell? ⟨bm, 2, none⟩ = some (.int .i64 n)) (hn : 0 ≤ n) (hn2 : n < 1000000000000)
    (h6 : w.cell? ⟨bm, 6, none⟩ = some .nilFunc) (hw : w.cell? ⟨bw, j, none⟩ = some (.int .u64 x)) (hfw : w.frozen? ⟨bw, j, none⟩ = false) (hj : j < len) (hlen : len ≤ 1048576) (hbw : bw ≠ bm) (ho : w.cell? ⟨b2, j2, none⟩ = some (.int .u64 o)) (hf1 : w.frozen? ⟨bm, 2, none⟩ = false) (hb2 : b2 ≠ bm) :
    Calls Try.prog 129 #[.pointer (some ⟨bm, 0, none⟩), .int .i64 1, .int .i64 (j : Int), .func (.func 164) #[] #[], .func (.func 165) #[] #[.pointer (some ⟨b2, j2, none⟩)]] w fun e w' =>
      e = .returned (.tuple #[]) ∧ w' = (w.setCell ⟨bm, 2, none⟩ (.int .i64 (n + 1))).setCell ⟨bw, j, none⟩ (.int .u64 o) := by
  have hj1 : (j : Int) < len := by omega
  have C := Lib.hid (cnt_write bm)
  have hnn := neq_nilFunc
  go_enter Try.func129, Try.ntmps129
  go_wp2_with fail
  refine (C.out _).mono ?_
  rintro e w1 ⟨rfl, rfl⟩
  have ho2 : (w.setCell ⟨bm, 2, none⟩ (.int .i64 (n + 1))).cell? ⟨b2, j2, none⟩ = some (.int .u64 o) := by rw [cell_set_other _ (by exact hb2)]; exact ho
  have hw2 : (w.setCell ⟨bm, 2, none⟩ (.int .i64 (n + 1))).cell? ⟨bw, j, none⟩ = some (.int .u64 x) := by rw [cell_set_other _ (by exact hbw)]; exact hw
  have hf2 : (w.setCell ⟨bm, 2, none⟩ (.int .i64 (n + 1))).frozen? ⟨bw, j, none⟩ = false := by rw [frozen_set_other _ (by exact hbw)]; exact hfw
  go_wp2_with fail
  refine (do_write bw j b2 j2 o x _ hw2 hf2 ho2).mono ?_
  rintro e w1 ⟨rfl, rfl⟩
  go_wp2
  go_end0
  exact ⟨rfl, rfl⟩
theorem access_add (bm bw j b2 b3 : Nat) (len cap : Nat) (n x z d : Int) (w : World) (h0 : w.cell? ⟨bm, 0, none⟩ = some (.slice (some ⟨bw, 0, none⟩) len cap)) (h1 : w.cell? ⟨bm, 4, none⟩ = some (.int .i64 n)) (hn : 0 ≤ n) (hn2 : n < 1000000000000)
    (h6 : w.cell? ⟨bm, 6, none⟩ = some .nilFunc) (hw : w.cell? ⟨bw, j, none⟩ = some (.int .u64 x)) (hfw : w.frozen? ⟨bw, j, none⟩ = false) (hj : j < len) (hlen : len ≤ 1048576) (hbw : bw ≠ bm) (ho : w.cell? ⟨b2, 0, none⟩ = some (.int .u64 z)) (hfo : w.frozen? ⟨b2, 0, none⟩ = false) (hd : w.cell? ⟨b3, 0, none⟩ = some (.int .u64 d)) (hf1 : w.frozen? ⟨bm, 4, none⟩ = false) (hb2 : b2 ≠ bm) (hb3 : b3 ≠ bm) (hb2w : b2 ≠ bw) (hb3w : b3 ≠ bw) (hb32 : b3 ≠ b2) :
    Calls Try.prog 129 #[.pointer (some ⟨bm, 0, none⟩), .int .i64 3, .int .i64 (j : Int), .func (.func 137) #[] #[], .func (.func 138) #[] #[.pointer (some ⟨b2, 0, none⟩), .pointer (some ⟨b3, 0, none⟩)]] w fun e w' =>
      e = .returned (.tuple #[]) ∧ w' = (((w.setCell ⟨bm, 4, none⟩ (.int .i64 (n + 1))).setCell ⟨b2, 0, none⟩ (.int .u64 x)).setCell ⟨bw, j, none⟩ (.int .u64 (IntKind.u64.wrap (x + d)))).drew := by
  have hj1 : (j : Int) < len := by omega
  have C := Lib.hid (cnt_add bm)
  have hnn := neq_nilFunc
  go_enter Try.func129, Try.ntmps129
  go_wp2_with fail
  refine (C.out _).mono ?_
  rintro e w1 ⟨rfl, rfl⟩
  have ho2 : (w.setCell ⟨bm, 4, none⟩ (.int .i64 (n + 1))).cell? ⟨b2, 0, none⟩ = some (.int .u64 z) := by rw [cell_set_other _ (by exact hb2)]; exact ho
  have hd2 : (w.setCell ⟨bm, 4, none⟩ (.int .i64 (n + 1))).cell? ⟨b3, 0, none⟩ = some (.int .u64 d) := by rw [cell_set_other _ (by exact hb3)]; exact hd
  have hfo2 : (w.setCell ⟨bm, 4, none⟩ (.int .i64 (n + 1))).frozen? ⟨b2, 0, none⟩ = false := by rw [frozen_set_other _ (by exact hb2)]; exact hfo
  have hw2 : (w.setCell ⟨bm, 4, none⟩ (.int .i64 (n + 1))).cell? ⟨bw, j, none⟩ = some (.int .u64 x) := by rw [cell_set_other _ (by exact hbw)]; exact hw
  have hf2 : (w.setCell ⟨bm, 4, none⟩ (.int .i64 (n + 1))).frozen? ⟨bw, j, none⟩ = false := by rw [frozen_set_other _ (by exact hbw)]; exact hfw
  go_wp2_with fail
  refine (do_add bw j b2 b3 x d z _ hw2 hf2 ho2 hfo2 hd2 hb2w hb3w hb32).mono ?_
  rintro e w1 ⟨rfl, rfl⟩
  obtain ⟨y, hy⟩ : ∃ y, y = IntKind.u64.wrap (x + d) := ⟨_, rfl⟩
  rw [← hy]
  have Hy := Lib.hid hy; clear hy
  go_wp2
  go_end0
  exact ⟨rfl, by rw [Hy.out]⟩
set_option maxHeartbeats 1000000 in
theorem access_swap (bm bw j b2 b3 b4 : Nat) (len cap : Nat) (n x old fresh : Int) (w : World) (h0 : w.cell? ⟨bm, 0, none⟩ = some (.slice (some ⟨bw, 0, none⟩) len cap)) (h1 : w.cell? ⟨bm, 3, none⟩ = some (.int .i64 n)) (hn : 0 ≤ n) (hn2 : n < 1000000000000)
    (h6 : w.cell? ⟨bm, 6, none⟩ = some .nilFunc) (hw : w.cell? ⟨bw, j, none⟩ = some (.int .u64 x)) (hfw : w.frozen? ⟨bw, j, none⟩ = false) (hj : j < len) (hlen : len ≤ 1048576) (hbw : bw ≠ bm) (hold : w.cell? ⟨b2, 0, none⟩ = some (.int .u64 old)) (hfresh : w.cell? ⟨b3, 0, none⟩ = some (.int .u64 fresh)) (hb : w.cell? ⟨b4, 0, none⟩ = some (.bool false)) (hfb : w.frozen? ⟨b4, 0, none⟩ = false) (hf1 : w.frozen? ⟨bm, 3, none⟩ = false) (hb2 : b2 ≠ bm) (hb3 : b3 ≠ bm) (hb4 : b4 ≠ bm) (hb4w : b4 ≠ bw) :
    Calls Try.prog 129 #[.pointer (some ⟨bm, 0, none⟩), .int .i64 2, .int .i64 (j : Int), .func (.func 158) #[] #[], .func (.func 159) #[] #[.pointer (some ⟨b2, 0, none⟩), .pointer (some ⟨b3, 0, none⟩), .pointer (some ⟨b4, 0, none⟩)]] w fun e w' =>
      e = .returned (.tuple #[]) ∧ ∃ nq, w' = if x = old then (((w.setCell ⟨bm, 3, none⟩ (.int .i64 (n + 1))).drewN nq).setCell ⟨bw, j, none⟩ (.int .u64 fresh)).setCell ⟨b4, 0, none⟩ (.bool true) else (w.setCell ⟨bm, 3, none⟩ (.int .i64 (n + 1))).drewN nq := by
  have hj1 : (j : Int) < len := by omega
  have C := Lib.hid (cnt_swap bm)
  have hnn := neq_nilFunc
  obtain ⟨w2, hw2e⟩ : ∃ w2, w2 = w.setCell ⟨bm, 3, none⟩ (.int .i64 (n + 1)) := ⟨_, rfl⟩
  have e0 : w2.cell? ⟨bm, 0, none⟩ = some (.slice (some ⟨bw, 0, none⟩) len cap) := by rw [hw2e, World.cell?_setCell_other _ _ _ _ (by simp)]; exact h0
  have e6 : w2.cell? ⟨bm, 6, none⟩ = some .nilFunc := by rw [hw2e, World.cell?_setCell_other _ _ _ _ (by simp)]; exact h6
  have e2 : w2.cell? ⟨b2, 0, none⟩ = some (.int .u64 old) := by rw [hw2e, cell_set_other _ (by exact hb2)]; exact hold
  have e3 : w2.cell? ⟨b3, 0, none⟩ = some (.int .u64 fresh) := by rw [hw2e, cell_set_other _ (by exact hb3)]; exact hfresh
  have e4 : w2.cell? ⟨b4, 0, none⟩ = some (.bool false) := by rw [hw2e, cell_set_other _ (by exact hb4)]; exact hb
  have e5 : w2.frozen? ⟨b4, 0, none⟩ = false := by rw [hw2e, frozen_set_other _ (by exact hb4)]; exact hfb
  have ew : w2.cell? ⟨bw, j, none⟩ = some (.int .u64 x) := by rw [hw2e, cell_set_other _ (by exact hbw)]; exact hw
  have ef : w2.frozen? ⟨bw, j, none⟩ = false := by rw [hw2e, frozen_set_other _ (by exact hbw)]; exact hfw
  have D := Lib.hid (do_swap bw j b2 b3 b4 x old fresh w2 ew ef e2 e3 e4 e5 hb4w)
  have HW := Lib.hid hw2e
  rw [← hw2e]
  by_cases hx : x = old
  · simp only [if_pos hx] at D ⊢
    clear hx hw2e
    go_enter Try.func129, Try.ntmps129
    go_wp2_with fail
    refine (C.out _).mono ?_
    rintro e w1 ⟨rfl, rfl⟩
    go_wp2_with fail
    rw [← HW.out]
    refine D.out.mono ?_
    rintro e w1 ⟨rfl, nq, hw1⟩
    have a6 : w1.cell? ⟨bm, 6, none⟩ = some .nilFunc := by rw [hw1, cell_set_other _ (by exact hb4.symm), cell_set_other _ (by exact hbw.symm)]; exact e6
    have H1 := Lib.hid hw1; clear hw1
    go_wp2
    go_end0
    exact ⟨rfl, nq, H1.out⟩
  · simp only [if_neg hx] at D ⊢
    clear hx hw2e
    go_enter Try.func129, Try.ntmps129
    go_wp2_with fail
    refine (C.out _).mono ?_
    rintro e w1 ⟨rfl, rfl⟩
    go_wp2_with fail
    rw [← HW.out]
    refine D.out.mono ?_
    rintro e w1 ⟨rfl, nq, hw1⟩
    have a6 : w1.cell? ⟨bm, 6, none⟩ = some .nilFunc := by rw [hw1]; exact e6
    have H1 := Lib.hid hw1; clear hw1
    go_wp2
    go_end0
    exact ⟨rfl, nq, H1.out⟩
end
end Go.Proofs.Ytjkgfkbanbhkgaa
