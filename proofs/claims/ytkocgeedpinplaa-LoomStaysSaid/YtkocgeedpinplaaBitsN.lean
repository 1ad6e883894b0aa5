/- Plain arithmetic of bit fields of words: no program in sight. -/
import Derived.WalkKit
namespace Go.Proofs.Ytkocgeedpinplaa
open Go.RowKit

def U64 (x : Nat) : Prop := x < 18446744073709551616
theorem U64.lt {x : Nat} (h : U64 x) : x < 18446744073709551616 := h
theorem pow64 {s : Nat} (h2 : s ≤ 64) : 2 ^ s ≤ 18446744073709551616 := by
  have : 2 ^ s ≤ 2 ^ 64 := Nat.pow_le_pow_right (by omega) h2
  omega
theorem pow63 {s : Nat} (h2 : s < 64) : 2 ^ s ≤ 9223372036854775808 := by
  have : 2 ^ s ≤ 2 ^ 63 := Nat.pow_le_pow_right (by omega) (by omega)
  omega
theorem pow1 (s : Nat) : 1 ≤ 2 ^ s := Nat.one_le_two_pow
theorem mask_val {s : Nat} (h : s < 64) : IntKind.u64.wrap (IntKind.u64.wrap ((2 : Int) ^ s) - 1) = ((2 ^ s - 1 : Nat) : Int) := by
  have h1 := pow63 h
  have h2 := pow1 s
  have e : ((2 : Int) ^ s) = ((2 ^ s : Nat) : Int) := by simp
  rw [e, IntKind.wrap_u64, IntKind.wrap_u64]
  omega
theorem get_val {x a s : Nat} (hx : U64 x) (h2 : s ≤ 64) : bits BinOp.and IntKind.u64 ((x : Int) / 2 ^ a) ((2 ^ s - 1 : Nat) : Int) = ((x / 2 ^ a % 2 ^ s : Nat) : Int) := by
  have e : ((x : Int) / 2 ^ a) = ((x / 2 ^ a : Nat) : Int) := by simp
  have h1 := pow64 h2
  have h3 : x / 2 ^ a ≤ x := Nat.div_le_self _ _
  unfold U64 at hx
  rw [e, u64_and_nat _ _ (by omega) (by omega), Nat.and_two_pow_sub_one_eq_mod]

/-- The word with v in the field. -/
def putN (x a s v : Nat) : Nat := 2 ^ (a + s) * (x / 2 ^ (a + s)) + (2 ^ a * v + x % 2 ^ a)

theorem putN_low {x a s v : Nat} (hv : v < 2 ^ s) : 2 ^ a * v + x % 2 ^ a < 2 ^ (a + s) := by
  have h1 : x % 2 ^ a < 2 ^ a := Nat.mod_lt _ (pow1 a)
  have h2 : 2 ^ a * (v + 1) ≤ 2 ^ a * 2 ^ s := Nat.mul_le_mul_left _ hv
  rw [Nat.pow_add]
  rw [Nat.mul_add, Nat.mul_one] at h2
  omega

theorem putN_lt {x a s v : Nat} (hx : U64 x) (h : a + s ≤ 64) (hv : v < 2 ^ s) : U64 (putN x a s v) := by
  unfold U64 at *
  unfold putN
  have h1 := putN_low (x := x) (a := a) hv
  have e : 2 ^ 64 = 2 ^ (a + s) * 2 ^ (64 - (a + s)) := by rw [← Nat.pow_add]; congr 1; omega
  have h2 : x / 2 ^ (a + s) < 2 ^ (64 - (a + s)) := by
    rw [Nat.div_lt_iff_lt_mul (pow1 _), Nat.mul_comm, ← e]; omega
  have h3 : 2 ^ (a + s) * (x / 2 ^ (a + s) + 1) ≤ 2 ^ (a + s) * 2 ^ (64 - (a + s)) := Nat.mul_le_mul_left _ h2
  rw [← e, Nat.mul_add, Nat.mul_one] at h3
  omega

theorem putN_bit {x a s v : Nat} (hv : v < 2 ^ s) (i : Nat) : (putN x a s v).testBit i = if a ≤ i ∧ i < a + s then v.testBit (i - a) else x.testBit i := by
  unfold putN
  rw [Nat.testBit_two_pow_mul_add _ (putN_low hv), Nat.testBit_two_pow_mul_add _ (Nat.mod_lt _ (pow1 a))]
  by_cases h1 : i < a + s
  · by_cases h2 : i < a
    · simp [h1, h2]; try omega
    · simp [h1, h2]; try omega
  · rw [if_neg h1, if_neg (by omega), Nat.testBit_div_two_pow]; congr 1; omega

theorem put_val {x a s v : Nat} (hx : U64 x) (h1 : 1 ≤ s) (h : a + s ≤ 64) (hv : v < 2 ^ s) :
    bits BinOp.or IntKind.u64 (bits BinOp.andNot IntKind.u64 (x : Int) (IntKind.u64.wrap (((2 ^ s - 1 : Nat) : Int) * 2 ^ a))) (IntKind.u64.wrap ((v : Int) * 2 ^ a)) = ((putN x a s v : Nat) : Int) := by
  have hx' := hx
  unfold U64 at hx'
  have e1 : (((2 ^ s - 1 : Nat) : Int) * 2 ^ a) = (((2 ^ s - 1) * 2 ^ a : Nat) : Int) := by simp
  have e2 : ((v : Int) * 2 ^ a) = ((v * 2 ^ a : Nat) : Int) := by simp
  have p : 2 ^ a * 2 ^ s ≤ 18446744073709551616 := by rw [← Nat.pow_add]; exact pow64 h
  have m1 : (2 ^ s - 1) * 2 ^ a < 18446744073709551616 := by
    have : 2 ^ a * (2 ^ s - 1 + 1) ≤ 18446744073709551616 := by rw [Nat.sub_add_cancel (pow1 s)]; exact p
    have q := pow1 a
    rw [Nat.mul_add, Nat.mul_one] at this
    rw [Nat.mul_comm]
    omega
  have m2 : v * 2 ^ a < 18446744073709551616 := by
    have : 2 ^ a * (v + 1) ≤ 2 ^ a * 2 ^ s := Nat.mul_le_mul_left _ hv
    have q := pow1 a
    rw [Nat.mul_add, Nat.mul_one] at this
    rw [Nat.mul_comm]
    omega
  have w1 : (((2 ^ s - 1) * 2 ^ a : Nat) : Int) % 18446744073709551616 = (((2 ^ s - 1) * 2 ^ a : Nat) : Int) := by omega
  have w2 : ((v * 2 ^ a : Nat) : Int) % 18446744073709551616 = ((v * 2 ^ a : Nat) : Int) := by omega
  rw [e1, e2, IntKind.wrap_u64, IntKind.wrap_u64, w1, w2,
    u64_andNot_nat _ _ hx' m1, u64_or_nat _ _ (Nat.lt_of_le_of_lt Nat.and_le_left hx') m2]
  congr 1
  apply Nat.eq_of_testBit_eq
  intro i
  rw [putN_bit hv, Nat.testBit_or, Nat.testBit_and]
  have e3 : 18446744073709551615 - (2 ^ s - 1) * 2 ^ a = 2 ^ 64 - ((2 ^ s - 1) * 2 ^ a + 1) := by omega
  rw [e3, Nat.testBit_two_pow_sub_succ (by omega)]
  rw [Nat.mul_comm (2 ^ s - 1), Nat.mul_comm v, Nat.testBit_two_pow_mul, Nat.testBit_two_pow_mul, Nat.testBit_two_pow_sub_one]
  by_cases c1 : a ≤ i
  · by_cases c2 : i < a + s
    · have d1 : i - a < s := by omega
      simp [c1, c2, d1]
    · have d1 : ¬ i - a < s := by omega
      have d2 : v.testBit (i - a) = false := Nat.testBit_lt_two_pow (Nat.lt_of_lt_of_le hv (Nat.pow_le_pow_right (by omega) (by omega)))
      by_cases c3 : i < 64
      · simp [c1, c2, d1, d2, c3]
      · have d3 : x.testBit i = false := Nat.testBit_lt_two_pow (Nat.lt_of_lt_of_le (show x < 2 ^ 64 by omega) (Nat.pow_le_pow_right (by omega) (by omega)))
        simp [c1, c2, d1, d2, c3, d3]
  · by_cases c3 : i < 64
    · simp [c1, c3]
    · omega

/-- 'v &^ mask != 0': v has more bits than the field. -/
theorem over_val {s v : Nat} (hv : U64 v) (h2 : s ≤ 64) : (bits BinOp.andNot IntKind.u64 (v : Int) ((2 ^ s - 1 : Nat) : Int) != 0) = decide (2 ^ s ≤ v) := by
  have h1 := pow64 h2
  have h3 := pow1 s
  have hv' := hv
  unfold U64 at hv'
  rw [u64_andNot_nat _ _ hv' (by omega)]
  have e3 : 18446744073709551615 - (2 ^ s - 1) = 2 ^ 64 - (2 ^ s - 1 + 1) := by omega
  rw [e3]
  have key : v &&& (2 ^ 64 - (2 ^ s - 1 + 1)) = 2 ^ s * (v / 2 ^ s) := by
    apply Nat.eq_of_testBit_eq
    intro i
    rw [Nat.testBit_and, Nat.testBit_two_pow_sub_succ (by omega), Nat.testBit_two_pow_sub_one, Nat.testBit_two_pow_mul]
    by_cases c1 : s ≤ i
    · have d : ¬ i < s := by omega
      by_cases c3 : i < 64
      · simp [c1, d, c3, Nat.testBit_div_two_pow]
      · have d3 : v.testBit i = false := Nat.testBit_lt_two_pow (Nat.lt_of_lt_of_le (show v < 2 ^ 64 by omega) (Nat.pow_le_pow_right (by omega) (by omega)))
        simp [c1, d, c3, d3, Nat.testBit_div_two_pow]
    · have d : i < s := by omega
      simp [c1, d]
  rw [key]
  by_cases c : 2 ^ s ≤ v
  · have : 1 ≤ v / 2 ^ s := (Nat.one_le_div_iff h3).2 c
    have q : 0 < 2 ^ s * (v / 2 ^ s) := Nat.mul_pos h3 this
    simp only [c, decide_true, bne_iff_ne]
    omega
  · have : v / 2 ^ s = 0 := Nat.div_eq_of_lt (by omega)
    rw [this]
    simp [c]

theorem get_step (x k i : Nat) : x / 2 ^ i % 2 ^ (k + 1) = 2 * (x / 2 ^ (i + 1) % 2 ^ k) + x / 2 ^ i % 2 := by
  have e : x / 2 ^ (i + 1) = x / 2 ^ i / 2 := by rw [Nat.pow_succ, Nat.div_div_eq_div_mul]
  rw [e, Nat.pow_succ, Nat.mul_comm (2 ^ k) 2, Nat.mod_mul]
  omega
theorem div_step (x i : Nat) : x / 2 ^ i = 2 * (x / 2 ^ (i + 1)) + x / 2 ^ i % 2 := by
  have e : x / 2 ^ (i + 1) = x / 2 ^ i / 2 := by rw [Nat.pow_succ, Nat.div_div_eq_div_mul]
  rw [e]; omega
theorem putN_digit {x a s v : Nat} (hv : v < 2 ^ s) (i : Nat) : putN x a s v / 2 ^ i % 2 = if a ≤ i ∧ i < a + s then v / 2 ^ (i - a) % 2 else x / 2 ^ i % 2 := by
  have h := putN_bit (x := x) (a := a) hv i
  have t (y j : Nat) : y / 2 ^ j % 2 = (y.testBit j).toNat := by
    rw [Nat.testBit_eq_decide_div_mod_eq]
    by_cases c : y / 2 ^ j % 2 = 1
    · simp [c]
    · have : y / 2 ^ j % 2 = 0 := by omega
      simp [this]
  rw [t, t, t, h]
  split <;> rfl

theorem putN_get {x a s v : Nat} (hv : v < 2 ^ s) : putN x a s v / 2 ^ a % 2 ^ s = v := by
  apply Nat.eq_of_testBit_eq
  intro i
  rw [Nat.testBit_mod_two_pow, Nat.testBit_div_two_pow, putN_bit hv]
  by_cases c : i < s
  · simp [c]; omega
  · have : v.testBit i = false := Nat.testBit_lt_two_pow (Nat.lt_of_lt_of_le hv (Nat.pow_le_pow_right (by omega) (by omega)))
    simp [c, this]
end Go.Proofs.Ytkocgeedpinplaa
