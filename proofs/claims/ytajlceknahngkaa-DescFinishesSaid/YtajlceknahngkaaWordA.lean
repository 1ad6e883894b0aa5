/- Contracts of package word's small functions. -/
import Derived.Test.YtajlceknahngkaaRows
import Derived.Test.YtajlceknahngkaaBitsN
import Derived.Lib.Hide
import Derived.WalkKit
import Derived.WalkSpells
import Derived.WalkLawsBesides
import Derived.Handy
namespace Go.Proofs.Ytajlceknahngkaa
open Go.RowKit

def isB (a s : Int) : Bool := decide (0 ≤ a ∧ a < 64 ∧ 1 ≤ s ∧ s ≤ 64 - a)

theorem isB_pos {a s : Int} (h : isB a s = true) : 0 ≤ a ∧ a < 64 ∧ 1 ≤ s ∧ s ≤ 64 - a := by simpa [isB] using h

theorem ret_bool {a b : Bool} (h : a = b) : Ending.returned (.bool a) = .returned (.bool b) := by rw [h]
theorem is_any (a s : Int) (w : World) :
    Calls Try.prog 64 #[.int .i64 a, .int .i64 s] w fun e w' => e = .returned (.bool (isB a s)) ∧ w = w' := by
  go_enter Try.func64, Try.ntmps64
  go_wp2
  all_goals go_ret
  all_goals exact ⟨ret_bool (by unfold isB; rw [Bool.eq_iff_iff]; simp; omega), rfl⟩

theorem ret_u64 {a b : Int} (h : a = b) : Ending.returned (.int .u64 a) = .returned (.int .u64 b) := by rw [h]

theorem mask_any (s : Nat) (w : World) (h1 : 1 ≤ s) (h2 : s ≤ 64) :
    Calls Try.prog 65 #[.int .i64 (s : Int)] w fun e w' => e = .returned (.int .u64 ((2 ^ s - 1 : Nat) : Int)) ∧ w = w' := by
  go_enter Try.func65, Try.ntmps65
  go_wp2
  · go_ret
    have e : s = 64 := by omega
    subst e
    exact ⟨ret_u64 (by decide), rfl⟩
  · go_ret
    exact ⟨ret_u64 (mask_val (by omega)), rfl⟩

theorem ret_u64e {a b : Int} {e : Int} (h : a = b) : Ending.returned (.tuple #[.int .u64 a, .int .i64 e]) = .returned (.tuple #[.int .u64 b, .int .i64 e]) := by rw [h]
theorem get_no (x a s : Int) (w : World) (h : isB a s = false) :
    Calls Try.prog 15 #[.int .u64 x, .int .i64 a, .int .i64 s] w fun e w' => e = .returned (.tuple #[.int .u64 0, .int .i64 1]) ∧ w = w' := by
  go_enter Try.func15, Try.ntmps15
  go_wp2_with (go_at_call 64; refine (is_any _ _ _).mono ?_; rintro e w' ⟨rfl, rfl⟩)
  go_ret2
  exact ⟨rfl, rfl⟩

theorem get_yes (x a s : Nat) (w : World) (hx : U64 x) (h : isB a s = true) :
    Calls Try.prog 15 #[.int .u64 (x : Int), .int .i64 (a : Int), .int .i64 (s : Int)] w fun e w' => e = .returned (.tuple #[.int .u64 ((x / 2 ^ a % 2 ^ s : Nat) : Int), .int .i64 0]) ∧ w = w' := by
  have hb := isB_pos h
  go_enter Try.func15, Try.ntmps15
  go_wp2_with (first | (go_at_call 64; refine (is_any _ _ _).mono ?_; rintro e w' ⟨rfl, rfl⟩) | (go_at_call 65; refine (mask_any _ _ (by omega) (by omega)).mono ?_; rintro e w' ⟨rfl, rfl⟩))
  go_ret2
  exact ⟨ret_u64e (get_val hx (by omega)), rfl⟩

theorem put_no (x a s v : Int) (w : World) (h : isB a s = false) :
    Calls Try.prog 19 #[.int .u64 x, .int .i64 a, .int .i64 s, .int .u64 v] w fun e w' => e = .returned (.tuple #[.int .u64 0, .int .i64 1]) ∧ w = w' := by
  go_enter Try.func19, Try.ntmps19
  go_wp2_with (go_at_call 64; refine (is_any _ _ _).mono ?_; rintro e w' ⟨rfl, rfl⟩)
  go_ret2
  exact ⟨rfl, rfl⟩

theorem put_over (x a s v : Nat) (w : World) (h : isB a s = true) (hv : U64 v) (ho : 2 ^ s ≤ v) :
    Calls Try.prog 19 #[.int .u64 (x : Int), .int .i64 (a : Int), .int .i64 (s : Int), .int .u64 (v : Int)] w fun e w' => e = .returned (.tuple #[.int .u64 0, .int .i64 10]) ∧ w = w' := by
  have hb := isB_pos h
  have ht : (bits BinOp.andNot IntKind.u64 (v : Int) ((2 ^ s - 1 : Nat) : Int) != 0) = true := by rw [over_val hv (by omega)]; simpa using ho
  clear ho
  go_enter Try.func19, Try.ntmps19
  go_wp2_with (first | (go_at_call 64; refine (is_any _ _ _).mono ?_; rintro e w' ⟨rfl, rfl⟩) | (go_at_call 65; refine (mask_any _ _ (by omega) (by omega)).mono ?_; rintro e w' ⟨rfl, rfl⟩))
  go_ret2
  exact ⟨rfl, rfl⟩

theorem put_yes (x a s v : Nat) (w : World) (h : isB a s = true) (hx : U64 x) (hv : U64 v) (ho : v < 2 ^ s) :
    Calls Try.prog 19 #[.int .u64 (x : Int), .int .i64 (a : Int), .int .i64 (s : Int), .int .u64 (v : Int)] w fun e w' => e = .returned (.tuple #[.int .u64 (putN x a s v : Nat), .int .i64 0]) ∧ w = w' := by
  have hb := isB_pos h
  have ht : (bits BinOp.andNot IntKind.u64 (v : Int) ((2 ^ s - 1 : Nat) : Int) != 0) = false := by rw [over_val hv (by omega)]; simp; omega
  have H := put_val hx (by omega) (by omega) ho (a := a)
  have HH := Lib.hid H
  clear H ho
  go_enter Try.func19, Try.ntmps19
  go_wp2_with (first | (go_at_call 64; refine (is_any _ _ _).mono ?_; rintro e w' ⟨rfl, rfl⟩) | (go_at_call 65; refine (mask_any _ _ (by omega) (by omega)).mono ?_; rintro e w' ⟨rfl, rfl⟩))
  go_ret2
  exact ⟨ret_u64e HH.out, rfl⟩

theorem half_u64 {y : Nat} (hy : U64 y) : IntKind.u64.wrap ((y : Int) / 2) = ((y / 2 : Nat) : Int) := by
  unfold U64 at hy
  rw [IntKind.wrap_u64]
  omega

/-- THE REFERENCE's Bit. -/
theorem bit_any (x i : Nat) (w : World) (hi : i ≤ 1000) (hx : U64 x) :
    Calls Try.prog 66 #[.int .u64 (x : Int), .int .i64 (i : Int)] w fun e w' => e = .returned (.int .u64 ((x / 2 ^ i % 2 : Nat) : Int)) ∧ w = w' := by
  go_enter Try.func66, Try.ntmps66
  go_wp2
  go_loop [0, 6] (fun y k => ∃ j yn : Nat, j ≤ i ∧ k = .int .i64 j ∧ y = .int .u64 (yn : Int) ∧ Hid (yn = x / 2 ^ j)) (fun _ k => i - (intOf k).toNat)
  case atStart => exact ⟨0, x, Nat.zero_le _, rfl, rfl, by simp [Hid]⟩
  case round =>
    obtain ⟨j, yn, hj, rfl, rfl, hy⟩ := hrel
    have hyu : U64 yn := by rw [hy.out]; exact Nat.lt_of_le_of_lt (Nat.div_le_self _ _) hx
    by_cases hlt : j < i
    · go_wp2
      go_round
      case rel => exact ⟨j + 1, yn / 2, by omega, by go_num, by rw [half_u64 hyu], by unfold Hid; rw [hy.out, Nat.pow_succ, ← Nat.div_div_eq_div_mul]⟩
      case measure => simp [intOf]; omega
    · obtain rfl : j = i := by omega
      go_wp2
      go_ret
      exact ⟨ret_u64 (by rw [hy.out]; simp), rfl⟩

theorem bit_v (x : Nat) (i : Int) (w : World) (h0 : 0 ≤ i) (hi : i ≤ 1000) (hx : U64 x) :
    Calls Try.prog 66 #[.int .u64 (x : Int), .int .i64 i] w fun e w' => ∃ b : Nat, e = .returned (.int .u64 (b : Int)) ∧ w = w' ∧ Hid (b = x / 2 ^ i.toNat % 2) := by
  obtain ⟨n, rfl⟩ := Int.eq_ofNat_of_zero_le h0
  refine (bit_any x n w (by omega) hx).mono ?_
  rintro e w' ⟨rfl, rfl⟩
  exact ⟨_, rfl, rfl, by simp [Hid]⟩

theorem ris_any (a s : Int) (w : World) :
    Calls Try.prog 16 #[.int .i64 a, .int .i64 s] w fun e w' => e = .returned (.bool (isB a s)) ∧ w = w' := by
  go_enter Try.func16, Try.ntmps16
  go_wp2
  all_goals go_ret
  all_goals exact ⟨ret_bool (by unfold isB; rw [Bool.eq_iff_iff]; simp; omega), rfl⟩

theorem step_u64 {a b : Nat} (ha : U64 (2 * a + b)) : IntKind.u64.wrap (IntKind.u64.wrap (2 * (a : Int)) + (b : Int)) = ((2 * a + b : Nat) : Int) := by
  unfold U64 at ha
  rw [IntKind.wrap_u64, IntKind.wrap_u64]
  omega
theorem getU {x : Nat} (hx : U64 x) (a s : Nat) : U64 (x / 2 ^ a % 2 ^ s) :=
  Nat.lt_of_le_of_lt (Nat.mod_le _ _) (Nat.lt_of_le_of_lt (Nat.div_le_self _ _) hx)
theorem divU {x : Nat} (hx : U64 x) (a : Nat) : U64 (x / 2 ^ a) := Nat.lt_of_le_of_lt (Nat.div_le_self _ _) hx

/-- THE REFERENCE's Get. -/
theorem rget_any (x a s : Nat) (w : World) (ha : a ≤ 64) (hs : s ≤ 64) (hx : U64 x) :
    Calls Try.prog 18 #[.int .u64 (x : Int), .int .i64 (a : Int), .int .i64 (s : Int)] w fun e w' => e = .returned (.int .u64 ((x / 2 ^ a % 2 ^ s : Nat) : Int)) ∧ w = w' := by
  go_enter Try.func18, Try.ntmps18
  go_wp2
  go_loop [7, 8] (fun o i => ∃ j on : Nat, j ≤ s ∧ i = .int .i64 ((s : Int) - 1 - j) ∧ o = .int .u64 (on : Int) ∧ Hid (on = x / 2 ^ (a + (s - j)) % 2 ^ j)) (fun _ i => (intOf i + 1).toNat)
  case atStart => exact ⟨0, 0, Nat.zero_le _, by simp, rfl, by unfold Hid; simp [Nat.mod_one]⟩
  case round =>
    obtain ⟨j, on, hj, rfl, rfl, ho⟩ := hrel
    by_cases hlt : j < s
    · obtain ⟨q, hq⟩ : ∃ q : Nat, (s : Int) - 1 - (j : Int) = q := ⟨s - 1 - j, by omega⟩
      have Hq := Lib.hid hq
      have hq2 : (q : Int) < s := by omega
      rw [hq]; clear hq
      go_wp2_with (go_at_call 66; refine (bit_v _ _ _ (by omega) (by omega) hx).mono ?_; rintro e w' ⟨b, rfl, rfl, hb⟩)
      go_round
      case rel =>
        have hq := Hq.out
        have e1 : a + (s - j) = a + q + 1 := by omega
        have e2 : a + (s - (j + 1)) = a + q := by omega
        have e3 : 2 * on + b = x / 2 ^ (a + q) % 2 ^ (j + 1) := by rw [hb.out, show ((a : Int) + (q : Int)).toNat = a + q by omega, ho.out, e1, get_step]
        exact ⟨j + 1, 2 * on + b, by omega, by rw [show (q : Int) - 1 = (s : Int) - 1 - ((j + 1 : Nat) : Int) by omega], by rw [← step_u64 (by rw [e3]; exact getU hx _ _)], by unfold Hid; rw [e2, e3]⟩
      case measure => simp [intOf] <;> omega
    · obtain rfl : j = s := by omega
      go_wp2
      go_ret
      exact ⟨ret_u64 (by rw [ho.out]; simp), rfl⟩

/-- THE REFERENCE's Put. -/
theorem rput_any (x a s v : Nat) (w : World) (has : a + s ≤ 64) (hx : U64 x) (hv : U64 v) (hvs : v < 2 ^ s) :
    Calls Try.prog 21 #[.int .u64 (x : Int), .int .i64 (a : Int), .int .i64 (s : Int), .int .u64 (v : Int)] w fun e w' => e = .returned (.int .u64 (putN x a s v : Nat)) ∧ w = w' := by
  have hp := putN_lt (x := x) hx has hvs
  have hd := Lib.hid (putN_digit (x := x) (a := a) hvs)
  have hvs' := Lib.hid hvs; clear hvs
  go_enter Try.func21, Try.ntmps21
  go_wp2
  go_loop [9, 10] (fun o i => ∃ j on : Nat, j ≤ 64 ∧ i = .int .i64 ((j : Int) - 1) ∧ o = .int .u64 (on : Int) ∧ Hid (on = putN x a s v / 2 ^ j)) (fun _ i => (intOf i + 1).toNat)
  case atStart => exact ⟨64, 0, by omega, rfl, rfl, by unfold Hid; rw [Nat.div_eq_of_lt]; exact hp⟩
  case round =>
    obtain ⟨j, on, hj, rfl, rfl, ho⟩ := hrel
    by_cases hlt : 0 < j
    · obtain ⟨q, rfl⟩ : ∃ q : Nat, j = q + 1 := ⟨j - 1, by omega⟩
      rw [show (((q + 1 : Nat) : Int) - 1) = (q : Int) by omega]
      by_cases c1 : a ≤ q ∧ q < a + s
      · obtain ⟨c2, c3⟩ := c1
        have e : putN x a s v / 2 ^ q = 2 * on + v / 2 ^ (q - a) % 2 := by rw [div_step, hd.out, if_pos ⟨c2, c3⟩, ho.out]
        have He := Lib.hid e; clear e
        go_wp2_with (go_at_call 66; refine (bit_v _ _ _ (by omega) (by omega) hv).mono ?_; rintro e w' ⟨b, rfl, rfl, hb⟩)
        go_round
        case rel =>
          have e4 : putN x a s v / 2 ^ q = 2 * on + b := by rw [He.out, hb.out, show ((q : Int) - (a : Int)).toNat = q - a by omega]
          exact ⟨q, 2 * on + b, by omega, rfl, by rw [← step_u64 (by rw [← e4]; exact divU hp _)], by unfold Hid; rw [e4]⟩
        case measure => simp [intOf] <;> omega
      · have e : putN x a s v / 2 ^ q = 2 * on + x / 2 ^ q % 2 := by rw [div_step, hd.out, if_neg c1, ho.out]
        have He := Lib.hid e; clear e
        go_wp2_with (go_at_call 66; refine (bit_v _ _ _ (by omega) (by omega) hx).mono ?_; rintro e w' ⟨b, rfl, rfl, hb⟩)
        all_goals go_round
        all_goals first | (case measure => simp [intOf] <;> omega) | skip
        all_goals
          have e4 : putN x a s v / 2 ^ q = 2 * on + b := by rw [He.out, hb.out, show (q : Int).toNat = q by omega]
          exact ⟨q, 2 * on + b, by omega, rfl, by rw [← step_u64 (by rw [← e4]; exact divU hp _)], by unfold Hid; rw [e4]⟩
    · obtain rfl : j = 0 := by omega
      go_wp2
      go_ret
      exact ⟨ret_u64 (by rw [ho.out]; simp), rfl⟩

def fitsB (v s : Nat) : Bool := decide (v < 2 ^ s)
theorem rfits_any (v s : Nat) (w : World) (hs : s ≤ 64) (hv : U64 v) :
    Calls Try.prog 20 #[.int .u64 (v : Int), .int .i64 (s : Int)] w fun e w' => e = .returned (.bool (fitsB v s)) ∧ w = w' := by
  have hr := rget_any v 0 s w (by omega) hs hv
  obtain ⟨g, hg⟩ : ∃ g : Nat, g = v / 2 ^ 0 % 2 ^ s := ⟨_, rfl⟩
  rw [← hg] at hr
  have Hr := Lib.hid hr; have Hg := Lib.hid hg; clear hr hg
  go_enter Try.func20, Try.ntmps20
  go_wp2_with (go_at_call 18; refine (Hr.out).mono ?_; rintro e w' ⟨rfl, rfl⟩)
  go_ret
  refine ⟨ret_bool ?_, rfl⟩
  have h := Hg.out
  have h2 : v / 2 ^ 0 = v := by simp
  rw [h2] at h
  subst h
  unfold fitsB
  by_cases c : v < 2 ^ s
  · simp [c, Nat.mod_eq_of_lt c]
  · have : v % 2 ^ s < 2 ^ s := Nat.mod_lt _ (pow1 s)
    rw [Bool.eq_iff_iff]
    simp only [beq_iff_eq, decide_eq_true_eq, c, iff_false]
    omega
end Go.Proofs.Ytajlceknahngkaa
