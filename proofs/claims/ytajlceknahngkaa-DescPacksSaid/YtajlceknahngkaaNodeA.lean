/- Contracts of package node, and of its reference: where fields of nodes stand. -/
import Derived.Test.YtajlceknahngkaaWordE
namespace Go.Proofs.Ytajlceknahngkaa
open Go.RowKit

def rightB (n k : Int) : Bool := decide (1 ≤ n ∧ n ≤ 16 ∧ 1 ≤ k ∧ k ≤ 32)
theorem rightB_pos {n k : Int} (h : rightB n k = true) : 1 ≤ n ∧ n ≤ 16 ∧ 1 ≤ k ∧ k ≤ 32 := by simpa [rightB] using h
theorem nk_bound {n k : Int} (h : rightB n k = true) : 1 ≤ n * k ∧ n * k ≤ 512 := by
  obtain ⟨h1, h2, h3, h4⟩ := rightB_pos h
  constructor
  · calc (1 : Int) = 1 * 1 := rfl
      _ ≤ n * k := Int.mul_le_mul h1 h3 (by omega) (by omega)
  · calc n * k ≤ 16 * 32 := Int.mul_le_mul h2 h4 (by omega) (by omega)
      _ = 512 := rfl

theorem right_any (n k : Int) (w : World) :
    Calls Try.prog 67 #[.int .i64 n, .int .i64 k] w fun e w' => e = .returned (.bool (rightB n k)) ∧ w = w' := by
  go_enter Try.func67, Try.ntmps67
  go_wp2
  all_goals go_ret
  all_goals exact ⟨ret_bool (by unfold rightB; rw [Bool.eq_iff_iff]; simp; omega), rfl⟩

theorem rright_any (n k : Int) (w : World) :
    Calls Try.prog 28 #[.int .i64 n, .int .i64 k] w fun e w' => e = .returned (.bool (rightB n k)) ∧ w = w' := by
  go_enter Try.func28, Try.ntmps28
  go_wp2
  all_goals go_ret
  all_goals exact ⟨ret_bool (by unfold rightB; rw [Bool.eq_iff_iff]; simp; omega), rfl⟩

theorem ret_i64 {a b : Int} (h : a = b) : Ending.returned (.int .i64 a) = .returned (.int .i64 b) := by rw [h]

theorem size_yes (n k : Int) (w : World) (h : rightB n k = true) :
    Calls Try.prog 29 #[.int .i64 n, .int .i64 k] w fun e w' => e = .returned (.int .i64 (2 + n + 4 * (1 + n * k))) ∧ w = w' := by
  obtain ⟨h1, h2, h3, h4⟩ := rightB_pos h
  obtain ⟨h5, h6⟩ := nk_bound h
  go_enter Try.func29, Try.ntmps29
  go_wp2_with (go_at_call 67; refine (right_any _ _ _).mono ?_; rintro e w' ⟨rfl, rfl⟩)
  go_ret
  exact ⟨rfl, rfl⟩
theorem size_no (n k : Int) (w : World) (h : rightB n k = false) :
    Calls Try.prog 29 #[.int .i64 n, .int .i64 k] w fun e w' => e = .returned (.int .i64 0) ∧ w = w' := by
  go_enter Try.func29, Try.ntmps29
  go_wp2_with (go_at_call 67; refine (right_any _ _ _).mono ?_; rintro e w' ⟨rfl, rfl⟩)
  go_ret
  exact ⟨rfl, rfl⟩
theorem rsize_yes (n k : Int) (w : World) (h : rightB n k = true) :
    Calls Try.prog 31 #[.int .i64 n, .int .i64 k] w fun e w' => e = .returned (.int .i64 (2 + n + 4 * (1 + n * k))) ∧ w = w' := by
  obtain ⟨h1, h2, h3, h4⟩ := rightB_pos h
  obtain ⟨h5, h6⟩ := nk_bound h
  go_enter Try.func31, Try.ntmps31
  go_wp2
  go_ret
  exact ⟨rfl, rfl⟩

def atB (n k i f : Int) : Bool := rightB n k && decide (1 ≤ i ∧ i ≤ 1 + n * k ∧ 0 ≤ f ∧ f < 4)
theorem at_yes (n k i f : Int) (w : World) (h : atB n k i f = true) :
    Calls Try.prog 26 #[.int .i64 n, .int .i64 k, .int .i64 i, .int .i64 f] w fun e w' => e = .returned (.tuple #[.int .i64 (2 + n + 4 * (i - 1) + f), .bool true]) ∧ Below w.heap.size w w' := by
  unfold atB at h
  simp only [Bool.and_eq_true, decide_eq_true_eq] at h
  obtain ⟨hr, h7, h8, h9, h10⟩ := h
  obtain ⟨h1, h2, h3, h4⟩ := rightB_pos hr
  obtain ⟨h5, h6⟩ := nk_bound hr
  obtain rfl | rfl | rfl | rfl : f = 0 ∨ f = 1 ∨ f = 2 ∨ f = 3 := by omega
  all_goals
    go_enter Try.func26, Try.ntmps26
    go_wp2_with (go_at_call 67; refine (right_any _ _ _).mono ?_; rintro e w' ⟨rfl, rfl⟩)
    go_ret2
    exact ⟨by simp, Gr.new _ _⟩
theorem at_no (n k i f : Int) (w : World) (h : atB n k i f = false) :
    Calls Try.prog 26 #[.int .i64 n, .int .i64 k, .int .i64 i, .int .i64 f] w fun e w' => e = .returned (.tuple #[.int .i64 0, .bool false]) ∧ Below w.heap.size w w' := by
  by_cases hr : rightB n k = true
  · obtain ⟨h1, h2, h3, h4⟩ := rightB_pos hr
    obtain ⟨h5, h6⟩ := nk_bound hr
    have h' : i < 1 ∨ (1 ≤ i ∧ 1 + n * k < i) ∨ (1 ≤ i ∧ i ≤ 1 + n * k ∧ f < 0) ∨ (1 ≤ i ∧ i ≤ 1 + n * k ∧ 4 ≤ f) := by
      unfold atB at h
      rw [hr] at h
      simp only [Bool.true_and, decide_eq_false_iff_not] at h
      omega
    clear h
    rcases h' with c | ⟨c, c2⟩ | ⟨c, c2, c3⟩ | ⟨c, c2, c3⟩
    all_goals
      go_enter Try.func26, Try.ntmps26
      go_wp2_with (go_at_call 67; refine (right_any _ _ _).mono ?_; rintro e w' ⟨rfl, rfl⟩)
      go_ret2
      exact ⟨by simp, Gr.new _ _⟩
  · have hr' : rightB n k = false := by simpa using hr
    clear h hr
    go_enter Try.func26, Try.ntmps26
    go_wp2_with (go_at_call 67; refine (right_any _ _ _).mono ?_; rintro e w' ⟨rfl, rfl⟩)
    go_ret2
    exact ⟨by simp, Gr.new _ _⟩

def ownB (n k i : Int) : Bool := rightB n k && decide (2 ≤ i ∧ i ≤ 1 + n * k)
theorem owner_yes (n k i : Int) (w : World) (h : ownB n k i = true) :
    Calls Try.prog 27 #[.int .i64 n, .int .i64 k, .int .i64 i] w fun e w' => e = .returned (.tuple #[.int .i64 ((i - 2) / k), .bool true]) ∧ w = w' := by
  unfold ownB at h
  simp only [Bool.and_eq_true, decide_eq_true_eq] at h
  obtain ⟨hr, h7, h8⟩ := h
  obtain ⟨h1, h2, h3, h4⟩ := rightB_pos hr
  obtain ⟨h5, h6⟩ := nk_bound hr
  go_enter Try.func27, Try.ntmps27
  go_wp2_with (go_at_call 67; refine (right_any _ _ _).mono ?_; rintro e w' ⟨rfl, rfl⟩)
  go_ret2
  exact ⟨rfl, rfl⟩
theorem owner_no (n k i : Int) (w : World) (h : ownB n k i = false) :
    Calls Try.prog 27 #[.int .i64 n, .int .i64 k, .int .i64 i] w fun e w' => e = .returned (.tuple #[.int .i64 0, .bool false]) ∧ w = w' := by
  by_cases hr : rightB n k = true
  · obtain ⟨h1, h2, h3, h4⟩ := rightB_pos hr
    obtain ⟨h5, h6⟩ := nk_bound hr
    have h' : i < 2 ∨ (2 ≤ i ∧ 1 + n * k < i) := by
      unfold ownB at h
      rw [hr] at h
      simp only [Bool.true_and, decide_eq_false_iff_not] at h
      omega
    clear h
    rcases h' with c | ⟨c, c2⟩
    all_goals
      go_enter Try.func27, Try.ntmps27
      go_wp2_with (go_at_call 67; refine (right_any _ _ _).mono ?_; rintro e w' ⟨rfl, rfl⟩)
      go_ret2
      exact ⟨by simp, rfl⟩
  · have hr' : rightB n k = false := by simpa using hr
    clear h hr
    go_enter Try.func27, Try.ntmps27
    go_wp2_with (go_at_call 67; refine (right_any _ _ _).mono ?_; rintro e w' ⟨rfl, rfl⟩)
    go_ret2
    exact ⟨by simp, rfl⟩

theorem ris20_any (n k i : Int) (w : World) (hr : rightB n k = true) :
    Calls Try.prog 32 #[.int .i64 n, .int .i64 k, .int .i64 i] w fun e w' => e = .returned (.bool (decide (1 ≤ i ∧ i ≤ 1 + n * k))) ∧ w = w' := by
  obtain ⟨h1, h2, h3, h4⟩ := rightB_pos hr
  obtain ⟨h5, h6⟩ := nk_bound hr
  go_enter Try.func32, Try.ntmps32
  go_wp2
  all_goals go_ret
  all_goals exact ⟨ret_bool (by rw [Bool.eq_iff_iff]; simp; omega), rfl⟩

theorem rowner_yes (k i : Int) (w : World) (h : 2 ≤ i) (h2 : i ≤ 513) (hk : 1 ≤ k) :
    Calls Try.prog 33 #[.int .i64 k, .int .i64 i] w fun e w' => e = .returned (.int .i64 ((i - 2) / k)) ∧ w = w' := by
  go_enter Try.func33, Try.ntmps33
  go_wp2
  go_ret
  exact ⟨rfl, rfl⟩
theorem rowner_no (k i : Int) (w : World) (h : i < 2) :
    Calls Try.prog 33 #[.int .i64 k, .int .i64 i] w fun e w' => e = .returned (.int .i64 (-1)) ∧ w = w' := by
  go_enter Try.func33, Try.ntmps33
  go_wp2
  go_ret
  exact ⟨rfl, rfl⟩

theorem rat20_any (n i f : Int) (w : World) (hn : 0 ≤ n) (hn2 : n ≤ 100) (h : 1 ≤ i) (h2 : i ≤ 1000) (hf : 0 ≤ f) (hf2 : f < 4) :
    Calls Try.prog 34 #[.int .i64 n, .int .i64 i, .int .i64 f] w fun e w' => e = .returned (.int .i64 (2 + n + 4 * (i - 1) + f)) ∧ w = w' := by
  go_enter Try.func34, Try.ntmps34
  go_wp2
  go_loop [7, 8] (fun a k => ∃ j : Int, 1 ≤ j ∧ j ≤ i ∧ k = .int .i64 j ∧ a = .int .i64 (2 + n + 4 * (j - 1))) (fun _ k => (i - intOf k).toNat)
  case atStart => exact ⟨1, by omega, by omega, rfl, by simp⟩
  case round =>
    obtain ⟨j, hj1, hj2, rfl, rfl⟩ := hrel
    by_cases hlt : j < i
    · go_wp2
      go_round
      case rel => exact ⟨j + 1, by omega, by omega, rfl, by rw [show 2 + n + 4 * (j - 1) + 4 = 2 + n + 4 * (j + 1 - 1) by omega]⟩
      case measure => simp [intOf] <;> omega
    · obtain rfl : j = i := by omega
      go_wp2
      go_ret
      exact ⟨rfl, rfl⟩
end Go.Proofs.Ytajlceknahngkaa
