/- Layer 20: the law NodeWords: the walk. -/
import Derived.Test.YtajlceknahngkaaNodeC
namespace Go.Proofs.Ytajlceknahngkaa
open Go.RowKit

theorem split_at (x a b : Nat) (w : World) (hx : U64 x) (ha : a = x % 1024) (hb : b = x / 1024) :
    Calls Try.prog 36 #[.int .u64 (x : Int)] w fun e w' => e = .returned (.tuple #[.int .i64 (a : Int), .int .u64 (b : Int)]) ∧ w = w' :=
  (split_any x w hx).mono fun e w' ⟨a', b', he, hw, h1, h2⟩ => by
    rw [h1.out, ← ha, h2.out, ← hb] at he
    exact ⟨he, hw⟩
theorem unstamp_at (x a b : Nat) (w : World) (hx : U64 x) (ha : a = x / 1073741824) (hb : b = x % 1073741824) :
    Calls Try.prog 38 #[.int .u64 (x : Int)] w fun e w' => e = .returned (.tuple #[.int .u64 (a : Int), .int .u64 (b : Int)]) ∧ w = w' :=
  (unstamp_any x w hx).mono fun e w' ⟨a', b', he, hw, h1, h2⟩ => by
    rw [h1.out, ← ha, h2.out, ← hb] at he
    exact ⟨he, hw⟩
theorem unvalue_at (x a b : Nat) (w : World) (hx : U64 x) (ha : a = x / 4294967296) (hb : b = x % 4294967296) :
    Calls Try.prog 40 #[.int .u64 (x : Int)] w fun e w' => e = .returned (.tuple #[.int .u64 (a : Int), .int .u64 (b : Int)]) ∧ w = w' :=
  (unvalue_any x w hx).mono fun e w' ⟨a', b', he, hw, h1, h2⟩ => by
    rw [h1.out, ← ha, h2.out, ← hb] at he
    exact ⟨he, hw⟩

theorem stamp_no (v x : Nat) (w : World) (hv : U64 v) (hx : U64 x) (h : 1073741824 ≤ x ∨ 1048576 ≤ v) :
    Calls Try.prog 37 #[.int .u64 (v : Int), .int .u64 (x : Int)] w fun e w' => e = .returned (.tuple #[.int .u64 0, .int .i64 10]) ∧ Below w.heap.size w w' :=
  (stamp_any v x w hv hx).mono fun e w' ⟨er, y, he, hb, hy⟩ => by
    have h2 := hy.out
    unfold word2 at h2
    rw [if_pos (by simpa using h)] at h2
    simp only [Prod.mk.injEq] at h2
    obtain ⟨rfl, rfl⟩ := h2
    exact ⟨he, hb⟩
theorem stamp_yes (v x y : Nat) (w : World) (hv : U64 v) (hx : U64 x) (h : x < 1073741824) (h' : v < 1048576) (hy : y = x + 1073741824 * v) :
    Calls Try.prog 37 #[.int .u64 (v : Int), .int .u64 (x : Int)] w fun e w' => e = .returned (.tuple #[.int .u64 (y : Int), .int .i64 0]) ∧ Below w.heap.size w w' :=
  (stamp_any v x w hv hx).mono fun e w' ⟨er, y', he, hb, hy'⟩ => by
    have h2 := hy'.out
    unfold word2 at h2
    rw [if_neg (by simp; omega)] at h2
    simp only [Prod.mk.injEq] at h2
    obtain ⟨rfl, rfl⟩ := h2
    subst hy
    exact ⟨he, hb⟩
theorem value_no (v x : Nat) (w : World) (hv : U64 v) (hx : U64 x) (h : 16777216 ≤ x ∨ 1048576 ≤ v) :
    Calls Try.prog 39 #[.int .u64 (v : Int), .int .u64 (x : Int)] w fun e w' => e = .returned (.tuple #[.int .u64 0, .int .i64 10]) ∧ Below w.heap.size w w' :=
  (value_any v x w hv hx).mono fun e w' ⟨er, y, he, hb, hy⟩ => by
    have h2 := hy.out
    unfold word3 at h2
    rw [if_pos (by simpa using h)] at h2
    simp only [Prod.mk.injEq] at h2
    obtain ⟨rfl, rfl⟩ := h2
    exact ⟨he, hb⟩
theorem value_yes (v x y : Nat) (w : World) (hv : U64 v) (hx : U64 x) (h : x < 16777216) (h' : v < 1048576) (hy : y = x + 4294967296 * v) :
    Calls Try.prog 39 #[.int .u64 (v : Int), .int .u64 (x : Int)] w fun e w' => e = .returned (.tuple #[.int .u64 (y : Int), .int .i64 0]) ∧ Below w.heap.size w w' :=
  (value_any v x w hv hx).mono fun e w' ⟨er, y', he, hb, hy'⟩ => by
    have h2 := hy'.out
    unfold word3 at h2
    rw [if_neg (by simp; omega)] at h2
    simp only [Prod.mk.injEq] at h2
    obtain ⟨rfl, rfl⟩ := h2
    subst hy
    exact ⟨he, hb⟩
theorem ref_bad (i : Int) (v : Nat) (w : World) (hv : U64 v) (h : i < 1 ∨ 1024 ≤ i ∨ 1048576 ≤ v) :
    Calls Try.prog 35 #[.int .i64 i, .int .u64 (v : Int)] w fun e w' => e = .returned (.tuple #[.int .u64 0, .int .i64 10]) ∧ Below w.heap.size w w' := by
  by_cases hi : 1 ≤ i ∧ i < 1024
  · obtain ⟨n, rfl⟩ := Int.eq_ofNat_of_zero_le (show 0 ≤ i by omega)
    refine (ref_yes n v w (by omega) (by omega) hv).mono fun e w' ⟨er, y, he, hb, hy⟩ => ?_
    have h2 := hy.out
    unfold word2 at h2
    rw [if_pos (by simp; omega)] at h2
    simp only [Prod.mk.injEq] at h2
    obtain ⟨rfl, rfl⟩ := h2
    exact ⟨he, hb⟩
  · refine (ref_no i v w (by omega)).mono fun e w' ⟨he, hw⟩ => ?_
    subst hw
    exact ⟨he, Gr.refl _⟩
theorem ref_good (i v y : Nat) (w : World) (h1 : 1 ≤ i) (h2 : i < 1024) (h3 : v < 1048576) (hy : y = i + 1024 * v) :
    Calls Try.prog 35 #[.int .i64 (i : Int), .int .u64 (v : Int)] w fun e w' => e = .returned (.tuple #[.int .u64 (y : Int), .int .i64 0]) ∧ Below w.heap.size w w' := by
  refine (ref_yes i v w h1 h2 (by unfold U64; omega)).mono fun e w' ⟨er, y', he, hb, hy'⟩ => ?_
  have h4 := hy'.out
  unfold word2 at h4
  rw [if_neg (by simp; omega)] at h4
  simp only [Prod.mk.injEq] at h4
  obtain ⟨rfl, rfl⟩ := h4
  subst hy
  exact ⟨he, hb⟩

theorem split_x (x : Nat) (w : World) (hx : U64 x) :
    Calls Try.prog 36 #[.int .u64 (x : Int)] w fun e w' => e = .returned (.tuple #[.int .i64 ((x % 1024 : Nat) : Int), .int .u64 ((x / 1024 : Nat) : Int)]) ∧ w = w' := split_at x _ _ w hx rfl rfl
theorem unstamp_x (x : Nat) (w : World) (hx : U64 x) :
    Calls Try.prog 38 #[.int .u64 (x : Int)] w fun e w' => e = .returned (.tuple #[.int .u64 ((x / 1073741824 : Nat) : Int), .int .u64 ((x % 1073741824 : Nat) : Int)]) ∧ w = w' := unstamp_at x _ _ w hx rfl rfl
theorem unvalue_x (x : Nat) (w : World) (hx : U64 x) :
    Calls Try.prog 40 #[.int .u64 (x : Int)] w fun e w' => e = .returned (.tuple #[.int .u64 ((x / 4294967296 : Nat) : Int), .int .u64 ((x % 4294967296 : Nat) : Int)]) ∧ w = w' := unvalue_at x _ _ w hx rfl rfl

set_option maxRecDepth 100000 in
set_option maxHeartbeats 4000000 in
theorem nw_lo_big_any (i : Int) (v x : Nat) (w : World) (hv : U64 v) (hx : U64 x) (h1 : i < 1) (h3 : 1048576 ≤ v)  :
    Calls Try.prog 9 #[.int .i64 i, .int .u64 (v : Int), .int .u64 (x : Int)] w fun e w' => e = .returned (.bool true) ∧ Below w.heap.size w w' := by
  have G1 := Lib.hid (fun w => ref_bad i v w hv (by omega))
  have G3 := Lib.hid (fun w => stamp_no v x w hv hx (by omega))
  have G5 := Lib.hid (fun w => value_no v x w hv hx (by omega))
  have dv1048576 : decide ((1048576 : Int) ≤ (v : Int)) = true := by simp; omega
  clear h3
  have hxb : x < 18446744073709551616 := hx
  go_enter Try.func9, Try.ntmps9
  go_wp2_with fail
  refine (G1.out _).mono ?_
  rintro e w1 ⟨rfl, hb1⟩
  go_wp2_with fail
  refine (G3.out _).mono ?_
  rintro e w2 ⟨rfl, hb2⟩
  go_wp2_with fail
  refine (G5.out _).mono ?_
  rintro e w3 ⟨rfl, hb3⟩
  go_wp2_with (first | (go_at_call 36; refine (split_x _ _ hx).mono ?_; rintro e w' ⟨rfl, rfl⟩) | (go_at_call 38; refine (unstamp_x _ _ hx).mono ?_; rintro e w' ⟨rfl, rfl⟩) | (go_at_call 40; refine (unvalue_x _ _ hx).mono ?_; rintro e w' ⟨rfl, rfl⟩) | (go_at_call 30; refine (known20 _).mono ?_; rintro e w' ⟨rfl, hw⟩))
  go_ret
  exact ⟨rfl, Gr.trans (Gr.trans (Gr.trans hb1 hb2) hb3) hw⟩

set_option maxRecDepth 100000 in
set_option maxHeartbeats 4000000 in
theorem nw_ok_big_any (i : Nat) (v x : Nat) (w : World) (hv : U64 v) (hx : U64 x) (h1 : 1 ≤ i) (h2 : i < 1024) (h3 : 1048576 ≤ v)  :
    Calls Try.prog 9 #[.int .i64 (i : Int), .int .u64 (v : Int), .int .u64 (x : Int)] w fun e w' => e = .returned (.bool true) ∧ Below w.heap.size w w' := by
  have G1 := Lib.hid (fun w => ref_bad (i : Int) v w hv (by omega))
  have G3 := Lib.hid (fun w => stamp_no v x w hv hx (by omega))
  have G5 := Lib.hid (fun w => value_no v x w hv hx (by omega))
  have dv1048576 : decide ((1048576 : Int) ≤ (v : Int)) = true := by simp; omega
  clear h3
  have hxb : x < 18446744073709551616 := hx
  go_enter Try.func9, Try.ntmps9
  go_wp2_with fail
  refine (G1.out _).mono ?_
  rintro e w1 ⟨rfl, hb1⟩
  go_wp2_with fail
  refine (G3.out _).mono ?_
  rintro e w2 ⟨rfl, hb2⟩
  go_wp2_with fail
  refine (G5.out _).mono ?_
  rintro e w3 ⟨rfl, hb3⟩
  go_wp2_with (first | (go_at_call 36; refine (split_x _ _ hx).mono ?_; rintro e w' ⟨rfl, rfl⟩) | (go_at_call 38; refine (unstamp_x _ _ hx).mono ?_; rintro e w' ⟨rfl, rfl⟩) | (go_at_call 40; refine (unvalue_x _ _ hx).mono ?_; rintro e w' ⟨rfl, rfl⟩) | (go_at_call 30; refine (known20 _).mono ?_; rintro e w' ⟨rfl, hw⟩))
  go_ret
  exact ⟨rfl, Gr.trans (Gr.trans (Gr.trans hb1 hb2) hb3) hw⟩

set_option maxRecDepth 100000 in
set_option maxHeartbeats 4000000 in
theorem nw_hi_big_any (i : Int) (v x : Nat) (w : World) (hv : U64 v) (hx : U64 x) (h1 : 1023 < i) (h3 : 1048576 ≤ v)  :
    Calls Try.prog 9 #[.int .i64 i, .int .u64 (v : Int), .int .u64 (x : Int)] w fun e w' => e = .returned (.bool true) ∧ Below w.heap.size w w' := by
  have G1 := Lib.hid (fun w => ref_bad i v w hv (by omega))
  have G3 := Lib.hid (fun w => stamp_no v x w hv hx (by omega))
  have G5 := Lib.hid (fun w => value_no v x w hv hx (by omega))
  have dv1048576 : decide ((1048576 : Int) ≤ (v : Int)) = true := by simp; omega
  clear h3
  have hxb : x < 18446744073709551616 := hx
  go_enter Try.func9, Try.ntmps9
  go_wp2_with fail
  refine (G1.out _).mono ?_
  rintro e w1 ⟨rfl, hb1⟩
  go_wp2_with fail
  refine (G3.out _).mono ?_
  rintro e w2 ⟨rfl, hb2⟩
  go_wp2_with fail
  refine (G5.out _).mono ?_
  rintro e w3 ⟨rfl, hb3⟩
  go_wp2_with (first | (go_at_call 36; refine (split_x _ _ hx).mono ?_; rintro e w' ⟨rfl, rfl⟩) | (go_at_call 38; refine (unstamp_x _ _ hx).mono ?_; rintro e w' ⟨rfl, rfl⟩) | (go_at_call 40; refine (unvalue_x _ _ hx).mono ?_; rintro e w' ⟨rfl, rfl⟩) | (go_at_call 30; refine (known20 _).mono ?_; rintro e w' ⟨rfl, hw⟩))
  go_ret
  exact ⟨rfl, Gr.trans (Gr.trans (Gr.trans hb1 hb2) hb3) hw⟩

set_option maxRecDepth 100000 in
set_option maxHeartbeats 4000000 in
theorem nw_lo_small_a (i : Int) (v x : Nat) (w : World) (hv : U64 v) (hx : U64 x) (h1 : i < 1) (h3 : v < 1048576) (h4 : x < 16777216) :
    Calls Try.prog 9 #[.int .i64 i, .int .u64 (v : Int), .int .u64 (x : Int)] w fun e w' => e = .returned (.bool true) ∧ Below w.heap.size w w' := by
  have G1 := Lib.hid (fun w => ref_bad i v w hv (by omega))
  obtain ⟨y2, e2⟩ : ∃ y2, y2 = x + 1073741824 * v := ⟨_, rfl⟩
  have l3 : y2 ≤ x + 1073741824 * v := by omega
  have l4 : x + 1073741824 * v ≤ y2 := by omega
  have G3 := Lib.hid (fun w => stamp_yes v x y2 w hv hx (by omega) h3 e2)
  have G4 := Lib.hid (fun w => unstamp_at y2 v x w (by unfold U64; omega) (by omega) (by omega))
  obtain ⟨y3, e3⟩ : ∃ y3, y3 = x + 4294967296 * v := ⟨_, rfl⟩
  have l5 : y3 ≤ x + 4294967296 * v := by omega
  have l6 : x + 4294967296 * v ≤ y3 := by omega
  have G5 := Lib.hid (fun w => value_yes v x y3 w hv hx h4 h3 e3)
  have G6 := Lib.hid (fun w => unvalue_at y3 v x w (by unfold U64; omega) (by omega) (by omega))
  clear e2 e3
  have dv1048576 : decide ((1048576 : Int) ≤ (v : Int)) = false := by simp; omega
  have dx16777216 : decide ((16777216 : Int) ≤ (x : Int)) = false := by simp; omega
  have dx1073741824 : decide ((1073741824 : Int) ≤ (x : Int)) = false := by simp; omega
  go_enter Try.func9, Try.ntmps9
  go_wp2_with fail
  refine (G1.out _).mono ?_
  rintro e w1 ⟨rfl, hb1⟩
  go_wp2_with fail
  refine (G3.out _).mono ?_
  rintro e w2 ⟨rfl, hb2⟩
  go_wp2_with fail
  refine (G4.out _).mono ?_
  rintro e w3 ⟨rfl, rfl⟩
  go_wp2_with fail
  refine (G5.out _).mono ?_
  rintro e w3 ⟨rfl, hb3⟩
  go_wp2_with fail
  refine (G6.out _).mono ?_
  rintro e w4 ⟨rfl, rfl⟩
  go_wp2_with (first | (go_at_call 36; refine (split_x _ _ hx).mono ?_; rintro e w' ⟨rfl, rfl⟩) | (go_at_call 38; refine (unstamp_x _ _ hx).mono ?_; rintro e w' ⟨rfl, rfl⟩) | (go_at_call 40; refine (unvalue_x _ _ hx).mono ?_; rintro e w' ⟨rfl, rfl⟩) | (go_at_call 30; refine (known20 _).mono ?_; rintro e w' ⟨rfl, hw⟩))
  go_ret
  exact ⟨rfl, Gr.trans (Gr.trans (Gr.trans hb1 hb2) hb3) hw⟩

set_option maxRecDepth 100000 in
set_option maxHeartbeats 4000000 in
theorem nw_lo_small_b (i : Int) (v x : Nat) (w : World) (hv : U64 v) (hx : U64 x) (h1 : i < 1) (h3 : v < 1048576) (h4 : 16777216 ≤ x) (h5 : x < 1073741824) :
    Calls Try.prog 9 #[.int .i64 i, .int .u64 (v : Int), .int .u64 (x : Int)] w fun e w' => e = .returned (.bool true) ∧ Below w.heap.size w w' := by
  have G1 := Lib.hid (fun w => ref_bad i v w hv (by omega))
  obtain ⟨y2, e2⟩ : ∃ y2, y2 = x + 1073741824 * v := ⟨_, rfl⟩
  have l3 : y2 ≤ x + 1073741824 * v := by omega
  have l4 : x + 1073741824 * v ≤ y2 := by omega
  have G3 := Lib.hid (fun w => stamp_yes v x y2 w hv hx (by omega) h3 e2)
  have G4 := Lib.hid (fun w => unstamp_at y2 v x w (by unfold U64; omega) (by omega) (by omega))
  have G5 := Lib.hid (fun w => value_no v x w hv hx (by omega))
  clear e2
  have dv1048576 : decide ((1048576 : Int) ≤ (v : Int)) = false := by simp; omega
  have dx16777216 : decide ((16777216 : Int) ≤ (x : Int)) = true := by simp; omega
  have dx1073741824 : decide ((1073741824 : Int) ≤ (x : Int)) = false := by simp; omega
  clear h4
  go_enter Try.func9, Try.ntmps9
  go_wp2_with fail
  refine (G1.out _).mono ?_
  rintro e w1 ⟨rfl, hb1⟩
  go_wp2_with fail
  refine (G3.out _).mono ?_
  rintro e w2 ⟨rfl, hb2⟩
  go_wp2_with fail
  refine (G4.out _).mono ?_
  rintro e w3 ⟨rfl, rfl⟩
  go_wp2_with fail
  refine (G5.out _).mono ?_
  rintro e w3 ⟨rfl, hb3⟩
  go_wp2_with (first | (go_at_call 36; refine (split_x _ _ hx).mono ?_; rintro e w' ⟨rfl, rfl⟩) | (go_at_call 38; refine (unstamp_x _ _ hx).mono ?_; rintro e w' ⟨rfl, rfl⟩) | (go_at_call 40; refine (unvalue_x _ _ hx).mono ?_; rintro e w' ⟨rfl, rfl⟩) | (go_at_call 30; refine (known20 _).mono ?_; rintro e w' ⟨rfl, hw⟩))
  go_ret
  exact ⟨rfl, Gr.trans (Gr.trans (Gr.trans hb1 hb2) hb3) hw⟩

set_option maxRecDepth 100000 in
set_option maxHeartbeats 4000000 in
theorem nw_lo_small_c (i : Int) (v x : Nat) (w : World) (hv : U64 v) (hx : U64 x) (h1 : i < 1) (h3 : v < 1048576) (h4 : 1073741824 ≤ x) :
    Calls Try.prog 9 #[.int .i64 i, .int .u64 (v : Int), .int .u64 (x : Int)] w fun e w' => e = .returned (.bool true) ∧ Below w.heap.size w w' := by
  have G1 := Lib.hid (fun w => ref_bad i v w hv (by omega))
  have G3 := Lib.hid (fun w => stamp_no v x w hv hx (by omega))
  have G5 := Lib.hid (fun w => value_no v x w hv hx (by omega))
  have dv1048576 : decide ((1048576 : Int) ≤ (v : Int)) = false := by simp; omega
  have dx16777216 : decide ((16777216 : Int) ≤ (x : Int)) = true := by simp; omega
  have dx1073741824 : decide ((1073741824 : Int) ≤ (x : Int)) = true := by simp; omega
  clear h4
  have hxb : x < 18446744073709551616 := hx
  go_enter Try.func9, Try.ntmps9
  go_wp2_with fail
  refine (G1.out _).mono ?_
  rintro e w1 ⟨rfl, hb1⟩
  go_wp2_with fail
  refine (G3.out _).mono ?_
  rintro e w2 ⟨rfl, hb2⟩
  go_wp2_with fail
  refine (G5.out _).mono ?_
  rintro e w3 ⟨rfl, hb3⟩
  go_wp2_with (first | (go_at_call 36; refine (split_x _ _ hx).mono ?_; rintro e w' ⟨rfl, rfl⟩) | (go_at_call 38; refine (unstamp_x _ _ hx).mono ?_; rintro e w' ⟨rfl, rfl⟩) | (go_at_call 40; refine (unvalue_x _ _ hx).mono ?_; rintro e w' ⟨rfl, rfl⟩) | (go_at_call 30; refine (known20 _).mono ?_; rintro e w' ⟨rfl, hw⟩))
  go_ret
  exact ⟨rfl, Gr.trans (Gr.trans (Gr.trans hb1 hb2) hb3) hw⟩

set_option maxRecDepth 100000 in
set_option maxHeartbeats 4000000 in
theorem nw_ok_small_a (i : Nat) (v x : Nat) (w : World) (hv : U64 v) (hx : U64 x) (h1 : 1 ≤ i) (h2 : i < 1024) (h3 : v < 1048576) (h4 : x < 16777216) :
    Calls Try.prog 9 #[.int .i64 (i : Int), .int .u64 (v : Int), .int .u64 (x : Int)] w fun e w' => e = .returned (.bool true) ∧ Below w.heap.size w w' := by
  obtain ⟨y1, e1⟩ : ∃ y1, y1 = i + 1024 * v := ⟨_, rfl⟩
  have l1 : y1 ≤ i + 1024 * v := by omega
  have l2 : i + 1024 * v ≤ y1 := by omega
  have G1 := Lib.hid (fun w => ref_good i v y1 w h1 h2 h3 e1)
  have G2 := Lib.hid (fun w => split_at y1 i v w (by unfold U64; omega) (by omega) (by omega))
  obtain ⟨y2, e2⟩ : ∃ y2, y2 = x + 1073741824 * v := ⟨_, rfl⟩
  have l3 : y2 ≤ x + 1073741824 * v := by omega
  have l4 : x + 1073741824 * v ≤ y2 := by omega
  have G3 := Lib.hid (fun w => stamp_yes v x y2 w hv hx (by omega) h3 e2)
  have G4 := Lib.hid (fun w => unstamp_at y2 v x w (by unfold U64; omega) (by omega) (by omega))
  obtain ⟨y3, e3⟩ : ∃ y3, y3 = x + 4294967296 * v := ⟨_, rfl⟩
  have l5 : y3 ≤ x + 4294967296 * v := by omega
  have l6 : x + 4294967296 * v ≤ y3 := by omega
  have G5 := Lib.hid (fun w => value_yes v x y3 w hv hx h4 h3 e3)
  have G6 := Lib.hid (fun w => unvalue_at y3 v x w (by unfold U64; omega) (by omega) (by omega))
  clear e1 e2 e3
  have dv1048576 : decide ((1048576 : Int) ≤ (v : Int)) = false := by simp; omega
  have dx16777216 : decide ((16777216 : Int) ≤ (x : Int)) = false := by simp; omega
  have dx1073741824 : decide ((1073741824 : Int) ≤ (x : Int)) = false := by simp; omega
  go_enter Try.func9, Try.ntmps9
  go_wp2_with fail
  refine (G1.out _).mono ?_
  rintro e w1 ⟨rfl, hb1⟩
  go_wp2_with fail
  refine (G2.out _).mono ?_
  rintro e w2 ⟨rfl, rfl⟩
  go_wp2_with fail
  refine (G3.out _).mono ?_
  rintro e w2 ⟨rfl, hb2⟩
  go_wp2_with fail
  refine (G4.out _).mono ?_
  rintro e w3 ⟨rfl, rfl⟩
  go_wp2_with fail
  refine (G5.out _).mono ?_
  rintro e w3 ⟨rfl, hb3⟩
  go_wp2_with fail
  refine (G6.out _).mono ?_
  rintro e w4 ⟨rfl, rfl⟩
  go_wp2_with (first | (go_at_call 36; refine (split_x _ _ hx).mono ?_; rintro e w' ⟨rfl, rfl⟩) | (go_at_call 38; refine (unstamp_x _ _ hx).mono ?_; rintro e w' ⟨rfl, rfl⟩) | (go_at_call 40; refine (unvalue_x _ _ hx).mono ?_; rintro e w' ⟨rfl, rfl⟩) | (go_at_call 30; refine (known20 _).mono ?_; rintro e w' ⟨rfl, hw⟩))
  go_ret
  exact ⟨rfl, Gr.trans (Gr.trans (Gr.trans hb1 hb2) hb3) hw⟩

set_option maxRecDepth 100000 in
set_option maxHeartbeats 4000000 in
theorem nw_ok_small_b (i : Nat) (v x : Nat) (w : World) (hv : U64 v) (hx : U64 x) (h1 : 1 ≤ i) (h2 : i < 1024) (h3 : v < 1048576) (h4 : 16777216 ≤ x) (h5 : x < 1073741824) :
    Calls Try.prog 9 #[.int .i64 (i : Int), .int .u64 (v : Int), .int .u64 (x : Int)] w fun e w' => e = .returned (.bool true) ∧ Below w.heap.size w w' := by
  obtain ⟨y1, e1⟩ : ∃ y1, y1 = i + 1024 * v := ⟨_, rfl⟩
  have l1 : y1 ≤ i + 1024 * v := by omega
  have l2 : i + 1024 * v ≤ y1 := by omega
  have G1 := Lib.hid (fun w => ref_good i v y1 w h1 h2 h3 e1)
  have G2 := Lib.hid (fun w => split_at y1 i v w (by unfold U64; omega) (by omega) (by omega))
  obtain ⟨y2, e2⟩ : ∃ y2, y2 = x + 1073741824 * v := ⟨_, rfl⟩
  have l3 : y2 ≤ x + 1073741824 * v := by omega
  have l4 : x + 1073741824 * v ≤ y2 := by omega
  have G3 := Lib.hid (fun w => stamp_yes v x y2 w hv hx (by omega) h3 e2)
  have G4 := Lib.hid (fun w => unstamp_at y2 v x w (by unfold U64; omega) (by omega) (by omega))
  have G5 := Lib.hid (fun w => value_no v x w hv hx (by omega))
  clear e1 e2
  have dv1048576 : decide ((1048576 : Int) ≤ (v : Int)) = false := by simp; omega
  have dx16777216 : decide ((16777216 : Int) ≤ (x : Int)) = true := by simp; omega
  have dx1073741824 : decide ((1073741824 : Int) ≤ (x : Int)) = false := by simp; omega
  clear h4
  go_enter Try.func9, Try.ntmps9
  go_wp2_with fail
  refine (G1.out _).mono ?_
  rintro e w1 ⟨rfl, hb1⟩
  go_wp2_with fail
  refine (G2.out _).mono ?_
  rintro e w2 ⟨rfl, rfl⟩
  go_wp2_with fail
  refine (G3.out _).mono ?_
  rintro e w2 ⟨rfl, hb2⟩
  go_wp2_with fail
  refine (G4.out _).mono ?_
  rintro e w3 ⟨rfl, rfl⟩
  go_wp2_with fail
  refine (G5.out _).mono ?_
  rintro e w3 ⟨rfl, hb3⟩
  go_wp2_with (first | (go_at_call 36; refine (split_x _ _ hx).mono ?_; rintro e w' ⟨rfl, rfl⟩) | (go_at_call 38; refine (unstamp_x _ _ hx).mono ?_; rintro e w' ⟨rfl, rfl⟩) | (go_at_call 40; refine (unvalue_x _ _ hx).mono ?_; rintro e w' ⟨rfl, rfl⟩) | (go_at_call 30; refine (known20 _).mono ?_; rintro e w' ⟨rfl, hw⟩))
  go_ret
  exact ⟨rfl, Gr.trans (Gr.trans (Gr.trans hb1 hb2) hb3) hw⟩

set_option maxRecDepth 100000 in
set_option maxHeartbeats 4000000 in
theorem nw_ok_small_c (i : Nat) (v x : Nat) (w : World) (hv : U64 v) (hx : U64 x) (h1 : 1 ≤ i) (h2 : i < 1024) (h3 : v < 1048576) (h4 : 1073741824 ≤ x) :
    Calls Try.prog 9 #[.int .i64 (i : Int), .int .u64 (v : Int), .int .u64 (x : Int)] w fun e w' => e = .returned (.bool true) ∧ Below w.heap.size w w' := by
  obtain ⟨y1, e1⟩ : ∃ y1, y1 = i + 1024 * v := ⟨_, rfl⟩
  have l1 : y1 ≤ i + 1024 * v := by omega
  have l2 : i + 1024 * v ≤ y1 := by omega
  have G1 := Lib.hid (fun w => ref_good i v y1 w h1 h2 h3 e1)
  have G2 := Lib.hid (fun w => split_at y1 i v w (by unfold U64; omega) (by omega) (by omega))
  have G3 := Lib.hid (fun w => stamp_no v x w hv hx (by omega))
  have G5 := Lib.hid (fun w => value_no v x w hv hx (by omega))
  clear e1
  have dv1048576 : decide ((1048576 : Int) ≤ (v : Int)) = false := by simp; omega
  have dx16777216 : decide ((16777216 : Int) ≤ (x : Int)) = true := by simp; omega
  have dx1073741824 : decide ((1073741824 : Int) ≤ (x : Int)) = true := by simp; omega
  clear h4
  have hxb : x < 18446744073709551616 := hx
  go_enter Try.func9, Try.ntmps9
  go_wp2_with fail
  refine (G1.out _).mono ?_
  rintro e w1 ⟨rfl, hb1⟩
  go_wp2_with fail
  refine (G2.out _).mono ?_
  rintro e w2 ⟨rfl, rfl⟩
  go_wp2_with fail
  refine (G3.out _).mono ?_
  rintro e w2 ⟨rfl, hb2⟩
  go_wp2_with fail
  refine (G5.out _).mono ?_
  rintro e w3 ⟨rfl, hb3⟩
  go_wp2_with (first | (go_at_call 36; refine (split_x _ _ hx).mono ?_; rintro e w' ⟨rfl, rfl⟩) | (go_at_call 38; refine (unstamp_x _ _ hx).mono ?_; rintro e w' ⟨rfl, rfl⟩) | (go_at_call 40; refine (unvalue_x _ _ hx).mono ?_; rintro e w' ⟨rfl, rfl⟩) | (go_at_call 30; refine (known20 _).mono ?_; rintro e w' ⟨rfl, hw⟩))
  go_ret
  exact ⟨rfl, Gr.trans (Gr.trans (Gr.trans hb1 hb2) hb3) hw⟩

set_option maxRecDepth 100000 in
set_option maxHeartbeats 4000000 in
theorem nw_hi_small_a (i : Int) (v x : Nat) (w : World) (hv : U64 v) (hx : U64 x) (h1 : 1023 < i) (h3 : v < 1048576) (h4 : x < 16777216) :
    Calls Try.prog 9 #[.int .i64 i, .int .u64 (v : Int), .int .u64 (x : Int)] w fun e w' => e = .returned (.bool true) ∧ Below w.heap.size w w' := by
  have G1 := Lib.hid (fun w => ref_bad i v w hv (by omega))
  obtain ⟨y2, e2⟩ : ∃ y2, y2 = x + 1073741824 * v := ⟨_, rfl⟩
  have l3 : y2 ≤ x + 1073741824 * v := by omega
  have l4 : x + 1073741824 * v ≤ y2 := by omega
  have G3 := Lib.hid (fun w => stamp_yes v x y2 w hv hx (by omega) h3 e2)
  have G4 := Lib.hid (fun w => unstamp_at y2 v x w (by unfold U64; omega) (by omega) (by omega))
  obtain ⟨y3, e3⟩ : ∃ y3, y3 = x + 4294967296 * v := ⟨_, rfl⟩
  have l5 : y3 ≤ x + 4294967296 * v := by omega
  have l6 : x + 4294967296 * v ≤ y3 := by omega
  have G5 := Lib.hid (fun w => value_yes v x y3 w hv hx h4 h3 e3)
  have G6 := Lib.hid (fun w => unvalue_at y3 v x w (by unfold U64; omega) (by omega) (by omega))
  clear e2 e3
  have dv1048576 : decide ((1048576 : Int) ≤ (v : Int)) = false := by simp; omega
  have dx16777216 : decide ((16777216 : Int) ≤ (x : Int)) = false := by simp; omega
  have dx1073741824 : decide ((1073741824 : Int) ≤ (x : Int)) = false := by simp; omega
  go_enter Try.func9, Try.ntmps9
  go_wp2_with fail
  refine (G1.out _).mono ?_
  rintro e w1 ⟨rfl, hb1⟩
  go_wp2_with fail
  refine (G3.out _).mono ?_
  rintro e w2 ⟨rfl, hb2⟩
  go_wp2_with fail
  refine (G4.out _).mono ?_
  rintro e w3 ⟨rfl, rfl⟩
  go_wp2_with fail
  refine (G5.out _).mono ?_
  rintro e w3 ⟨rfl, hb3⟩
  go_wp2_with fail
  refine (G6.out _).mono ?_
  rintro e w4 ⟨rfl, rfl⟩
  go_wp2_with (first | (go_at_call 36; refine (split_x _ _ hx).mono ?_; rintro e w' ⟨rfl, rfl⟩) | (go_at_call 38; refine (unstamp_x _ _ hx).mono ?_; rintro e w' ⟨rfl, rfl⟩) | (go_at_call 40; refine (unvalue_x _ _ hx).mono ?_; rintro e w' ⟨rfl, rfl⟩) | (go_at_call 30; refine (known20 _).mono ?_; rintro e w' ⟨rfl, hw⟩))
  go_ret
  exact ⟨rfl, Gr.trans (Gr.trans (Gr.trans hb1 hb2) hb3) hw⟩

set_option maxRecDepth 100000 in
set_option maxHeartbeats 4000000 in
theorem nw_hi_small_b (i : Int) (v x : Nat) (w : World) (hv : U64 v) (hx : U64 x) (h1 : 1023 < i) (h3 : v < 1048576) (h4 : 16777216 ≤ x) (h5 : x < 1073741824) :
    Calls Try.prog 9 #[.int .i64 i, .int .u64 (v : Int), .int .u64 (x : Int)] w fun e w' => e = .returned (.bool true) ∧ Below w.heap.size w w' := by
  have G1 := Lib.hid (fun w => ref_bad i v w hv (by omega))
  obtain ⟨y2, e2⟩ : ∃ y2, y2 = x + 1073741824 * v := ⟨_, rfl⟩
  have l3 : y2 ≤ x + 1073741824 * v := by omega
  have l4 : x + 1073741824 * v ≤ y2 := by omega
  have G3 := Lib.hid (fun w => stamp_yes v x y2 w hv hx (by omega) h3 e2)
  have G4 := Lib.hid (fun w => unstamp_at y2 v x w (by unfold U64; omega) (by omega) (by omega))
  have G5 := Lib.hid (fun w => value_no v x w hv hx (by omega))
  clear e2
  have dv1048576 : decide ((1048576 : Int) ≤ (v : Int)) = false := by simp; omega
  have dx16777216 : decide ((16777216 : Int) ≤ (x : Int)) = true := by simp; omega
  have dx1073741824 : decide ((1073741824 : Int) ≤ (x : Int)) = false := by simp; omega
  clear h4
  go_enter Try.func9, Try.ntmps9
  go_wp2_with fail
  refine (G1.out _).mono ?_
  rintro e w1 ⟨rfl, hb1⟩
  go_wp2_with fail
  refine (G3.out _).mono ?_
  rintro e w2 ⟨rfl, hb2⟩
  go_wp2_with fail
  refine (G4.out _).mono ?_
  rintro e w3 ⟨rfl, rfl⟩
  go_wp2_with fail
  refine (G5.out _).mono ?_
  rintro e w3 ⟨rfl, hb3⟩
  go_wp2_with (first | (go_at_call 36; refine (split_x _ _ hx).mono ?_; rintro e w' ⟨rfl, rfl⟩) | (go_at_call 38; refine (unstamp_x _ _ hx).mono ?_; rintro e w' ⟨rfl, rfl⟩) | (go_at_call 40; refine (unvalue_x _ _ hx).mono ?_; rintro e w' ⟨rfl, rfl⟩) | (go_at_call 30; refine (known20 _).mono ?_; rintro e w' ⟨rfl, hw⟩))
  go_ret
  exact ⟨rfl, Gr.trans (Gr.trans (Gr.trans hb1 hb2) hb3) hw⟩

set_option maxRecDepth 100000 in
set_option maxHeartbeats 4000000 in
theorem nw_hi_small_c (i : Int) (v x : Nat) (w : World) (hv : U64 v) (hx : U64 x) (h1 : 1023 < i) (h3 : v < 1048576) (h4 : 1073741824 ≤ x) :
    Calls Try.prog 9 #[.int .i64 i, .int .u64 (v : Int), .int .u64 (x : Int)] w fun e w' => e = .returned (.bool true) ∧ Below w.heap.size w w' := by
  have G1 := Lib.hid (fun w => ref_bad i v w hv (by omega))
  have G3 := Lib.hid (fun w => stamp_no v x w hv hx (by omega))
  have G5 := Lib.hid (fun w => value_no v x w hv hx (by omega))
  have dv1048576 : decide ((1048576 : Int) ≤ (v : Int)) = false := by simp; omega
  have dx16777216 : decide ((16777216 : Int) ≤ (x : Int)) = true := by simp; omega
  have dx1073741824 : decide ((1073741824 : Int) ≤ (x : Int)) = true := by simp; omega
  clear h4
  have hxb : x < 18446744073709551616 := hx
  go_enter Try.func9, Try.ntmps9
  go_wp2_with fail
  refine (G1.out _).mono ?_
  rintro e w1 ⟨rfl, hb1⟩
  go_wp2_with fail
  refine (G3.out _).mono ?_
  rintro e w2 ⟨rfl, hb2⟩
  go_wp2_with fail
  refine (G5.out _).mono ?_
  rintro e w3 ⟨rfl, hb3⟩
  go_wp2_with (first | (go_at_call 36; refine (split_x _ _ hx).mono ?_; rintro e w' ⟨rfl, rfl⟩) | (go_at_call 38; refine (unstamp_x _ _ hx).mono ?_; rintro e w' ⟨rfl, rfl⟩) | (go_at_call 40; refine (unvalue_x _ _ hx).mono ?_; rintro e w' ⟨rfl, rfl⟩) | (go_at_call 30; refine (known20 _).mono ?_; rintro e w' ⟨rfl, hw⟩))
  go_ret
  exact ⟨rfl, Gr.trans (Gr.trans (Gr.trans hb1 hb2) hb3) hw⟩

theorem nodeWords_any (i : Int) (v x : Nat) (w : World) (hv : U64 v) (hx : U64 x) :
    Calls Try.prog 9 #[.int .i64 i, .int .u64 (v : Int), .int .u64 (x : Int)] w fun e w' => e = .returned (.bool true) ∧ Below w.heap.size w w' := by
  by_cases c1 : i < 1
  · by_cases c2 : v < 1048576
    · by_cases c3 : x < 16777216
      · exact nw_lo_small_a i v x w hv hx c1 c2 c3
      · by_cases c4 : x < 1073741824
        · exact nw_lo_small_b i v x w hv hx c1 c2 (by omega) c4
        · exact nw_lo_small_c i v x w hv hx c1 c2 (by omega)
    · exact nw_lo_big_any i v x w hv hx c1 (by omega)
  · by_cases c5 : 1023 < i
    · by_cases c2 : v < 1048576
      · by_cases c3 : x < 16777216
        · exact nw_hi_small_a i v x w hv hx c5 c2 c3
        · by_cases c4 : x < 1073741824
          · exact nw_hi_small_b i v x w hv hx c5 c2 (by omega) c4
          · exact nw_hi_small_c i v x w hv hx c5 c2 (by omega)
      · exact nw_hi_big_any i v x w hv hx c5 (by omega)
    · obtain ⟨n, rfl⟩ := Int.eq_ofNat_of_zero_le (show 0 ≤ i by omega)
      by_cases c2 : v < 1048576
      · by_cases c3 : x < 16777216
        · exact nw_ok_small_a n v x w hv hx (by omega) (by omega) c2 c3
        · by_cases c4 : x < 1073741824
          · exact nw_ok_small_b n v x w hv hx (by omega) (by omega) c2 (by omega) c4
          · exact nw_ok_small_c n v x w hv hx (by omega) (by omega) c2 (by omega)
      · exact nw_ok_big_any n v x w hv hx (by omega) (by omega) (by omega)
end Go.Proofs.Ytajlceknahngkaa
