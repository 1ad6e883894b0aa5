/- Layer 20: the laws: the walks. -/
import Derived.Test.YtajlceknahngkaaNodeB
namespace Go.Proofs.Ytajlceknahngkaa
open Go.RowKit

theorem known20 (w : World) :
    Calls Try.prog 30 #[] w fun e w' => e = .returned (.bool true) ∧ Below w.heap.size w w' := by
  have h1 : rightB 2 3 = true := by decide
  have h2 : atB 2 3 1 0 = true := by decide
  have h3 : ownB 2 3 5 = true := by decide
  have hw : word2 10 5 20 2 = (0, 2053) := by decide
  go_enter Try.func30, Try.ntmps30
  go_wp2_with fail
  refine (at_yes _ _ _ _ _ h2).mono ?_
  rintro e w1 ⟨rfl, hb1⟩
  go_wp2_with fail
  refine (owner_yes _ _ _ _ h3).mono ?_
  rintro e w2 ⟨rfl, rfl⟩
  go_wp2_with fail
  refine (ref_yes 5 2 _ (by omega) (by omega) (by unfold U64; omega)).mono ?_
  rintro e w2 ⟨er, x, rfl, hb2, hx⟩
  obtain ⟨rfl, rfl⟩ : er = 0 ∧ x = 2053 := by have := hx.out; rw [hw] at this; simpa using this
  clear hx hw
  go_wp2_with (go_at_call 29; refine (size_yes _ _ _ h1).mono ?_; rintro e w' ⟨rfl, rfl⟩)
  go_ret
  exact ⟨rfl, Gr.trans hb1 hb2⟩

theorem nodeApart_any (n k i f j g : Int) (w : World) :
    Calls Try.prog 8 #[.int .i64 n, .int .i64 k, .agg #[.int .i64 i, .int .i64 f, .int .i64 j, .int .i64 g]] w fun e w' => e = .returned (.bool true) ∧ Below w.heap.size w w' := by
  by_cases h1 : atB n k i f = true
  · by_cases h2 : atB n k j g = true
    · have g1 := h1; have g2 := h2
      unfold atB at g1 g2
      simp only [Bool.and_eq_true, decide_eq_true_eq] at g1 g2
      obtain ⟨hr, a1, a2, a3, a4⟩ := g1
      obtain ⟨_, b1, b2, b3, b4⟩ := g2
      obtain ⟨c1, c2, c3, c4⟩ := rightB_pos hr
      obtain ⟨c5, c6⟩ := nk_bound hr
      obtain ⟨A, hA⟩ : ∃ A, A = 2 + n + 4 * (i - 1) + f := ⟨_, rfl⟩
      obtain ⟨B, hB⟩ : ∃ B, B = 2 + n + 4 * (j - 1) + g := ⟨_, rfl⟩
      have hA1 : 2 + n ≤ A := by omega
      have hB1 : 2 + n ≤ B := by omega
      have g1 := fun w => at_yes n k i f w h1
      have g2 := fun w => at_yes n k j g w h2
      rw [← hA] at g1; rw [← hB] at g2
      have G1 := Lib.hid g1; have G2 := Lib.hid g2
      have hAB : A = B ↔ (i = j ∧ f = g) := by omega
      clear g1 g2 hA hB h1 h2
      by_cases e1 : i = j
      · have q1 : (i == j) = true := by simpa using e1
        by_cases e2 : f = g
        · have q2 : (f == g) = true := by simpa using e2
          have q3 : (A == B) = true := by simpa using hAB.2 ⟨e1, e2⟩
          clear hAB e1 e2
          go_enter Try.func8, Try.ntmps8
          go_wp2_with fail
          refine (G1.out _).mono ?_
          rintro e w1 ⟨rfl, hb1⟩
          have k0 := box_cell hb1 0; have k1 := box_cell hb1 1; have k2 := box_cell hb1 2; have k3 := box_cell hb1 3
          go_wp2_with fail
          refine (G2.out _).mono ?_
          rintro e w2 ⟨rfl, hb2⟩
          have hb3 := hb1.trans (hb2.mono hb1.size)
          have k0 := box_cell hb3 0; have k1 := box_cell hb3 1; have k2 := box_cell hb3 2; have k3 := box_cell hb3 3
          go_wp2_with (go_at_call 30; refine (known20 _).mono ?_; rintro e w' ⟨rfl, hw⟩)
          go_ret
          exact ⟨rfl, Gr.trans (Gr.trans (Gr.new _ _) hb3) hw⟩
        · have q2 : (f == g) = false := by simpa using e2
          have q3 : (A == B) = false := by simp; intro h; exact e2 (hAB.1 h).2
          clear hAB e1 e2
          go_enter Try.func8, Try.ntmps8
          go_wp2_with fail
          refine (G1.out _).mono ?_
          rintro e w1 ⟨rfl, hb1⟩
          have k0 := box_cell hb1 0; have k1 := box_cell hb1 1; have k2 := box_cell hb1 2; have k3 := box_cell hb1 3
          go_wp2_with fail
          refine (G2.out _).mono ?_
          rintro e w2 ⟨rfl, hb2⟩
          have hb3 := hb1.trans (hb2.mono hb1.size)
          have k0 := box_cell hb3 0; have k1 := box_cell hb3 1; have k2 := box_cell hb3 2; have k3 := box_cell hb3 3
          go_wp2_with (go_at_call 30; refine (known20 _).mono ?_; rintro e w' ⟨rfl, hw⟩)
          go_ret
          exact ⟨rfl, Gr.trans (Gr.trans (Gr.new _ _) hb3) hw⟩
      · have q1 : (i == j) = false := by simpa using e1
        have q3 : (A == B) = false := by simp; intro h; exact e1 (hAB.1 h).1
        clear hAB e1
        go_enter Try.func8, Try.ntmps8
        go_wp2_with fail
        refine (G1.out _).mono ?_
        rintro e w1 ⟨rfl, hb1⟩
        have k0 := box_cell hb1 0; have k1 := box_cell hb1 1; have k2 := box_cell hb1 2; have k3 := box_cell hb1 3
        go_wp2_with fail
        refine (G2.out _).mono ?_
        rintro e w2 ⟨rfl, hb2⟩
        have hb3 := hb1.trans (hb2.mono hb1.size)
        have k0 := box_cell hb3 0; have k1 := box_cell hb3 1; have k2 := box_cell hb3 2; have k3 := box_cell hb3 3
        go_wp2_with (go_at_call 30; refine (known20 _).mono ?_; rintro e w' ⟨rfl, hw⟩)
        go_ret
        exact ⟨rfl, Gr.trans (Gr.trans (Gr.new _ _) hb3) hw⟩
    · have h2' : atB n k j g = false := by simpa using h2
      clear h2
      go_enter Try.func8, Try.ntmps8
      go_wp2_with fail
      refine (at_yes _ _ _ _ _ h1).mono ?_
      rintro e w1 ⟨rfl, hb1⟩
      have k0 := box_cell hb1 0; have k1 := box_cell hb1 1; have k2 := box_cell hb1 2; have k3 := box_cell hb1 3
      go_wp2_with fail
      refine (at_no _ _ _ _ _ h2').mono ?_
      rintro e w2 ⟨rfl, hb2⟩
      go_wp2_with (go_at_call 30; refine (known20 _).mono ?_; rintro e w' ⟨rfl, hw⟩)
      go_ret
      exact ⟨rfl, Gr.trans (Gr.trans (Gr.trans (Gr.new _ _) hb1) hb2) hw⟩
  · have h1' : atB n k i f = false := by simpa using h1
    clear h1
    have two : ∀ w, Calls Try.prog 26 #[.int .i64 n, .int .i64 k, .int .i64 j, .int .i64 g] w fun e w' => ∃ (a : Int) (b : Bool), e = .returned (.tuple #[.int .i64 a, .bool b]) ∧ Below w.heap.size w w' := by
      intro w
      by_cases h2 : atB n k j g = true
      · exact (at_yes _ _ _ _ _ h2).mono fun e w' ⟨h, h'⟩ => ⟨_, _, h, h'⟩
      · exact (at_no _ _ _ _ _ (by simpa using h2)).mono fun e w' ⟨h, h'⟩ => ⟨_, _, h, h'⟩
    have Two := Lib.hid two; clear two
    go_enter Try.func8, Try.ntmps8
    go_wp2_with fail
    refine (at_no _ _ _ _ _ h1').mono ?_
    rintro e w1 ⟨rfl, hb1⟩
    have k0 := box_cell hb1 0; have k1 := box_cell hb1 1; have k2 := box_cell hb1 2; have k3 := box_cell hb1 3
    go_wp2_with fail
    refine (Two.out _).mono ?_
    rintro e w2 ⟨a, b, rfl, hb2⟩
    go_wp2_with (go_at_call 30; refine (known20 _).mono ?_; rintro e w' ⟨rfl, hw⟩)
    go_ret
    exact ⟨rfl, Gr.trans (Gr.trans (Gr.trans (Gr.new _ _) hb1) hb2) hw⟩


set_option maxHeartbeats 4000000 in
theorem nodePlaces_any (n k i f : Int) (w : World) :
    Calls Try.prog 7 #[.int .i64 n, .int .i64 k, .agg #[.int .i64 i, .int .i64 f]] w fun e w' => e = .returned (.bool true) ∧ Below w.heap.size w w' := by
  by_cases hr : rightB n k = true
  · obtain ⟨c1, c2, c3, c4⟩ := rightB_pos hr
    obtain ⟨c5, c6⟩ := nk_bound hr
    by_cases hi : 1 ≤ i ∧ i ≤ 1 + n * k
    · obtain ⟨i1, i2⟩ := hi
      by_cases hf : 0 ≤ f ∧ f < 4
      · obtain ⟨f1, f2⟩ := hf
        have ha : atB n k i f = true := by unfold atB; rw [hr]; simp; omega
        obtain ⟨A, hA⟩ : ∃ A, A = 2 + n + 4 * (i - 1) + f := ⟨_, rfl⟩
        have g1 := fun w => at_yes n k i f w ha
        have g2 := fun w => rat20_any n i f w (by omega) (by omega) (by omega) (by omega) f1 f2
        rw [← hA] at g1 g2
        have G1 := Lib.hid g1; have G2 := Lib.hid g2
        have hA2 : A < 2 + n + 4 * (1 + n * k) := by omega
        clear g1 g2 hA ha
        by_cases hi2 : i = 1
        · subst hi2
          have ho : ownB n k 1 = false := by unfold ownB; simp
          go_enter Try.func7, Try.ntmps7
          go_wp2_with fail
          refine (G1.out _).mono ?_
          rintro e w1 ⟨rfl, hb1⟩
          have k0 := box_cell hb1 0; have k1 := box_cell hb1 1
          go_wp2_with (first | (go_at_call 27; refine (owner_no _ _ _ _ ho).mono ?_; rintro e w' ⟨rfl, rfl⟩) | (go_at_call 29; refine (size_yes _ _ _ hr).mono ?_; rintro e w' ⟨rfl, rfl⟩) | (go_at_call 31; refine (rsize_yes _ _ _ hr).mono ?_; rintro e w' ⟨rfl, rfl⟩) | (go_at_call 32; refine (ris20_any _ _ _ _ hr).mono ?_; rintro e w' ⟨rfl, rfl⟩) | (go_at_call 33; refine (rowner_no _ _ _ (by omega)).mono ?_; rintro e w' ⟨rfl, rfl⟩) | (go_at_call 34; refine (G2.out _).mono ?_; rintro e w' ⟨rfl, rfl⟩) | (go_at_call 28; refine (rright_any _ _ _).mono ?_; rintro e w' ⟨rfl, rfl⟩) | (go_at_call 30; refine (known20 _).mono ?_; rintro e w' ⟨rfl, hw⟩))
          all_goals go_ret
          all_goals exact ⟨rfl, Gr.trans (Gr.trans (Gr.new _ _) hb1) hw⟩
        · have i3 : 2 ≤ i := by omega
          have ho : ownB n k i = true := by unfold ownB; rw [hr]; simp; omega
          have hq : 0 ≤ (i - 2) / k := Int.ediv_nonneg (by omega) (by omega)
          have g3 := fun w => owner_yes n k i w ho
          have g4 := fun w => rowner_yes k i w i3 (by omega) c3
          generalize (i - 2) / k = q at g3 g4 hq
          have G3 := Lib.hid g3; have G4 := Lib.hid g4; clear g3 g4 ho
          go_enter Try.func7, Try.ntmps7
          go_wp2_with fail
          refine (G1.out _).mono ?_
          rintro e w1 ⟨rfl, hb1⟩
          have k0 := box_cell hb1 0; have k1 := box_cell hb1 1
          go_wp2_with (first | (go_at_call 27; refine (G3.out _).mono ?_; rintro e w' ⟨rfl, rfl⟩) | (go_at_call 29; refine (size_yes _ _ _ hr).mono ?_; rintro e w' ⟨rfl, rfl⟩) | (go_at_call 31; refine (rsize_yes _ _ _ hr).mono ?_; rintro e w' ⟨rfl, rfl⟩) | (go_at_call 32; refine (ris20_any _ _ _ _ hr).mono ?_; rintro e w' ⟨rfl, rfl⟩) | (go_at_call 33; refine (G4.out _).mono ?_; rintro e w' ⟨rfl, rfl⟩) | (go_at_call 34; refine (G2.out _).mono ?_; rintro e w' ⟨rfl, rfl⟩) | (go_at_call 28; refine (rright_any _ _ _).mono ?_; rintro e w' ⟨rfl, rfl⟩) | (go_at_call 30; refine (known20 _).mono ?_; rintro e w' ⟨rfl, hw⟩))
          all_goals go_ret
          all_goals exact ⟨rfl, Gr.trans (Gr.trans (Gr.new _ _) hb1) hw⟩
      · have ha : atB n k i f = false := by unfold atB; simp; intros; omega
        have hf2 : f < 0 ∨ (0 ≤ f ∧ 3 < f) := by omega
        have G1 := Lib.hid (fun w => at_no n k i f w ha)
        clear ha hf
        by_cases hi2 : i = 1
        · subst hi2
          have ho : ownB n k 1 = false := by unfold ownB; simp
          rcases hf2 with f1 | ⟨f1, f2⟩
          all_goals
            go_enter Try.func7, Try.ntmps7
            go_wp2_with fail
            refine (G1.out _).mono ?_
            rintro e w1 ⟨rfl, hb1⟩
            have k0 := box_cell hb1 0; have k1 := box_cell hb1 1
            go_wp2_with (first | (go_at_call 27; refine (owner_no _ _ _ _ ho).mono ?_; rintro e w' ⟨rfl, rfl⟩) | (go_at_call 29; refine (size_yes _ _ _ hr).mono ?_; rintro e w' ⟨rfl, rfl⟩) | (go_at_call 31; refine (rsize_yes _ _ _ hr).mono ?_; rintro e w' ⟨rfl, rfl⟩) | (go_at_call 32; refine (ris20_any _ _ _ _ hr).mono ?_; rintro e w' ⟨rfl, rfl⟩) | (go_at_call 33; refine (rowner_no _ _ _ (by omega)).mono ?_; rintro e w' ⟨rfl, rfl⟩) | (go_at_call 28; refine (rright_any _ _ _).mono ?_; rintro e w' ⟨rfl, rfl⟩) | (go_at_call 30; refine (known20 _).mono ?_; rintro e w' ⟨rfl, hw⟩))
            all_goals go_ret
            all_goals exact ⟨rfl, Gr.trans (Gr.trans (Gr.new _ _) hb1) hw⟩
        · have i3 : 2 ≤ i := by omega
          have ho : ownB n k i = true := by unfold ownB; rw [hr]; simp; omega
          have hq : 0 ≤ (i - 2) / k := Int.ediv_nonneg (by omega) (by omega)
          have g3 := fun w => owner_yes n k i w ho
          have g4 := fun w => rowner_yes k i w i3 (by omega) c3
          generalize (i - 2) / k = q at g3 g4 hq
          have G3 := Lib.hid g3; have G4 := Lib.hid g4; clear g3 g4 ho
          rcases hf2 with f1 | ⟨f1, f2⟩
          all_goals
            go_enter Try.func7, Try.ntmps7
            go_wp2_with fail
            refine (G1.out _).mono ?_
            rintro e w1 ⟨rfl, hb1⟩
            have k0 := box_cell hb1 0; have k1 := box_cell hb1 1
            go_wp2_with (first | (go_at_call 27; refine (G3.out _).mono ?_; rintro e w' ⟨rfl, rfl⟩) | (go_at_call 29; refine (size_yes _ _ _ hr).mono ?_; rintro e w' ⟨rfl, rfl⟩) | (go_at_call 31; refine (rsize_yes _ _ _ hr).mono ?_; rintro e w' ⟨rfl, rfl⟩) | (go_at_call 32; refine (ris20_any _ _ _ _ hr).mono ?_; rintro e w' ⟨rfl, rfl⟩) | (go_at_call 33; refine (G4.out _).mono ?_; rintro e w' ⟨rfl, rfl⟩) | (go_at_call 28; refine (rright_any _ _ _).mono ?_; rintro e w' ⟨rfl, rfl⟩) | (go_at_call 30; refine (known20 _).mono ?_; rintro e w' ⟨rfl, hw⟩))
            all_goals go_ret
            all_goals exact ⟨rfl, Gr.trans (Gr.trans (Gr.new _ _) hb1) hw⟩
    · have ha : atB n k i f = false := by unfold atB; simp; intros; omega
      have ho : ownB n k i = false := by unfold ownB; simp; intros; omega
      have hd : decide (1 ≤ i ∧ i ≤ 1 + n * k) = false := by simpa using hi
      have g5 := fun w => ris20_any n k i w hr
      rw [hd] at g5
      have G1 := Lib.hid (fun w => at_no n k i f w ha)
      have G5 := Lib.hid g5
      clear ha hi hd g5
      go_enter Try.func7, Try.ntmps7
      go_wp2_with fail
      refine (G1.out _).mono ?_
      rintro e w1 ⟨rfl, hb1⟩
      have k0 := box_cell hb1 0; have k1 := box_cell hb1 1
      go_wp2_with (first | (go_at_call 27; refine (owner_no _ _ _ _ ho).mono ?_; rintro e w' ⟨rfl, rfl⟩) | (go_at_call 29; refine (size_yes _ _ _ hr).mono ?_; rintro e w' ⟨rfl, rfl⟩) | (go_at_call 31; refine (rsize_yes _ _ _ hr).mono ?_; rintro e w' ⟨rfl, rfl⟩) | (go_at_call 32; refine (G5.out _).mono ?_; rintro e w' ⟨rfl, rfl⟩) | (go_at_call 28; refine (rright_any _ _ _).mono ?_; rintro e w' ⟨rfl, rfl⟩) | (go_at_call 30; refine (known20 _).mono ?_; rintro e w' ⟨rfl, hw⟩))
      all_goals go_ret
      all_goals exact ⟨rfl, Gr.trans (Gr.trans (Gr.new _ _) hb1) hw⟩
  · have hr' : rightB n k = false := by simpa using hr
    have ha : atB n k i f = false := by unfold atB; rw [hr']; simp
    have ho : ownB n k i = false := by unfold ownB; rw [hr']; simp
    have G1 := Lib.hid (fun w => at_no n k i f w ha)
    clear ha hr
    go_enter Try.func7, Try.ntmps7
    go_wp2_with fail
    refine (G1.out _).mono ?_
    rintro e w1 ⟨rfl, hb1⟩
    have k0 := box_cell hb1 0; have k1 := box_cell hb1 1
    go_wp2_with (first | (go_at_call 27; refine (owner_no _ _ _ _ ho).mono ?_; rintro e w' ⟨rfl, rfl⟩) | (go_at_call 29; refine (size_no _ _ _ hr').mono ?_; rintro e w' ⟨rfl, rfl⟩) | (go_at_call 28; refine (rright_any _ _ _).mono ?_; rintro e w' ⟨rfl, rfl⟩) | (go_at_call 30; refine (known20 _).mono ?_; rintro e w' ⟨rfl, hw⟩))
    all_goals go_ret
    all_goals exact ⟨rfl, Gr.trans (Gr.trans (Gr.new _ _) hb1) hw⟩

end Go.Proofs.Ytajlceknahngkaa
