/- The laws of layer 1: the walks. -/
import Derived.Test.YtajlceknahngkaaWordB
namespace Go.Proofs.Ytajlceknahngkaa
open Go.RowKit

theorem packGo_known : packGo [(4, 5), (8, 1)] 0 0 = (0, 21) := by decide
theorem unpackGo_known : unpackGo 21 [4, 8] 0 = some [5, 1] := by decide

theorem sl_known1 (w : World) : SlAt (w.alloc (.cells #[.int .i64 4, .int .u64 5, .int .i64 8, .int .u64 1] 39)) (some ⟨w.heap.size, 0, none⟩) ([(4, 5), (8, 1)] : List (Int × Nat)).length 2 (fieldG [(4, 5), (8, 1)]) := by
  refine ⟨by unfold maxLen; simp, fun j hj => ⟨_, _, rfl, by simp, fun f hf => ?_⟩⟩
  simp only [List.length_cons, List.length_nil] at hj
  obtain rfl | rfl : j = 0 ∨ j = 1 := by omega
  all_goals
    obtain rfl | rfl : f = 0 ∨ f = 1 := by omega
    all_goals (rw [cell_new]; rfl)
theorem sl_known2 (w : World) : SlAt (w.alloc (.cells #[.int .i64 4, .int .i64 8] 3)) (some ⟨w.heap.size, 0, none⟩) ([4, 8] : List Int).length 1 (intG [4, 8]) := by
  refine ⟨by unfold maxLen; simp, fun j hj => ⟨_, _, rfl, by simp, fun f hf => ?_⟩⟩
  simp only [List.length_cons, List.length_nil] at hj
  obtain rfl : f = 0 := by omega
  obtain rfl | rfl : j = 0 ∨ j = 1 := by omega
  all_goals (rw [cell_new]; rfl)

theorem packed_any (w : World) :
    Calls Try.prog 17 #[] w fun e w' => e = .returned (.bool true) ∧ Below w.heap.size w w' := by
  go_enter Try.func17, Try.ntmps17
  go_wp2_with fail
  refine (pack_any [(4, 5), (8, 1)] _ _ _ (sl_known1 _) (by simp [U64])).mono ?_
  rintro e w1 ⟨er, x, rfl, hb1, hx⟩
  obtain ⟨rfl, rfl⟩ : er = 0 ∧ x = 21 := by have := hx.out; rw [packGo_known] at this; simpa using this
  clear hx
  go_wp2_with fail
  refine (unpack_any 21 [4, 8] _ _ _ (sl_known2 _) (by unfold U64; omega) (by simp)).mono ?_
  rintro e w2 ⟨hb2, ⟨hn, _⟩ | ⟨r, a', c', hr, rfl, hsl, hfr⟩⟩
  · have := hn.out; rw [unpackGo_known] at this; cases this
  obtain rfl : r = [5, 1] := by have := hr.out; rw [unpackGo_known] at this; simpa using this.symm
  clear hr
  obtain ⟨_, hc⟩ := hsl
  obtain ⟨b, off, rfl, hbs, hc0⟩ := hc 0 (by simp)
  obtain ⟨b', off', h', _, hc1⟩ := hc 1 (by simp)
  cases h'
  have h0 : w2.cell? ⟨b, off, none⟩ = some (.int .u64 5) := by simpa [u64G] using hc0 0 (by omega)
  have h1 : w2.cell? ⟨b, off + 1, none⟩ = some (.int .u64 1) := by simpa [u64G] using hc1 0 (by omega)
  clear hc0 hc1 hc hfr
  go_wp2_with (go_at_call 19; refine (put_no _ _ _ _ _ (by decide)).mono ?_; rintro e w' ⟨rfl, rfl⟩)
  go_ret
  exact ⟨rfl, Gr.trans (Gr.trans (Gr.new _ _) hb1) (Gr.trans (Gr.new _ _) hb2)⟩

theorem wordGets_any (x : Nat) (a s : Int) (w : World) (hx : U64 x) :
    Calls Try.prog 3 #[.int .u64 (x : Int), .int .i64 a, .int .i64 s] w fun e w' => e = .returned (.bool true) ∧ Below w.heap.size w w' := by
  by_cases h : isB a s = true
  · have hb := isB_pos h
    obtain ⟨a, rfl⟩ := Int.eq_ofNat_of_zero_le (show 0 ≤ a by omega)
    obtain ⟨s, rfl⟩ := Int.eq_ofNat_of_zero_le (show 0 ≤ s by omega)
    have g1 := get_yes x a s w hx h
    have g2 := rget_any x a s w (by omega) (by omega) hx
    generalize x / 2 ^ a % 2 ^ s = y at g1 g2
    have G1 := Lib.hid g1; have G2 := Lib.hid g2; clear g1 g2
    go_enter Try.func3, Try.ntmps3
    go_wp2_with (first | (go_at_call 15; refine (G1.out).mono ?_; rintro e w' ⟨rfl, rfl⟩) | (go_at_call 18; refine (G2.out).mono ?_; rintro e w' ⟨rfl, rfl⟩) | (go_at_call 16; refine (ris_any _ _ _).mono ?_; rintro e w' ⟨rfl, rfl⟩) | (go_at_call 17; refine (packed_any _).mono ?_; rintro e w' ⟨rfl, hw⟩))
    go_ret
    exact ⟨rfl, hw⟩
  · have h' : isB a s = false := by simpa using h
    clear h
    go_enter Try.func3, Try.ntmps3
    go_wp2_with (first | (go_at_call 15; refine (get_no _ _ _ _ h').mono ?_; rintro e w' ⟨rfl, rfl⟩) | (go_at_call 16; refine (ris_any _ _ _).mono ?_; rintro e w' ⟨rfl, rfl⟩) | (go_at_call 17; refine (packed_any _).mono ?_; rintro e w' ⟨rfl, hw⟩))
    go_ret
    exact ⟨rfl, hw⟩

theorem wordPuts_any (x v : Nat) (a s : Int) (w : World) (hx : U64 x) (hv : U64 v) :
    Calls Try.prog 4 #[.int .u64 (x : Int), .int .u64 (v : Int), .agg #[.int .i64 a, .int .i64 s]] w fun e w' => e = .returned (.bool true) ∧ Below w.heap.size w w' := by
  by_cases h : isB a s = true
  · have hb := isB_pos h
    obtain ⟨a, rfl⟩ := Int.eq_ofNat_of_zero_le (show 0 ≤ a by omega)
    obtain ⟨s, rfl⟩ := Int.eq_ofNat_of_zero_le (show 0 ≤ s by omega)
    have hfit := rfits_any v s
    by_cases hf : v < 2 ^ s
    · have hft : fitsB v s = true := by simpa [fitsB] using hf
      have g1 := fun w => put_yes x a s v w h hx hv hf
      have g2 := fun w => rput_any x a s v w (by omega) hx hv hf
      have g3 := fun w => get_yes (putN x a s v) a s w (putN_lt hx (by omega) hf) h
      have hg := putN_get (x := x) (a := a) hf
      rw [hg] at g3
      generalize putN x a s v = y at g1 g2 g3
      have G1 := Lib.hid g1; have G2 := Lib.hid g2; have G3 := Lib.hid g3; clear g1 g2 g3 hg hf
      go_enter Try.func4, Try.ntmps4
      go_wp2_with (first | (go_at_call 19; refine (G1.out _).mono ?_; rintro e w' ⟨rfl, rfl⟩) | (go_at_call 21; refine (G2.out _).mono ?_; rintro e w' ⟨rfl, rfl⟩) | (go_at_call 15; refine (G3.out _).mono ?_; rintro e w' ⟨rfl, rfl⟩) | (go_at_call 16; refine (ris_any _ _ _).mono ?_; rintro e w' ⟨rfl, rfl⟩) | (go_at_call 20; refine (hfit _ (by omega) hv).mono ?_; rintro e w' ⟨rfl, rfl⟩) | (go_at_call 17; refine (packed_any _).mono ?_; rintro e w' ⟨rfl, hw⟩))
      go_ret
      exact ⟨rfl, Gr.trans (Gr.new _ _) hw⟩
    · have hft : fitsB v s = false := by simp [fitsB]; omega
      have g1 := fun w => put_over x a s v w h hv (by omega)
      have G1 := Lib.hid g1; clear g1 hf
      go_enter Try.func4, Try.ntmps4
      go_wp2_with (first | (go_at_call 19; refine (G1.out _).mono ?_; rintro e w' ⟨rfl, rfl⟩) | (go_at_call 16; refine (ris_any _ _ _).mono ?_; rintro e w' ⟨rfl, rfl⟩) | (go_at_call 20; refine (hfit _ (by omega) hv).mono ?_; rintro e w' ⟨rfl, rfl⟩) | (go_at_call 17; refine (packed_any _).mono ?_; rintro e w' ⟨rfl, hw⟩))
      go_ret
      exact ⟨rfl, Gr.trans (Gr.new _ _) hw⟩
  · have h' : isB a s = false := by simpa using h
    clear h
    go_enter Try.func4, Try.ntmps4
    go_wp2_with (first | (go_at_call 19; refine (put_no _ _ _ _ _ h').mono ?_; rintro e w' ⟨rfl, rfl⟩) | (go_at_call 16; refine (ris_any _ _ _).mono ?_; rintro e w' ⟨rfl, rfl⟩) | (go_at_call 17; refine (packed_any _).mono ?_; rintro e w' ⟨rfl, hw⟩))
    go_ret
    exact ⟨rfl, Gr.trans (Gr.new _ _) hw⟩
end Go.Proofs.Ytajlceknahngkaa
