/- Layer 19: the law DescFinishes: the walk. -/
import Derived.Test.YtajlceknahngkaaDescD
set_option maxRecDepth 100000
namespace Go.Proofs.Ytajlceknahngkaa
open Go.RowKit

theorem putN_word {x l : Nat} (hx : U64 x) : putN x 2 30 l = wordN (dP x) (dT x) l (dPh x) := by
  have h := hx.lt
  have e1 : bN (dP x) = x % 2 := by unfold dP bN; by_cases c : x % 2 = 1 <;> simp [c] <;> omega
  have e2 : bN (dT x) = x / 2 % 2 := by unfold dT bN; by_cases c : x / 2 % 2 = 1 <;> simp [c] <;> omega
  unfold putN wordN
  rw [e1, e2]
  unfold dPh
  simp
  omega
theorem clr_parts {x : Nat} : dP (x / 2 * 2) = false ∧ dT (x / 2 * 2) = dT x ∧ dPh (x / 2 * 2) = dPh x := by
  unfold dP dT dPh
  refine ⟨?_, ?_, ?_⟩
  · rw [Bool.eq_iff_iff]; simp
  · congr 1; omega
  · omega

theorem descFinishes_no (x l ph : Nat) (t : Bool) (w : World) (hx : U64 x) (hl : U64 l) (h : 1073741824 ≤ l) :
    Calls Try.prog 14 #[.agg #[.int .u64 (x : Int), .int .u64 (l : Int), .int .u64 (ph : Int)], .bool t] w fun e w' => e = .returned (.bool true) ∧ Below w.heap.size w w' := by
  have G1 := Lib.hid (fun w => descFinish_no x l w hx h hl)
  have G2 := Lib.hid (fun w => load_no x l w h hl)
  have d1 : decide ((1073741824 : Int) ≤ (l : Int)) = true := by simp; omega
  clear h
  go_enter Try.func14, Try.ntmps14
  go_wp2_with fail
  go_quiet (fail)
  go_wp2_with fail
  refine (G1.out _).mono ?_
  rintro e w1 ⟨rfl, rfl⟩
  go_wp2_with fail
  refine (G2.out _).mono ?_
  rintro e w1 ⟨rfl, rfl⟩
  go_wp2_with (go_at_call 58; refine (put19 _).mono ?_; rintro e w' ⟨rfl, hw⟩)
  go_ret
  exact ⟨rfl, Gr.trans (below_drewN (Gr.new _ _) _) hw⟩

set_option maxHeartbeats 4000000 in
theorem descFinishes_yes (x l ph : Nat) (t : Bool) (w : World) (hx : U64 x) (h : l < 1073741824) :
    Calls Try.prog 14 #[.agg #[.int .u64 (x : Int), .int .u64 (l : Int), .int .u64 (ph : Int)], .bool t] w fun e w' => e = .returned (.bool true) ∧ Below w.heap.size w w' := by
  have hxc : U64 (x / 2 * 2) := by have := hx.lt; unfold U64; omega
  obtain ⟨c1, c2, c3⟩ := clr_parts (x := x)
  have hp := dPh_lt hx
  have g1 := fun w => descFinish_yes x l w hx h
  rw [putN_word hxc, c1, c2, c3] at g1
  have g2 := fun w => load_yes x l w hx h
  rw [putN_word hx] at g2
  obtain ⟨u1, a1, a2, a3, a4⟩ := wordN_parts (p := false) (t := dT x) h hp
  obtain ⟨u2, b1, b2, b3, b4⟩ := wordN_parts (p := dP x) (t := dT x) h hp
  have g3 := fun w => rwith19 x l false w hx h
  have g4 := fun w => rwith19 x l (dP x) w hx h
  have g5 := fun w => descWaits_any (wordN false (dT x) l (dPh x)) ph t w u1
  have g6 := fun w => descWaits_any (wordN (dP x) (dT x) l (dPh x)) ph t w u2
  have k5 : waitsB (wordN false (dT x) l (dPh x)) ph t = false := by unfold waitsB; rw [a1]; rfl
  have k6 : waitsB (wordN (dP x) (dT x) l (dPh x)) ph t = waitsB x ph t := by unfold waitsB; rw [b1, b2, b4]
  rw [k5] at g5
  rw [k6] at g6
  have g7 := fun w => descWaits_any x ph t w hx
  have g8 := fun w => rwaits19 x ph t w hx
  have g9 := fun w => rpending19 x w hx
  generalize waitsB x ph t = wb at *
  generalize wordN false (dT x) l (dPh x) = X at *
  generalize wordN (dP x) (dT x) l (dPh x) = Y at *
  generalize dP x = pb at *
  have G1 := Lib.hid g1; have G2 := Lib.hid g2; have G3 := Lib.hid g3; have G4 := Lib.hid g4; have G5 := Lib.hid g5; have G6 := Lib.hid g6; have G7 := Lib.hid g7; have G8 := Lib.hid g8; have G9 := Lib.hid g9
  have d1 : decide ((1073741824 : Int) ≤ (l : Int)) = false := by simp; omega
  clear g1 g2 g3 g4 g5 g6 g7 g8 g9 k5 k6 a1 a2 a3 a4 b1 b2 b3 b4 c1 c2 c3 h hxc hp
  go_enter Try.func14, Try.ntmps14
  go_wp2_with fail
  go_quiet (fail)
  go_wp2_with fail
  refine (G1.out _).mono ?_
  rintro e w1 ⟨rfl, rfl⟩
  go_wp2_with fail
  refine (G2.out _).mono ?_
  rintro e w1 ⟨rfl, rfl⟩
  go_wp2_with fail
  refine (G3.out _).mono ?_
  rintro e w1 ⟨rfl, rfl⟩
  go_wp2_with fail
  refine (G9.out _).mono ?_
  rintro e w1 ⟨rfl, rfl⟩
  go_wp2_with fail
  refine (G4.out _).mono ?_
  rintro e w1 ⟨rfl, rfl⟩
  go_wp2_with fail
  refine (G7.out _).mono ?_
  rintro e w2 ⟨rfl, hb2⟩
  go_wp2_with fail
  refine (G8.out _).mono ?_
  rintro e w' ⟨rfl, rfl⟩
  go_wp2_with fail
  refine (G5.out _).mono ?_
  rintro e w3 ⟨rfl, hb3⟩
  go_wp2_with fail
  refine (G6.out _).mono ?_
  rintro e w4 ⟨rfl, hb4⟩
  go_wp2_with fail
  refine (G8.out _).mono ?_
  rintro e w' ⟨rfl, rfl⟩
  go_wp2_with (go_at_call 58; refine (put19 _).mono ?_; rintro e w' ⟨rfl, hw⟩)
  go_ret
  exact ⟨rfl, Gr.trans (Gr.trans (Gr.trans (Gr.trans (below_drewN (Gr.new _ _) _) hb2) hb3) hb4) hw⟩

theorem descFinishes_any (x l ph : Nat) (t : Bool) (w : World) (hx : U64 x) (hl : U64 l) :
    Calls Try.prog 14 #[.agg #[.int .u64 (x : Int), .int .u64 (l : Int), .int .u64 (ph : Int)], .bool t] w fun e w' => e = .returned (.bool true) ∧ Below w.heap.size w w' := by
  by_cases h : l < 1073741824
  · exact descFinishes_yes x l ph t w hx h
  · exact descFinishes_no x l ph t w hx hl (by omega)
end Go.Proofs.Ytajlceknahngkaa
