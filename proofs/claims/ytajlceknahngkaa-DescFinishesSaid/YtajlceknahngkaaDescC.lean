/- Layer 19: the reference's contracts; desc.Waits. -/
import Derived.Test.YtajlceknahngkaaDescB
set_option maxRecDepth 100000
namespace Go.Proofs.Ytajlceknahngkaa
open Go.RowKit

theorem rright19 (l ph : Nat) (w : World) (b : Bool) (h : b = true ∧ l < 1073741824 ∧ ph < 4294967296 ∨ b = false ∧ 1073741824 ≤ l ∨ b = false ∧ l < 1073741824 ∧ 4294967296 ≤ ph) :
    Calls Try.prog 51 #[.int .u64 (l : Int), .int .u64 (ph : Int)] w fun e w' => e = .returned (.bool b) ∧ w = w' := by
  rcases h with ⟨rfl, h1, h2⟩ | ⟨rfl, h1⟩ | ⟨rfl, h1, h2⟩
  · have d1 : decide ((l : Int) < 1073741824) = true := by simp; omega
    have d2 : decide ((ph : Int) < 4294967296) = true := by simp; omega
    clear h1 h2
    go_enter Try.func51, Try.ntmps51
    go_wp2
    go_ret
    exact ⟨rfl, rfl⟩
  · have d1 : decide ((l : Int) < 1073741824) = false := by simp; omega
    clear h1
    go_enter Try.func51, Try.ntmps51
    go_wp2
    go_ret
    exact ⟨rfl, rfl⟩
  · have d1 : decide ((l : Int) < 1073741824) = true := by simp; omega
    have d2 : decide ((ph : Int) < 4294967296) = false := by simp; omega
    clear h1 h2
    go_enter Try.func51, Try.ntmps51
    go_wp2
    go_ret
    exact ⟨rfl, rfl⟩

def wordN (p t : Bool) (l ph : Nat) : Nat := bN p + 2 * bN t + 4 * l + 4294967296 * ph
theorem rword19 (p t : Bool) (l ph : Nat) (w : World) (hl : l < 1073741824) (hph : ph < 4294967296) :
    Calls Try.prog 52 #[.bool p, .bool t, .int .u64 (l : Int), .int .u64 (ph : Int)] w fun e w' => e = .returned (.int .u64 (wordN p t l ph : Nat)) ∧ w = w' := by
  obtain ⟨L, hL⟩ : ∃ L, L = 4 * l := ⟨_, rfl⟩
  cases p <;> cases t
  all_goals
    go_enter Try.func52, Try.ntmps52
    go_wp2
    go_ret
    exact ⟨ret_u64 (by simp [wordN, bN, IntKind.wrap_u64]; try omega), rfl⟩

theorem rpending19 (x : Nat) (w : World) (hx : U64 x) :
    Calls Try.prog 54 #[.int .u64 (x : Int)] w fun e w' => e = .returned (.bool (dP x)) ∧ w = w' := by
  have hx' : x < 18446744073709551616 := hx
  go_enter Try.func54, Try.ntmps54
  go_wp2
  go_ret
  exact ⟨ret_bool (by unfold dP; rw [Bool.eq_iff_iff]; simp; try omega), rfl⟩
theorem rtake19 (x : Nat) (w : World) (hx : U64 x) :
    Calls Try.prog 55 #[.int .u64 (x : Int)] w fun e w' => e = .returned (.bool (dT x)) ∧ w = w' := by
  have hx' : x < 18446744073709551616 := hx
  go_enter Try.func55, Try.ntmps55
  go_wp2
  go_ret
  exact ⟨ret_bool (by unfold dT; rw [Bool.eq_iff_iff]; simp; try omega), rfl⟩
theorem rload19 (x : Nat) (w : World) (hx : U64 x) :
    Calls Try.prog 56 #[.int .u64 (x : Int)] w fun e w' => e = .returned (.int .u64 (dL x : Int)) ∧ w = w' := by
  have hx' : x < 18446744073709551616 := hx
  go_enter Try.func56, Try.ntmps56
  go_wp2
  go_ret
  exact ⟨ret_u64 (by unfold dL; simp; try omega), rfl⟩
theorem rphase19 (x : Nat) (w : World) (hx : U64 x) :
    Calls Try.prog 57 #[.int .u64 (x : Int)] w fun e w' => e = .returned (.int .u64 (dPh x : Int)) ∧ w = w' := by
  have hx' : x < 18446744073709551616 := hx
  go_enter Try.func57, Try.ntmps57
  go_wp2
  go_ret
  exact ⟨ret_u64 (by unfold dPh; simp; try omega), rfl⟩
theorem dPh_lt {x : Nat} (hx : U64 x) : dPh x < 4294967296 := by have := hx.lt; unfold dPh; omega
theorem rwith19 (x l : Nat) (p : Bool) (w : World) (hx : U64 x) (hl : l < 1073741824) :
    Calls Try.prog 61 #[.int .u64 (x : Int), .int .u64 (l : Int), .bool p] w fun e w' => e = .returned (.int .u64 (wordN p (dT x) l (dPh x) : Nat)) ∧ w = w' := by
  have H := Lib.hid (fun w => rword19 p (dT x) l (dPh x) w hl (dPh_lt hx))
  clear hl
  go_enter Try.func61, Try.ntmps61
  go_wp2_with (first | (go_at_call 55; refine (rtake19 _ _ hx).mono ?_; rintro e w' ⟨rfl, rfl⟩) | (go_at_call 57; refine (rphase19 _ _ hx).mono ?_; rintro e w' ⟨rfl, rfl⟩) | (go_at_call 52; refine (H.out _).mono ?_; rintro e w' ⟨rfl, rfl⟩))
  go_ret
  exact ⟨rfl, rfl⟩

def waitsB (x ph : Nat) (t : Bool) : Bool := dP x && (dPh x == ph) && (dT x == t)
theorem rwaits19 (x ph : Nat) (t : Bool) (w : World) (hx : U64 x) :
    Calls Try.prog 63 #[.int .u64 (x : Int), .int .u64 (ph : Int), .bool t] w fun e w' => e = .returned (.bool (waitsB x ph t)) ∧ w = w' := by
  cases h1 : dP x <;> cases h2 : ((dPh x : Int) == (ph : Int)) <;> cases h3 : (dT x == t)
  all_goals
    have e0 : waitsB x ph t = (dP x && ((dPh x : Int) == (ph : Int)) && (dT x == t)) := by
      unfold waitsB; congr 2; rw [Bool.eq_iff_iff]; simp; omega
    have E0 := Lib.hid e0; clear e0
    go_enter Try.func63, Try.ntmps63
    go_wp2_with (first | (go_at_call 55; refine (rtake19 _ _ hx).mono ?_; rintro e w' ⟨rfl, rfl⟩) | (go_at_call 57; refine (rphase19 _ _ hx).mono ?_; rintro e w' ⟨rfl, rfl⟩) | (go_at_call 54; refine (rpending19 _ _ hx).mono ?_; rintro e w' ⟨rfl, rfl⟩))
    go_ret
    exact ⟨ret_bool (by rw [E0.out, h1, h2, h3]; rfl), rfl⟩

theorem descWaits_any (x ph : Nat) (t : Bool) (w : World) (hx : U64 x) :
    Calls Try.prog 62 #[.int .u64 (x : Int), .int .u64 (ph : Int), .bool t] w fun e w' => e = .returned (.bool (waitsB x ph t)) ∧ Below w.heap.size w w' := by
  have H := Lib.hid (fun w => descUnpack_any x w hx)
  go_enter Try.func62, Try.ntmps62
  go_wp2_with fail
  refine (H.out _).mono ?_
  rintro e w1 ⟨rfl, hb1⟩
  go_wp2
  all_goals go_ret
  all_goals refine ⟨ret_bool ?_, Gr.alloc hb1 _⟩
  all_goals
    clear H hb1
    unfold waitsB
    rw [Bool.eq_iff_iff]
    simp_all
    try omega
end Go.Proofs.Ytajlceknahngkaa
