/- The law MemPlays returns true for every input, and leaves its arguments as they were: whatever accesses are made, the memory's answers, words and counts are the reference's. Conditions: none. -/
import Derived.Test.YtkocgeedpinplaaOpenC
namespace Go.Proofs.Ytkocgeedpinplaa
open Go.ChangeShapes Go.WideShapes Go.ChangeAt Go.RowKit

set_option maxRecDepth 100000 in
theorem memPlays_lifted (os : Os) (started : os.Started) (H : Type) (enc : TypeId × Value → H) :
    ReturnsInHanded {} Try.checked os 4 .any (Rows.memPlaysSpec.pre6 enc Try.prog Try.f4 Rows.memPlaysRow.domain false) (Rows.memPlaysSpec.post enc Try.prog Try.f4 false true false false) := by
  refine lifted_of (by kernel_rfl) Try.func4 rfl rfl (by rw [Try.params4]; simp only [List.mem_cons, List.not_mem_nil, or_false]; rintro t (rfl | rfl) <;> exact ⟨by kernel_rfl, of_decide_eq_true (by kernel_rfl)⟩) os started H enc
    (fun ds h => by rw [Try.params4] at h; match ds, h with | [_, _], _ => exact ⟨rfl, rfl, rfl⟩)
    (ChangeSpec.witness6 (enc := enc) (C := Try.checked) false ⟨#[], #[.slice none 0 0, .slice none 0 0], []⟩ 8 (by kernel_rfl) (by kernel_rfl) (by kernel_rfl) (by kernel_rfl)) ?_
  intro W args ds ps hH
  have hA := hH.trod; have hok := hH.ok; have hlt := hH.lt
  rw [Try.params4] at hA hok
  obtain ⟨v0, vs0, d0, ds0, p0, q0, hargs, rfl, rfl, h0, r0⟩ := trodAll_cons hA
  obtain ⟨v1, vs1, d1, ds1, p1, q1, rfl, rfl, rfl, h1, r1⟩ := trodAll_cons r0
  obtain ⟨rfl, rfl, rfl⟩ := trodAll_nil r1
  obtain rfl : args = #[v0, v1] := by cases args; simp_all
  obtain ⟨b0, o0⟩ := hok 0 22 v0 rfl rfl
  obtain ⟨b1, o1⟩ := hok 1 36 v1 rfl rfl
  obtain ⟨a, c, l, rfl, hs, hw, hn⟩ := open_sl_u64 o0 h0 (fun p hp => hlt p (by simp [hp]))
  obtain ⟨a2, c2, l2, rfl, hs2, hw2⟩ := open_acts o1 h1 (fun p hp => hlt p (by simp [hp]))
  by_cases hl : l.length ≤ 65536
  · exact memPlays_any l l2 a a2 c c2 W hs hn hw hl hs2 hw2
  · exact memPlays_long l a a2 c l2.length c2 W hs (by omega)

theorem memPlays_holds : Rows.MemPlaysSaid :=
  OpenClaim.holds_of_wide 4 Try.f4 rfl rfl rfl rfl rfl rfl rfl ⟨rfl, rfl, rfl, rfl, rfl⟩ rfl rfl rfl rfl rfl (by kernel_rfl) Try.func4 (by kernel_rfl)
    (of_decide_eq_true (by kernel_rfl)) (by unfold Func.isWrapper; first | (rw [if_pos (by decide +kernel)]; kernel_rfl) | (rw [if_neg (by decide +kernel)]; exact ⟨rfl, rfl⟩))
    (fun os started H enc _ => memPlays_lifted os started H enc)
#print axioms memPlays_holds
end Go.Proofs.Ytkocgeedpinplaa
