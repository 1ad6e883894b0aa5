/- The law MemOwn returns true for every input, and leaves its arguments as they were: what was handed in, and what is told, goes on by itself; a memory that is nil has nothing. Conditions: none. -/
import Derived.Test.YtkocgeedpinplaaMemO
import Derived.Test.YtkocgeedpinplaaOpenC
namespace Go.Proofs.Ytkocgeedpinplaa
open Go.ChangeShapes Go.WideShapes Go.ChangeAt Go.RowKit

set_option maxRecDepth 100000 in
theorem memOwn_lifted (os : Os) (started : os.Started) (H : Type) (enc : TypeId × Value → H) :
    ReturnsInHanded {} Try.checked os 5 .any (Rows.memOwnSpec.pre6 enc Try.prog Try.f5 Rows.memOwnRow.domain false) (Rows.memOwnSpec.post enc Try.prog Try.f5 false true false false) := by
  refine lifted_of (by kernel_rfl) Try.func5 rfl rfl (by rw [Try.params5]; simp only [List.mem_cons, List.not_mem_nil, or_false]; rintro t (rfl | rfl) <;> exact ⟨by kernel_rfl, of_decide_eq_true (by kernel_rfl)⟩) os started H enc
    (fun ds h => by rw [Try.params5] at h; match ds, h with | [_, _], _ => exact ⟨rfl, rfl, rfl⟩)
    (ChangeSpec.witness6 (enc := enc) (C := Try.checked) false ⟨#[], #[.slice none 0 0, .agg #[.int .i64 0, .int .i64 0, .int .u64 0, .int .u64 0]], []⟩ 8 (by kernel_rfl) (by kernel_rfl) (by kernel_rfl) (by kernel_rfl)) ?_
  intro W args ds ps hH
  have hA := hH.trod; have hok := hH.ok; have hlt := hH.lt
  rw [Try.params5] at hA hok
  obtain ⟨v0, vs0, d0, ds0, p0, q0, hargs, rfl, rfl, h0, r0⟩ := trodAll_cons hA
  obtain ⟨v1, vs1, d1, ds1, p1, q1, rfl, rfl, rfl, h1, r1⟩ := trodAll_cons r0
  obtain ⟨rfl, rfl, rfl⟩ := trodAll_nil r1
  obtain rfl : args = #[v0, v1] := by cases args; simp_all
  obtain ⟨b0, o0⟩ := hok 0 22 v0 rfl rfl
  obtain ⟨b1, o1⟩ := hok 1 44 v1 rfl rfl
  obtain ⟨a, c, l, rfl, hs, hw, hn⟩ := open_sl_u64 o0 h0 (fun p hp => hlt p (by simp [hp]))
  obtain ⟨k1, k2, k3, k4, rfl⟩ := open_act o1 h1
  exact memOwn_any l k1 k2 k3 k4 a c W hs hn hw

theorem memOwn_holds : Rows.MemOwnSaid :=
  OpenClaim.holds_of_wide 5 Try.f5 rfl rfl rfl rfl rfl rfl rfl ⟨rfl, rfl, rfl, rfl, rfl⟩ rfl rfl rfl rfl rfl (by kernel_rfl) Try.func5 (by kernel_rfl)
    (of_decide_eq_true (by kernel_rfl)) (by unfold Func.isWrapper; first | (rw [if_pos (by decide +kernel)]; kernel_rfl) | (rw [if_neg (by decide +kernel)]; exact ⟨rfl, rfl⟩))
    (fun os started H enc _ => memOwn_lifted os started H enc)
#print axioms memOwn_holds
end Go.Proofs.Ytkocgeedpinplaa
