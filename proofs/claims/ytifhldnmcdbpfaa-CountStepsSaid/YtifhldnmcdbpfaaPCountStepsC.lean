/- The law CountSteps returns true for every input, and leaves its arguments as they were: to read a counter takes as many steps as there are bits at most; to count one, and three times as many for each doubling of threads. Conditions: none. -/
import Derived.Test.YtifhldnmcdbpfaaW46
set_option maxRecDepth 100000
set_option linter.unusedVariables false
set_option linter.unusedSimpArgs false
set_option linter.unnecessarySimpa false
namespace Go.Proofs.Ytifhldnmcdbpfaa
open Go.ChangeShapes Go.WideShapes Go.ChangeAt Go.RowKit

set_option maxRecDepth 100000 in
theorem countSteps_lifted (os : Os) (started : os.Started) (H : Type) (enc : TypeId × Value → H) :
    ReturnsInHanded {} Try.checked os 4 .any (Rows.countStepsSpec.pre6 enc Try.prog Try.f4 Rows.countStepsRow.domain false) (Rows.countStepsSpec.post enc Try.prog Try.f4 false true false false) := by
  refine lifted_of (by kernel_rfl) Try.func4 rfl rfl (by rw [Try.params4]; simp only [List.mem_cons, List.not_mem_nil, or_false]; rintro t (rfl | rfl | rfl) <;> exact ⟨by kernel_rfl, of_decide_eq_true (by kernel_rfl)⟩) os started H enc
    (fun ds h => by rw [Try.params4] at h; match ds, h with | [_, _, _], _ => exact ⟨rfl, rfl, rfl⟩)
    (ChangeSpec.witness6 (enc := enc) (C := Try.checked) false ⟨#[], #[.agg #[.int .i64 0, .int .i64 0], .slice none 0 0, .slice none 0 0], []⟩ 8 (by kernel_rfl) (by kernel_rfl) (by kernel_rfl) (by kernel_rfl)) ?_
  intro W args ds ps hH
  have hA := hH.trod; have hok := hH.ok; have hlt := hH.lt
  rw [Try.params4] at hA hok
  obtain ⟨v0, vs0, d0, ds0, p0, q0, hargs, rfl, rfl, h0, r0⟩ := trodAll_cons hA
  obtain ⟨v1, vs1, d1, ds1, p1, q1, rfl, rfl, rfl, h1, r1⟩ := trodAll_cons r0
  obtain ⟨v2, vs2, d2, ds2, p2, q2, rfl, rfl, rfl, h2, r2⟩ := trodAll_cons r1
  obtain ⟨rfl, rfl, rfl⟩ := trodAll_nil r2
  obtain rfl : args = #[v0, v1, v2] := by cases args; simp_all
  obtain ⟨b0, o0⟩ := hok 0 22 v0 rfl rfl
  obtain ⟨b1, o1⟩ := hok 1 23 v1 rfl rfl
  obtain ⟨b2, o2⟩ := hok 2 24 v2 rfl rfl
  obtain ⟨q0, q1, rfl, _, _⟩ := open_arr2_int o0 h0
  obtain ⟨a, c, l, rfl, hs, hw⟩ := open_calls o1 h1 (fun p hp => hlt p (by simp [hp]))
  obtain ⟨a2, c2, l2, rfl, hs2, hw2⟩ := open_sl_ints o2 h2 (fun p hp => hlt p (by simp [hp]))
  exact countSteps_any q0 q1 l l2 a a2 c c2 W ⟨hs, fun x hx => ⟨(hw x hx).thread, (hw x hx).obj, (hw x hx).kind, (hw x hx).a, (hw x hx).b, (hw x hx).c⟩, fun _ _ _ _ h => h⟩ ⟨hs2, hw2⟩

theorem countSteps_holds : Rows.CountStepsSaid :=
  OpenClaim.holds_of_wide 4 Try.f4 rfl rfl rfl rfl rfl rfl rfl ⟨rfl, rfl, rfl, rfl, rfl⟩ rfl rfl rfl rfl rfl (by kernel_rfl) Try.func4 (by kernel_rfl)
    (of_decide_eq_true (by kernel_rfl)) (by unfold Func.isWrapper; first | (rw [if_pos (by decide +kernel)]; kernel_rfl) | (rw [if_neg (by decide +kernel)]; exact ⟨rfl, rfl⟩))
    (fun os started H enc _ => countSteps_lifted os started H enc)
#print axioms countSteps_holds
end Go.Proofs.Ytifhldnmcdbpfaa
