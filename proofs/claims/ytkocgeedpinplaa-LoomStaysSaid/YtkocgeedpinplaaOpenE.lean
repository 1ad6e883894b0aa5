/- What the laws' arguments come as: three ints; a slice's room. -/
import Derived.Test.YtkocgeedpinplaaOpenB
import Derived.Test.YtkocgeedpinplaaOpenD
set_option maxRecDepth 100000
namespace Go.Proofs.Ytkocgeedpinplaa
open Go.ChangeShapes Go.WideShapes Go.ChangeAt Go.RowKit

theorem open_arr3_int {H : Type} {enc : TypeId × Value → H} {W : World} {base : Nat} {v : Value} {d : DataW H} {ps : List MemPlace}
    (hv : Value.okWide Try.prog W .any base 63 v) (h : DataW.Trod enc Try.prog W 0 (fun _ => true) true 63 v d ps) :
    ∃ x y z : Int, v = .agg #[.int .i64 x, .int .i64 y, .int .i64 z] ∧ (Lit.int .i64 x).wf = true ∧ (Lit.int .i64 y).wf = true ∧ (Lit.int .i64 z).wf = true := by
  obtain ⟨fuel, hf⟩ := h
  have hc : Try.prog.cellsOf 63 = 3 := by kernel_rfl
  have hc1 : Try.prog.cellsOf 3 = 1 := by kernel_rfl
  unfold Value.okWide at hv
  rw [Try.underlying63] at hv
  obtain ⟨cs, rfl, hsz, _⟩ := hv
  rw [hc] at hsz
  obtain ⟨xs, m, hfu, hd, hps, hlen, hel⟩ := DataW.trod_array Try.underlying63 hf
  simp only [hc1] at hel
  match cs, hsz with
  | ⟨[c0, c1, c2]⟩, _ =>
    match xs, hlen with
    | [x0, x1, x2], _ =>
      have h0 : DataW.trod enc Try.prog W 0 (fun _ => true) true m 3 [c0] = some x0 := by simpa [Value.cells] using hel 0 (by omega)
      have h1 : DataW.trod enc Try.prog W 0 (fun _ => true) true m 3 [c1] = some x1 := by simpa [Value.cells] using hel 1 (by omega)
      have h2 : DataW.trod enc Try.prog W 0 (fun _ => true) true m 3 [c2] = some x2 := by simpa [Value.cells] using hel 2 (by omega)
      obtain ⟨n0, e0, _, w0⟩ := DataW.trod_int Try.underlying3 h0
      obtain ⟨n1, e1, _, w1⟩ := DataW.trod_int Try.underlying3 h1
      obtain ⟨n2, e2, _, w2⟩ := DataW.trod_int Try.underlying3 h2
      simp only [List.cons.injEq, and_true] at e0 e1 e2
      exact ⟨n0, n1, n2, by rw [e0, e1, e2], w0, w1, w2⟩

theorem cap_of_ok {W : World} {base : Nat} {a : Option Addr} {n c : Nat} (hv : Value.okWide Try.prog W .any base 53 (.slice a n c)) : n ≤ c := by
  unfold Value.okWide at hv
  rw [Try.underlying53] at hv
  simp only at hv
  unfold Cell.okWide Cell.ok at hv
  rw [Try.underlying53] at hv
  cases a with
  | none =>
    match n, c, hv with
    | 0, 0, _ => exact Nat.le_refl _
  | some x => exact hv.1
end Go.Proofs.Ytkocgeedpinplaa
