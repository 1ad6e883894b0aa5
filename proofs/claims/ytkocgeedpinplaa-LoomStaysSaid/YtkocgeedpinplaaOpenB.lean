/- What the laws' arguments come as: slices of words, pairs, accesses. -/
import Derived.Test.YtkocgeedpinplaaLaw
import Derived.Test.YtkocgeedpinplaaMemC
set_option maxRecDepth 100000
namespace Go.Proofs.Ytkocgeedpinplaa
open Go.ChangeShapes Go.WideShapes Go.ChangeAt Go.RowKit

/-- A slice of words that came in. -/
theorem open_sl_u64 {H : Type} {enc : TypeId × Value → H} {W : World} {base : Nat} {v : Value} {d : DataW H} {ps : List MemPlace}
    (hv : Value.okWide Try.prog W .any base 22 v) (h : DataW.Trod enc Try.prog W 0 (fun _ => true) true 22 v d ps) (hlt : ∀ p ∈ ps, p.block < W.heap.size) :
    ∃ (a : Option Addr) (c : Nat) (l : List Nat), v = .slice a l.length c ∧ SlAt W a l.length 1 (u64G l) ∧ (∀ y ∈ l, y < 18446744073709551616) ∧ (a = none → c = 0) := by
  have hc : Try.prog.cellsOf 24 = 1 := by kernel_rfl
  obtain ⟨a, c, l, h1, h2, h3, h4⟩ := open_sl0 Try.underlying22 hv h hlt (by rw [hc]; omega) (0 : Nat) (fun y cs => cs = [.int .u64 (y : Int)] ∧ y < 18446744073709551616)
    (fun n cs x hx => by obtain ⟨y, h1, _, h2⟩ := DataW.trod_int Try.underlying24 hx; obtain ⟨z, rfl, hz⟩ := u64_of h2; exact ⟨z, h1, hz⟩) (fun y _ => .int .u64 (y : Int))
    (fun y cs hy => by obtain ⟨rfl, _⟩ := hy; rw [hc]; exact ⟨rfl, fun f hf => by obtain rfl : f = 0 := (by omega); rfl⟩)
  rw [hc] at h2
  exact ⟨a, c, l, h1, h2, (fun y hy => by obtain ⟨cs, _, hw⟩ := h3 y hy; exact hw), h4⟩

theorem open_arr_int {H : Type} {enc : TypeId × Value → H} {W : World} {base : Nat} {v : Value} {d : DataW H} {ps : List MemPlace}
    (hv : Value.okWide Try.prog W .any base 23 v) (h : DataW.Trod enc Try.prog W 0 (fun _ => true) true 23 v d ps) :
    ∃ x y : Int, v = .agg #[.int .i64 x, .int .i64 y] ∧ (Lit.int .i64 x).wf = true ∧ (Lit.int .i64 y).wf = true := by
  obtain ⟨fuel, hf⟩ := h
  have hc : Try.prog.cellsOf 23 = 2 := by kernel_rfl
  have hc1 : Try.prog.cellsOf 3 = 1 := by kernel_rfl
  unfold Value.okWide at hv
  rw [Try.underlying23] at hv
  obtain ⟨cs, rfl, hsz, _⟩ := hv
  rw [hc] at hsz
  obtain ⟨xs, m, hfu, hd, hps, hlen, hel⟩ := DataW.trod_array Try.underlying23 hf
  simp only [hc1] at hel
  match cs, hsz with
  | ⟨[c0, c1]⟩, _ =>
    match xs, hlen with
    | [x0, x1], _ =>
      have h0 : DataW.trod enc Try.prog W 0 (fun _ => true) true m 3 [c0] = some x0 := by simpa [Value.cells] using hel 0 (by omega)
      have h1 : DataW.trod enc Try.prog W 0 (fun _ => true) true m 3 [c1] = some x1 := by simpa [Value.cells] using hel 1 (by omega)
      obtain ⟨n0, e0, _, w0⟩ := DataW.trod_int Try.underlying3 h0
      obtain ⟨n1, e1, _, w1⟩ := DataW.trod_int Try.underlying3 h1
      simp only [List.cons.injEq, and_true] at e0 e1
      exact ⟨n0, n1, by rw [e0, e1], w0, w1⟩

theorem open_arr_u64 {H : Type} {enc : TypeId × Value → H} {W : World} {base : Nat} {v : Value} {d : DataW H} {ps : List MemPlace}
    (hv : Value.okWide Try.prog W .any base 25 v) (h : DataW.Trod enc Try.prog W 0 (fun _ => true) true 25 v d ps) :
    ∃ x y : Int, v = .agg #[.int .u64 x, .int .u64 y] ∧ (Lit.int .u64 x).wf = true ∧ (Lit.int .u64 y).wf = true := by
  obtain ⟨fuel, hf⟩ := h
  have hc : Try.prog.cellsOf 25 = 2 := by kernel_rfl
  have hc1 : Try.prog.cellsOf 24 = 1 := by kernel_rfl
  unfold Value.okWide at hv
  rw [Try.underlying25] at hv
  obtain ⟨cs, rfl, hsz, _⟩ := hv
  rw [hc] at hsz
  obtain ⟨xs, m, hfu, hd, hps, hlen, hel⟩ := DataW.trod_array Try.underlying25 hf
  simp only [hc1] at hel
  match cs, hsz with
  | ⟨[c0, c1]⟩, _ =>
    match xs, hlen with
    | [x0, x1], _ =>
      have h0 : DataW.trod enc Try.prog W 0 (fun _ => true) true m 24 [c0] = some x0 := by simpa [Value.cells] using hel 0 (by omega)
      have h1 : DataW.trod enc Try.prog W 0 (fun _ => true) true m 24 [c1] = some x1 := by simpa [Value.cells] using hel 1 (by omega)
      obtain ⟨n0, e0, _, w0⟩ := DataW.trod_int Try.underlying24 h0
      obtain ⟨n1, e1, _, w1⟩ := DataW.trod_int Try.underlying24 h1
      simp only [List.cons.injEq, and_true] at e0 e1
      exact ⟨n0, n1, by rw [e0, e1], w0, w1⟩
end Go.Proofs.Ytkocgeedpinplaa
