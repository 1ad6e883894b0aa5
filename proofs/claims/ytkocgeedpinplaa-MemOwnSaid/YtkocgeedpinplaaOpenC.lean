/- What the laws' arguments come as: accesses. -/
import Derived.Test.YtkocgeedpinplaaOpenB
import Derived.Test.YtkocgeedpinplaaMemP
set_option maxRecDepth 100000
namespace Go.Proofs.Ytkocgeedpinplaa
open Go.ChangeShapes Go.WideShapes Go.ChangeAt Go.RowKit

theorem act_of {H : Type} {enc : TypeId × Value → H} {W : World} {n : Nat} {cs : List Value} {x : DataW H × List MemPlace} (hx : DataW.trod enc Try.prog W 0 (fun _ => true) true n 44 cs = some x) :
    ∃ y : ActD, (∀ f, f < 4 → cs[f]? = some (actV y f)) ∧ cs.length = 4 ∧ ActWf y := by
  have hu := Try.underlying44
  have hi := Try.underlying3
  have hq := Try.underlying24
  have ci : Try.prog.cellsOf 3 = 1 := by kernel_rfl
  have cq : Try.prog.cellsOf 24 = 1 := by kernel_rfl
  have hl := trod_len_struct hu hx
  have hc : Try.prog.cellsOf 44 = 4 := by kernel_rfl
  rw [hc] at hl
  obtain ⟨t0, e0, w0⟩ := trod_field_int hu hx (List.getElem_mem (n := 0) (by decide)) hi ci
  obtain ⟨t1, e1, w1⟩ := trod_field_int hu hx (List.getElem_mem (n := 1) (by decide)) hi ci
  obtain ⟨t2, e2, w2⟩ := trod_field_int hu hx (List.getElem_mem (n := 2) (by decide)) hq cq
  obtain ⟨t3, e3, w3⟩ := trod_field_int hu hx (List.getElem_mem (n := 3) (by decide)) hq cq
  obtain ⟨n2, rfl, u2⟩ := u64_of w2
  obtain ⟨n3, rfl, u3⟩ := u64_of w3
  refine ⟨⟨t0, t1, n2, n3⟩, fun f hf => ?_, hl, ⟨u2, u3⟩⟩
  obtain rfl | rfl | rfl | rfl : f = 0 ∨ f = 1 ∨ f = 2 ∨ f = 3 := by omega
  · exact e0
  · exact e1
  · exact e2
  · exact e3

theorem open_acts {H : Type} {enc : TypeId × Value → H} {W : World} {base : Nat} {v : Value} {d : DataW H} {ps : List MemPlace}
    (hv : Value.okWide Try.prog W .any base 36 v) (h : DataW.Trod enc Try.prog W 0 (fun _ => true) true 36 v d ps) (hlt : ∀ p ∈ ps, p.block < W.heap.size) :
    ∃ (a : Option Addr) (c : Nat) (l : List ActD), v = .slice a l.length c ∧ SlAt W a l.length 4 (actG l) ∧ (∀ y ∈ l, ActWf y) := by
  have hc : Try.prog.cellsOf 44 = 4 := by kernel_rfl
  obtain ⟨a, c, l, h1, h2, h3⟩ := open_sl Try.underlying36 hv h hlt (by rw [hc]; omega) (⟨0, 0, 0, 0⟩ : ActD) (fun y cs => (∀ f, f < 4 → cs[f]? = some (actV y f)) ∧ cs.length = 4 ∧ ActWf y)
    (fun n cs x hx => act_of hx) actV (fun y cs hy => by rw [hc]; exact ⟨hy.2.1, hy.1⟩)
  rw [hc] at h2
  exact ⟨a, c, l, h1, h2, fun y hy => by obtain ⟨cs, _, _, hw⟩ := h3 y hy; exact hw⟩

theorem open_act {H : Type} {enc : TypeId × Value → H} {W : World} {base : Nat} {v : Value} {d : DataW H} {ps : List MemPlace}
    (hv : Value.okWide Try.prog W .any base 44 v) (h : DataW.Trod enc Try.prog W 0 (fun _ => true) true 44 v d ps) :
    ∃ t0 t1 t2 t3 : Int, v = .agg #[.int .i64 t0, .int .i64 t1, .int .u64 t2, .int .u64 t3] := by
  obtain ⟨fuel, hf⟩ := h
  obtain ⟨y, hy, hl, _⟩ := act_of hf
  unfold Value.okWide at hv
  rw [Try.underlying44] at hv
  obtain ⟨cs, rfl, hsz, _⟩ := hv
  rw [show Try.prog.cellsOf 44 = 4 by kernel_rfl] at hsz
  match cs, hsz with
  | ⟨[c0, c1, c2, c3]⟩, _ =>
    have e0 := hy 0 (by omega); have e1 := hy 1 (by omega); have e2 := hy 2 (by omega); have e3 := hy 3 (by omega)
    simp [Value.cells] at e0 e1 e2 e3
    exact ⟨y.kind, y.a, y.x, y.y, by rw [e0, e1, e2, e3]; rfl⟩
end Go.Proofs.Ytkocgeedpinplaa
