/- The law NodeApart returns true for every input, and leaves its arguments as they were: no two fields of nodes stand at one place, nor at that of an end or of a descriptor. Conditions: none. -/
import Derived.Test.YtajlceknahngkaaNodeC
import Derived.Test.YtajlceknahngkaaLaw
namespace Go.Proofs.Ytajlceknahngkaa
open Go.ChangeShapes Go.WideShapes Go.ChangeAt Go.RowKit

theorem array_ints4 {H : Type} {enc : TypeId × Value → H} {W : World} {base : Nat} {v : Value} {d : DataW H} {ps : List MemPlace}
    (hv : Value.okWide Try.prog W .any base 55 v) (h : DataW.Trod enc Try.prog W 0 (fun _ => true) true 55 v d ps) : ∃ a b c e : Int, v = .agg #[.int .i64 a, .int .i64 b, .int .i64 c, .int .i64 e] := by
  obtain ⟨fuel, hf⟩ := h
  have hc : Try.prog.cellsOf 55 = 4 := by kernel_rfl
  have hc1 : Try.prog.cellsOf 3 = 1 := by kernel_rfl
  unfold Value.okWide at hv
  rw [Try.underlying55] at hv
  obtain ⟨cs, rfl, hsz, _⟩ := hv
  rw [hc] at hsz
  obtain ⟨xs, m, _, _, _, hlen, hel⟩ := DataW.trod_array Try.underlying55 hf
  simp only [hc1] at hel
  match cs, hsz with
  | ⟨[c0, c1, c2, c3]⟩, _ =>
    have h0 := hel 0 (by omega)
    have h1 := hel 1 (by omega)
    have h2 := hel 2 (by omega)
    have h3 := hel 3 (by omega)
    match xs, hlen with
    | [x0, x1, x2, x3], _ =>
      obtain ⟨y0, e0, _⟩ := DataW.trod_int (x := x0) Try.underlying3 (by simpa [Value.cells] using h0)
      obtain ⟨y1, e1, _⟩ := DataW.trod_int (x := x1) Try.underlying3 (by simpa [Value.cells] using h1)
      obtain ⟨y2, e2, _⟩ := DataW.trod_int (x := x2) Try.underlying3 (by simpa [Value.cells] using h2)
      obtain ⟨y3, e3, _⟩ := DataW.trod_int (x := x3) Try.underlying3 (by simpa [Value.cells] using h3)
      simp only [List.cons.injEq, and_true] at e0 e1 e2 e3
      subst e0; subst e1; subst e2; subst e3
      exact ⟨y0, y1, y2, y3, rfl⟩

set_option maxRecDepth 100000 in
theorem nodeApart_lifted (os : Os) (started : os.Started) (H : Type) (enc : TypeId × Value → H) :
    ReturnsInHanded {} Try.checked os 8 .any (Rows.nodeApartSpec.pre6 enc Try.prog Try.f8 Rows.nodeApartRow.domain false) (Rows.nodeApartSpec.post enc Try.prog Try.f8 false true false false) := by
  refine lifted_of (by kernel_rfl) Try.func8 rfl rfl (by rw [Try.params8]; simp only [List.mem_cons, List.not_mem_nil, or_false]; rintro t (rfl | rfl | rfl) <;> exact ⟨by kernel_rfl, of_decide_eq_true (by kernel_rfl)⟩) os started H enc
    (fun ds h => by rw [Try.params8] at h; match ds, h with | [_, _, _], _ => exact ⟨rfl, rfl, rfl⟩)
    (ChangeSpec.witness6 (enc := enc) (C := Try.checked) false ⟨#[], #[.int .i64 0, .int .i64 0, .agg #[.int .i64 0, .int .i64 0, .int .i64 0, .int .i64 0]], []⟩ 8 (by kernel_rfl) (by kernel_rfl) (by kernel_rfl) (by kernel_rfl)) ?_
  intro W args ds ps hH
  have hA := hH.trod; have hok := hH.ok; have hlt := hH.lt
  rw [Try.params8] at hA hok
  obtain ⟨v0, vs0, d0, ds0, p0, q0, hargs, rfl, rfl, h0, r0⟩ := trodAll_cons hA
  obtain ⟨v1, vs1, d1, ds1, p1, q1, rfl, rfl, rfl, h1, r1⟩ := trodAll_cons r0
  obtain ⟨v2, vs2, d2, ds2, p2, q2, rfl, rfl, rfl, h2, r2⟩ := trodAll_cons r1
  obtain ⟨rfl, rfl, rfl⟩ := trodAll_nil r2
  obtain rfl : args = #[v0, v1, v2] := by cases args; simp_all
  obtain ⟨b0, o0⟩ := hok 0 3 v0 rfl rfl
  obtain ⟨a0, rfl, rfl, rfl, w0⟩ := open_int Try.underlying3 o0 h0
  obtain ⟨b1, o1⟩ := hok 1 3 v1 rfl rfl
  obtain ⟨a1, rfl, rfl, rfl, w1⟩ := open_int Try.underlying3 o1 h1
  obtain ⟨b2, o2⟩ := hok 2 55 v2 rfl rfl
  obtain ⟨x, y, z, u, rfl⟩ := array_ints4 o2 h2
  exact nodeApart_any a0 a1 x y z u W

theorem nodeApart_holds : Rows.NodeApartSaid :=
  OpenClaim.holds_of_wide 8 Try.f8 rfl rfl rfl rfl rfl rfl rfl ⟨rfl, rfl, rfl, rfl, rfl⟩ rfl rfl rfl rfl rfl (by kernel_rfl) Try.func8 (by kernel_rfl)
    (of_decide_eq_true (by kernel_rfl)) (by unfold Func.isWrapper; first | (rw [if_pos (by decide +kernel)]; kernel_rfl) | (rw [if_neg (by decide +kernel)]; exact ⟨rfl, rfl⟩))
    (fun os started H enc _ => nodeApart_lifted os started H enc)
#print axioms nodeApart_holds
end Go.Proofs.Ytajlceknahngkaa
