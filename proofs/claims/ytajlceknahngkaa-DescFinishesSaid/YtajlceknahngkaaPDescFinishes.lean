/- The law DescFinishes returns true for every input, and leaves its arguments as they were: what any word comes to with any load, finished or not; what is finished waits for nobody. Conditions: none. -/
import Derived.Test.YtajlceknahngkaaDescE
import Derived.Test.YtajlceknahngkaaLaw
namespace Go.Proofs.Ytajlceknahngkaa
open Go.ChangeShapes Go.WideShapes Go.ChangeAt Go.RowKit

theorem array_u3 {H : Type} {enc : TypeId × Value → H} {W : World} {base : Nat} {v : Value} {d : DataW H} {ps : List MemPlace}
    (hv : Value.okWide Try.prog W .any base 92 v) (h : DataW.Trod enc Try.prog W 0 (fun _ => true) true 92 v d ps) : ∃ a b c : Nat, v = .agg #[.int .u64 (a : Int), .int .u64 (b : Int), .int .u64 (c : Int)] ∧ U64 a ∧ U64 b ∧ U64 c := by
  obtain ⟨fuel, hf⟩ := h
  have hc : Try.prog.cellsOf 92 = 3 := by kernel_rfl
  have hc1 : Try.prog.cellsOf 22 = 1 := by kernel_rfl
  unfold Value.okWide at hv
  rw [Try.underlying92] at hv
  obtain ⟨cs, rfl, hsz, _⟩ := hv
  rw [hc] at hsz
  obtain ⟨xs, m, _, _, _, hlen, hel⟩ := DataW.trod_array Try.underlying92 hf
  simp only [hc1] at hel
  match cs, hsz with
  | ⟨[c0, c1, c2]⟩, _ =>
    have h0 := hel 0 (by omega)
    have h1 := hel 1 (by omega)
    have h2 := hel 2 (by omega)
    match xs, hlen with
    | [x0, x1, x2], _ =>
      obtain ⟨y0, e0, _, w0⟩ := DataW.trod_int (x := x0) Try.underlying22 (by simpa [Value.cells] using h0)
      obtain ⟨y1, e1, _, w1⟩ := DataW.trod_int (x := x1) Try.underlying22 (by simpa [Value.cells] using h1)
      obtain ⟨y2, e2, _, w2⟩ := DataW.trod_int (x := x2) Try.underlying22 (by simpa [Value.cells] using h2)
      obtain ⟨y0, rfl, u0⟩ := u64_of w0
      obtain ⟨y1, rfl, u1⟩ := u64_of w1
      obtain ⟨y2, rfl, u2⟩ := u64_of w2
      simp only [List.cons.injEq, and_true] at e0 e1 e2
      subst e0; subst e1; subst e2
      exact ⟨y0, y1, y2, rfl, u0, u1, u2⟩

set_option maxRecDepth 100000 in
theorem descFinishes_lifted (os : Os) (started : os.Started) (H : Type) (enc : TypeId × Value → H) :
    ReturnsInHanded {} Try.checked os 14 .any (Rows.descFinishesSpec.pre6 enc Try.prog Try.f14 Rows.descFinishesRow.domain false) (Rows.descFinishesSpec.post enc Try.prog Try.f14 false true false false) := by
  refine lifted_of (by kernel_rfl) Try.func14 rfl rfl (by rw [Try.params14]; simp only [List.mem_cons, List.not_mem_nil, or_false]; rintro t (rfl | rfl) <;> exact ⟨by kernel_rfl, of_decide_eq_true (by kernel_rfl)⟩) os started H enc
    (fun ds h => by rw [Try.params14] at h; match ds, h with | [_, _], _ => exact ⟨rfl, rfl, rfl⟩)
    (ChangeSpec.witness6 (enc := enc) (C := Try.checked) false ⟨#[], #[.agg #[.int .u64 0, .int .u64 0, .int .u64 0], .bool false], []⟩ 8 (by kernel_rfl) (by kernel_rfl) (by kernel_rfl) (by kernel_rfl)) ?_
  intro W args ds ps hH
  have hA := hH.trod; have hok := hH.ok; have hlt := hH.lt
  rw [Try.params14] at hA hok
  obtain ⟨v0, vs0, d0, ds0, p0, q0, hargs, rfl, rfl, h0, r0⟩ := trodAll_cons hA
  obtain ⟨v1, vs1, d1, ds1, p1, q1, rfl, rfl, rfl, h1, r1⟩ := trodAll_cons r0
  obtain ⟨rfl, rfl, rfl⟩ := trodAll_nil r1
  obtain rfl : args = #[v0, v1] := by cases args; simp_all
  obtain ⟨b0, o0⟩ := hok 0 92 v0 rfl rfl
  obtain ⟨b1, o1⟩ := hok 1 4 v1 rfl rfl
  obtain ⟨a1, rfl, rfl, rfl⟩ := open_bool Try.underlying4 o1 h1
  obtain ⟨x, y, z, rfl, hx, hy, hz⟩ := array_u3 o0 h0
  exact descFinishes_any x y z a1 W hx hy

theorem descFinishes_holds : Rows.DescFinishesSaid :=
  OpenClaim.holds_of_wide 14 Try.f14 rfl rfl rfl rfl rfl rfl rfl ⟨rfl, rfl, rfl, rfl, rfl⟩ rfl rfl rfl rfl rfl (by kernel_rfl) Try.func14 (by kernel_rfl)
    (of_decide_eq_true (by kernel_rfl)) (by unfold Func.isWrapper; first | (rw [if_pos (by decide +kernel)]; kernel_rfl) | (rw [if_neg (by decide +kernel)]; exact ⟨rfl, rfl⟩))
    (fun os started H enc _ => descFinishes_lifted os started H enc)
#print axioms descFinishes_holds
end Go.Proofs.Ytajlceknahngkaa
