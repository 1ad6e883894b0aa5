/- The law WordPacks returns true for every input, and leaves its arguments as they were: word.Pack puts any fields together, or says why they may not be. Conditions: none. -/
import Derived.Test.YtajlceknahngkaaWordE
import Derived.Test.YtajlceknahngkaaLaw
namespace Go.Proofs.Ytajlceknahngkaa
open Go.ChangeShapes Go.WideShapes Go.ChangeAt Go.RowKit

/-- A slice of fields that came in. -/
theorem open_sl_fields {H : Type} {enc : TypeId × Value → H} {W : World} {base : Nat} {v : Value} {d : DataW H} {ps : List MemPlace}
    (hv : Value.okWide Try.prog W .any base 35 v) (h : DataW.Trod enc Try.prog W 0 (fun _ => true) true 35 v d ps) (hlt : ∀ p ∈ ps, p.block < W.heap.size) :
    ∃ (a : Option Addr) (c : Nat) (l : List (Int × Nat)), v = .slice a l.length c ∧ SlAt W a l.length 2 (fieldG l) ∧ (∀ y ∈ l, U64 y.2) := by
  have hc : Try.prog.cellsOf 39 = 2 := by kernel_rfl
  have hc1 : Try.prog.cellsOf 3 = 1 := by kernel_rfl
  have hc2 : Try.prog.cellsOf 22 = 1 := by kernel_rfl
  obtain ⟨a, c, l, h1, h2, h3⟩ := open_sl Try.underlying35 hv h hlt (by rw [hc]; omega) ((0, 0) : Int × Nat) (fun y cs => cs = [.int .i64 y.1, .int .u64 (y.2 : Int)] ∧ U64 y.2)
    (fun n cs x hx => by
      have hlen := trod_len_struct Try.underlying39 hx
      rw [hc] at hlen
      obtain ⟨s, e0, _⟩ := trod_field_int Try.underlying39 hx (List.mem_cons_self) Try.underlying3 hc1
      obtain ⟨v, e1, w1⟩ := trod_field_int Try.underlying39 hx (List.mem_cons_of_mem _ List.mem_cons_self) Try.underlying22 hc2
      obtain ⟨v, rfl, hv⟩ := u64_of w1
      match cs, hlen with
      | [c0, c1], _ =>
        simp at e0 e1
        subst e0; subst e1
        exact ⟨(s, v), rfl, hv⟩) (fun y f => if f = 0 then .int .i64 y.1 else .int .u64 (y.2 : Int))
    (fun y cs hy => by
      obtain ⟨rfl, _⟩ := hy
      rw [hc]
      exact ⟨rfl, fun f hf => by obtain rfl | rfl : f = 0 ∨ f = 1 := by omega
                                 all_goals rfl⟩)
  rw [hc] at h2
  exact ⟨a, c, l, h1, h2, fun y hy => by obtain ⟨cs, _, hw⟩ := h3 y hy; exact hw⟩

set_option maxRecDepth 100000 in
theorem wordPacks_lifted (os : Os) (started : os.Started) (H : Type) (enc : TypeId × Value → H) :
    ReturnsInHanded {} Try.checked os 5 .any (Rows.wordPacksSpec.pre6 enc Try.prog Try.f5 Rows.wordPacksRow.domain false) (Rows.wordPacksSpec.post enc Try.prog Try.f5 false true false false) := by
  refine lifted_of (by kernel_rfl) Try.func5 rfl rfl (by rw [Try.params5]; simp only [List.mem_cons, List.not_mem_nil, or_false]; rintro t (rfl) <;> exact ⟨by kernel_rfl, of_decide_eq_true (by kernel_rfl)⟩) os started H enc
    (fun ds h => by rw [Try.params5] at h; match ds, h with | [_], _ => exact ⟨rfl, rfl, rfl⟩)
    (ChangeSpec.witness6 (enc := enc) (C := Try.checked) false ⟨#[], #[.slice none 0 0], []⟩ 8 (by kernel_rfl) (by kernel_rfl) (by kernel_rfl) (by kernel_rfl)) ?_
  intro W args ds ps hH
  have hA := hH.trod; have hok := hH.ok; have hlt := hH.lt
  rw [Try.params5] at hA hok
  obtain ⟨v0, vs0, d0, ds0, p0, q0, hargs, rfl, rfl, h0, r0⟩ := trodAll_cons hA
  obtain ⟨rfl, rfl, rfl⟩ := trodAll_nil r0
  obtain rfl : args = #[v0] := by cases args; simp_all
  obtain ⟨b0, o0⟩ := hok 0 35 v0 rfl rfl
  obtain ⟨a, c, l, rfl, hsl, hU⟩ := open_sl_fields o0 h0 (fun p hp => hlt p (by simp [hp]))
  exact wordPacks_any l a c W hsl hU

theorem wordPacks_holds : Rows.WordPacksSaid :=
  OpenClaim.holds_of_wide 5 Try.f5 rfl rfl rfl rfl rfl rfl rfl ⟨rfl, rfl, rfl, rfl, rfl⟩ rfl rfl rfl rfl rfl (by kernel_rfl) Try.func5 (by kernel_rfl)
    (of_decide_eq_true (by kernel_rfl)) (by unfold Func.isWrapper; first | (rw [if_pos (by decide +kernel)]; kernel_rfl) | (rw [if_neg (by decide +kernel)]; exact ⟨rfl, rfl⟩))
    (fun os started H enc _ => wordPacks_lifted os started H enc)
#print axioms wordPacks_holds

end Go.Proofs.Ytajlceknahngkaa
