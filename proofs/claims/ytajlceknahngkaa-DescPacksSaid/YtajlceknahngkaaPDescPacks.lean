/- The law DescPacks returns true for every input, and leaves its arguments as they were: the word of any descriptor, or why it has none, and what any word tells; each word is the word of one descriptor. Conditions: none. -/
import Derived.Test.YtajlceknahngkaaDescD
import Derived.Test.YtajlceknahngkaaLaw
namespace Go.Proofs.Ytajlceknahngkaa
open Go.ChangeShapes Go.WideShapes Go.ChangeAt Go.RowKit

theorem trod_field_bool {H : Type} {enc : TypeId × Value → H} {P : Program} {w : World} {base : Nat} {spare : Nat → Bool} {held : Bool} {fuel : Nat} {t : TypeId} {fs : Array Field} {cs : List Value} {x : DataW H × List MemPlace}
    (ht : P.underlying t = some (.struct fs)) (h : DataW.trod enc P w base spare held fuel t cs = some x) {f : Field} (hf : f ∈ fs.toList) (hk : P.underlying f.type = some .bool) (hc : P.cellsOf f.type = 1) :
    ∃ b : Bool, cs[f.offset]? = some (.bool b) := by
  cases fuel with
  | zero => simp [DataW.trod] at h
  | succ m =>
    unfold DataW.trod at h
    simp only [ht] at h
    split at h
    · rw [Option.map_eq_some_iff] at h
      obtain ⟨xs, hxs, _⟩ := h
      obtain ⟨y, hy⟩ := mapM_each hxs f hf
      rw [hc] at hy
      obtain ⟨b, hb, _⟩ := DataW.trod_bool hk hy
      refine ⟨b, ?_⟩
      have : ((cs.drop f.offset).take 1)[0]? = some (.bool b) := by rw [hb]; rfl
      simpa using this
    · cases h

theorem open_desc {H : Type} {enc : TypeId × Value → H} {W : World} {base : Nat} {v : Value} {d : DataW H} {ps : List MemPlace}
    (hv : Value.okWide Try.prog W .any base 84 v) (h : DataW.Trod enc Try.prog W 0 (fun _ => true) true 84 v d ps) :
    ∃ (p t : Bool) (l ph : Nat), v = .agg #[.bool p, .bool t, .int .u64 (l : Int), .int .u64 (ph : Int)] ∧ U64 l ∧ U64 ph := by
  obtain ⟨fuel, hf⟩ := h
  have hc : Try.prog.cellsOf 84 = 4 := by kernel_rfl
  have hc1 : Try.prog.cellsOf 4 = 1 := by kernel_rfl
  have hc2 : Try.prog.cellsOf 22 = 1 := by kernel_rfl
  unfold Value.okWide at hv
  rw [Try.underlying84] at hv
  obtain ⟨cs, rfl, hsz, _⟩ := hv
  rw [hc] at hsz
  obtain ⟨p, e0⟩ := trod_field_bool Try.underlying84 hf (List.mem_cons_self) Try.underlying4 hc1
  obtain ⟨t, e1⟩ := trod_field_bool Try.underlying84 hf (List.mem_cons_of_mem _ List.mem_cons_self) Try.underlying4 hc1
  obtain ⟨l, e2, w2⟩ := trod_field_int Try.underlying84 hf (List.mem_cons_of_mem _ (List.mem_cons_of_mem _ List.mem_cons_self)) Try.underlying22 hc2
  obtain ⟨ph, e3, w3⟩ := trod_field_int Try.underlying84 hf (List.mem_cons_of_mem _ (List.mem_cons_of_mem _ (List.mem_cons_of_mem _ List.mem_cons_self))) Try.underlying22 hc2
  obtain ⟨l, rfl, hl⟩ := u64_of w2
  obtain ⟨ph, rfl, hph⟩ := u64_of w3
  match cs, hsz with
  | ⟨[c0, c1, c2, c3]⟩, _ =>
    simp [Value.cells] at e0 e1 e2 e3
    subst e0; subst e1; subst e2; subst e3
    exact ⟨p, t, l, ph, rfl, hl, hph⟩

set_option maxRecDepth 100000 in
theorem descPacks_lifted (os : Os) (started : os.Started) (H : Type) (enc : TypeId × Value → H) :
    ReturnsInHanded {} Try.checked os 13 .any (Rows.descPacksSpec.pre6 enc Try.prog Try.f13 Rows.descPacksRow.domain false) (Rows.descPacksSpec.post enc Try.prog Try.f13 false true false false) := by
  refine lifted_of (by kernel_rfl) Try.func13 rfl rfl (by rw [Try.params13]; simp only [List.mem_cons, List.not_mem_nil, or_false]; rintro t (rfl | rfl) <;> exact ⟨by kernel_rfl, of_decide_eq_true (by kernel_rfl)⟩) os started H enc
    (fun ds h => by rw [Try.params13] at h; match ds, h with | [_, _], _ => exact ⟨rfl, rfl, rfl⟩)
    (ChangeSpec.witness6 (enc := enc) (C := Try.checked) false ⟨#[], #[.agg #[.bool false, .bool false, .int .u64 0, .int .u64 0], .int .u64 0], []⟩ 8 (by kernel_rfl) (by kernel_rfl) (by kernel_rfl) (by kernel_rfl)) ?_
  intro W args ds ps hH
  have hA := hH.trod; have hok := hH.ok; have hlt := hH.lt
  rw [Try.params13] at hA hok
  obtain ⟨v0, vs0, d0, ds0, p0, q0, hargs, rfl, rfl, h0, r0⟩ := trodAll_cons hA
  obtain ⟨v1, vs1, d1, ds1, p1, q1, rfl, rfl, rfl, h1, r1⟩ := trodAll_cons r0
  obtain ⟨rfl, rfl, rfl⟩ := trodAll_nil r1
  obtain rfl : args = #[v0, v1] := by cases args; simp_all
  obtain ⟨b0, o0⟩ := hok 0 84 v0 rfl rfl
  obtain ⟨b1, o1⟩ := hok 1 22 v1 rfl rfl
  obtain ⟨a1, rfl, rfl, rfl, w1⟩ := open_int Try.underlying22 o1 h1
  obtain ⟨n1, rfl, hn1⟩ := u64_of w1
  obtain ⟨p, t, l, ph, rfl, hl, hph⟩ := open_desc o0 h0
  exact descPacks_any p t l ph n1 W hl hph hn1

theorem descPacks_holds : Rows.DescPacksSaid :=
  OpenClaim.holds_of_wide 13 Try.f13 rfl rfl rfl rfl rfl rfl rfl ⟨rfl, rfl, rfl, rfl, rfl⟩ rfl rfl rfl rfl rfl (by kernel_rfl) Try.func13 (by kernel_rfl)
    (of_decide_eq_true (by kernel_rfl)) (by unfold Func.isWrapper; first | (rw [if_pos (by decide +kernel)]; kernel_rfl) | (rw [if_neg (by decide +kernel)]; exact ⟨rfl, rfl⟩))
    (fun os started H enc _ => descPacks_lifted os started H enc)
#print axioms descPacks_holds
end Go.Proofs.Ytajlceknahngkaa
