/- The law WordBack returns true for every input, and leaves its arguments as they were: what word.Pack packs word.Unpack unpacks, and a word that is 0 above its fields is packed of what it is unpacked to. Conditions: none. -/
import Derived.Test.YtajlceknahngkaaWordF
import Derived.Test.YtajlceknahngkaaLaw
namespace Go.Proofs.Ytajlceknahngkaa
open Go.ChangeShapes Go.WideShapes Go.ChangeAt Go.RowKit

set_option maxRecDepth 100000 in
theorem wordBack_lifted (os : Os) (started : os.Started) (H : Type) (enc : TypeId × Value → H) :
    ReturnsInHanded {} Try.checked os 6 .any (Rows.wordBackSpec.pre6 enc Try.prog Try.f6 Rows.wordBackRow.domain false) (Rows.wordBackSpec.post enc Try.prog Try.f6 false true false false) := by
  refine lifted_of (by kernel_rfl) Try.func6 rfl rfl (by rw [Try.params6]; simp only [List.mem_cons, List.not_mem_nil, or_false]; rintro t (rfl | rfl) <;> exact ⟨by kernel_rfl, of_decide_eq_true (by kernel_rfl)⟩) os started H enc
    (fun ds h => by rw [Try.params6] at h; match ds, h with | [_, _], _ => exact ⟨rfl, rfl, rfl⟩)
    (ChangeSpec.witness6 (enc := enc) (C := Try.checked) false ⟨#[], #[.int .u64 0, .slice none 0 0], []⟩ 8 (by kernel_rfl) (by kernel_rfl) (by kernel_rfl) (by kernel_rfl)) ?_
  intro W args ds ps hH
  have hA := hH.trod; have hok := hH.ok; have hlt := hH.lt
  rw [Try.params6] at hA hok
  obtain ⟨v0, vs0, d0, ds0, p0, q0, hargs, rfl, rfl, h0, r0⟩ := trodAll_cons hA
  obtain ⟨v1, vs1, d1, ds1, p1, q1, rfl, rfl, rfl, h1, r1⟩ := trodAll_cons r0
  obtain ⟨rfl, rfl, rfl⟩ := trodAll_nil r1
  obtain rfl : args = #[v0, v1] := by cases args; simp_all
  obtain ⟨b0, o0⟩ := hok 0 22 v0 rfl rfl
  obtain ⟨a0, rfl, rfl, rfl, w0⟩ := open_int Try.underlying22 o0 h0
  obtain ⟨n0, rfl, hn0⟩ := u64_of w0
  obtain ⟨b1, o1⟩ := hok 1 36 v1 rfl rfl
  obtain ⟨a, c, l, rfl, hsl, _⟩ := open_sl_ints o1 h1 (fun p hp => hlt p (by simp [hp]))
  exact wordBack_any n0 l a c W hsl hn0

theorem wordBack_holds : Rows.WordBackSaid :=
  OpenClaim.holds_of_wide 6 Try.f6 rfl rfl rfl rfl rfl rfl rfl ⟨rfl, rfl, rfl, rfl, rfl⟩ rfl rfl rfl rfl rfl (by kernel_rfl) Try.func6 (by kernel_rfl)
    (of_decide_eq_true (by kernel_rfl)) (by unfold Func.isWrapper; first | (rw [if_pos (by decide +kernel)]; kernel_rfl) | (rw [if_neg (by decide +kernel)]; exact ⟨rfl, rfl⟩))
    (fun os started H enc _ => wordBack_lifted os started H enc)
#print axioms wordBack_holds
end Go.Proofs.Ytajlceknahngkaa
