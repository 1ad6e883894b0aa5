/- Layer 5: the known pair; the reference's Turns. -/
import Derived.Test.YtajlceknahngkaaPickD
set_option maxRecDepth 100000
namespace Go.Proofs.Ytajlceknahngkaa
open Go.RowKit

def prL : List CallD := [⟨0, 0, 0, 0, 0, 0⟩, ⟨1, 0, 0, 0, 0, 0⟩]
theorem sl_alloc' (w : World) (arr : Array Value) (T : TypeId) {n k : Nat} {g : Nat → Nat → Value} (hn : n ≤ maxLen) (h : ∀ j, j < n → ∀ f, f < k → arr[j * k + f]? = some (g j f)) :
    SlAt (w.alloc (.cells arr T)) (some ⟨w.heap.size, 0, none⟩) n k g :=
  ⟨hn, fun j hj => ⟨_, _, rfl, by simp, fun f hf => by rw [Nat.zero_add, cell_new]; exact h j hj f hf⟩⟩

theorem prSl (w : World) : SlAt (w.alloc (.cells #[.int .i64 0, .int .i64 0, .int .i64 0, .int .u64 0, .int .u64 0, .int .u64 0, .int .i64 1, .int .i64 0, .int .i64 0, .int .u64 0, .int .u64 0, .int .u64 0] 82)) (some ⟨w.heap.size, 0, none⟩) prL.length 6 (callG prL) :=
  sl_alloc' _ _ _ (by unfold maxLen prL; simp) fun j hj f hf => by
    simp only [prL, List.length_cons, List.length_nil] at hj
    obtain rfl | rfl : j = 0 ∨ j = 1 := by omega
    all_goals
      obtain rfl | rfl | rfl | rfl | rfl | rfl : f = 0 ∨ f = 1 ∨ f = 2 ∨ f = 3 ∨ f = 4 ∨ f = 5 := by omega
      all_goals rfl
theorem prTurns : turnsN prL [2, 1] [0, 1, 1, 0] = ([0, 1, 0], 1) := by decide
theorem prWrong : wrongN 2 prL = 0 := by decide
theorem prQ : qF prL (List.replicate prL.length false) 1 = [1] := by decide

theorem pair05 (w : World) :
    Calls Try.prog 41 #[] w fun e w' => e = .returned (.bool true) ∧ Below w.heap.size w w' := by
  have hwf : ∀ x ∈ prL, (Lit.int .i64 x.thread).wf = true := by decide
  go_enter Try.func41, Try.ntmps41
  go_wp2_with fail
  obtain ⟨wa, hwa⟩ : ∃ wa, wa = w.alloc (.cells #[.int .i64 0, .int .i64 0, .int .i64 0, .int .u64 0, .int .u64 0, .int .u64 0, .int .i64 1, .int .i64 0, .int .i64 0, .int .u64 0, .int .u64 0, .int .u64 0] 82) := ⟨_, rfl⟩
  have h1 : SlAt wa (some ⟨w.heap.size, 0, none⟩) prL.length 6 (callG prL) := by rw [hwa]; exact prSl w
  have hb0 : Below w.heap.size w wa := by rw [hwa]; exact Gr.new _ _
  have hsz : wa.heap.size = w.heap.size + 1 := by rw [hwa]; simp
  rw [← hwa]
  have h2 : SlAt ((wa.alloc (.cells #[.int .i64 2, .int .i64 1] 3)).alloc (.cells #[.int .i64 0, .int .i64 1, .int .i64 1, .int .i64 0] 3)) (some ⟨wa.heap.size, 0, none⟩) ([2, 1] : List Int).length 1 (intG [2, 1]) :=
    (sl_alloc' wa _ _ (by unfold maxLen; simp) (fun j hj f hf => by
      simp only [List.length_cons, List.length_nil] at hj
      obtain rfl : f = 0 := by omega
      obtain rfl | rfl : j = 0 ∨ j = 1 := by omega
      all_goals rfl)).grown (Gr.new _ _)
  have h3 : SlAt ((wa.alloc (.cells #[.int .i64 2, .int .i64 1] 3)).alloc (.cells #[.int .i64 0, .int .i64 1, .int .i64 1, .int .i64 0] 3)) (some ⟨wa.heap.size + 1, 0, none⟩) ([0, 1, 1, 0] : List Int).length 1 (intG [0, 1, 1, 0]) := by
    have := sl_alloc' (wa.alloc (.cells #[.int .i64 2, .int .i64 1] 3)) #[.int .i64 0, .int .i64 1, .int .i64 1, .int .i64 0] 3 (n := 4) (k := 1) (g := intG [0, 1, 1, 0]) (by unfold maxLen; simp) (fun j hj f hf => by
      obtain rfl : f = 0 := by omega
      obtain rfl | rfl | rfl | rfl : j = 0 ∨ j = 1 ∨ j = 2 ∨ j = 3 := by omega
      all_goals rfl)
    simpa using this
  have h1' := (h1.grown (Gr.new wa (.cells #[.int .i64 2, .int .i64 1] 3))).grown (Gr.new _ (.cells #[.int .i64 0, .int .i64 1, .int .i64 1, .int .i64 0] 3))
  have H1 := Lib.hid h1'
  have HT := Lib.hid (turns_ok 2 prL [2, 1] [0, 1, 1, 0] (some ⟨w.heap.size, 0, none⟩) (some ⟨wa.heap.size, 0, none⟩) (some ⟨wa.heap.size + 1, 0, none⟩) 2 2 4 _ h1' hwf prWrong h2 h3 (by simp) (by decide))
  have Hwf := Lib.hid hwf; have Hsz := Lib.hid hsz; have Hb0 := Lib.hid hb0
  clear hwa h1 h2 h3 h1' hwf hsz hb0
  go_wp2_with fail
  rw [Hsz.out] at HT
  refine HT.out.mono ?_
  rintro e w2 ⟨out, idle, ao, co, hT, rfl, hsl, hb⟩
  obtain ⟨rfl, rfl⟩ : out = [0, 1, 0] ∧ idle = 1 := by have := hT.out; rw [prTurns] at this; exact ⟨(Prod.mk.inj this).1.symm, (Prod.mk.inj this).2.symm⟩
  obtain ⟨ob, ooff, rfl, hlt, hc0⟩ := hsl.2 0 (by simp)
  have Hlt := Lib.hid hlt
  have h1c := H1.out.grown hb
  have N1 := Lib.hid (new_any 2 prL _ 2 w2 h1c Hwf.out)
  have Hb := Lib.hid hb; have Hsl := Lib.hid hsl
  clear hsl hb hT hc0 h1c H1 HT hlt
  go_wp2_with fail
  refine N1.out.mono ?_
  rintro e w3 (⟨h0, _⟩ | ⟨h0, rfl, hb3, M, hL⟩)
  · exact absurd prWrong h0
  obtain ⟨hi, Hhi⟩ : ∃ hi, hi = w3.heap.size := ⟨_, rfl⟩
  rw [← Hhi] at hL
  have HL := Lib.hid hL; have Hb3 := Lib.hid hb3
  have F1 := Lib.hid (finish_yes hi _ _ _ M _ _ 1 w3 hL (by unfold maxLen prL; simp) (by decide) 1 [] prQ (by simp [prL]) (by simp [prL]))
  clear hL hb3 Hhi h0
  go_wp2_with fail
  refine F1.out.mono ?_
  rintro e w4 ⟨rfl, hchg, M', hL'⟩
  have hq' : (qDrop (qF prL (List.replicate prL.length false)) 1 1).length = 0 := by simp [qDrop, prQ]
  have hl1 : ((prL.length : Int) - 1) = 1 := by simp [prL]
  rw [hl1] at hL'
  have W1 := Lib.hid (now_no hi _ _ _ M' _ _ 1 w4 hL' (by decide) hq')
  have W2 := Lib.hid (left_any hi _ _ _ M' _ _ w4 hL')
  have W3 := Lib.hid (finish_no hi _ _ _ M' _ _ 1 w4 hL' (by decide) hq')
  have hsl4 := (Hsl.out.grown Hb3.out).chg hchg (fun b off e => by
    have e2 := Hlt.out
    simp only [Option.some.injEq, Addr.mk.injEq] at e
    omega)
  have c0 : w4.cell? ⟨ob, ooff, none⟩ = some (.int .i64 0) := by
    obtain ⟨b, off, e, _, hc⟩ := hsl4.2 0 (by simp)
    simp only [Option.some.injEq, Addr.mk.injEq] at e
    obtain ⟨rfl, rfl, -⟩ := e
    exact hc 0 (by omega)
  have c1 : w4.cell? ⟨ob, ooff + 1, none⟩ = some (.int .i64 1) := by
    obtain ⟨b, off, e, _, hc⟩ := hsl4.2 1 (by simp)
    simp only [Option.some.injEq, Addr.mk.injEq] at e
    obtain ⟨rfl, rfl, -⟩ := e
    exact hc 0 (by omega)
  have c2 : w4.cell? ⟨ob, ooff + 2, none⟩ = some (.int .i64 0) := by
    obtain ⟨b, off, e, _, hc⟩ := hsl4.2 2 (by simp)
    simp only [Option.some.injEq, Addr.mk.injEq] at e
    obtain ⟨rfl, rfl, -⟩ := e
    exact hc 0 (by omega)
  have hb3' : Below w.heap.size w w3 := Gr.trans (Gr.trans (Gr.trans (Gr.trans Hb0.out (Gr.new _ _)) (Gr.new _ _)) Hb.out) Hb3.out
  have hend : Below w.heap.size w w4 := by
    have hz2 : w.heap.size ≤ w2.heap.size := (Gr.trans (Gr.trans (Gr.trans Hb0.out (Gr.new _ _)) (Gr.new _ _)) Hb.out).size
    exact hb3'.trans (hchg.below (fun k hk => by omega) hb3'.size)
  have Hend := Lib.hid hend; have Hchg := Lib.hid hchg
  clear hend hb3' hsl4 hchg hL' hq' hl1
  go_wp2_with fail
  refine W1.out.mono ?_
  rintro e w5 ⟨rfl, rfl⟩
  go_wp2_with fail
  refine W2.out.mono ?_
  rintro e w5 ⟨rfl, rfl⟩
  go_wp2_with fail
  refine W3.out.mono ?_
  rintro e w5 ⟨rfl, rfl⟩
  go_wp2
  go_ret
  exact ⟨rfl, Hend.out⟩
end Go.Proofs.Ytajlceknahngkaa
