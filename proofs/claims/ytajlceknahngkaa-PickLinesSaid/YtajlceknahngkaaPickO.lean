/- Layer 5: what the laws' arguments come as. -/
import Derived.Test.YtajlceknahngkaaPickA
import Derived.Test.YtajlceknahngkaaBitsN
set_option maxRecDepth 100000
namespace Go.Proofs.Ytajlceknahngkaa
open Go.ChangeShapes Go.WideShapes Go.ChangeAt Go.RowKit

def callV (x : CallD) (f : Nat) : Value :=
  if f = 0 then .int .i64 x.thread else if f = 1 then .int .i64 x.obj else if f = 2 then .int .i64 x.kind else if f = 3 then .int .u64 (x.a : Int) else if f = 4 then .int .u64 (x.b : Int) else .int .u64 (x.c : Int)
structure CallWf (x : CallD) : Prop where
  thread : (Lit.int .i64 x.thread).wf = true
  obj : (Lit.int .i64 x.obj).wf = true
  kind : (Lit.int .i64 x.kind).wf = true
  a : U64 x.a
  b : U64 x.b
  c : U64 x.c

theorem call_of {H : Type} {enc : TypeId × Value → H} {W : World} {n : Nat} {cs : List Value} {x : DataW H × List MemPlace} (hx : DataW.trod enc Try.prog W 0 (fun _ => true) true n 82 cs = some x) :
    ∃ y : CallD, (∀ f, f < 6 → cs[f]? = some (callV y f)) ∧ cs.length = 6 ∧ CallWf y := by
  have hu := Try.underlying82
  have hi := Try.underlying3
  have hq := Try.underlying22
  have ci : Try.prog.cellsOf 3 = 1 := by kernel_rfl
  have cq : Try.prog.cellsOf 22 = 1 := by kernel_rfl
  have hl := trod_len_struct hu hx
  have hc : Try.prog.cellsOf 82 = 6 := by kernel_rfl
  rw [hc] at hl
  obtain ⟨t0, e0, w0⟩ := trod_field_int hu hx (List.getElem_mem (n := 0) (by decide)) hi ci
  obtain ⟨t1, e1, w1⟩ := trod_field_int hu hx (List.getElem_mem (n := 1) (by decide)) hi ci
  obtain ⟨t2, e2, w2⟩ := trod_field_int hu hx (List.getElem_mem (n := 2) (by decide)) hi ci
  obtain ⟨t3, e3, w3⟩ := trod_field_int hu hx (List.getElem_mem (n := 3) (by decide)) hq cq
  obtain ⟨t4, e4, w4⟩ := trod_field_int hu hx (List.getElem_mem (n := 4) (by decide)) hq cq
  obtain ⟨t5, e5, w5⟩ := trod_field_int hu hx (List.getElem_mem (n := 5) (by decide)) hq cq
  obtain ⟨n3, rfl, u3⟩ := u64_of w3
  obtain ⟨n4, rfl, u4⟩ := u64_of w4
  obtain ⟨n5, rfl, u5⟩ := u64_of w5
  refine ⟨⟨t0, t1, t2, n3, n4, n5⟩, fun f hf => ?_, hl, ⟨w0, w1, w2, u3, u4, u5⟩⟩
  obtain rfl | rfl | rfl | rfl | rfl | rfl : f = 0 ∨ f = 1 ∨ f = 2 ∨ f = 3 ∨ f = 4 ∨ f = 5 := by omega
  · exact e0
  · exact e1
  · exact e2
  · exact e3
  · exact e4
  · exact e5

theorem open_calls {H : Type} {enc : TypeId × Value → H} {W : World} {base : Nat} {v : Value} {d : DataW H} {ps : List MemPlace}
    (hv : Value.okWide Try.prog W .any base 64 v) (h : DataW.Trod enc Try.prog W 0 (fun _ => true) true 64 v d ps) (hlt : ∀ p ∈ ps, p.block < W.heap.size) :
    ∃ (a : Option Addr) (c : Nat) (l : List CallD), v = .slice a l.length c ∧ SlAt W a l.length 6 (callG l) ∧ (∀ y ∈ l, CallWf y) := by
  have hc : Try.prog.cellsOf 82 = 6 := by kernel_rfl
  obtain ⟨a, c, l, h1, h2, h3⟩ := open_sl Try.underlying64 hv h hlt (by rw [hc]; omega) (⟨0, 0, 0, 0, 0, 0⟩ : CallD) (fun y cs => (∀ f, f < 6 → cs[f]? = some (callV y f)) ∧ cs.length = 6 ∧ CallWf y)
    (fun n cs x hx => call_of hx) callV (fun y cs hy => by rw [hc]; exact ⟨hy.2.1, hy.1⟩)
  rw [hc] at h2
  exact ⟨a, c, l, h1, h2, fun y hy => by obtain ⟨cs, _, _, hw⟩ := h3 y hy; exact hw⟩

theorem open_two_ints {H : Type} {enc : TypeId × Value → H} {W : World} {base : Nat} {v : Value} {d : DataW H} {ps : List MemPlace}
    (hv : Value.okWide Try.prog W .any base 75 v) (h : DataW.Trod enc Try.prog W 0 (fun _ => true) true 75 v d ps) (hlt : ∀ p ∈ ps, p.block < W.heap.size) :
    ∃ (a a' : Option Addr) (c c' : Nat) (l l' : List Int), v = .agg #[.slice a l.length c, .slice a' l'.length c'] ∧ SlAt W a l.length 1 (intG l) ∧ SlAt W a' l'.length 1 (intG l') ∧ (∀ y ∈ l, (Lit.int .i64 y).wf = true) ∧ (∀ y ∈ l', (Lit.int .i64 y).wf = true) := by
  obtain ⟨fuel, hf⟩ := h
  have hc : Try.prog.cellsOf 75 = 2 := by kernel_rfl
  have hc1 : Try.prog.cellsOf 36 = 1 := by kernel_rfl
  have hv0 := hv
  unfold Value.okWide at hv
  rw [Try.underlying75] at hv
  obtain ⟨cs, rfl, hsz, hel0⟩ := hv
  rw [hc] at hsz
  have harr := DataW.trod_array Try.underlying75 hf
  obtain ⟨xs, m, hfu, hd, hps, hlen, hel⟩ := harr
  simp only [hc1] at hel
  match cs, hsz with
  | ⟨[c0, c1]⟩, _ =>
    obtain ⟨ts, hts, _, hcell⟩ := hel0
    have hct : Try.prog.cellTypes Try.prog.depth 75 = some [36, 36] := by kernel_rfl
    rw [hct] at hts
    obtain rfl := Option.some.inj hts
    have v0 : Value.okWide Try.prog W .any base 36 c0 := by
      obtain ⟨u, hu, hk⟩ := hcell 0 c0 rfl
      obtain rfl : 36 = u := by simpa using hu
      unfold Value.okWide
      rw [Try.underlying36]
      exact hk
    have v1 : Value.okWide Try.prog W .any base 36 c1 := by
      obtain ⟨u, hu, hk⟩ := hcell 1 c1 rfl
      obtain rfl : 36 = u := by simpa using hu
      unfold Value.okWide
      rw [Try.underlying36]
      exact hk
    match xs, hlen with
    | [x0, x1], _ =>
      have h0 : DataW.trod enc Try.prog W 0 (fun _ => true) true m 36 [c0] = some x0 := by simpa [Value.cells] using hel 0 (by omega)
      have h1 : DataW.trod enc Try.prog W 0 (fun _ => true) true m 36 [c1] = some x1 := by simpa [Value.cells] using hel 1 (by omega)
      have hp2 : ps = x0.2 ++ x1.2 := by simpa using (Prod.mk.inj hd).2
      obtain ⟨a0, n0, k0, rfl⟩ := okWide_slice Try.underlying36 v0
      obtain ⟨a1, n1, k1, rfl⟩ := okWide_slice Try.underlying36 v1
      obtain ⟨a, c, l, e1, e2, e3⟩ := open_sl_ints (enc := enc) (d := x0.1) (ps := x0.2) v0 ⟨m, by simpa [Value.cells] using h0⟩ (fun p hp => hlt p (by rw [hp2]; exact List.mem_append_left _ hp))
      obtain ⟨a', c', l', g1, g2, g3⟩ := open_sl_ints (enc := enc) (d := x1.1) (ps := x1.2) v1 ⟨m, by simpa [Value.cells] using h1⟩ (fun p hp => hlt p (by rw [hp2]; exact List.mem_append_right _ hp))
      exact ⟨a, a', c, c', l, l', by rw [e1, g1], e2, g2, e3, g3⟩
end Go.Proofs.Ytajlceknahngkaa
