/- The walk of LoomRows. -/
import Derived.Test.YtkocgeedpinplaaQ35
import Derived.Test.YtkocgeedpinplaaQ37
import Derived.Test.YtkocgeedpinplaaQ30
import Derived.Test.YtkocgeedpinplaaQ34
import Derived.Test.YtkocgeedpinplaaQ01
import Derived.Test.YtkocgeedpinplaaQ08
import Derived.Test.YtkocgeedpinplaaQ03
import Derived.Test.YtkocgeedpinplaaQ05
set_option maxRecDepth 100000
set_option linter.unusedVariables false
set_option linter.unusedSimpArgs false
set_option linter.unnecessarySimpa false
namespace Go.Proofs.Ytkocgeedpinplaa
section
open Go.RowKit

set_option maxHeartbeats 4000000 in
theorem loomRows_any (q0 q1 : Int) (calls : List CallD) (picks : List Int) (ca pa : Option Addr) (cc pc : Nat) (w : World) (hc : CallsAt noB w ca calls) (hp : PicksAt w pa picks) :
    Calls Try.prog 6 #[.agg #[.int .i64 q0, .int .i64 q1], .slice ca calls.length cc, .slice pa picks.length pc] w fun e w' => e = .returned (.bool true) ∧ Below w.heap.size w w' := by
  have hgb : Below w.heap.size w (w.alloc (.cells #[.int .i64 q0, .int .i64 q1] 23)) := Gr.new _ _
  have M := many_any ca pa calls.length picks.length cc pc (w.alloc (.cells #[.int .i64 q0, .int .i64 q1] 23)) hc.sl.1 hp.sl.1
  have T := Lib.hid adds_true
  cases hM : manyB calls.length picks.length with
  | true =>
    rw [hM] at M
    have HM := Lib.hid M
    clear M hc hp hM hgb
    go_enter Try.func6, Try.ntmps6
    go_wp2_with (first | (go_at_call 28; refine (HM.out).mono ?_; rintro e w' ⟨rfl, rfl⟩) | (go_at_call 29; refine (T.out _).mono ?_; rintro e w' ⟨rfl, hb⟩))
    go_ret
    exact ⟨rfl, Gr.trans (Gr.new _ _) hb⟩
  | false =>
    rw [hM] at M
    have HM := Lib.hid M
    have P := cellsPlay_any noB (w.alloc (.cells #[.int .i64 q0, .int .i64 q1] 23)) q0 q1 calls picks ca pa cc pc (fun b hb => hb.elim) (hc.grown hgb) (hp.grown hgb)
    obtain ⟨er, her⟩ : ∃ er, er = cellsN q0 q1 calls picks.length := ⟨_, rfl⟩
    rw [← her] at P
    have HP := Lib.hid P; have Her := Lib.hid her; have Hc := Lib.hid hc; have Hgb := Lib.hid hgb
    clear M P hc hp hM her hgb
    by_cases her0 : er = 0
    · have hck : cellsN q0 q1 calls picks.length = 0 := by rw [← Her.out]; exact her0
      obtain ⟨hck1, hs1, hs2⟩ := cellsN_zero hck
      obtain ⟨z1, z2, _⟩ := wrongN_zero (checkN_zero hck1).1
      have hnp := (checkN_zero hck1).2
      obtain ⟨m, rfl⟩ : ∃ m : Nat, q0 = (m : Int) := ⟨q0.toNat, by omega⟩
      obtain ⟨sz, rfl⟩ : ∃ sz : Nat, q1 = (sz : Int) := ⟨q1.toNat, by omega⟩
      simp only [Int.toNat_natCast] at HP
      obtain ⟨o1, _, _, o4, o5, _⟩ := on_play (cells_onceAp sz) hck1 (List.replicate sz 0) (by simp) picks hnp
      have q1 := o1.rows
      subst her0
      obtain ⟨rr, hrr⟩ : ∃ rr, rr = playD (cellsS sz) () (List.replicate sz 0) calls picks := ⟨_, rfl⟩
      rw [← hrr] at HP
      have hrr' : rr = playD (onceSys (cellsRef sz) cellsAct) () (List.replicate sz 0) calls picks := hrr
      rw [← hrr'] at q1 o4 o5
      have Q1 := Lib.hid q1; have Q3 := Lib.hid o4; have Q5 := Lib.hid o5; have Hnp := Lib.hid hnp
      clear hck hck1 hrr hrr' Her q1 o1 o4 o5 hnp z1 z2 hs1 hs2
      go_enter Try.func6, Try.ntmps6
      go_wp2_with (go_at_call 28; refine (HM.out).mono ?_; rintro e w' ⟨rfl, rfl⟩)
      refine HP.out.mono ?_
      rintro e w1 ⟨ea, en, ec, va, vn, vc, rp, rfl, hb1, hr⟩
      rcases hr with ⟨h0, _⟩ | ⟨_, hrp, hen, hvn, ers, hrep⟩
      · exact absurd rfl h0
      subst hrp
      obtain ⟨w2, hw2⟩ : ∃ w2, w2 = w1.alloc (.cells #[.slice ea en ec, .slice va vn vc, .int .i64 (rp.c.read : Int), .int .i64 (rp.c.write : Int), .int .i64 (rp.c.swap : Int), .int .i64 (rp.c.add : Int), .int .i64 (rp.c.fault : Int), .int .i64 (rp.ticks : Int), .int .i64 (rp.idle : Int)] 57) := ⟨_, rfl⟩
      have hb2 : Below w1.heap.size w1 w2 := by rw [hw2]; exact Gr.new _ _
      have hin2 : RepIn w1 w2 w1.heap.size ea en ec va vn vc rp := ⟨Nat.le_refl _, by rw [hw2]; exact heap_alloc_new _ _⟩
      have hb02 := Gr.trans Hgb.out (Gr.trans hb1 hb2)
      have hlen : rp.evs.length < 1000000 := by have := Q3.out; have := Hnp.out; omega
      have k0 : w2.cell? ⟨w.heap.size, 0, none⟩ = some (.int .i64 (m : Int)) := by
        rw [(Gr.trans hb1 hb2).cell (by simp), cell_new]; rfl
      have hltq : w.heap.size < w2.heap.size := by have := (Gr.trans hb1 hb2).size; simp only [World.size_alloc] at this; omega
      have RT := Lib.hid (rows_true w2 calls m ca ea va cc en ec vn vc ers rp (hrep.grown hb2) hen hlen (Hc.out.grown hb02) Q1.out)
      have wt : IntKind.i64.wrap ((rp.ticks : Int) + (rp.idle : Int)) = (picks.length : Int) := by have := Q5.out; have := Hnp.out; rw [IntKind.wrap_i64]; omega
      have hpl : picks.length ≤ 9223372036854775807 := by have := Hnp.out; omega
      have Hb02 := Lib.hid hb02; have Hw2 := Lib.hid hw2; have Hin2 := Lib.hid hin2
      have r0 : w2.cell? ⟨w1.heap.size, 0, none⟩ = some (.slice ea en ec) := hin2.cell 0
      have r1 : w2.cell? ⟨w1.heap.size, 1, none⟩ = some (.slice va vn vc) := hin2.cell 1
      have r2 : w2.cell? ⟨w1.heap.size, 2, none⟩ = some (.int .i64 (rp.c.read : Int)) := hin2.cell 2
      have r3 : w2.cell? ⟨w1.heap.size, 3, none⟩ = some (.int .i64 (rp.c.write : Int)) := hin2.cell 3
      have r4 : w2.cell? ⟨w1.heap.size, 4, none⟩ = some (.int .i64 (rp.c.swap : Int)) := hin2.cell 4
      have r5 : w2.cell? ⟨w1.heap.size, 5, none⟩ = some (.int .i64 (rp.c.add : Int)) := hin2.cell 5
      have r6 : w2.cell? ⟨w1.heap.size, 6, none⟩ = some (.int .i64 (rp.c.fault : Int)) := hin2.cell 6
      have r7 : w2.cell? ⟨w1.heap.size, 7, none⟩ = some (.int .i64 (rp.ticks : Int)) := hin2.cell 7
      have r8 : w2.cell? ⟨w1.heap.size, 8, none⟩ = some (.int .i64 (rp.idle : Int)) := hin2.cell 8
      have hlt2 : w1.heap.size < w2.heap.size := blk_lt hin2.blk
      clear hrep hb1 hb2 hin2 hb02 hw2 hvn hen hlen
      unfold repV
      unfold repV at RT
      go_upto_region 4 with fail
      rw [← Hw2.out]
      go_wp2_with fail
      refine RT.out.mono ?_
      rintro e w4 ⟨rfl, hb4⟩
      have hin4 := Hin2.out.grown hb4
      have Hb4 := Lib.hid hb4
      clear hb4 r0 r1 r2 r3 r4 r5 r6 r7 r8 k0 hltq hlt2
      have r7 : w4.cell? ⟨w1.heap.size, 7, none⟩ = some (.int .i64 (rp.ticks : Int)) := hin4.cell 7
      have r8 : w4.cell? ⟨w1.heap.size, 8, none⟩ = some (.int .i64 (rp.idle : Int)) := hin4.cell 8
      clear hin4
      go_wp2_with (go_at_call 29; refine (T.out _).mono ?_; rintro e w' ⟨rfl, hb⟩)
      go_ret
      exact ⟨rfl, Gr.trans Hb02.out (Gr.trans Hb4.out hb)⟩
    · have hn0 : ¬ er = 0 := her0
      have Hn0 := Lib.hid her0
      go_enter Try.func6, Try.ntmps6
      go_wp2_with (go_at_call 28; refine (HM.out).mono ?_; rintro e w' ⟨rfl, rfl⟩)
      refine HP.out.mono ?_
      rintro e w1 ⟨ea, en, ec, va, vn, vc, rp, rfl, hb1, hr⟩
      rcases hr with ⟨_, rfl, rfl, rfl, rfl, rfl, rfl, rfl⟩ | ⟨h0, _⟩
      · unfold repV
        have N := Lib.hid none_true
        go_wp2_with (first | (go_at_call 31; refine (N.out _).mono ?_; rintro e w2 ⟨rfl, hb2⟩) | (go_at_call 29; refine (T.out _).mono ?_; rintro e w' ⟨rfl, hb⟩))
        go_ret
        exact ⟨rfl, Gr.trans Hgb.out (Gr.trans hb1 (Gr.trans (Gr.new _ _) (Gr.trans hb2 hb)))⟩
      · exact absurd h0 her0
end
section

/- What the laws' arguments come as: slices of words, pairs, accesses. -/
open Go.ChangeShapes Go.WideShapes Go.ChangeAt Go.RowKit

/-- A slice of words that came in. -/
theorem open_sl_u64 {H : Type} {enc : TypeId × Value → H} {W : World} {base : Nat} {v : Value} {d : DataW H} {ps : List MemPlace}
    (hv : Value.okWide Try.prog W .any base 22 v) (h : DataW.Trod enc Try.prog W 0 (fun _ => true) true 22 v d ps) (hlt : ∀ p ∈ ps, p.block < W.heap.size) :
    ∃ (a : Option Addr) (c : Nat) (l : List Nat), v = .slice a l.length c ∧ SlAt W a l.length 1 (u64G l) ∧ (∀ y ∈ l, y < 18446744073709551616) ∧ (a = none → c = 0) := by
  have hc : Try.prog.cellsOf 24 = 1 := by kernel_rfl
  obtain ⟨a, c, l, h1, h2, h3, h4⟩ := open_sl0 Try.underlying22 hv h hlt (by rw [hc]; omega) (0 : Nat) (fun y cs => cs = [.int .u64 (y : Int)] ∧ y < 18446744073709551616)
    (fun n cs x hx => by obtain ⟨y, h1, _, h2⟩ := DataW.trod_int Try.underlying24 hx; obtain ⟨z, rfl, hz⟩ := u64_of h2; exact ⟨z, h1, hz⟩) (fun y _ => .int .u64 (y : Int))
    (fun y cs hy => by obtain ⟨rfl, _⟩ := hy; rw [hc]; exact ⟨rfl, fun f hf => by obtain rfl : f = 0 := (by omega); rfl⟩)
  rw [hc] at h2
  exact ⟨a, c, l, h1, h2, (fun y hy => by obtain ⟨cs, _, hw⟩ := h3 y hy; exact hw), h4⟩

theorem open_arr_int {H : Type} {enc : TypeId × Value → H} {W : World} {base : Nat} {v : Value} {d : DataW H} {ps : List MemPlace}
    (hv : Value.okWide Try.prog W .any base 23 v) (h : DataW.Trod enc Try.prog W 0 (fun _ => true) true 23 v d ps) :
    ∃ x y : Int, v = .agg #[.int .i64 x, .int .i64 y] ∧ (Lit.int .i64 x).wf = true ∧ (Lit.int .i64 y).wf = true := by
  obtain ⟨fuel, hf⟩ := h
  have hc : Try.prog.cellsOf 23 = 2 := by kernel_rfl
  have hc1 : Try.prog.cellsOf 3 = 1 := by kernel_rfl
  unfold Value.okWide at hv
  rw [Try.underlying23] at hv
  obtain ⟨cs, rfl, hsz, _⟩ := hv
  rw [hc] at hsz
  obtain ⟨xs, m, hfu, hd, hps, hlen, hel⟩ := DataW.trod_array Try.underlying23 hf
  simp only [hc1] at hel
  match cs, hsz with
  | ⟨[c0, c1]⟩, _ =>
    match xs, hlen with
    | [x0, x1], _ =>
      have h0 : DataW.trod enc Try.prog W 0 (fun _ => true) true m 3 [c0] = some x0 := by simpa [Value.cells] using hel 0 (by omega)
      have h1 : DataW.trod enc Try.prog W 0 (fun _ => true) true m 3 [c1] = some x1 := by simpa [Value.cells] using hel 1 (by omega)
      obtain ⟨n0, e0, _, w0⟩ := DataW.trod_int Try.underlying3 h0
      obtain ⟨n1, e1, _, w1⟩ := DataW.trod_int Try.underlying3 h1
      simp only [List.cons.injEq, and_true] at e0 e1
      exact ⟨n0, n1, by rw [e0, e1], w0, w1⟩

theorem open_arr_u64 {H : Type} {enc : TypeId × Value → H} {W : World} {base : Nat} {v : Value} {d : DataW H} {ps : List MemPlace}
    (hv : Value.okWide Try.prog W .any base 25 v) (h : DataW.Trod enc Try.prog W 0 (fun _ => true) true 25 v d ps) :
    ∃ x y : Int, v = .agg #[.int .u64 x, .int .u64 y] ∧ (Lit.int .u64 x).wf = true ∧ (Lit.int .u64 y).wf = true := by
  obtain ⟨fuel, hf⟩ := h
  have hc : Try.prog.cellsOf 25 = 2 := by kernel_rfl
  have hc1 : Try.prog.cellsOf 24 = 1 := by kernel_rfl
  unfold Value.okWide at hv
  rw [Try.underlying25] at hv
  obtain ⟨cs, rfl, hsz, _⟩ := hv
  rw [hc] at hsz
  obtain ⟨xs, m, hfu, hd, hps, hlen, hel⟩ := DataW.trod_array Try.underlying25 hf
  simp only [hc1] at hel
  match cs, hsz with
  | ⟨[c0, c1]⟩, _ =>
    match xs, hlen with
    | [x0, x1], _ =>
      have h0 : DataW.trod enc Try.prog W 0 (fun _ => true) true m 24 [c0] = some x0 := by simpa [Value.cells] using hel 0 (by omega)
      have h1 : DataW.trod enc Try.prog W 0 (fun _ => true) true m 24 [c1] = some x1 := by simpa [Value.cells] using hel 1 (by omega)
      obtain ⟨n0, e0, _, w0⟩ := DataW.trod_int Try.underlying24 h0
      obtain ⟨n1, e1, _, w1⟩ := DataW.trod_int Try.underlying24 h1
      simp only [List.cons.injEq, and_true] at e0 e1
      exact ⟨n0, n1, by rw [e0, e1], w0, w1⟩
end
section

/- What the laws' arguments come as: calls. -/
open Go.ChangeShapes Go.WideShapes Go.ChangeAt Go.RowKit

def callV (x : CallD) (f : Nat) : Value :=
  if f = 0 then .int .i64 x.thread else if f = 1 then .int .i64 x.obj else if f = 2 then .int .i64 x.kind else if f = 3 then .int .u64 (x.a : Int) else if f = 4 then .int .u64 (x.b : Int) else .int .u64 (x.c : Int)
structure CallWf (x : CallD) : Prop where
  thread : (Lit.int .i64 x.thread).wf = true
  obj : (Lit.int .i64 x.obj).wf = true
  kind : (Lit.int .i64 x.kind).wf = true
  a : U64 x.a
  b : U64 x.b
  c : U64 x.c

theorem call_of {H : Type} {enc : TypeId × Value → H} {W : World} {n : Nat} {cs : List Value} {x : DataW H × List MemPlace} (hx : DataW.trod enc Try.prog W 0 (fun _ => true) true n 80 cs = some x) :
    ∃ y : CallD, (∀ f, f < 6 → cs[f]? = some (callV y f)) ∧ cs.length = 6 ∧ CallWf y := by
  have hu := Try.underlying80
  have hi := Try.underlying3
  have hq := Try.underlying24
  have ci : Try.prog.cellsOf 3 = 1 := by kernel_rfl
  have cq : Try.prog.cellsOf 24 = 1 := by kernel_rfl
  have hl := trod_len_struct hu hx
  have hc : Try.prog.cellsOf 80 = 6 := by kernel_rfl
  rw [hc] at hl
  obtain ⟨t0, e0, w0⟩ := trod_field_int hu hx (List.getElem_mem (n := 0) (by decide)) hi ci
  obtain ⟨t1, e1, w1⟩ := trod_field_int hu hx (List.getElem_mem (n := 1) (by decide)) hi ci
  obtain ⟨t2, e2, w2⟩ := trod_field_int hu hx (List.getElem_mem (n := 2) (by decide)) hi ci
  obtain ⟨t3, e3, w3⟩ := trod_field_int hu hx (List.getElem_mem (n := 3) (by decide)) hq cq
  obtain ⟨t4, e4, w4⟩ := trod_field_int hu hx (List.getElem_mem (n := 4) (by decide)) hq cq
  obtain ⟨t5, e5, w5⟩ := trod_field_int hu hx (List.getElem_mem (n := 5) (by decide)) hq cq
  obtain ⟨n3, rfl, u3⟩ := u64_of w3
  obtain ⟨n4, rfl, u4⟩ := u64_of w4
  obtain ⟨n5, rfl, u5⟩ := u64_of w5
  refine ⟨⟨t0, t1, t2, n3, n4, n5⟩, fun f hf => ?_, hl, ⟨w0, w1, w2, u3, u4, u5⟩⟩
  obtain rfl | rfl | rfl | rfl | rfl | rfl : f = 0 ∨ f = 1 ∨ f = 2 ∨ f = 3 ∨ f = 4 ∨ f = 5 := by omega
  · exact e0
  · exact e1
  · exact e2
  · exact e3
  · exact e4
  · exact e5

theorem open_calls {H : Type} {enc : TypeId × Value → H} {W : World} {base : Nat} {v : Value} {d : DataW H} {ps : List MemPlace}
    (hv : Value.okWide Try.prog W .any base 52 v) (h : DataW.Trod enc Try.prog W 0 (fun _ => true) true 52 v d ps) (hlt : ∀ p ∈ ps, p.block < W.heap.size) :
    ∃ (a : Option Addr) (c : Nat) (l : List CallD), v = .slice a l.length c ∧ SlAt W a l.length 6 (callG l) ∧ (∀ y ∈ l, CallWf y) := by
  have hc : Try.prog.cellsOf 80 = 6 := by kernel_rfl
  obtain ⟨a, c, l, h1, h2, h3⟩ := open_sl Try.underlying52 hv h hlt (by rw [hc]; omega) (⟨0, 0, 0, 0, 0, 0⟩ : CallD) (fun y cs => (∀ f, f < 6 → cs[f]? = some (callV y f)) ∧ cs.length = 6 ∧ CallWf y)
    (fun n cs x hx => call_of hx) callV (fun y cs hy => by rw [hc]; exact ⟨hy.2.1, hy.1⟩)
  rw [hc] at h2
  exact ⟨a, c, l, h1, h2, fun y hy => by obtain ⟨cs, _, _, hw⟩ := h3 y hy; exact hw⟩
end
section

/- What the laws' arguments come as: two ints. -/
open Go.ChangeShapes Go.WideShapes Go.ChangeAt Go.RowKit

theorem open_arr2_int {H : Type} {enc : TypeId × Value → H} {W : World} {base : Nat} {v : Value} {d : DataW H} {ps : List MemPlace}
    (hv : Value.okWide Try.prog W .any base 23 v) (h : DataW.Trod enc Try.prog W 0 (fun _ => true) true 23 v d ps) :
    ∃ x y : Int, v = .agg #[.int .i64 x, .int .i64 y] ∧ (Lit.int .i64 x).wf = true ∧ (Lit.int .i64 y).wf = true := by
  obtain ⟨fuel, hf⟩ := h
  have hc : Try.prog.cellsOf 23 = 2 := by kernel_rfl
  have hc1 : Try.prog.cellsOf 3 = 1 := by kernel_rfl
  unfold Value.okWide at hv
  rw [Try.underlying23] at hv
  obtain ⟨cs, rfl, hsz, _⟩ := hv
  rw [hc] at hsz
  obtain ⟨xs, m, hfu, hd, hps, hlen, hel⟩ := DataW.trod_array Try.underlying23 hf
  simp only [hc1] at hel
  match cs, hsz with
  | ⟨[c0, c1]⟩, _ =>
    match xs, hlen with
    | [x0, x1], _ =>
      have h0 : DataW.trod enc Try.prog W 0 (fun _ => true) true m 3 [c0] = some x0 := by simpa [Value.cells] using hel 0 (by omega)
      have h1 : DataW.trod enc Try.prog W 0 (fun _ => true) true m 3 [c1] = some x1 := by simpa [Value.cells] using hel 1 (by omega)
      obtain ⟨n0, e0, _, w0⟩ := DataW.trod_int Try.underlying3 h0
      obtain ⟨n1, e1, _, w1⟩ := DataW.trod_int Try.underlying3 h1
      simp only [List.cons.injEq, and_true] at e0 e1
      exact ⟨n0, n1, by rw [e0, e1], w0, w1⟩
end
end Go.Proofs.Ytkocgeedpinplaa
