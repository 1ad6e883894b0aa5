/- Layer 8: the walk of TallyReads. -/
import Derived.Test.YtkocgeedpinplaaJ39
import Derived.Test.YtkocgeedpinplaaJ41
import Derived.Test.YtkocgeedpinplaaJ03
import Derived.Test.YtkocgeedpinplaaJ05
set_option maxRecDepth 100000
set_option linter.unusedVariables false
set_option linter.unusedSimpArgs false
set_option linter.unnecessarySimpa false
namespace Go.Proofs.Ytkocgeedpinplaa
section
open Go.RowKit

set_option maxHeartbeats 4000000 in
theorem tallyReads_any (n : Int) (calls : List CallD) (picks : List Int) (ca pa : Option Addr) (cc pc : Nat) (w : World) (hc : CallsAt noB w ca calls) (hp : PicksAt w pa picks) :
    Calls Try.prog 11 #[.int .i64 n, .slice ca calls.length cc, .slice pa picks.length pc] w fun e w' => e = .returned (.bool true) ∧ Below w.heap.size w w' := by
  have M := many_any ca pa calls.length picks.length cc pc w hc.sl.1 hp.sl.1
  have T := Lib.hid tally_one
  cases hM : manyB calls.length picks.length with
  | true =>
    rw [hM] at M
    have HM := Lib.hid M
    clear M hc hp hM
    go_enter Try.func11, Try.ntmps11
    go_wp2_with (first | (go_at_call 28; refine (HM.out).mono ?_; rintro e w' ⟨rfl, rfl⟩) | (go_at_call 40; refine (T.out _).mono ?_; rintro e w' ⟨rfl, hb⟩))
    go_ret
    exact ⟨rfl, hb⟩
  | false =>
    rw [hM] at M
    have HM := Lib.hid M
    have P := tallyPlay_any noB w n calls picks ca pa cc pc (fun b hb => hb.elim) hc hp
    obtain ⟨er, her⟩ : ∃ er, er = checkN n calls picks.length := ⟨_, rfl⟩
    rw [← her] at P
    have HP := Lib.hid P; have Her := Lib.hid her; have Hc := Lib.hid hc
    clear M P hc hp hM her
    by_cases her0 : er = 0
    · have hck : checkN n calls picks.length = 0 := by rw [← Her.out]; exact her0
      obtain ⟨z1, z2⟩ := n_ok hck
      obtain ⟨m, rfl⟩ : ∃ m : Nat, n = (m : Int) := ⟨n.toNat, by omega⟩
      simp only [Int.toNat_natCast] at HP
      obtain ⟨q1, q2, q3⟩ := ta_report hck picks
      have hnp := np_ok hck
      subst her0
      obtain ⟨rr, hrr⟩ : ∃ rr, rr = playD (tallyS m) () (List.replicate m 0) calls picks := ⟨_, rfl⟩
      rw [← hrr] at HP q1 q2 q3
      have Q1 := Lib.hid q1; have Q2 := Lib.hid q2; have Q3 := Lib.hid q3; have Hnp := Lib.hid hnp
      clear hck hrr Her q1 q2 q3 hnp
      have Z1 := Lib.hid z1; have Z2 := Lib.hid z2
      clear z1 z2
      go_enter Try.func11, Try.ntmps11
      go_wp2_with (go_at_call 28; refine (HM.out).mono ?_; rintro e w' ⟨rfl, rfl⟩)
      refine HP.out.mono ?_
      rintro e w1 ⟨ea, en, ec, va, vn, vc, rp, rfl, hb1, hr⟩
      rcases hr with ⟨h0, _⟩ | ⟨_, hrp, hen, hvn, ers, hrep⟩
      · exact absurd rfl h0
      subst hrp
      obtain ⟨w2, hw2⟩ : ∃ w2, w2 = w1.alloc (.cells #[.slice ea en ec, .slice va vn vc, .int .i64 (rp.c.read : Int), .int .i64 (rp.c.write : Int), .int .i64 (rp.c.swap : Int), .int .i64 (rp.c.add : Int), .int .i64 (rp.c.fault : Int), .int .i64 (rp.ticks : Int), .int .i64 (rp.idle : Int)] 57) := ⟨_, rfl⟩
      have hb2 : Below w1.heap.size w1 w2 := by rw [hw2]; exact Gr.new _ _
      have hin : RepIn w1 w2 w1.heap.size ea en ec va vn vc rp := ⟨Nat.le_refl _, by rw [hw2]; exact heap_alloc_new _ _⟩
      have hb02 := Gr.trans hb1 hb2
      have hlen : rp.evs.length < 1000000 := by have := Q1.out; have := Hnp.out; omega
      have BT := Lib.hid (between_true w2 calls ca ea va cc en ec vn vc ers rp (hrep.grown hb2) hen hlen (Hc.out.grown hb02) Q2.out)
      have MT := Lib.hid (fun (u : World) (h : Below w2.heap.size w2 u) => most_true u (max m 2) ea va en ec vn vc ers rp (hrep.grown (Gr.trans hb2 h)) hen hlen Q3.out)
      have Hin := Lib.hid hin; have Hb02 := Lib.hid hb02; have Hw2 := Lib.hid hw2
      have r0 : w2.cell? ⟨w1.heap.size, 0, none⟩ = some (.slice ea en ec) := hin.cell 0
      have r1 : w2.cell? ⟨w1.heap.size, 1, none⟩ = some (.slice va vn vc) := hin.cell 1
      have r2 : w2.cell? ⟨w1.heap.size, 2, none⟩ = some (.int .i64 (rp.c.read : Int)) := hin.cell 2
      have r3 : w2.cell? ⟨w1.heap.size, 3, none⟩ = some (.int .i64 (rp.c.write : Int)) := hin.cell 3
      have r4 : w2.cell? ⟨w1.heap.size, 4, none⟩ = some (.int .i64 (rp.c.swap : Int)) := hin.cell 4
      have r5 : w2.cell? ⟨w1.heap.size, 5, none⟩ = some (.int .i64 (rp.c.add : Int)) := hin.cell 5
      have r6 : w2.cell? ⟨w1.heap.size, 6, none⟩ = some (.int .i64 (rp.c.fault : Int)) := hin.cell 6
      have r7 : w2.cell? ⟨w1.heap.size, 7, none⟩ = some (.int .i64 (rp.ticks : Int)) := hin.cell 7
      have r8 : w2.cell? ⟨w1.heap.size, 8, none⟩ = some (.int .i64 (rp.idle : Int)) := hin.cell 8
      clear hrep hb1 hb2 hin hb02 hw2 hvn hen hlen
      unfold repV
      unfold repV at BT MT
      go_upto_region 4 with fail
      rw [← Hw2.out]
      go_wp2_with fail
      refine BT.out.mono ?_
      rintro e w3 ⟨rfl, hb3⟩
      have hin3 := Hin.out.grown hb3
      have Hb3 := Lib.hid hb3
      clear r0 r1 r2 r3 r4 r5 r6 r7 r8 hb3
      have r0 : w3.cell? ⟨w1.heap.size, 0, none⟩ = some (.slice ea en ec) := hin3.cell 0
      have r1 : w3.cell? ⟨w1.heap.size, 1, none⟩ = some (.slice va vn vc) := hin3.cell 1
      have r2 : w3.cell? ⟨w1.heap.size, 2, none⟩ = some (.int .i64 (rp.c.read : Int)) := hin3.cell 2
      have r3 : w3.cell? ⟨w1.heap.size, 3, none⟩ = some (.int .i64 (rp.c.write : Int)) := hin3.cell 3
      have r4 : w3.cell? ⟨w1.heap.size, 4, none⟩ = some (.int .i64 (rp.c.swap : Int)) := hin3.cell 4
      have r5 : w3.cell? ⟨w1.heap.size, 5, none⟩ = some (.int .i64 (rp.c.add : Int)) := hin3.cell 5
      have r6 : w3.cell? ⟨w1.heap.size, 6, none⟩ = some (.int .i64 (rp.c.fault : Int)) := hin3.cell 6
      have r7 : w3.cell? ⟨w1.heap.size, 7, none⟩ = some (.int .i64 (rp.ticks : Int)) := hin3.cell 7
      have r8 : w3.cell? ⟨w1.heap.size, 8, none⟩ = some (.int .i64 (rp.idle : Int)) := hin3.cell 8
      have MT3 := MT.out w3 Hb3.out
      clear hin3
      by_cases hm2 : 2 ≤ m
      · rw [show max m 2 = m by omega] at MT3
        have HMT := Lib.hid MT3
        have hm3 : (2 : Int) ≤ (m : Int) := by omega
        clear MT3
        go_wp2_with fail
        all_goals first | (exfalso; omega) | skip
        all_goals
          refine HMT.out.mono ?_
          rintro e w4 ⟨rfl, hb4⟩
          have Hb4 := Lib.hid hb4
          clear hb4 r0 r1 r2 r3 r4 r5 r6 r7 r8
          go_wp2_with (go_at_call 40; refine (T.out _).mono ?_; rintro e w' ⟨rfl, hb⟩)
          go_ret
          exact ⟨rfl, Gr.trans Hb02.out (Gr.trans Hb3.out (Gr.trans Hb4.out hb))⟩
      · rw [show max m 2 = 2 by omega] at MT3
        have HMT := Lib.hid MT3
        have hm3 : ¬ (2 : Int) ≤ (m : Int) := by omega
        clear MT3
        go_wp2_with fail
        all_goals first | (exfalso; omega) | skip
        all_goals
          refine HMT.out.mono ?_
          rintro e w4 ⟨rfl, hb4⟩
          have Hb4 := Lib.hid hb4
          clear hb4 r0 r1 r2 r3 r4 r5 r6 r7 r8
          go_wp2_with (go_at_call 40; refine (T.out _).mono ?_; rintro e w' ⟨rfl, hb⟩)
          go_ret
          exact ⟨rfl, Gr.trans Hb02.out (Gr.trans Hb3.out (Gr.trans Hb4.out hb))⟩
    · have hn0 : ¬ er = 0 := her0
      have Hn0 := Lib.hid her0
      go_enter Try.func11, Try.ntmps11
      go_wp2_with (go_at_call 28; refine (HM.out).mono ?_; rintro e w' ⟨rfl, rfl⟩)
      refine HP.out.mono ?_
      rintro e w1 ⟨ea, en, ec, va, vn, vc, rp, rfl, hb1, hr⟩
      rcases hr with ⟨_, rfl, rfl, rfl, rfl, rfl, rfl, rfl⟩ | ⟨h0, _⟩
      · unfold repV
        have N := Lib.hid none_true
        go_wp2_with (first | (go_at_call 31; refine (N.out _).mono ?_; rintro e w2 ⟨rfl, hb2⟩) | (go_at_call 40; refine (T.out _).mono ?_; rintro e w' ⟨rfl, hb⟩))
        go_ret
        exact ⟨rfl, Gr.trans hb1 (Gr.trans (Gr.new _ _) (Gr.trans hb2 hb))⟩
      · exact absurd h0 her0
end
section

/- What the laws' arguments come as: calls. -/
open Go.ChangeShapes Go.WideShapes Go.ChangeAt Go.RowKit

def callV (x : CallD) (f : Nat) : Value :=
  if f = 0 then .int .i64 x.thread else if f = 1 then .int .i64 x.obj else if f = 2 then .int .i64 x.kind else if f = 3 then .int .u64 (x.a : Int) else if f = 4 then .int .u64 (x.b : Int) else .int .u64 (x.c : Int)
structure CallWf (x : CallD) : Prop where
  thread : (Lit.int .i64 x.thread).wf = true
  obj : (Lit.int .i64 x.obj).wf = true
  kind : (Lit.int .i64 x.kind).wf = true
  a : U64 x.a
  b : U64 x.b
  c : U64 x.c

theorem call_of {H : Type} {enc : TypeId × Value → H} {W : World} {n : Nat} {cs : List Value} {x : DataW H × List MemPlace} (hx : DataW.trod enc Try.prog W 0 (fun _ => true) true n 80 cs = some x) :
    ∃ y : CallD, (∀ f, f < 6 → cs[f]? = some (callV y f)) ∧ cs.length = 6 ∧ CallWf y := by
  have hu := Try.underlying80
  have hi := Try.underlying3
  have hq := Try.underlying24
  have ci : Try.prog.cellsOf 3 = 1 := by kernel_rfl
  have cq : Try.prog.cellsOf 24 = 1 := by kernel_rfl
  have hl := trod_len_struct hu hx
  have hc : Try.prog.cellsOf 80 = 6 := by kernel_rfl
  rw [hc] at hl
  obtain ⟨t0, e0, w0⟩ := trod_field_int hu hx (List.getElem_mem (n := 0) (by decide)) hi ci
  obtain ⟨t1, e1, w1⟩ := trod_field_int hu hx (List.getElem_mem (n := 1) (by decide)) hi ci
  obtain ⟨t2, e2, w2⟩ := trod_field_int hu hx (List.getElem_mem (n := 2) (by decide)) hi ci
  obtain ⟨t3, e3, w3⟩ := trod_field_int hu hx (List.getElem_mem (n := 3) (by decide)) hq cq
  obtain ⟨t4, e4, w4⟩ := trod_field_int hu hx (List.getElem_mem (n := 4) (by decide)) hq cq
  obtain ⟨t5, e5, w5⟩ := trod_field_int hu hx (List.getElem_mem (n := 5) (by decide)) hq cq
  obtain ⟨n3, rfl, u3⟩ := u64_of w3
  obtain ⟨n4, rfl, u4⟩ := u64_of w4
  obtain ⟨n5, rfl, u5⟩ := u64_of w5
  refine ⟨⟨t0, t1, t2, n3, n4, n5⟩, fun f hf => ?_, hl, ⟨w0, w1, w2, u3, u4, u5⟩⟩
  obtain rfl | rfl | rfl | rfl | rfl | rfl : f = 0 ∨ f = 1 ∨ f = 2 ∨ f = 3 ∨ f = 4 ∨ f = 5 := by omega
  · exact e0
  · exact e1
  · exact e2
  · exact e3
  · exact e4
  · exact e5

theorem open_calls {H : Type} {enc : TypeId × Value → H} {W : World} {base : Nat} {v : Value} {d : DataW H} {ps : List MemPlace}
    (hv : Value.okWide Try.prog W .any base 52 v) (h : DataW.Trod enc Try.prog W 0 (fun _ => true) true 52 v d ps) (hlt : ∀ p ∈ ps, p.block < W.heap.size) :
    ∃ (a : Option Addr) (c : Nat) (l : List CallD), v = .slice a l.length c ∧ SlAt W a l.length 6 (callG l) ∧ (∀ y ∈ l, CallWf y) := by
  have hc : Try.prog.cellsOf 80 = 6 := by kernel_rfl
  obtain ⟨a, c, l, h1, h2, h3⟩ := open_sl Try.underlying52 hv h hlt (by rw [hc]; omega) (⟨0, 0, 0, 0, 0, 0⟩ : CallD) (fun y cs => (∀ f, f < 6 → cs[f]? = some (callV y f)) ∧ cs.length = 6 ∧ CallWf y)
    (fun n cs x hx => call_of hx) callV (fun y cs hy => by rw [hc]; exact ⟨hy.2.1, hy.1⟩)
  rw [hc] at h2
  exact ⟨a, c, l, h1, h2, fun y hy => by obtain ⟨cs, _, _, hw⟩ := h3 y hy; exact hw⟩
end
end Go.Proofs.Ytkocgeedpinplaa
