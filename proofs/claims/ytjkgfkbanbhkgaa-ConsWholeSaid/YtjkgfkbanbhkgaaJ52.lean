/- The walk of ConsWhole. -/
import Derived.Test.YtjkgfkbanbhkgaaJ49
import Derived.Test.YtjkgfkbanbhkgaaJ51
import Derived.Test.YtjkgfkbanbhkgaaJ28
set_option maxRecDepth 100000
set_option linter.unusedVariables false
set_option linter.unusedSimpArgs false
set_option linter.unnecessarySimpa false
namespace Go.Proofs.Ytjkgfkbanbhkgaa
open Go.RowKit

set_option maxHeartbeats 4000000 in
theorem consWhole_any (n : Int) (calls : List CallD) (picks : List Int) (ca pa : Option Addr) (cc pc : Nat) (w : World) (hc : CallsAt noB w ca calls) (hp : PicksAt w pa picks) :
    Calls Try.prog 4 #[.int .i64 n, .slice ca calls.length cc, .slice pa picks.length pc] w fun e w' => e = .returned (.bool true) ∧ Below w.heap.size w w' := by
  have M := many_any ca pa calls.length picks.length cc pc w hc.sl.1 hp.sl.1
  have T := Lib.hid cons_both
  cases hM : manyB calls.length picks.length with
  | true =>
    rw [hM] at M
    have HM := Lib.hid M
    clear M hc hp hM
    go_enter Try.func4, Try.ntmps4
    go_wp2_with (first | (go_at_call 15; refine (HM.out).mono ?_; rintro e w' ⟨rfl, rfl⟩) | (go_at_call 24; refine (T.out _).mono ?_; rintro e w' ⟨rfl, hb⟩))
    go_ret
    exact ⟨rfl, hb⟩
  | false =>
    rw [hM] at M
    have HM := Lib.hid M
    have P := consPlay_any noB w n calls picks ca pa cc pc (fun b hb => hb.elim) hc hp
    obtain ⟨er, her⟩ : ∃ er, er = checkN n calls picks.length := ⟨_, rfl⟩
    rw [← her] at P
    have HP := Lib.hid P; have Her := Lib.hid her; have Hc := Lib.hid hc
    clear M P hc hp hM her
    by_cases her0 : er = 0
    · have hck : checkN n calls picks.length = 0 := by rw [← Her.out]; exact her0
      obtain ⟨z1, z2, _⟩ := wrongN_zero (checkN_zero hck).1
      have hnp := (checkN_zero hck).2
      obtain ⟨m, rfl⟩ : ∃ m : Nat, n = (m : Int) := ⟨n.toNat, by omega⟩
      try simp only [Int.toNat_natCast] at HP
      obtain ⟨q1, q3⟩ : WholeGood consAp [0] calls m (playD consS () [0] calls picks) ∧ (playD consS () [0] calls picks).evs.length ≤ picks.length := co_whole hck picks (np_ok hck)
      have K := cons_spec m
      subst her0
      obtain ⟨rr, hrr⟩ : ∃ rr, rr = playD consS () [0] calls picks := ⟨_, rfl⟩
      rw [← hrr] at HP q1 q3
      have Q1 := Lib.hid q1; have Q3 := Lib.hid q3; have Hnp := Lib.hid hnp; have HK := Lib.hid K
      clear hck hrr Her q1 q3 hnp z1 z2 K
      go_enter Try.func4, Try.ntmps4
      go_wp2_with (go_at_call 15; refine (HM.out).mono ?_; rintro e w' ⟨rfl, rfl⟩)
      refine HP.out.mono ?_
      rintro e w1 ⟨ea, en, ec, va, vn, vc, rp, rfl, hb1, hr⟩
      rcases hr with ⟨h0, _⟩ | ⟨_, hrp, hen, hvn, ers, hrep⟩
      · exact absurd rfl h0
      subst hrp
      obtain ⟨w2, hw2⟩ : ∃ w2, w2 = w1.alloc (.cells #[.slice ea en ec, .slice va vn vc, .int .i64 (rp.c.read : Int), .int .i64 (rp.c.write : Int), .int .i64 (rp.c.swap : Int), .int .i64 (rp.c.add : Int), .int .i64 (rp.c.fault : Int), .int .i64 (rp.ticks : Int), .int .i64 (rp.idle : Int)] 32) := ⟨_, rfl⟩
      have hb2 : Below w1.heap.size w1 w2 := by rw [hw2]; exact Gr.new _ _
      obtain ⟨w3, hw3⟩ : ∃ w3, w3 = w2.alloc (.cells #[.int .i64 1, .int .i64 0, .int .i64 0] 58) := ⟨_, rfl⟩
      have hb3 : Below w2.heap.size w2 w3 := by rw [hw3]; exact Gr.new _ _
      have hin2 : RepIn w1 w2 w1.heap.size ea en ec va vn vc rp := ⟨Nat.le_refl _, by rw [hw2]; exact heap_alloc_new _ _⟩
      have hin := hin2.grown hb3
      have hsp : w3.heap[w2.heap.size]? = some (.cells #[.int .i64 1, .int .i64 0, .int .i64 0] 58 (0, 0)) := by rw [hw3]; exact heap_alloc_new _ _
      have hb03 := Gr.trans hb1 (Gr.trans hb2 hb3)
      have hlen : rp.evs.length < 1000000 := by have := Q3.out; have := Hnp.out; omega
      have WH := Lib.hid (whole_ok HK.out w3 calls ca ea va cc en ec vn vc w2.heap.size 0 1 ers rp (by rw [cell_blk hsp]; rfl) (by rw [cell_blk hsp]; rfl) (by rw [cell_blk hsp]; rfl) (hrep.grown (Gr.trans hb2 hb3)) hen hlen (Hc.out.grown hb03) Q1.out)
      have Hb03 := Lib.hid hb03; have Hw2 := Lib.hid hw2; have Hw3 := Lib.hid hw3
      have r0 : w2.cell? ⟨w1.heap.size, 0, none⟩ = some (.slice ea en ec) := hin2.cell 0
      have r1 : w2.cell? ⟨w1.heap.size, 1, none⟩ = some (.slice va vn vc) := hin2.cell 1
      have r2 : w2.cell? ⟨w1.heap.size, 2, none⟩ = some (.int .i64 (rp.c.read : Int)) := hin2.cell 2
      have r3 : w2.cell? ⟨w1.heap.size, 3, none⟩ = some (.int .i64 (rp.c.write : Int)) := hin2.cell 3
      have r4 : w2.cell? ⟨w1.heap.size, 4, none⟩ = some (.int .i64 (rp.c.swap : Int)) := hin2.cell 4
      have r5 : w2.cell? ⟨w1.heap.size, 5, none⟩ = some (.int .i64 (rp.c.add : Int)) := hin2.cell 5
      have r6 : w2.cell? ⟨w1.heap.size, 6, none⟩ = some (.int .i64 (rp.c.fault : Int)) := hin2.cell 6
      have r7 : w2.cell? ⟨w1.heap.size, 7, none⟩ = some (.int .i64 (rp.ticks : Int)) := hin2.cell 7
      have r8 : w2.cell? ⟨w1.heap.size, 8, none⟩ = some (.int .i64 (rp.idle : Int)) := hin2.cell 8
      have hlt2 : w1.heap.size < w2.heap.size := blk_lt hin2.blk
      clear hrep hb1 hb2 hb3 hin hin2 hsp hb03 hw2 hw3 hvn hen hlen
      unfold repV
      unfold repV at WH
      go_upto_region 4 with fail
      rw [← Hw2.out]
      go_wp2_with fail
      rw [← Hw3.out]
      refine WH.out.mono ?_
      rintro e w4 ⟨rfl, hb4⟩
      have Hb4 := Lib.hid hb4
      clear hb4 r0 r1 r2 r3 r4 r5 r6 r7 r8
      go_wp2_with (go_at_call 24; refine (T.out _).mono ?_; rintro e w' ⟨rfl, hb⟩)
      go_ret
      exact ⟨rfl, Gr.trans Hb03.out (Gr.trans Hb4.out hb)⟩
    · have hn0 : ¬ er = 0 := her0
      have Hn0 := Lib.hid her0
      go_enter Try.func4, Try.ntmps4
      go_wp2_with (go_at_call 15; refine (HM.out).mono ?_; rintro e w' ⟨rfl, rfl⟩)
      refine HP.out.mono ?_
      rintro e w1 ⟨ea, en, ec, va, vn, vc, rp, rfl, hb1, hr⟩
      rcases hr with ⟨_, rfl, rfl, rfl, rfl, rfl, rfl, rfl⟩ | ⟨h0, _⟩
      · unfold repV
        have N := Lib.hid none_true
        go_wp2_with (first | (go_at_call 18; refine (N.out _).mono ?_; rintro e w2 ⟨rfl, hb2⟩) | (go_at_call 24; refine (T.out _).mono ?_; rintro e w' ⟨rfl, hb⟩))
        go_ret
        exact ⟨rfl, Gr.trans hb1 (Gr.trans (Gr.new _ _) (Gr.trans hb2 hb))⟩
      · exact absurd h0 her0
end Go.Proofs.Ytjkgfkbanbhkgaa
