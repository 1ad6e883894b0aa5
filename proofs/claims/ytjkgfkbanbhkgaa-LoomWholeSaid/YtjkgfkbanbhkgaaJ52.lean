/- LoomWhole for every input. -/
import Derived.Test.YtjkgfkbanbhkgaaJ51
set_option maxRecDepth 100000
set_option linter.unusedVariables false
set_option linter.unusedSimpArgs false
set_option linter.unnecessarySimpa false
namespace Go.Proofs.Ytjkgfkbanbhkgaa
open Go.RowKit

set_option maxHeartbeats 4000000 in
theorem loomWhole_any (q0 q1 : Int) (calls : List CallD) (picks : List Int) (ca pa : Option Addr) (cc pc : Nat) (w : World) (hc : CallsAt noB w ca calls) (hp : PicksAt w pa picks) :
    Calls Try.prog 3 #[.agg #[.int .i64 q0, .int .i64 q1], .slice ca calls.length cc, .slice pa picks.length pc] w fun e w' => e = .returned (.bool true) ∧ Below w.heap.size w w' := by
  have hgb : Below w.heap.size w (w.alloc (.cells #[.int .i64 q0, .int .i64 q1] 22)) := Gr.new _ _
  have M := many_any ca pa calls.length picks.length cc pc (w.alloc (.cells #[.int .i64 q0, .int .i64 q1] 22)) hc.sl.1 hp.sl.1
  have T := Lib.hid adds_true
  cases hM : manyB calls.length picks.length with
  | true =>
    rw [hM] at M
    have HM := Lib.hid M
    clear M hc hp hM hgb
    go_enter Try.func3, Try.ntmps3
    go_wp2_with (first | (go_at_call 15; refine (HM.out).mono ?_; rintro e w' ⟨rfl, rfl⟩) | (go_at_call 16; refine (T.out _).mono ?_; rintro e w' ⟨rfl, hb⟩))
    go_ret
    exact ⟨rfl, Gr.trans (Gr.new _ _) hb⟩
  | false =>
    by_cases her0 : cellsN q0 q1 calls picks.length = 0
    · obtain ⟨hck1, hs1, hs2⟩ := cellsN_zero her0
      obtain ⟨z1, z2, _⟩ := wrongN_zero (checkN_zero hck1).1
      obtain ⟨m, rfl⟩ : ∃ m : Nat, q0 = (m : Int) := ⟨q0.toNat, by omega⟩
      obtain ⟨sz, rfl⟩ : ∃ sz : Nat, q1 = (sz : Int) := ⟨q1.toNat, by omega⟩
      exact loomWhole_in m sz calls picks ca pa cc pc w hc hp hM her0
    · rw [hM] at M
      have HM := Lib.hid M
      have P := cellsPlay_any noB (w.alloc (.cells #[.int .i64 q0, .int .i64 q1] 22)) q0 q1 calls picks ca pa cc pc (fun b hb => hb.elim) (hc.grown hgb) (hp.grown hgb)
      obtain ⟨er, her⟩ : ∃ er, er = cellsN q0 q1 calls picks.length := ⟨_, rfl⟩
      rw [← her] at P her0
      have HP := Lib.hid P; have Hgb := Lib.hid hgb
      have hn0 : ¬ er = 0 := her0
      clear M P hc hp hM her hgb
      go_enter Try.func3, Try.ntmps3
      go_wp2_with (go_at_call 15; refine (HM.out).mono ?_; rintro e w' ⟨rfl, rfl⟩)
      refine HP.out.mono ?_
      rintro e w1 ⟨ea, en, ec, va, vn, vc, rp, rfl, hb1, hr⟩
      rcases hr with ⟨_, rfl, rfl, rfl, rfl, rfl, rfl, rfl⟩ | ⟨h0, _⟩
      · unfold repV
        have N := Lib.hid none_true
        go_wp2_with (first | (go_at_call 18; refine (N.out _).mono ?_; rintro e w2 ⟨rfl, hb2⟩) | (go_at_call 16; refine (T.out _).mono ?_; rintro e w' ⟨rfl, hb⟩))
        go_ret
        exact ⟨rfl, Gr.trans Hgb.out (Gr.trans hb1 (Gr.trans (Gr.new _ _) (Gr.trans hb2 hb)))⟩
      · exact absurd h0 her0
end Go.Proofs.Ytjkgfkbanbhkgaa
