/- Layer 6: LoomStays for every input. -/
import Derived.Test.YtkocgeedpinplaaStayX
set_option maxRecDepth 100000
namespace Go.Proofs.Ytkocgeedpinplaa
open Go.RowKit

set_option maxHeartbeats 4000000 in
theorem loomStays_any (q0 q1 q2 : Int) (calls : List CallD) (picks : List Int) (ca pa : Option Addr) (cc pc : Nat) (w : World) (hc : CallsAt noB w ca calls) (hp : PicksAt w pa picks) (hpc : picks.length ≤ pc) :
    Calls Try.prog 7 #[.agg #[.int .i64 q0, .int .i64 q1, .int .i64 q2], .slice ca calls.length cc, .slice pa picks.length pc] w fun e w' => e = .returned (.bool true) ∧ Below w.heap.size w w' := by
  by_cases hin : manyB calls.length picks.length = false ∧ 0 ≤ q2 ∧ q2 ≤ picks.length
  · obtain ⟨h1, h2, h3⟩ := hin
    obtain ⟨k, rfl⟩ : ∃ k : Nat, q2 = (k : Int) := ⟨q2.toNat, by omega⟩
    exact loomStays_in q0 q1 k calls picks ca pa cc pc w hc hp (by omega) hpc h1
  · have M := many_any ca pa calls.length picks.length cc pc (w.alloc (.cells #[.int .i64 q0, .int .i64 q1, .int .i64 q2] 63)) hc.sl.1 hp.sl.1
    have T := Lib.hid adds_true
    obtain ⟨m, hm⟩ : ∃ m, m = manyB calls.length picks.length := ⟨_, rfl⟩
    rw [← hm] at M hin
    have HM := Lib.hid M
    clear M hc hp hm
    cases m with
    | true =>
      clear hin
      go_enter Try.func7, Try.ntmps7
      go_wp2_with (first | (go_at_call 28; refine (HM.out).mono ?_; rintro e w' ⟨rfl, rfl⟩) | (go_at_call 29; refine (T.out _).mono ?_; rintro e w' ⟨rfl, hb⟩))
      go_ret
      exact ⟨rfl, Gr.trans (Gr.new _ _) hb⟩
    | false =>
      by_cases h2 : q2 < 0
      · clear hin
        go_enter Try.func7, Try.ntmps7
        go_wp2_with (first | (go_at_call 28; refine (HM.out).mono ?_; rintro e w' ⟨rfl, rfl⟩) | (go_at_call 29; refine (T.out _).mono ?_; rintro e w' ⟨rfl, hb⟩))
        go_ret
        exact ⟨rfl, Gr.trans (Gr.new _ _) hb⟩
      · have h3 : (picks.length : Int) < q2 := by
          refine Classical.byContradiction fun h => hin ⟨rfl, by omega, by omega⟩
        clear hin
        go_enter Try.func7, Try.ntmps7
        go_wp2_with (first | (go_at_call 28; refine (HM.out).mono ?_; rintro e w' ⟨rfl, rfl⟩) | (go_at_call 29; refine (T.out _).mono ?_; rintro e w' ⟨rfl, hb⟩))
        go_ret
        exact ⟨rfl, Gr.trans (Gr.new _ _) hb⟩
end Go.Proofs.Ytkocgeedpinplaa
