/- Layer 2: the example of the laws; the reference. -/
import Derived.Test.YtkocgeedpinplaaMemC
set_option maxRecDepth 100000
namespace Go.Proofs.Ytkocgeedpinplaa
open Go.RowKit

theorem two_true (w : World) : Calls Try.prog 16 #[] w fun e w' => e = .returned (.bool true) ∧ Below w.heap.size w w' := by
  have hs : SlAt (w.alloc (.cells #[.int .u64 5, .int .u64 7] 24)) (some ⟨w.heap.size, 0, none⟩) [5, 7].length 1 (u64G [5, 7]) := by
    refine ⟨by unfold maxLen; simp, fun j hj => ⟨_, _, rfl, by simp, fun f hf => ?_⟩⟩
    obtain rfl : f = 0 := by omega
    rw [cell_new]
    match j, hj with
    | 0, _ => rfl
    | 1, _ => rfl
  have N := Lib.hid (new_mem (some ⟨w.heap.size, 0, none⟩) 2 [5, 7] _ hs (by simp) (by simp) (by simp))
  have hbw := Lib.hid (Gr.new w (.cells #[.int .u64 5, .int .u64 7] 24))
  clear hs
  go_enter Try.func16, Try.ntmps16
  go_wp2_with fail
  refine N.out.mono ?_
  rintro e w1 ⟨bm, bw, rfl, hm, hb, hq1, hq2⟩
  have Hm := Lib.hid hm
  have Hc := Lib.hid (Chg.of_below (S := MemSet bm bw) (Gr.trans hbw.out hb))
  have Hq1 := Lib.hid hq1; have Hq2 := Lib.hid hq2
  clear hm hb hq1 hq2
  have A2 := Lib.hid (show Calls Try.prog 19 #[.pointer (some ⟨bm, 0, none⟩), .int .i64 1, .int .u64 7, .int .u64 9] w1 fun e w' => e = .returned (.bool true) ∧ MemAt w' bm bw ⟨[5, 9], ⟨0, 0, 1, 0, 0⟩⟩ ∧ Chg (MemSet bm bw) w1 w' from swap_any bm bw ⟨[5, 7], c0⟩ 1 7 9 w1 Hm.out (by decide) (by decide))
  go_wp2_with fail
  refine A2.out.mono ?_
  rintro e w2 ⟨rfl, hm, hc⟩
  have Hm2 := Lib.hid hm; have Hc2 := Lib.hid (Hc.out.trans hc)
  have A3 := Lib.hid (show Calls Try.prog 20 #[.pointer (some ⟨bm, 0, none⟩), .int .i64 0, .int .u64 3] w2 fun e w' => e = .returned (.int .u64 5) ∧ MemAt w' bm bw ⟨[8, 9], ⟨0, 0, 1, 1, 0⟩⟩ ∧ Chg (MemSet bm bw) w2 w' from add_any bm bw _ 0 3 w2 hm (by decide))
  clear hm hc
  go_wp2_with fail
  refine A3.out.mono ?_
  rintro e w3 ⟨rfl, hm, hc⟩
  have Hc3 := Lib.hid (Hc2.out.trans hc)
  have A4 := Lib.hid (show Calls Try.prog 18 #[.pointer (some ⟨bm, 0, none⟩), .int .i64 0] w3 fun e w' => e = .returned (.int .u64 8) ∧ MemAt w' bm bw ⟨[8, 9], ⟨1, 0, 1, 1, 0⟩⟩ ∧ Chg (MemSet bm bw) w3 w' from read_any bm bw _ 0 w3 hm (by decide))
  clear hm hc
  go_wp2_with fail
  refine A4.out.mono ?_
  rintro e w4 ⟨rfl, hm, hc⟩
  have Hc4 := Lib.hid (Hc3.out.trans hc)
  have A5 := Lib.hid (show Calls Try.prog 18 #[.pointer (some ⟨bm, 0, none⟩), .int .i64 1] w4 fun e w' => e = .returned (.int .u64 9) ∧ MemAt w' bm bw ⟨[8, 9], ⟨2, 0, 1, 1, 0⟩⟩ ∧ Chg (MemSet bm bw) w4 w' from read_any bm bw _ 1 w4 hm (by decide))
  clear hm hc
  go_wp2_with fail
  refine A5.out.mono ?_
  rintro e w5 ⟨rfl, hm, hc⟩
  have Hc5 := Lib.hid (Hc4.out.trans hc)
  have A6 := Lib.hid (len_any bm bw _ w5 hm)
  have A7 := Lib.hid (counts_any bm bw _ w5 hm)
  clear hm hc
  go_wp2_with fail
  refine A6.out.mono ?_
  rintro e w6 ⟨rfl, rfl⟩
  go_wp2_with fail
  refine A7.out.mono ?_
  rintro e w7 ⟨rfl, hb⟩
  have Hc6 := Lib.hid (Hc5.out.trans (Chg.of_below hb))
  clear hb
  unfold countsV
  go_wp2
  go_ret
  refine ⟨rfl, Hc6.out.below (fun k hk => ?_) (Nat.le_refl _)⟩
  have h1 := Hq1.out; have h2 := Hq2.out
  simp at h1 h2
  rcases hk with rfl | hk
  · omega
  · have := h2 k hk.symm; omega
end Go.Proofs.Ytkocgeedpinplaa
