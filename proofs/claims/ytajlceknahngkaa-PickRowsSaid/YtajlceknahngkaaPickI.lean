/- Layer 5: the law PickRows: walk. -/
import Derived.Test.YtajlceknahngkaaPickH
set_option maxRecDepth 100000
namespace Go.Proofs.Ytajlceknahngkaa
open Go.RowKit

set_option maxHeartbeats 4000000 in
theorem pickRows_any (n : Int) (l : List CallD) (need picks : List Int) (a a2 a3 : Option Addr) (c c2 c3 : Nat) (w : World) (hs : SlAt w a l.length 6 (callG l)) (hwf : ∀ x ∈ l, (Lit.int .i64 x.thread).wf = true)
    (hs2 : SlAt w a2 need.length 1 (intG need)) (hs3 : SlAt w a3 picks.length 1 (intG picks)) (hpw : ∀ x ∈ picks, (Lit.int .i64 x).wf = true) :
    Calls Try.prog 12 #[.int .i64 n, .slice a l.length c, .agg #[.slice a2 need.length c2, .slice a3 picks.length c3]] w fun e w' => e = .returned (.bool true) ∧ Below w.heap.size w w' := by
  have hm := hs.1; have hm2 := hs2.1; have hm3 := hs3.1
  unfold maxLen at hm hm2 hm3
  have P := Lib.hid pair05
  by_cases g1 : 300 < l.length
  · have d1 : (300 : Int) < l.length := by omega
    clear hs hwf hs2 hs3 hpw g1
    go_enter Try.func12, Try.ntmps12
    go_wp2_with fail
    refine (P.out _).mono ?_
    rintro e w' ⟨rfl, hb⟩
    go_wp2
    go_ret
    exact ⟨rfl, Gr.trans (Gr.new _ _) hb⟩
  have d1 : ¬ (300 : Int) < l.length := by omega
  by_cases g2 : 300 < need.length
  · have d2 : (300 : Int) < need.length := by omega
    clear hs hwf hs2 hs3 hpw g1 g2
    go_enter Try.func12, Try.ntmps12
    go_wp2_with fail
    refine (P.out _).mono ?_
    rintro e w' ⟨rfl, hb⟩
    go_wp2
    go_ret
    exact ⟨rfl, Gr.trans (Gr.new _ _) hb⟩
  have d2 : ¬ (300 : Int) < need.length := by omega
  by_cases g3 : 1000 < picks.length
  · have d3 : (1000 : Int) < picks.length := by omega
    clear hs hwf hs2 hs3 hpw g1 g2 g3
    go_enter Try.func12, Try.ntmps12
    go_wp2_with fail
    refine (P.out _).mono ?_
    rintro e w' ⟨rfl, hb⟩
    go_wp2
    go_ret
    exact ⟨rfl, Gr.trans (Gr.new _ _) hb⟩
  have d3 : ¬ (1000 : Int) < picks.length := by omega
  by_cases g4 : wrongN n l = 0
  · obtain ⟨h1, h2, hl, hab⟩ := wrongN_zero g4
    have T := Lib.hid (fun (w' : World) (h : Below w.heap.size w w') => turns_ok n l need picks a a2 a3 c c2 c3 w' (hs.grown h) hwf g4 (hs2.grown h) (hs3.grown h) (by omega) hpw)
    have Hs := Lib.hid hs; have Hab := Lib.hid hab
    obtain ⟨i0, hi, hz0, hz1, hz2⟩ := info_parts int_info'
    have hmk : ∀ u : World, (Instr.makeSlice 36 (.int .i64 16) (.int .i64 16)).run Try.prog u = .ok (.slice (some ⟨u.heap.size, 0, none⟩) 16 16) (u.alloc (.cells (madeCells #[.int .i64 0] 16) 3)) := fun u => by
      have h := run_make (P := Try.prog) u 36 3 i0 (.int .i64 0) Try.underlying36 hi hz0 .i64 .i64 16 16 (by omega) (Int.le_refl _) (by rw [hz2]; omega) (by omega)
      simpa [hz1, Value.cells] using h
    clear hs hwf hs2 hs3 hpw g1 g2 g3 g4 hl hab
    go_enter Try.func12, Try.ntmps12
    go_wp2_with fail
    refine (T.out _ (Gr.new _ _)).mono ?_
    rintro e w1 ⟨out, idle, ao, co, ht, rfl, hsl, hb1⟩
    have k1 := box_cell hb1 1
    have Hb1 := Lib.hid (Gr.trans (Gr.new w _) hb1); have Hsl := Lib.hid hsl
    have hmo := hsl.1
    unfold maxLen at hmo
    clear hb1 hsl
    go_wp2
    obtain ⟨hsum, hord⟩ := turnsN_inv ht.out
    have Hord := Lib.hid hord
    clear hord
    go_loopw [11, 12, 51] (fun _ _ i wr => ∃ (k : Nat) (last : List Nat), k ≤ out.length ∧ i = .int .i64 k ∧ Below w1.heap.size w1 wr ∧ wr.heap[w1.heap.size]? = some (.cells (last.map natV).toArray 3 (0, 0)) ∧ last.length = 16 ∧ Hid (lastOk l (out.take k) last)) (fun _ _ i _ => out.length - (intOf i).toNat)
    case atStart =>
      refine ⟨0, List.replicate 16 0, Nat.zero_le _, rfl, Gr.new _ _, ?_, by simp, lastOk_init l⟩
      rw [heap_alloc_new, madeCells_one]
      simp [natV]
    case round =>
      obtain ⟨k, last, hk, rfl, hbr, hblk, hll, hlast⟩ := hrel
      by_cases hlt : k < out.length
      · obtain ⟨b4, o4, rfl, h4⟩ := Hsl.out.elem hbr hlt
        obtain ⟨x, hx⟩ : ∃ x, x = out[k] := ⟨_, rfl⟩
        have hxl : x < l.length := by rw [hx]; exact Hord.out.1 _ (List.getElem_mem hlt)
        obtain ⟨b0, o0, rfl, e0, er⟩ := call_cells Hs.out (Gr.trans Hb1.out hbr) hxl
        clear er
        have hthr : l[x].thread = thr l x := by unfold thr; rw [List.getD_eq_getElem?_getD]; simp [hxl]
        obtain ⟨ht0, htn⟩ := bad_none Hab.out hxl
        obtain ⟨t, htt⟩ : ∃ t : Nat, thr l x = (t : Int) := ⟨(thr l x).toNat, by omega⟩
        rw [hthr, htt] at e0
        have e4 : wr.cell? ⟨b4, o4 + k, none⟩ = some (.int .i64 (x : Int)) := by have h0 := h4 0 (by omega); rw [Nat.mul_one, Nat.add_zero] at h0; rw [h0, hx]; simp [natG, List.getD_eq_getElem?_getD, hlt]
        obtain ⟨v, hv⟩ : ∃ v, v = last.getD t 0 := ⟨_, rfl⟩
        have hvx : v ≤ x := by rw [hv, hx]; exact lastOk_le hlt hlast.out Hord.out (by rw [← hx]; exact htt)
        have ht16 : t < 16 := by omega
        have e5 : wr.cell? ⟨w1.heap.size, t, none⟩ = some (.int .i64 (v : Int)) := by
          rw [cell_blk hblk, hv]
          have : t < last.length := by omega
          simp [natV, List.getD_eq_getElem?_getD, this]
        have f5 : wr.frozen? ⟨w1.heap.size, t, none⟩ = false := frozen_blk hblk t
        have hnx := lastOk_set hlt hlast.out (t := t) (by rw [← hx]; exact htt) (by omega)
        rw [← hx] at hnx
        have hrel2 : ∀ nq, ∃ (k1 : Nat) (last : List Nat), k1 ≤ out.length ∧ Value.int .i64 ((k : Int) + 1) = .int .i64 k1 ∧ Below w1.heap.size w1 ((wr.drewN nq).setCell ⟨w1.heap.size, t, none⟩ (.int .i64 (x : Int))) ∧ ((wr.drewN nq).setCell ⟨w1.heap.size, t, none⟩ (.int .i64 (x : Int))).heap[w1.heap.size]? = some (.cells (last.map natV).toArray 3 (0, 0)) ∧ last.length = 16 ∧ Hid (lastOk l (out.take k1) last) := by
          intro nq
          refine ⟨k + 1, last.set t x, by omega, by go_num, (below_drewN hbr nq).setCell (Nat.le_refl _) _, ?_, by rw [List.length_set]; exact hll, hnx⟩
          rw [blk_set (w := wr.drewN nq) hblk t]
          congr 2
          apply Array.ext'
          simp [natV]
        have Hrel := Lib.hid hrel2
        have a1 : (x : Int) < (l.length : Int) := by omega
        have a2 : (t : Int) < n := by omega
        have a3 : (t : Int) < 16 := by omega
        have a4 : ¬ (x : Int) < (v : Int) := by omega
        have a5 : (k : Int) < (out.length : Int) := by omega
        clear h4 hx hthr ht0 htn htt hv hvx hnx hrel2 hlast hblk hbr hxl
        go_wp2_with fail
        go_quiet (fail)
        have e6 : (wr.drewN nq).cell? ⟨b4, o4 + k, none⟩ = some (.int .i64 (x : Int)) := e4
        have e7 : (wr.drewN nq).cell? ⟨w1.heap.size, t, none⟩ = some (.int .i64 (v : Int)) := e5
        have e8 : (wr.drewN nq).frozen? ⟨w1.heap.size, t, none⟩ = false := f5
        go_wp2
        go_roundw
        case rel => exact Hrel.out nq
        case measure => simp [intOf] <;> omega
      · obtain rfl : k = out.length := by omega
        have k2 := (hbr.cell (cell_lt k1)).trans k1
        have Hbr := Lib.hid (Gr.trans Hb1.out hbr)
        clear hbr hblk hlast k1
        go_wp2_with fail
        refine (P.out _).mono ?_
        rintro e w' ⟨rfl, hb⟩
        go_wp2
        go_ret
        exact ⟨rfl, Gr.trans Hbr.out hb⟩
  · have T := Lib.hid (fun (w' : World) (h : Below w.heap.size w w') => turns_bad n l a a2 a3 c need.length c2 picks.length c3 w' (hs.grown h) hwf g4)
    obtain ⟨r, hr, hr2⟩ : ∃ r, r = wrongN n l ∧ (r = 1 ∨ r = 3) := ⟨_, rfl, by rcases wrongN_cases n l with h | h | h <;> omega⟩
    rw [← hr] at T
    clear hs hwf hs2 hs3 hpw g1 g2 g3 g4 hr
    rcases hr2 with rfl | rfl
    all_goals
      go_enter Try.func12, Try.ntmps12
      go_wp2_with fail
      refine (T.out _ (Gr.new _ _)).mono ?_
      rintro e w1 ⟨rfl, hb1⟩
      have Hb1 := Lib.hid (Gr.trans (Gr.new w _) hb1); clear hb1
      go_wp2_with fail
      refine (P.out _).mono ?_
      rintro e w' ⟨rfl, hb⟩
      go_wp2
      go_ret
      exact ⟨rfl, Gr.trans Hb1.out hb⟩
end Go.Proofs.Ytajlceknahngkaa
