/- Layer 8: the tally's machines: counting. -/
import Derived.Test.YteffgpcjfnjlkaaGreatT35
set_option maxRecDepth 100000
set_option linter.unusedVariables false
set_option linter.unusedSimpArgs false
set_option linter.unnecessarySimpa false
namespace Go.Proofs.YteffgpcjfnjlkaaGreat
open Go.RowKit
theorem int_info9 : (Tryz.prog.info? 3).map (fun i => (i.zero, i.size, i.bytes)) = some (some (.int .i64 0), 1, 8) := by kernel_rfl
theorem int_size' : (Tryz.prog.info? 3).map (·.size) = some 1 := by kernel_rfl
theorem make_ints (m : Nat) (v : Int) (hv : v = (m : Int)) (hm : m ≤ 1000000) (u : World) : (Instr.makeSlice 24 (.int .i64 v) (.int .i64 v)).run Tryz.prog u = .ok (.slice (some ⟨u.heap.size, 0, none⟩) m m) (u.alloc (.cells (Array.replicate m (Value.int .i64 0)) 3)) := by
 subst hv
 obtain ⟨i0, hi, hz0, hz1, hz2⟩ := info_parts int_info9
 have h := run_make (P := Tryz.prog) u 24 3 i0 (.int .i64 0) Tryz.underlying24 hi hz0 .i64 .i64 (m : Int) (m : Int) (by omega) (Int.le_refl _) (by rw [hz2]; omega) (by omega)
 simpa [hz1, Value.cells, madeCells_one] using h
theorem splice_front {α : Type} (x : α) (cs : List α) : splice (List.replicate (cs.length + 1) x) 0 cs = cs ++ [x] := by
 unfold splice
 simp [List.drop_replicate]
set_option maxHeartbeats 4000000 in
theorem count_write (w : World) (Mut B : Nat → Prop) (I : WIds) (N : Nat) (wd : WD) (n p v b : Nat) (hw : WorldAt w Mut I N wd) (hbk : w.heap[b]? = some (.cells (taCount n p v true) 251 (0, 0))) (hb : B b) (hB : ∀ b, B b → Mut b ∧ ¬ WSet I b) (hp : p < 16) (hc : wd.mem.c.all + 1 < 1000000000000)
  (hv : v < 1000000) (hL : (wd.traces 0).length < 1000000) (hN : N + 1 < 1000000000) :
  Calls Tryz.prog 217 #[.pointer (some ⟨b, 0, none⟩), .pointer (some ⟨I.bW, 0, none⟩)] w fun e w' => OwnTo w w' Mut B I (N + 1) (taWrite wd p v) b (taCount n p v true) 251 true e := by
 obtain ⟨s1, s2, s3⟩ := memSet_sub hw
 obtain ⟨mks, hwb, _, _⟩ := hw.blk
 have x0 : w.cell? ⟨I.bW, 0, none⟩ = some (.pointer (some ⟨I.bm, 0, none⟩)) := by rw [cell_blk hwb]; exact world_mem
 have x1 : w.cell? ⟨I.bW, 1, none⟩ = some (.int .i64 (wd.now : Int)) := by rw [cell_blk hwb]; exact world_now
 have y0 : w.cell? ⟨b, 0, none⟩ = some (.int .i64 0) := by rw [cell_blk hbk]; rfl
 have y2 : w.cell? ⟨b, 2, none⟩ = some (.int .i64 (p : Int)) := by rw [cell_blk hbk]; rfl
 have y3 : w.cell? ⟨b, 3, none⟩ = some (.int .u64 (v : Int)) := by rw [cell_blk hbk]; rfl
 have y4 : w.cell? ⟨b, 4, none⟩ = some (.bool true) := by rw [cell_blk hbk]; rfl
 have hblt := blk_lt hbk
 have nb : ¬ MemSet I.bm I.bw b := fun h => (hB b hb).2 (s3 b h).1
 have Wr := Lib.hid (fun (u : World) (h : Chg noB w u) => write_any I.bm I.bw wd.mem (p : Int) (v + 1) u (hw.mem.chg h (fun h => h) (fun _ _ h => h)) (by omega) hc)
 rw [show (((v + 1 : Nat) : Int)) = (v : Int) + 1 by omega] at Wr
 obtain ⟨ticks, htk⟩ : ∃ ticks, ticks = wd.traces 0 := ⟨_, rfl⟩
 obtain ⟨now, hnow⟩ : ∃ now, now = wd.now := ⟨_, rfl⟩
 rw [← hnow] at x1
 obtain ⟨L, hLn⟩ : ∃ L, L = ticks.length := ⟨_, rfl⟩
 rw [← htk, ← hLn] at hL
 have Hw := Lib.hid hw; have Hbk := Lib.hid hbk; have Nb := Lib.hid nb; have HB := Lib.hid hB; have Hb := Lib.hid hb; have S2 := Lib.hid s2; have Htk := Lib.hid htk; have Hnow := Lib.hid hnow; have HL := Lib.hid hLn
 have hpi : (p : Int) < 16 := by omega
 have wp : IntKind.i64.wrap (p : Int) = (p : Int) := by rw [IntKind.wrap_i64]; omega
 have hvi : (v : Int) < 1000000 := by omega
 have wv : IntKind.u64.wrap ((v : Int) + 1) = (v : Int) + 1 := by rw [IntKind.wrap_u64]; omega
 clear hw hbk hwb s1 s2 s3 nb hB hb htk hnow hLn hv
 go_enter Tryz.func217, Tryz.ntmps217
 go_wp2_with fail
 go_region_held3 (fun u => u.cell? ⟨I.bW, 0, none⟩ = some (.pointer (some ⟨I.bm, 0, none⟩)) ∧ u.cell? ⟨b, 0, none⟩ = some (.int .i64 0) ∧ u.cell? ⟨b, 2, none⟩ = some (.int .i64 (p : Int)) ∧ u.cell? ⟨b, 3, none⟩ = some (.int .u64 (v : Int)))
  (first | exact ⟨x0, y0, y2, y3⟩ | exact ⟨z0, zw, z2, z3⟩)
  ((go_at_call 204; refine (Wr.out _ ?_).mono ?_; (exact (Chg.refl _ _).drew); rintro e w1 ⟨rfl, hm1, hc1⟩; have hc1' : Chg (MemSet I.bm I.bw) w w1 := ((Chg.refl _ w).drew).trans hc1; have z0 := box_keep hc1' S2.out x0; have zx1 := box_keep hc1' S2.out x1; have hbk1 := (hc1'.block b hblt Nb.out).trans Hbk.out; have zw : w1.cell? ⟨b, 0, none⟩ = some (.int .i64 0) := (by rw [cell_blk hbk1]; rfl); have z2 : w1.cell? ⟨b, 2, none⟩ = some (.int .i64 (p : Int)) := (by rw [cell_blk hbk1]; rfl); have z3 : w1.cell? ⟨b, 3, none⟩ = some (.int .u64 (v : Int)) := (by rw [cell_blk hbk1]; rfl)))
 obtain ⟨hw1, hch1⟩ := Hw.out.mems hc1' hm1
 have Tr := Lib.hid (trace_any w1 Mut I N _ 0 hw1 (by rfl))
 have Hw1 := Lib.hid hw1; have Hch1 := Lib.hid hch1; have Hbk1 := Lib.hid hbk1
 have hwlt1 := hw1.wlt
 have hblt1 := blk_lt hbk1
 clear hw1 hch1 hbk1 hc1 hc1' hm1 x0 x1 y0 y2 y3 y4 z2 z3
 go_wp2_with fail
 refine Tr.out.mono ?_
 rintro e w2 ⟨⟨tv, rfl, ta, tc, htv, htn, hts, htm⟩, rfl⟩
 replace hts : SlAt w1 ta (wd.traces 0).length 1 (intG (wd.traces 0)) := hts
 replace htv : tv = .slice ta (wd.traces 0).length tc := htv
 rw [← Htk.out] at hts htv
 rw [← HL.out] at hts htv
 subst htv
 have hmk := make_ints (L + 1) ((L : Int) + 1) (by omega) (by omega)
 have Hts := Lib.hid hts; have Htm := Lib.hid htm
 clear hts htm htn
 obtain ⟨wc, hwc⟩ : ∃ wc, wc = w1.alloc (.cells (Array.replicate (L + 1) (Value.int .i64 0)) 3) := ⟨_, rfl⟩
 have hgc : Below w1.heap.size w1 wc := by rw [hwc]; exact Gr.new _ _
 have hcg : wc.heap[w1.heap.size]? = some (.cells (List.replicate (L + 1) (Value.int .i64 0)).toArray 3 (0, 0)) := by rw [hwc, heap_alloc_new]; simp
 obtain ⟨cs, hcs⟩ : ∃ cs, cs = ticks.map (Value.int .i64) := ⟨_, rfl⟩
 have hcl : cs.length = L := by rw [hcs, HL.out]; simp
 have Hwc := Lib.hid hwc; have Hgc := Lib.hid hgc; have Hcg := Lib.hid hcg; have Hcs := Lib.hid hcs; have Hcl := Lib.hid hcl
 clear hwc hgc hcg hcs hcl
 go_wp2_with (rw [← Hwc.out]; with_reducible refine wpList_copy_splice rfl _ _ 24 24 rfl 3 Tryz.underlying24 int_size' _ _ _ _ _ _ rfl rfl w1.heap.size 0 (List.replicate (L + 1) (Value.int .i64 0)) 3 Hcg.out cs ?c1 ?c2 ?c3 ?c4 w1.heap.size w1 Hgc.out (Nat.le_refl _) ?_)
 case c1 => rw [Hcl.out]; simp only [Nat.min_def]; split <;> omega
 case c2 =>
  intro h0
  obtain ⟨tb, tof, rfl, _⟩ := Hts.out.lt (by rw [← Hcl.out]; exact h0)
  try refine ⟨rfl, ?_⟩
  refine ⟨_, rfl, fun j x hj => ?_⟩
  have hjl : j < L := by
   rcases Nat.lt_or_ge j cs.length with h | h
   ·rw [← Hcl.out]; exact h
   ·rw [List.getElem?_eq_none h] at hj; cases hj
  obtain ⟨b9, o9, e9, h9⟩ := (Hts.out.grown Hgc.out).2 j hjl
  cases e9
  have h10 := h9.2 0 (by omega)
  rw [Nat.mul_one, Nat.add_zero] at h10
  unfold Addr.add
  rw [Hcs.out] at hj
  have e0 : (if j = 0 then (⟨tb, tof, none⟩ : Addr) else ⟨tb, tof + j, none⟩) = ⟨tb, tof + j, none⟩ := by split <;> simp_all
  first
  | rw [e0, h10]
  | (simp only; rw [h10])
  | (split <;> simp_all)
  rw [← hj]
  have : j < ticks.length := by rw [← HL.out]; exact hjl
  simp [intG, List.getD_eq_getElem?_getD, this]
 case c3 => simp [Hcl.out]
 case c4 =>
  intro x hx
  rw [Hcs.out] at hx
  obtain ⟨y, _, rfl⟩ := List.mem_map.1 hx
  rfl
 intro w3 hg3 hb3
 have hg3' : w3.heap[w1.heap.size]? = some (.cells (cs ++ [Value.int .i64 0]).toArray 3 (0, 0)) := by
  have h := hg3
  unfold Hid at h
  rw [show L + 1 = cs.length + 1 by rw [Hcl.out], splice_front] at h
  exact h
 have k1 : w3.cell? ⟨w1.heap.size, L, none⟩ = some (.int .i64 0) := by
  rw [cell_blk hg3']
  simp [← Hcl.out]
 have k2 : w3.frozen? ⟨w1.heap.size, L, none⟩ = false := frozen_blk hg3' _
 have k3 : w3.cell? ⟨I.bW, 1, none⟩ = some (.int .i64 (now : Int)) := (hb3.cell hwlt1).trans zx1
 have k4 : w3.cell? ⟨b, 0, none⟩ = some (.int .i64 0) := (hb3.cell hblt1).trans zw
 obtain ⟨w4, hw4⟩ : ∃ w4, w4 = w3.setCell ⟨w1.heap.size, L, none⟩ (.int .i64 (now : Int)) := ⟨_, rfl⟩
 have hc4 : Chg noB w1 w4 := by rw [hw4]; exact (Chg.of_below hb3).setCell (.inr (Nat.le_refl _)) _
 have hg4 : w4.heap[w1.heap.size]? = some (.cells ((ticks ++ [(now : Int)]).map (Value.int .i64)).toArray 3 (0, 0)) := by
  rw [hw4, blk_set hg3']
  congr 2
  rw [← Hcl.out, Hcs.out]
  apply Array.ext'
  simp [List.set_append_right]
 have hsl4 : SlAt w4 (some ⟨w1.heap.size, 0, none⟩) (ticks ++ [(now : Int)]).length 1 (intG (ticks ++ [(now : Int)])) := ints_block hg4 (by simp; rw [← HL.out]; omega)
 have hw14 := Hw1.out.keep (S := noB) (Mut' := Mut) hc4 (fun b hb => hb.elim) (fun b hb => hb.elim) (MutUp.refl _ _) (fun b hb => Nat.lt_of_lt_of_le (Hw1.out.low b hb) hc4.size) Hw1.out.muts
 have Nt := note_any w4 Mut I N _ 0 (some ⟨w1.heap.size, 0, none⟩) (L + 1) (ticks ++ [(now : Int)]) hw14 (by rfl) hsl4 (by simp; rw [← HL.out]; omega) (by simp) (fun e => by cases e) hN
 rw [show (ticks ++ [(now : Int)]).length = L + 1 by simp [← HL.out]] at Nt
 have HNt := Lib.hid Nt; have Hw4 := Lib.hid hw4; have Hc4 := Lib.hid hc4
 have k5 : w4.cell? ⟨b, 0, none⟩ = some (.int .i64 0) := box_keep hc4 (fun h => h) zw
 have Hbk4 := Lib.hid ((hc4.block b hblt1 (fun h => h)).trans Hbk1.out)
 clear hg3 hg3' hb3 hg4 hsl4 hw14 Nt hw4 hc4 zx1 zw hmk
 go_upto_region 10 with fail
 rw [← Hw4.out]
 go_wp2_with fail
 refine HNt.out.mono ?_
 rintro e w5 ⟨rfl, hw5, hc5⟩
 have Hw5 := Lib.hid hw5; have Hc5 := Lib.hid hc5
 clear hw5 hc5 k1 k2 k3 k4 k5
 go_wp2
 go_ret
 have hw5' : WorldAt w5 Mut I (N + 1) (taWrite wd p v) := by
  have h := Hw5.out
  rw [Htk.out, Hnow.out] at h
  exact h
 refine own_fin hw5' ((Hch1.out.trans (Hc4.out.mono (fun k _ h => h.elim))).trans Hc5.out) Hb.out HB.out (Chg.refl _ _) ?_
 exact (Hc5.out.block b (blk_lt Hbk4.out) (HB.out b Hb.out).2).trans Hbk4.out
end Go.Proofs.YteffgpcjfnjlkaaGreat
