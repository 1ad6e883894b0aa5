/- Layer 6: cells as the loom's object. -/
import Derived.Test.YteffgpcjfnjlkaaGreatJ16
set_option maxRecDepth 100000
set_option linter.unusedVariables false
set_option linter.unusedSimpArgs false
set_option linter.unnecessarySimpa false
namespace Go.Proofs.YteffgpcjfnjlkaaGreat
open Go.RowKit
def cellsRef (size : Nat) (c : CallD) : Option Int := if c.kind < 0 ∨ 3 < c.kind then some 9 else if size ≤ c.a then some 10 else none
def cellsAct (c : CallD) (wd : WD) : WD × (Int × Nat) :=
  if c.kind = 0 then ({ wd with mem := (memRead wd.mem (c.a : Int)).1 }, (0, (memRead wd.mem (c.a : Int)).2))
  else if c.kind = 1 then ({ wd with mem := memWrite wd.mem (c.a : Int) c.b }, (0, 0))
  else if c.kind = 2 then ({ wd with mem := (memSwap wd.mem (c.a : Int) c.b c.c).1 }, (0, if (memSwap wd.mem (c.a : Int) c.b c.c).2 then 1 else 0))
  else ({ wd with mem := (memAdd wd.mem (c.a : Int) c.b).1 }, (0, (memAdd wd.mem (c.a : Int) c.b).2))
def callCells (c : CallD) : Array Value := #[.int .i64 c.thread, .int .i64 c.obj, .int .i64 c.kind, .int .u64 (c.a : Int), .int .u64 (c.b : Int), .int .u64 (c.c : Int)]
def cellsCap : CapRep := fun w Mut K cap c =>
  K = 203 ∧ 0 ≤ c.kind ∧ c.kind ≤ 3 ∧ CallOk c ∧ ∃ b b2, cap = #[.pointer (some ⟨b, 0, none⟩), .pointer (some ⟨b2, 0, none⟩)] ∧ w.heap[b]? = some (.cells (callCells c) 48 (0, 0)) ∧ ¬ Mut b ∧ w.cell? ⟨b2, 0, none⟩ = some (.int .i64 (c.a : Int)) ∧ ¬ Mut b2
theorem access_fin {w w1 w6 : World} {Mut : Nat → Prop} {I : WIds} {N : Nat} {wd : WD} {b v : Nat} {m' : MemD} {act : WD × (Int × Nat)} (hw : WorldAt w Mut I N wd) (hb : ¬ WSet I b) (hbl : b < w.heap.size) (hm : MemAt w1 I.bm I.bw m') (hc : Chg (MemSet I.bm I.bw) w w1) (hc2 : Chg (fun k => w.heap.size ≤ k) w1 w6) (hact : act = ({ wd with mem := m' }, (0, v))) :
    OnceIn b w (fun e v w1 => act.2 = (e, v) ∧ Chg (WSet I) w w1 ∧ WorldAt w1 Mut I N act.1) (.returned (ansV 0 v (.slice none 0 0))) w6 := by
  obtain ⟨s1, s2, s3⟩ := memSet_sub hw
  have hcA : Chg (MemSet I.bm I.bw) w w6 := ⟨hc2.os.trans hc.os, hc2.tape.trans hc.tape, hc2.output.trans hc.output, Nat.le_trans hc.size hc2.size, fun k hk hs => (hc2.block k (Nat.lt_of_lt_of_le hk hc.size) (by omega)).trans (hc.block k hk hs)⟩
  have hm6 := hm.chg hc2 (fun e => by have := (s3 I.bm (.inl rfl)).2; omega) (fun q hq e => by have := (s3 q (.inr hq.symm)).2; omega)
  obtain ⟨hwf, hcf⟩ := hw.mems hcA hm6
  subst hact
  exact ⟨0, v, rfl, hcA.block b hbl (fun h => hb (s3 b h).1), rfl, hcf, hwf⟩
section
variable (w : World) (Mut : Nat → Prop) (I : WIds) (N : Nat) (wd : WD) (b bc ba : Nat) (c : CallD)
set_option maxHeartbeats 4000000 in
theorem cells_in (hw : WorldAt w Mut I N wd) (hb : ¬ WSet I b) (hbl : b < w.heap.size) (hc : wd.mem.c.all + 1 < 1000000000000) (hk0 : 0 ≤ c.kind) (hk3 : c.kind ≤ 3) (hok : CallOk c)
    (hbc : w.heap[bc]? = some (.cells (callCells c) 48 (0, 0))) (hm : ¬ Mut bc) (hba : w.cell? ⟨ba, 0, none⟩ = some (.int .i64 (c.a : Int))) (hm2 : ¬ Mut ba) :
    Calls Tryz.prog 203 #[.pointer (some ⟨I.bW, 0, none⟩), .pointer (some ⟨bc, 0, none⟩), .pointer (some ⟨ba, 0, none⟩)] w (OnceIn b w fun e v w1 => (cellsAct c wd).2 = (e, v) ∧ Chg (WSet I) w w1 ∧ WorldAt w1 Mut I N (cellsAct c wd).1) := by
  obtain ⟨s1, s2, s3⟩ := memSet_sub hw
  obtain ⟨wa, hwa⟩ : ∃ wa, wa = (w.alloc (.cells #[.int .i64 0, .int .u64 0, .slice none 0 0] 50)).alloc (.cells #[.int .i64 0, .int .u64 0, .slice none 0 0] 50) := ⟨_, rfl⟩
  have hga : Below w.heap.size w wa := by rw [hwa]; exact Gr.alloc (Gr.new _ _) _
  have hra : wa.heap[w.heap.size]? = some (.cells #[.int .i64 0, .int .u64 0, .slice none 0 0] 50 (0, 0)) := by rw [hwa, Below.heap_alloc _ _ _ (by simp)]; exact heap_alloc_new _ _
  have hro : wa.heap[w.heap.size + 1]? = some (.cells #[.int .i64 0, .int .u64 0, .slice none 0 0] 50 (0, 0)) := by
    rw [hwa]
    have := heap_alloc_new (w.alloc (.cells #[.int .i64 0, .int .u64 0, .slice none 0 0] 50)) (.cells #[.int .i64 0, .int .u64 0, .slice none 0 0] 50 (0, 0))
    simp only [World.size_alloc] at this
    exact this
  obtain ⟨mks, hwb, _, _⟩ := hw.blk
  have hWlt := blk_lt hwb
  have hbclt := blk_lt hbc
  have hbalt := World.block_lt_of_cell? _ _ hba
  simp only at hbalt
  have x0 : wa.cell? ⟨I.bW, 0, none⟩ = some (.pointer (some ⟨I.bm, 0, none⟩)) := by rw [hga.cell hWlt, cell_blk hwb]; exact world_mem
  have y0 : wa.cell? ⟨ba, 0, none⟩ = some (.int .i64 (c.a : Int)) := by rw [hga.cell hbalt]; exact hba
  have hbca : wa.heap[bc]? = some (.cells (callCells c) 48 (0, 0)) := (hga.block _ hbclt).trans hbc
  have hra' : ¬ MemSet I.bm I.bw w.heap.size := fun h => Nat.lt_irrefl _ (s3 _ h).2
  have hro' : ¬ MemSet I.bm I.bw (w.heap.size + 1) := fun h => by have := (s3 _ h).2; omega
  have hmem : ∀ u, Chg noB wa u → MemAt u I.bm I.bw wd.mem := fun u h => (hw.mem.gr hga).chg h (fun h => h) (fun _ _ h => h)
  have Fin := Lib.hid (fun (w1 w6 : World) (m' : MemD) (v : Nat) (hm' : MemAt w1 I.bm I.bw m') (hc' : Chg (MemSet I.bm I.bw) wa w1) (hc2 : Chg (fun k => w.heap.size ≤ k) w1 w6) (hact : cellsAct c wd = ({ wd with mem := m' }, (0, v))) => access_fin (b := b) hw hb hbl hm' ((Chg.of_below hga).trans hc') hc2 hact)
  have Hra := Lib.hid hra; have Hro := Lib.hid hro; have Hwa := Lib.hid hwa; have S2 := Lib.hid s2; have Nm := Lib.hid (fun h => hm2 (s1 ba h)); have Nc := Lib.hid (fun h => hm (s1 bc h)); have Hra' := Lib.hid hra'; have Hro' := Lib.hid hro'; have Hmem := Lib.hid hmem
  have hn1 : w.heap.size + 1 ≠ I.bW := by omega
  have hn2 : w.heap.size + 1 ≠ ba := by omega
  have hn3 : w.heap.size + 1 ≠ bc := by omega
  have hbv := hok.b; have hcv := hok.c
  have z4 : wa.cell? ⟨bc, 4, none⟩ = some (.int .u64 (c.b : Int)) := by rw [cell_blk hbca]; rfl
  have z5 : wa.cell? ⟨bc, 5, none⟩ = some (.int .u64 (c.c : Int)) := by rw [cell_blk hbca]; rfl
  have z2 : wa.cell? ⟨bc, 2, none⟩ = some (.int .i64 c.kind) := by rw [cell_blk hbca]; rfl
  clear hw hga hra hro hwb s1 s2 s3 hba hbc hm hm2 hra' hro' hb hwa hmem hbca hok
  by_cases k0 : c.kind = 0
  · rw [k0] at z2
    have hact : cellsAct c wd = ({ wd with mem := (memRead wd.mem (c.a : Int)).1 }, (0, (memRead wd.mem (c.a : Int)).2)) := by unfold cellsAct; rw [if_pos k0]
    have Rd := Lib.hid (fun (u : World) (h : Chg noB wa u) => read_any I.bm I.bw wd.mem (c.a : Int) u (Hmem.out u h) hc)
    obtain ⟨v, hv⟩ : ∃ v, v = (memRead wd.mem (c.a : Int)).2 := ⟨_, rfl⟩
    rw [← hv] at Rd hact
    have Hact := Lib.hid hact
    clear hact hv k0
    go_enter Tryz.func203, Tryz.ntmps203
    go_upto_region 2 with fail
    rw [← Hwa.out]
    go_wp2_with fail
    go_region_held3 (fun u => u.cell? ⟨I.bW, 0, none⟩ = some (.pointer (some ⟨I.bm, 0, none⟩)) ∧ u.cell? ⟨ba, 0, none⟩ = some (.int .i64 (c.a : Int)))
      (first | exact ⟨x0, y0⟩ | exact ⟨v0, vw⟩ | go_keep)
      ((go_at_call 169; refine (Rd.out _ ?_).mono ?_; (exact (Chg.refl _ _).drew); rintro e w4 ⟨rfl, hm4, hc4⟩; have hc4' : Chg (MemSet I.bm I.bw) wa w4 := ((Chg.refl _ _).drew).trans hc4; have v0 := box_keep hc4' S2.out x0; have vw := box_keep hc4' Nm.out y0; have hra4 := (hc4'.block _ (blk_lt Hra.out) Hra'.out).trans Hra.out; have hro4 := (hc4'.block _ (blk_lt Hro.out) Hro'.out).trans Hro.out; have o1 : w4.cell? ⟨w.heap.size + 1, 1, none⟩ = some (.int .u64 0) := (by rw [cell_blk hro4]; rfl); have of1 := frozen_blk hro4 1))
    obtain ⟨w5, hw5⟩ : ∃ w5, w5 = w4.setCell ⟨w.heap.size + 1, 1, none⟩ (.int .u64 (v : Int)) := ⟨_, rfl⟩
    rw [← hw5]
    have hro5 : w5.heap[w.heap.size + 1]? = some (.cells #[.int .i64 0, .int .u64 (v : Int), .slice none 0 0] 50 (0, 0)) := by rw [hw5, blk_set hro4]; rfl
    have hra5 : w5.heap[w.heap.size]? = some (.cells #[.int .i64 0, .int .u64 0, .slice none 0 0] 50 (0, 0)) := by rw [hw5, blk_set_other (by omega)]; exact hra4
    have hc15 : Chg (fun k => w.heap.size ≤ k) w4 w5 := by rw [hw5]; exact (Chg.refl (fun k => w.heap.size ≤ k) w4).setCell (by exact .inl (by show w.heap.size ≤ w.heap.size + 1; omega)) _
    clear hw5 hro4 hra4
    clear v0 vw o1 of1 x0 y0 z2 z4 z5
    have q0 : w5.cell? ⟨w.heap.size + 1, 0, none⟩ = some (.int .i64 0) := by rw [cell_blk hro5]; rfl
    have q1 : w5.cell? ⟨w.heap.size + 1, 1, none⟩ = some (.int .u64 (v : Int)) := by rw [cell_blk hro5]; rfl
    have q2 : w5.cell? ⟨w.heap.size + 1, 2, none⟩ = some (.slice none 0 0) := by rw [cell_blk hro5]; rfl
    have p0 : w5.cell? ⟨w.heap.size, 0, none⟩ = some (.int .i64 0) := by rw [cell_blk hra5]; rfl
    have p1 : w5.cell? ⟨w.heap.size, 1, none⟩ = some (.int .u64 0) := by rw [cell_blk hra5]; rfl
    have p2 : w5.cell? ⟨w.heap.size, 2, none⟩ = some (.slice none 0 0) := by rw [cell_blk hra5]; rfl
    have pf0 := frozen_blk hra5 0; have pf1 := frozen_blk hra5 1; have pf2 := frozen_blk hra5 2
    obtain ⟨w6, hw6⟩ : ∃ w6, w6 = (((w5.setCell ⟨w.heap.size, 0, none⟩ (.int .i64 0)).setCell ⟨w.heap.size, 1, none⟩ (.int .u64 (v : Int))).setCell ⟨w.heap.size, 2, none⟩ (.slice none 0 0)) := ⟨_, rfl⟩
    have hra6 : w6.heap[w.heap.size]? = some (.cells #[.int .i64 0, .int .u64 (v : Int), .slice none 0 0] 50 (0, 0)) := by rw [hw6, blk_set (blk_set (blk_set hra5 _ _) _ _)]; rfl
    have hc56 : Chg (fun k => w.heap.size ≤ k) w5 w6 := by rw [hw6]; exact (((Chg.refl (fun k => w.heap.size ≤ k) w5).setCell (by exact .inl (Nat.le_refl _)) _).setCell (by exact .inl (Nat.le_refl _)) _).setCell (by exact .inl (Nat.le_refl _)) _
    have k0 : w6.cell? ⟨w.heap.size, 0, none⟩ = some (.int .i64 0) := by rw [cell_blk hra6]; rfl
    have k1 : w6.cell? ⟨w.heap.size, 1, none⟩ = some (.int .u64 (v : Int)) := by rw [cell_blk hra6]; rfl
    have k2 : w6.cell? ⟨w.heap.size, 2, none⟩ = some (.slice none 0 0) := by rw [cell_blk hra6]; rfl
    have F := Lib.hid (Fin.out w4 w6 _ v hm4 hc4' (hc15.trans hc56) Hact.out)
    have Hw6 := Lib.hid hw6.symm
    clear hra6 hro5 hra5 hc15 hc56 hw6 hm4 hc4 hc4'
    go_wp2
    rw [Hw6.out]
    exact bodyPost_ret (v := ansV 0 v (.slice none 0 0)) (by simp [results, Tryz.results203 , go_sem, ansV, k0, k1, k2]) rfl F.out
  by_cases k1 : c.kind = 1
  · rw [k1] at z2
    have hact : cellsAct c wd = ({ wd with mem := memWrite wd.mem (c.a : Int) c.b }, (0, 0)) := by unfold cellsAct; rw [if_neg k0, if_pos k1]
    have Rd := Lib.hid (write_any I.bm I.bw wd.mem (c.a : Int) c.b wa.drew (Hmem.out _ ((Chg.refl _ wa).drew)) hbv hc)
    have Hact := Lib.hid hact
    clear hact k0 k1
    go_enter Tryz.func203, Tryz.ntmps203
    go_upto_region 2 with fail
    rw [← Hwa.out]
    go_wp2_with fail
    go_still_tail 7, (by kernel_rfl)
    change wpList _ _ _ _ _ wa.drew
    go_wp2_with fail
    refine Rd.out.mono ?_
    rintro e w4 ⟨rfl, hm4, hc4⟩
    have hc4' : Chg (MemSet I.bm I.bw) wa w4 := ((Chg.refl _ wa).drew).trans hc4
    have hra4 := (hc4'.block _ (blk_lt Hra.out) Hra'.out).trans Hra.out
    have hro4 := (hc4'.block _ (blk_lt Hro.out) Hro'.out).trans Hro.out
    obtain ⟨w5, hw5⟩ : ∃ w5, w5 = w4 := ⟨_, rfl⟩
    rw [← hw5]
    have hro5 : w5.heap[w.heap.size + 1]? = some (.cells #[.int .i64 0, .int .u64 0, .slice none 0 0] 50 (0, 0)) := by rw [hw5]; exact hro4
    have hra5 : w5.heap[w.heap.size]? = some (.cells #[.int .i64 0, .int .u64 0, .slice none 0 0] 50 (0, 0)) := by rw [hw5]; exact hra4
    have hc15 : Chg (fun k => w.heap.size ≤ k) w4 w5 := by rw [hw5]; exact Chg.refl _ _
    clear hw5 hro4 hra4 x0 y0 z2 z4 z5
    have q0 : w5.cell? ⟨w.heap.size + 1, 0, none⟩ = some (.int .i64 0) := by rw [cell_blk hro5]; rfl
    have q1 : w5.cell? ⟨w.heap.size + 1, 1, none⟩ = some (.int .u64 0) := by rw [cell_blk hro5]; rfl
    have q2 : w5.cell? ⟨w.heap.size + 1, 2, none⟩ = some (.slice none 0 0) := by rw [cell_blk hro5]; rfl
    have p0 : w5.cell? ⟨w.heap.size, 0, none⟩ = some (.int .i64 0) := by rw [cell_blk hra5]; rfl
    have p1 : w5.cell? ⟨w.heap.size, 1, none⟩ = some (.int .u64 0) := by rw [cell_blk hra5]; rfl
    have p2 : w5.cell? ⟨w.heap.size, 2, none⟩ = some (.slice none 0 0) := by rw [cell_blk hra5]; rfl
    have pf0 := frozen_blk hra5 0; have pf1 := frozen_blk hra5 1; have pf2 := frozen_blk hra5 2
    obtain ⟨w6, hw6⟩ : ∃ w6, w6 = (((w5.setCell ⟨w.heap.size, 0, none⟩ (.int .i64 0)).setCell ⟨w.heap.size, 1, none⟩ (.int .u64 0)).setCell ⟨w.heap.size, 2, none⟩ (.slice none 0 0)) := ⟨_, rfl⟩
    have hra6 : w6.heap[w.heap.size]? = some (.cells #[.int .i64 0, .int .u64 0, .slice none 0 0] 50 (0, 0)) := by rw [hw6, blk_set (blk_set (blk_set hra5 _ _) _ _)]; rfl
    have hc56 : Chg (fun k => w.heap.size ≤ k) w5 w6 := by rw [hw6]; exact (((Chg.refl (fun k => w.heap.size ≤ k) w5).setCell (by exact .inl (Nat.le_refl _)) _).setCell (by exact .inl (Nat.le_refl _)) _).setCell (by exact .inl (Nat.le_refl _)) _
    have k0 : w6.cell? ⟨w.heap.size, 0, none⟩ = some (.int .i64 0) := by rw [cell_blk hra6]; rfl
    have k1 : w6.cell? ⟨w.heap.size, 1, none⟩ = some (.int .u64 0) := by rw [cell_blk hra6]; rfl
    have k2 : w6.cell? ⟨w.heap.size, 2, none⟩ = some (.slice none 0 0) := by rw [cell_blk hra6]; rfl
    have F := Lib.hid (Fin.out w4 w6 _ 0 hm4 hc4' (hc15.trans hc56) Hact.out)
    have Hw6 := Lib.hid hw6.symm
    clear hra6 hro5 hra5 hc15 hc56 hw6 hm4 hc4 hc4'
    go_wp2
    rw [Hw6.out]
    exact bodyPost_ret (v := ansV 0 0 (.slice none 0 0)) (by simp [results, Tryz.results203 , go_sem, ansV, k0, k1, k2]) rfl F.out
  by_cases k2 : c.kind = 2
  · rw [k2] at z2
    obtain ⟨bb, hbb⟩ : ∃ bb, bb = (memSwap wd.mem (c.a : Int) c.b c.c).2 := ⟨_, rfl⟩
    have hact : cellsAct c wd = ({ wd with mem := (memSwap wd.mem (c.a : Int) c.b c.c).1 }, (0, if bb then 1 else 0)) := by unfold cellsAct; rw [if_neg k0, if_neg k1, if_pos k2, hbb]
    have Rd := swap_any I.bm I.bw wd.mem (c.a : Int) c.b c.c wa.drew (Hmem.out _ ((Chg.refl _ wa).drew)) hcv hc
    rw [← hbb] at Rd
    replace Rd := Lib.hid Rd
    clear hbb k0 k1 k2
    go_enter Tryz.func203, Tryz.ntmps203
    go_upto_region 2 with fail
    rw [← Hwa.out]
    go_wp2_with fail
    go_still_tail 9, (by kernel_rfl)
    change wpList _ _ _ _ _ wa.drew
    go_wp2_with fail
    refine Rd.out.mono ?_
    rintro e w4 ⟨rfl, hm4, hc4⟩
    have hc4' : Chg (MemSet I.bm I.bw) wa w4 := ((Chg.refl _ wa).drew).trans hc4
    have hra4 := (hc4'.block _ (blk_lt Hra.out) Hra'.out).trans Hra.out
    have hro4 := (hc4'.block _ (blk_lt Hro.out) Hro'.out).trans Hro.out
    have o1 : w4.cell? ⟨w.heap.size + 1, 1, none⟩ = some (.int .u64 0) := by rw [cell_blk hro4]; rfl
    have of1 := frozen_blk hro4 1
    cases bb with
    | true =>
      have Hact := Lib.hid (show cellsAct c wd = ({ wd with mem := (memSwap wd.mem (c.a : Int) c.b c.c).1 }, (0, 1)) from hact)
      clear hact x0 y0 z2 z4 z5
      go_upto_region 11 with fail
      obtain ⟨w5, hw5⟩ : ∃ w5, w5 = w4.setCell ⟨w.heap.size + 1, 1, none⟩ (.int .u64 1) := ⟨_, rfl⟩
      rw [← hw5]
      have hro5 : w5.heap[w.heap.size + 1]? = some (.cells #[.int .i64 0, .int .u64 1, .slice none 0 0] 50 (0, 0)) := by rw [hw5, blk_set hro4]; rfl
      have hra5 : w5.heap[w.heap.size]? = some (.cells #[.int .i64 0, .int .u64 0, .slice none 0 0] 50 (0, 0)) := by rw [hw5, blk_set_other (by omega)]; exact hra4
      have hc15 : Chg (fun k => w.heap.size ≤ k) w4 w5 := by rw [hw5]; exact (Chg.refl (fun k => w.heap.size ≤ k) w4).setCell (by exact .inl (by show w.heap.size ≤ w.heap.size + 1; omega)) _
      clear hw5 hro4 hra4
      clear o1 of1
      have q0 : w5.cell? ⟨w.heap.size + 1, 0, none⟩ = some (.int .i64 0) := by rw [cell_blk hro5]; rfl
      have q1 : w5.cell? ⟨w.heap.size + 1, 1, none⟩ = some (.int .u64 1) := by rw [cell_blk hro5]; rfl
      have q2 : w5.cell? ⟨w.heap.size + 1, 2, none⟩ = some (.slice none 0 0) := by rw [cell_blk hro5]; rfl
      have p0 : w5.cell? ⟨w.heap.size, 0, none⟩ = some (.int .i64 0) := by rw [cell_blk hra5]; rfl
      have p1 : w5.cell? ⟨w.heap.size, 1, none⟩ = some (.int .u64 0) := by rw [cell_blk hra5]; rfl
      have p2 : w5.cell? ⟨w.heap.size, 2, none⟩ = some (.slice none 0 0) := by rw [cell_blk hra5]; rfl
      have pf0 := frozen_blk hra5 0; have pf1 := frozen_blk hra5 1; have pf2 := frozen_blk hra5 2
      obtain ⟨w6, hw6⟩ : ∃ w6, w6 = (((w5.setCell ⟨w.heap.size, 0, none⟩ (.int .i64 0)).setCell ⟨w.heap.size, 1, none⟩ (.int .u64 1)).setCell ⟨w.heap.size, 2, none⟩ (.slice none 0 0)) := ⟨_, rfl⟩
      have hra6 : w6.heap[w.heap.size]? = some (.cells #[.int .i64 0, .int .u64 1, .slice none 0 0] 50 (0, 0)) := by rw [hw6, blk_set (blk_set (blk_set hra5 _ _) _ _)]; rfl
      have hc56 : Chg (fun k => w.heap.size ≤ k) w5 w6 := by rw [hw6]; exact (((Chg.refl (fun k => w.heap.size ≤ k) w5).setCell (by exact .inl (Nat.le_refl _)) _).setCell (by exact .inl (Nat.le_refl _)) _).setCell (by exact .inl (Nat.le_refl _)) _
      have k0 : w6.cell? ⟨w.heap.size, 0, none⟩ = some (.int .i64 0) := by rw [cell_blk hra6]; rfl
      have k1 : w6.cell? ⟨w.heap.size, 1, none⟩ = some (.int .u64 1) := by rw [cell_blk hra6]; rfl
      have k2 : w6.cell? ⟨w.heap.size, 2, none⟩ = some (.slice none 0 0) := by rw [cell_blk hra6]; rfl
      have F := Lib.hid (Fin.out w4 w6 _ 1 hm4 hc4' (hc15.trans hc56) Hact.out)
      have Hw6 := Lib.hid hw6.symm
      clear hra6 hro5 hra5 hc15 hc56 hw6 hm4 hc4 hc4'
      go_wp2
      rw [Hw6.out]
      exact bodyPost_ret (v := ansV 0 1 (.slice none 0 0)) (by simp [results, Tryz.results203 , go_sem, ansV, k0, k1, k2]) rfl F.out
    | false =>
      have Hact := Lib.hid (show cellsAct c wd = ({ wd with mem := (memSwap wd.mem (c.a : Int) c.b c.c).1 }, (0, 0)) from hact)
      clear hact x0 y0 z2 z4 z5 o1 of1
      obtain ⟨w5, hw5⟩ : ∃ w5, w5 = w4 := ⟨_, rfl⟩
      rw [← hw5]
      have hro5 : w5.heap[w.heap.size + 1]? = some (.cells #[.int .i64 0, .int .u64 0, .slice none 0 0] 50 (0, 0)) := by rw [hw5]; exact hro4
      have hra5 : w5.heap[w.heap.size]? = some (.cells #[.int .i64 0, .int .u64 0, .slice none 0 0] 50 (0, 0)) := by rw [hw5]; exact hra4
      have hc15 : Chg (fun k => w.heap.size ≤ k) w4 w5 := by rw [hw5]; exact Chg.refl _ _
      clear hw5 hro4 hra4
      have q0 : w5.cell? ⟨w.heap.size + 1, 0, none⟩ = some (.int .i64 0) := by rw [cell_blk hro5]; rfl
      have q1 : w5.cell? ⟨w.heap.size + 1, 1, none⟩ = some (.int .u64 0) := by rw [cell_blk hro5]; rfl
      have q2 : w5.cell? ⟨w.heap.size + 1, 2, none⟩ = some (.slice none 0 0) := by rw [cell_blk hro5]; rfl
      have p0 : w5.cell? ⟨w.heap.size, 0, none⟩ = some (.int .i64 0) := by rw [cell_blk hra5]; rfl
      have p1 : w5.cell? ⟨w.heap.size, 1, none⟩ = some (.int .u64 0) := by rw [cell_blk hra5]; rfl
      have p2 : w5.cell? ⟨w.heap.size, 2, none⟩ = some (.slice none 0 0) := by rw [cell_blk hra5]; rfl
      have pf0 := frozen_blk hra5 0; have pf1 := frozen_blk hra5 1; have pf2 := frozen_blk hra5 2
      obtain ⟨w6, hw6⟩ : ∃ w6, w6 = (((w5.setCell ⟨w.heap.size, 0, none⟩ (.int .i64 0)).setCell ⟨w.heap.size, 1, none⟩ (.int .u64 0)).setCell ⟨w.heap.size, 2, none⟩ (.slice none 0 0)) := ⟨_, rfl⟩
      have hra6 : w6.heap[w.heap.size]? = some (.cells #[.int .i64 0, .int .u64 0, .slice none 0 0] 50 (0, 0)) := by rw [hw6, blk_set (blk_set (blk_set hra5 _ _) _ _)]; rfl
      have hc56 : Chg (fun k => w.heap.size ≤ k) w5 w6 := by rw [hw6]; exact (((Chg.refl (fun k => w.heap.size ≤ k) w5).setCell (by exact .inl (Nat.le_refl _)) _).setCell (by exact .inl (Nat.le_refl _)) _).setCell (by exact .inl (Nat.le_refl _)) _
      have k0 : w6.cell? ⟨w.heap.size, 0, none⟩ = some (.int .i64 0) := by rw [cell_blk hra6]; rfl
      have k1 : w6.cell? ⟨w.heap.size, 1, none⟩ = some (.int .u64 0) := by rw [cell_blk hra6]; rfl
      have k2 : w6.cell? ⟨w.heap.size, 2, none⟩ = some (.slice none 0 0) := by rw [cell_blk hra6]; rfl
      have F := Lib.hid (Fin.out w4 w6 _ 0 hm4 hc4' (hc15.trans hc56) Hact.out)
      have Hw6 := Lib.hid hw6.symm
      clear hra6 hro5 hra5 hc15 hc56 hw6 hm4 hc4 hc4'
      go_wp2
      rw [Hw6.out]
      exact bodyPost_ret (v := ansV 0 0 (.slice none 0 0)) (by simp [results, Tryz.results203 , go_sem, ansV, k0, k1, k2]) rfl F.out
  · have k3 : c.kind = 3 := by omega
    rw [k3] at z2
    have hact : cellsAct c wd = ({ wd with mem := (memAdd wd.mem (c.a : Int) c.b).1 }, (0, (memAdd wd.mem (c.a : Int) c.b).2)) := by unfold cellsAct; rw [if_neg k0, if_neg k1, if_neg k2]
    have Rd := Lib.hid (fun (u : World) (h : Chg noB wa u) => add_any I.bm I.bw wd.mem (c.a : Int) c.b u (Hmem.out u h) hc)
    obtain ⟨v, hv⟩ : ∃ v, v = (memAdd wd.mem (c.a : Int) c.b).2 := ⟨_, rfl⟩
    rw [← hv] at Rd hact
    have Hact := Lib.hid hact
    clear hact hv k0 k1 k2 k3
    go_enter Tryz.func203, Tryz.ntmps203
    go_upto_region 2 with fail
    rw [← Hwa.out]
    go_wp2_with fail
    go_region_held3 (fun u => u.cell? ⟨I.bW, 0, none⟩ = some (.pointer (some ⟨I.bm, 0, none⟩)) ∧ u.cell? ⟨ba, 0, none⟩ = some (.int .i64 (c.a : Int)) ∧ u.cell? ⟨bc, 4, none⟩ = some (.int .u64 (c.b : Int)))
      (first | exact ⟨x0, y0, z4⟩ | exact ⟨v0, vw, vx⟩ | go_keep)
      ((go_at_call 177; refine (Rd.out _ ?_).mono ?_; (exact (Chg.refl _ _).drew); rintro e w4 ⟨rfl, hm4, hc4⟩; have hc4' : Chg (MemSet I.bm I.bw) wa w4 := ((Chg.refl _ _).drew).trans hc4; have v0 := box_keep hc4' S2.out x0; have vw := box_keep hc4' Nm.out y0; have vx := box_keep hc4' Nc.out z4; have hra4 := (hc4'.block _ (blk_lt Hra.out) Hra'.out).trans Hra.out; have hro4 := (hc4'.block _ (blk_lt Hro.out) Hro'.out).trans Hro.out; have o1 : w4.cell? ⟨w.heap.size + 1, 1, none⟩ = some (.int .u64 0) := (by rw [cell_blk hro4]; rfl); have of1 := frozen_blk hro4 1))
    obtain ⟨w5, hw5⟩ : ∃ w5, w5 = w4.setCell ⟨w.heap.size + 1, 1, none⟩ (.int .u64 (v : Int)) := ⟨_, rfl⟩
    rw [← hw5]
    have hro5 : w5.heap[w.heap.size + 1]? = some (.cells #[.int .i64 0, .int .u64 (v : Int), .slice none 0 0] 50 (0, 0)) := by rw [hw5, blk_set hro4]; rfl
    have hra5 : w5.heap[w.heap.size]? = some (.cells #[.int .i64 0, .int .u64 0, .slice none 0 0] 50 (0, 0)) := by rw [hw5, blk_set_other (by omega)]; exact hra4
    have hc15 : Chg (fun k => w.heap.size ≤ k) w4 w5 := by rw [hw5]; exact (Chg.refl (fun k => w.heap.size ≤ k) w4).setCell (by exact .inl (by show w.heap.size ≤ w.heap.size + 1; omega)) _
    clear hw5 hro4 hra4
    clear v0 vw vx o1 of1 x0 y0 z2 z4 z5
    have q0 : w5.cell? ⟨w.heap.size + 1, 0, none⟩ = some (.int .i64 0) := by rw [cell_blk hro5]; rfl
    have q1 : w5.cell? ⟨w.heap.size + 1, 1, none⟩ = some (.int .u64 (v : Int)) := by rw [cell_blk hro5]; rfl
    have q2 : w5.cell? ⟨w.heap.size + 1, 2, none⟩ = some (.slice none 0 0) := by rw [cell_blk hro5]; rfl
    have p0 : w5.cell? ⟨w.heap.size, 0, none⟩ = some (.int .i64 0) := by rw [cell_blk hra5]; rfl
    have p1 : w5.cell? ⟨w.heap.size, 1, none⟩ = some (.int .u64 0) := by rw [cell_blk hra5]; rfl
    have p2 : w5.cell? ⟨w.heap.size, 2, none⟩ = some (.slice none 0 0) := by rw [cell_blk hra5]; rfl
    have pf0 := frozen_blk hra5 0; have pf1 := frozen_blk hra5 1; have pf2 := frozen_blk hra5 2
    obtain ⟨w6, hw6⟩ : ∃ w6, w6 = (((w5.setCell ⟨w.heap.size, 0, none⟩ (.int .i64 0)).setCell ⟨w.heap.size, 1, none⟩ (.int .u64 (v : Int))).setCell ⟨w.heap.size, 2, none⟩ (.slice none 0 0)) := ⟨_, rfl⟩
    have hra6 : w6.heap[w.heap.size]? = some (.cells #[.int .i64 0, .int .u64 (v : Int), .slice none 0 0] 50 (0, 0)) := by rw [hw6, blk_set (blk_set (blk_set hra5 _ _) _ _)]; rfl
    have hc56 : Chg (fun k => w.heap.size ≤ k) w5 w6 := by rw [hw6]; exact (((Chg.refl (fun k => w.heap.size ≤ k) w5).setCell (by exact .inl (Nat.le_refl _)) _).setCell (by exact .inl (Nat.le_refl _)) _).setCell (by exact .inl (Nat.le_refl _)) _
    have k0 : w6.cell? ⟨w.heap.size, 0, none⟩ = some (.int .i64 0) := by rw [cell_blk hra6]; rfl
    have k1 : w6.cell? ⟨w.heap.size, 1, none⟩ = some (.int .u64 (v : Int)) := by rw [cell_blk hra6]; rfl
    have k2 : w6.cell? ⟨w.heap.size, 2, none⟩ = some (.slice none 0 0) := by rw [cell_blk hra6]; rfl
    have F := Lib.hid (Fin.out w4 w6 _ v hm4 hc4' (hc15.trans hc56) Hact.out)
    have Hw6 := Lib.hid hw6.symm
    clear hra6 hro5 hra5 hc15 hc56 hw6 hm4 hc4 hc4'
    go_wp2
    rw [Hw6.out]
    exact bodyPost_ret (v := ansV 0 v (.slice none 0 0)) (by simp [results, Tryz.results203 , go_sem, ansV, k0, k1, k2]) rfl F.out
end
theorem cells_capgo : CapGo cellsCap cellsAct where
  keep := by
    rintro w w' Q Mut Mut' K cap c ⟨h1, h2, h3, h4, b, b2, h5, h6, h7, h8, h9⟩ hc hQ hm
    refine ⟨h1, h2, h3, h4, b, b2, h5, (hc.block _ (blk_lt h6) (fun hq => h7 (hQ _ hq))).trans h6, fun hx => ?_, box_keep hc (fun hq => h9 (hQ _ hq)) h8, notMut_keep h8 h9 hm⟩
    have := blk_lt h6
    rcases hm _ hx with hy | hy
    · exact h7 hy
    · omega
  go := by
    rintro w Mut I N wd b K cap c hw ⟨rfl, h2, h3, h4, bc, ba, rfl, h6, h7, h8, h9⟩ hb hbl hc
    exact cells_in w Mut I N wd b bc ba c hw hb hbl hc h2 h3 h4 h6 h7 h8 h9
theorem alloc4g (w : World) (o0 : Obj) (v2 : Value) (c1 c3 : Array Value) (t1 t2 t3 : TypeId) :
    ((((w.alloc o0).alloc (.cells c1 t1)).alloc (.cells #[v2] t2)).alloc (.cells c3 t3)).heap[w.heap.size + 1]? = some (.cells c1 t1 (0, 0)) ∧
    ((((w.alloc o0).alloc (.cells c1 t1)).alloc (.cells #[v2] t2)).alloc (.cells c3 t3)).cell? ⟨w.heap.size + 2, 0, none⟩ = some v2 ∧
    ((((w.alloc o0).alloc (.cells c1 t1)).alloc (.cells #[v2] t2)).alloc (.cells c3 t3)).heap[w.heap.size + 3]? = some (.cells c3 t3 (0, 0)) ∧
    Below w.heap.size w ((((w.alloc o0).alloc (.cells c1 t1)).alloc (.cells #[v2] t2)).alloc (.cells c3 t3)) := by
  refine ⟨?_, ?_, ?_, Gr.alloc (Gr.alloc (Gr.alloc (Gr.new _ _) _) _) _⟩
  · rw [Below.heap_alloc _ _ _ (by simp), Below.heap_alloc _ _ _ (by simp)]
    have := heap_alloc_new (w.alloc o0) (.cells c1 t1 (0, 0))
    simp only [World.size_alloc] at this
    exact this
  · rw [World.cell?_alloc_lt _ _ _ (by simp)]
    have := cell_new ((w.alloc o0).alloc (.cells c1 t1)) #[v2] t2 (0, 0) 0
    simp only [World.size_alloc] at this
    exact this
  · have := heap_alloc_new (((w.alloc o0).alloc (.cells c1 t1)).alloc (.cells #[v2] t2)) (.cells c3 t3 (0, 0))
    simp only [World.size_alloc] at this
    exact this
theorem cells_start_m (size : Nat) : Meth 95 (.agg #[.int .i64 0, .int .i64 (size : Int)]) "Start" 202 (.agg #[.int .i64 0, .int .i64 (size : Int)]) := ⟨fun _ _ => by kernel_rfl, fun _ _ => by kernel_rfl, fun _ _ => by kernel_rfl⟩
theorem enter_cells (args : Array Value) (u : World) : (callFunc 203 args).run Tryz.prog u = .ok (.enter 203 args) u := by kernel_rfl
theorem cells_start (size : Nat) (h1 : 1 ≤ size) (h64 : size ≤ 64) : OnceStart (cellsRef size) cellsAct cellsCap 95 (.agg #[.int .i64 0, .int .i64 (size : Int)]) := by
  refine ⟨_, _, cells_start_m size, fun w Mut I N wd p c hw hp hc => ?_⟩
  have hok := hc
  obtain ⟨th, ob, kd, ca, cb, cc⟩ := c
  have hlow := hw.low
  have hcw := hc.a
  simp only at hcw
  have Hlow := Lib.hid hlow; have Hok := Lib.hid hok
  have nm : ∀ k, k ≠ 3 → ¬ (mutTo Mut noB (fun b => b = w.heap.size + 3) (w.heap.size + k)) := fun k hk => by
    rintro (⟨hx, _⟩ | hx)
    · have := Hlow.out _ hx; omega
    · omega
  have Nm := Lib.hid nm
  have refuse_case : ∀ er : Int, cellsRef size ⟨th, ob, kd, ca, cb, cc⟩ = some er → StartPost (onceReal (cellsRef size) cellsAct cellsCap 95 (.agg #[.int .i64 0, .int .i64 (size : Int)])) w Mut I wd () p ⟨th, ob, kd, ca, cb, cc⟩ (.returned (.iface 215 (.pointer (some ⟨w.heap.size + 3, 0, none⟩)))) ((((w.alloc (.cells #[.int .i64 0, .int .i64 (size : Int)] 95)).alloc (.cells #[.int .i64 th, .int .i64 ob, .int .i64 kd, .int .u64 (ca : Int), .int .u64 (cb : Int), .int .u64 (cc : Int)] 48)).alloc (.cells #[.int .i64 er] 33)).alloc (.cells (onceCells 129 #[.pointer (some ⟨w.heap.size + 2, 0, none⟩)] 0 0) 217)) := by
    intro er her
    obtain ⟨a1, a2, a3, a4⟩ := alloc4g w (.cells #[.int .i64 0, .int .i64 (size : Int)] 95) (.int .i64 er) #[.int .i64 th, .int .i64 ob, .int .i64 kd, .int .u64 (ca : Int), .int .u64 (cb : Int), .int .u64 (cc : Int)] (onceCells 129 #[.pointer (some ⟨w.heap.size + 2, 0, none⟩)] 0 0) 48 33 217
    refine ⟨_, _, fun b => b = w.heap.size + 3, rfl, a4, fun b hb => by subst hb; exact ⟨by omega, blk_lt a3⟩, ?_⟩
    unfold onceSys
    simp only
    rw [her]
    exact ⟨rfl, w.heap.size + 3, w.heap.size + 2, rfl, ⟨a3, a2, by omega⟩, rfl, Nm.out 2 (by omega)⟩
  have Rc := Lib.hid refuse_case
  unfold callAgg
  simp only
  clear refuse_case hw hc hlow hok nm
  by_cases k0 : kd < 0
  · have hr := Lib.hid (Rc.out 9 (by unfold cellsRef; rw [if_pos (.inl k0)]))
    clear Rc
    go_enter Tryz.func202, Tryz.ntmps202
    go_wp2
    go_ret
    exact hr.out
  by_cases k3 : 3 < kd
  · have hr := Lib.hid (Rc.out 9 (by unfold cellsRef; rw [if_pos (.inr k3)]))
    clear Rc
    go_enter Tryz.func202, Tryz.ntmps202
    go_wp2
    go_ret
    exact hr.out
  have e6 : IntKind.u64.wrap (size : Int) = (size : Int) := by rw [IntKind.wrap_u64]; omega
  by_cases hbig : size ≤ ca
  · have hr := Lib.hid (Rc.out 10 (by unfold cellsRef; rw [if_neg (by simp only; omega), if_pos hbig]))
    have hbi : (size : Int) ≤ (ca : Int) := by omega
    clear Rc hbig
    go_enter Tryz.func202, Tryz.ntmps202
    go_wp2
    go_ret
    exact hr.out
  · have hbi : ¬ (size : Int) ≤ (ca : Int) := by omega
    have e5 : IntKind.i64.wrap (ca : Int) = (ca : Int) := by rw [IntKind.wrap_i64]; omega
    have hst := Lib.hid (show cellsRef size ⟨th, ob, kd, ca, cb, cc⟩ = none by unfold cellsRef; rw [if_neg (by simp only; omega), if_neg hbig])
    have hkk := Lib.hid (show 0 ≤ kd ∧ kd ≤ 3 from ⟨by omega, by omega⟩)
    clear Rc hbig
    go_enter Tryz.func202, Tryz.ntmps202
    go_wp2
    go_ret
    obtain ⟨a1, a2, a3, a4⟩ := alloc4g w (.cells #[.int .i64 0, .int .i64 (size : Int)] 95) (.int .i64 (ca : Int)) #[.int .i64 th, .int .i64 ob, .int .i64 kd, .int .u64 (ca : Int), .int .u64 (cb : Int), .int .u64 (cc : Int)] (onceCells 203 #[.pointer (some ⟨w.heap.size + 1, 0, none⟩), .pointer (some ⟨w.heap.size + 2, 0, none⟩)] 0 0) 48 3 217
    refine ⟨_, _, fun b => b = w.heap.size + 3, rfl, a4, fun b hb => by subst hb; exact ⟨by omega, blk_lt a3⟩, ?_⟩
    unfold onceSys
    simp only
    rw [hst.out]
    exact ⟨rfl, w.heap.size + 3, _, _, rfl, a3, rfl, enter_cells, rfl, hkk.out.1, hkk.out.2, Hok.out, w.heap.size + 1, w.heap.size + 2, rfl, a1, Nm.out 1 (by omega), a2, Nm.out 2 (by omega)⟩
abbrev cellsS (size : Nat) : Sys := onceSys (cellsRef size) cellsAct
abbrev cellsR (size : Nat) : Real (cellsS size) := onceReal (cellsRef size) cellsAct cellsCap 95 (.agg #[.int .i64 0, .int .i64 (size : Int)])
theorem cells_ok (size : Nat) (h1 : 1 ≤ size) (h64 : size ≤ 64) : RealOk (cellsR size) :=
  once_real_ok cells_capgo (cells_start size h1 h64) (fun c wd => by unfold cellsAct; split; rfl; split; rfl; split <;> rfl)
    (fun c wd => by
      unfold cellsAct
      split
      · exact memRead_cnt _ _
      split
      · exact memWrite_cnt _ _ _
      split
      · exact memSwap_cnt _ _ _ _
      · exact memAdd_cnt _ _ _)
end Go.Proofs.YteffgpcjfnjlkaaGreat
