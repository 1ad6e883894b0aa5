/- Layer 12: the door's machine: taking a phase. -/
import Derived.Test.YteffgpcjfnjlkaaGreatM41
set_option maxRecDepth 100000
set_option linter.unusedVariables false
set_option linter.unusedSimpArgs false
set_option linter.unnecessarySimpa false
namespace Go.Proofs.YteffgpcjfnjlkaaGreat
open Go.RowKit
def doCells (n p a v : Nat) : Array Value := #[.int .i64 0, .int .i64 (n : Int), .int .i64 (p : Int), .int .i64 (a : Int), .int .u64 (v : Int)]
theorem max_cast {v r : Nat} : ((max v r : Nat) : Int) = max (v : Int) (r : Int) := by omega
set_option maxHeartbeats 4000000 in
theorem take_look (w : World) (Mut B : Nat → Prop) (I : WIds) (N : Nat) (wd : WD) (n p a v b : Nat) (hw : WorldAt w Mut I N wd) (hbk : w.heap[b]? = some (.cells (doCells n p a v) 282 (0, 0))) (hb : B b) (hB : ∀ b, B b → Mut b ∧ ¬ WSet I b) (hc : wd.mem.c.all + 1 < 1000000000000)
    (hn : n ≤ 16) (ha : a < n) :
    Calls Tryz.prog 240 #[.pointer (some ⟨b, 0, none⟩), .pointer (some ⟨I.bW, 0, none⟩)] w fun e w' => OwnTo w w' Mut B I N (taRead wd a) b (doCells n p (a + 1) (max v (taGot wd a))) 282 false e := by
  obtain ⟨s1, s2, s3⟩ := memSet_sub hw
  obtain ⟨mks, hwb, _, _⟩ := hw.blk
  have x0 : w.cell? ⟨I.bW, 0, none⟩ = some (.pointer (some ⟨I.bm, 0, none⟩)) := by rw [cell_blk hwb]; exact world_mem
  have y0 : w.cell? ⟨b, 0, none⟩ = some (.int .i64 0) := by rw [cell_blk hbk]; rfl
  have y1 : w.cell? ⟨b, 1, none⟩ = some (.int .i64 (n : Int)) := by rw [cell_blk hbk]; rfl
  have y3 : w.cell? ⟨b, 3, none⟩ = some (.int .i64 (a : Int)) := by rw [cell_blk hbk]; rfl
  have y4 : w.cell? ⟨b, 4, none⟩ = some (.int .u64 (v : Int)) := by rw [cell_blk hbk]; rfl
  have hblt := blk_lt hbk
  have nb : ¬ MemSet I.bm I.bw b := fun h => (hB b hb).2 (s3 b h).1
  obtain ⟨wq, hwq⟩ : ∃ wq, wq = w := ⟨_, rfl⟩
  have Rd := Lib.hid (fun (wq u : World) (h0 : Chg noB w wq) (h : Chg noB wq u) => read_any I.bm I.bw wd.mem (a : Int) u (hw.mem.chg (h0.trans h) (fun h => h) (fun _ _ h => h)) hc)
  obtain ⟨r, hr⟩ : ∃ r, r = taGot wd a := ⟨_, rfl⟩
  rw [show (memRead wd.mem (a : Int)).2 = r from hr.symm] at Rd
  have Hw := Lib.hid hw; have Hbk := Lib.hid hbk; have Nb := Lib.hid nb; have HB := Lib.hid hB; have Hb := Lib.hid hb; have S2 := Lib.hid s2; have Hr := Lib.hid hr
  have hai : (a : Int) + 1 < 1000000 := by omega
  have wa1 : IntKind.i64.wrap (a : Int) = (a : Int) := by rw [IntKind.wrap_i64]; omega
  have wa2 : IntKind.i64.wrap ((a : Int) + 1) = (a : Int) + 1 := by rw [IntKind.wrap_i64]; omega
  have hal : (a : Int) < (n : Int) := by omega
  have Ha := Lib.hid (show ((a + 1 : Nat) : Int) = (a : Int) + 1 by omega)
  clear hw hbk hwb s1 s2 s3 nb hB hb hr ha hwq
  go_enter Tryz.func240, Tryz.ntmps240
  go_wp2_with fail
  go_quiet (fail)
  obtain ⟨wq, hwq⟩ : ∃ wq, wq = w.drewN nq := ⟨_, rfl⟩
  have hcq : Chg noB w wq := by rw [hwq]; exact (Chg.refl _ _).drewN nq
  have hbkq : wq.heap[b]? = some (.cells (doCells n p a v) 282 (0, 0)) := by rw [hwq]; exact Hbk.out
  have u0 : wq.cell? ⟨I.bW, 0, none⟩ = some (.pointer (some ⟨I.bm, 0, none⟩)) := by rw [hwq]; exact x0
  have v0 : wq.cell? ⟨b, 0, none⟩ = some (.int .i64 0) := by rw [hwq]; exact y0
  have v3 : wq.cell? ⟨b, 3, none⟩ = some (.int .i64 (a : Int)) := by rw [hwq]; exact y3
  have v4 : wq.cell? ⟨b, 4, none⟩ = some (.int .u64 (v : Int)) := by rw [hwq]; exact y4
  rw [← hwq]
  have Hcq := Lib.hid hcq; have Hbkq := Lib.hid hbkq
  clear x0 y0 y1 y3 y4 hwq hcq hbkq
  go_wp2_with fail
  refine wp_region_held_drew (S := (fun u => u.cell? ⟨I.bW, 0, none⟩ = some (.pointer (some ⟨I.bm, 0, none⟩)) ∧ u.cell? ⟨b, 0, none⟩ = some (.int .i64 0) ∧ u.cell? ⟨b, 3, none⟩ = some (.int .i64 (a : Int)))) (by kernel_rfl) ?_ (fun hHeld => ?_)
  · (try dsimp only)
    (first | exact ⟨(by with_reducible refine (World.cell?_setCell_other _ _ _ _ (by simp)).trans ?_; with_reducible exact z0), (by with_reducible refine (World.cell?_setCell_other _ _ _ _ (by simp)).trans ?_; with_reducible exact zw), (by with_reducible refine (World.cell?_setCell_other _ _ _ _ (by simp)).trans ?_; with_reducible exact z3)⟩ | exact ⟨u0, v0, v3⟩ | exact ⟨z0, zw, z3⟩)
  refine wpAnyH_take (i := 0) (v := ?tv1) rfl (by kernel_rfl) (by kernel_rfl) (by kernel_rfl) (fun _ _ _ h => h) (Or.inl ⟨by rfl, ?th1⟩) (by assumption) ?tr1
  (case th1 => (intro w hSw; (try dsimp only at hSw); go_simp; try with_reducible rfl))
  (try simp only [Act.put, List.getElem_toArray, List.getElem_cons_zero, List.getElem_cons_succ, List.setIfInBounds_toArray, List.set_cons_zero, List.set_cons_succ])
  refine wpAnyH_take (i := 1) (v := ?tv2) rfl (by kernel_rfl) (by kernel_rfl) (by kernel_rfl) (fun _ _ _ h => h) (Or.inl ⟨by rfl, ?th2⟩) (by assumption) ?tr2
  (case th2 => (intro w hSw; (try dsimp only at hSw); go_simp; try with_reducible rfl))
  (try simp only [Act.put, List.getElem_toArray, List.getElem_cons_zero, List.getElem_cons_succ, List.setIfInBounds_toArray, List.set_cons_zero, List.set_cons_succ])
  refine wpAnyH_take (i := 2) (v := ?tv3) rfl (by kernel_rfl) (by kernel_rfl) (by kernel_rfl) (fun _ _ _ h => h) (Or.inl ⟨by rfl, ?th3⟩) (by assumption) ?tr3
  (case th3 => (intro w hSw; (try dsimp only at hSw); go_simp; try with_reducible rfl))
  (try simp only [Act.put, List.getElem_toArray, List.getElem_cons_zero, List.getElem_cons_succ, List.setIfInBounds_toArray, List.set_cons_zero, List.set_cons_succ])
  refine wpAnyH_take (i := 3) (v := ?tv4) rfl (by kernel_rfl) (by kernel_rfl) (by kernel_rfl) (fun _ _ _ h => h) (Or.inl ⟨by rfl, ?th4⟩) (by assumption) ?tr4
  (case th4 => (intro w hSw; (try dsimp only at hSw); go_simp; try with_reducible rfl))
  (try simp only [Act.put, List.getElem_toArray, List.getElem_cons_zero, List.getElem_cons_succ, List.setIfInBounds_toArray, List.set_cons_zero, List.set_cons_succ])
  refine wpAnyH_take (i := 5) (v := ?tv5) rfl (by kernel_rfl) (by kernel_rfl) (by kernel_rfl) (fun _ _ _ h => h) (Or.inl ⟨by rfl, ?th5⟩) (by assumption) ?tr5
  (case th5 => (intro w hSw; (try dsimp only at hSw); go_simp; try with_reducible rfl))
  (try simp only [Act.put, List.getElem_toArray, List.getElem_cons_zero, List.getElem_cons_succ, List.setIfInBounds_toArray, List.set_cons_zero, List.set_cons_succ])
  refine wpAnyH_take (i := 6) (v := ?tv6) rfl (by kernel_rfl) (by kernel_rfl) (by kernel_rfl) (fun _ _ _ h => h) (Or.inl ⟨by rfl, ?th6⟩) (by assumption) ?tr6
  (case th6 => (intro w hSw; (try dsimp only at hSw); go_simp; try with_reducible rfl))
  (try simp only [Act.put, List.getElem_toArray, List.getElem_cons_zero, List.getElem_cons_succ, List.setIfInBounds_toArray, List.set_cons_zero, List.set_cons_succ])
  refine wpAnyH_take (i := 7) (v := ?tv7) rfl (by kernel_rfl) (by kernel_rfl) (by kernel_rfl) (fun _ _ _ h => h) (Or.inl ⟨by rfl, ?th7⟩) (by assumption) ?tr7
  (case th7 => (intro w hSw; (try dsimp only at hSw); go_simp; try with_reducible rfl))
  (try simp only [Act.put, List.getElem_toArray, List.getElem_cons_zero, List.getElem_cons_succ, List.setIfInBounds_toArray, List.set_cons_zero, List.set_cons_succ])
  refine wpAnyH_take (i := 8) (v := ?tv8) rfl (by kernel_rfl) (by kernel_rfl) (by kernel_rfl) (fun _ _ _ h => h) (Or.inl ⟨by rfl, ?th8⟩) (by assumption) ?tr8
  (case th8 => (intro w hSw; (try dsimp only at hSw); go_simp; try with_reducible rfl))
  (try simp only [Act.put, List.getElem_toArray, List.getElem_cons_zero, List.getElem_cons_succ, List.setIfInBounds_toArray, List.set_cons_zero, List.set_cons_succ])
  refine wpAnyH_take (i := 9) (v := ?tv9) rfl (by kernel_rfl) (by kernel_rfl) (by kernel_rfl) (fun _ _ _ h => h) (Or.inl ⟨by rfl, ?th9⟩) (by assumption) ?tr9
  (case th9 => (intro w hSw; (try dsimp only at hSw); go_simp; try with_reducible rfl))
  (try simp only [Act.put, List.getElem_toArray, List.getElem_cons_zero, List.getElem_cons_succ, List.setIfInBounds_toArray, List.set_cons_zero, List.set_cons_succ])
  refine wpAnyH_take (i := 10) (v := ?tv10) rfl (by kernel_rfl) (by kernel_rfl) (by kernel_rfl) (fun _ _ _ h => h) (Or.inl ⟨by rfl, ?th10⟩) (by assumption) ?tr10
  (case th10 => (intro w hSw; (try dsimp only at hSw); go_simp; try with_reducible rfl))
  (try simp only [Act.put, List.getElem_toArray, List.getElem_cons_zero, List.getElem_cons_succ, List.setIfInBounds_toArray, List.set_cons_zero, List.set_cons_succ])
  refine wpAnyH_take (i := 11) (v := ?tv11) rfl (by kernel_rfl) (by kernel_rfl) (by kernel_rfl) (fun _ _ _ h => h) (Or.inl ⟨by rfl, ?th11⟩) (by assumption) ?tr11
  (case th11 => (intro w hSw; (try dsimp only at hSw); go_simp; try with_reducible rfl))
  (try simp only [Act.put, List.getElem_toArray, List.getElem_cons_zero, List.getElem_cons_succ, List.setIfInBounds_toArray, List.set_cons_zero, List.set_cons_succ])
  refine wpAnyH_take (i := 12) (v := ?tv12) rfl (by kernel_rfl) (by kernel_rfl) (by kernel_rfl) (fun _ _ _ h => h) (Or.inl ⟨by rfl, ?th12⟩) (by assumption) ?tr12
  (case th12 => (intro w hSw; (try dsimp only at hSw); go_simp; try with_reducible rfl))
  (try simp only [Act.put, List.getElem_toArray, List.getElem_cons_zero, List.getElem_cons_succ, List.setIfInBounds_toArray, List.set_cons_zero, List.set_cons_succ])
  refine wpAnyH_take (i := 13) (v := ?tv13) rfl (by kernel_rfl) (by kernel_rfl) (by kernel_rfl) (fun _ _ _ h => h) (Or.inl ⟨by rfl, ?th13⟩) (by assumption) ?tr13
  (case th13 => (intro w hSw; (try dsimp only at hSw); go_simp; try with_reducible rfl))
  (try simp only [Act.put, List.getElem_toArray, List.getElem_cons_zero, List.getElem_cons_succ, List.setIfInBounds_toArray, List.set_cons_zero, List.set_cons_succ])
  refine wpAnyH_take (i := 14) (v := ?tv14) rfl (by kernel_rfl) (by kernel_rfl) (by kernel_rfl) (fun _ _ _ h => h) (Or.inl ⟨by rfl, ?th14⟩) (by assumption) ?tr14
  (case th14 => (intro w hSw; (try dsimp only at hSw); go_simp; try with_reducible rfl))
  (try simp only [Act.put, List.getElem_toArray, List.getElem_cons_zero, List.getElem_cons_succ, List.setIfInBounds_toArray, List.set_cons_zero, List.set_cons_succ])
  refine wpAnyH_take (i := 15) (v := ?tv15) rfl (by kernel_rfl) (by kernel_rfl) (by kernel_rfl) (fun _ _ _ h => h) (Or.inl ⟨by rfl, ?th15⟩) (by assumption) ?tr15
  (case th15 => (intro w hSw; (try dsimp only at hSw); go_simp; try with_reducible rfl))
  (try simp only [Act.put, List.getElem_toArray, List.getElem_cons_zero, List.getElem_cons_succ, List.setIfInBounds_toArray, List.set_cons_zero, List.set_cons_succ])
  refine wpAnyH_take (i := 16) (v := ?tv16) rfl (by kernel_rfl) (by kernel_rfl) (by kernel_rfl) (fun _ _ _ h => h) (Or.inl ⟨by rfl, ?th16⟩) (by assumption) ?tr16
  (case th16 => (intro w hSw; (try dsimp only at hSw); go_simp; try with_reducible rfl))
  (try simp only [Act.put, List.getElem_toArray, List.getElem_cons_zero, List.getElem_cons_succ, List.setIfInBounds_toArray, List.set_cons_zero, List.set_cons_succ])
  refine wpAnyH_take (i := 17) (v := ?tv17) rfl (by kernel_rfl) (by kernel_rfl) (by kernel_rfl) (fun _ _ _ h => h) (Or.inl ⟨by rfl, ?th17⟩) (by assumption) ?tr17
  (case th17 => (intro w hSw; (try dsimp only at hSw); go_simp; try with_reducible rfl))
  (try simp only [Act.put, List.getElem_toArray, List.getElem_cons_zero, List.getElem_cons_succ, List.setIfInBounds_toArray, List.set_cons_zero, List.set_cons_succ])
  refine wpAnyH_take (i := 18) (v := ?tv18) rfl (by kernel_rfl) (by kernel_rfl) (by kernel_rfl) (fun _ _ _ h => h) (Or.inl ⟨by rfl, ?th18⟩) (by assumption) ?tr18
  (case th18 => (intro w hSw; (try dsimp only at hSw); go_simp; try with_reducible rfl))
  (try simp only [Act.put, List.getElem_toArray, List.getElem_cons_zero, List.getElem_cons_succ, List.setIfInBounds_toArray, List.set_cons_zero, List.set_cons_succ])
  refine wpAnyH_ready (rs := [4, 19]) (by kernel_rfl) (by simp) ?_
  refine AllReadyH.cons rfl (fun K hK => ?_) (AllReadyH.cons rfl (fun K hK => ?_) (AllReadyH.nil))
  go_simp
  refine hK.out _ _ ?_ (fun hHeld => ?_)
  · (try dsimp only)
    (first | exact ⟨(by with_reducible refine (World.cell?_setCell_other _ _ _ _ (by simp)).trans ?_; with_reducible exact z0), (by with_reducible refine (World.cell?_setCell_other _ _ _ _ (by simp)).trans ?_; with_reducible exact zw), (by with_reducible refine (World.cell?_setCell_other _ _ _ _ (by simp)).trans ?_; with_reducible exact z3)⟩ | exact ⟨u0, v0, v3⟩ | exact ⟨z0, zw, z3⟩)
  clear hK K
  (try simp only [Act.put, List.getElem_toArray, List.getElem_cons_zero, List.getElem_cons_succ, List.setIfInBounds_toArray, List.set_cons_zero, List.set_cons_succ])
  refine wpAnyH_ready (rs := [19]) (by kernel_rfl) (by simp) ?_
  refine AllReadyH.cons rfl (fun K hK => ?_) AllReadyH.nil
  go_simp
  (go_at_call 169; refine (Rd.out wq _ Hcq.out ?_).mono ?_; (exact (Chg.refl _ _).drew); rintro e w1 ⟨rfl, hm1, hc1⟩; have hc1' : Chg (MemSet I.bm I.bw) w w1 := ((Hcq.out.mono (fun _ _ h => h.elim)).trans (Chg.refl _ wq).drew).trans hc1; have hc1q : Chg (MemSet I.bm I.bw) wq w1 := ((Chg.refl _ wq).drew).trans hc1; have z0 := box_keep hc1q S2.out u0; have hbk1 := (hc1'.block b hblt Nb.out).trans Hbk.out; have zw : w1.cell? ⟨b, 0, none⟩ = some (.int .i64 0) := (by rw [cell_blk hbk1]; rfl); have z3 : w1.cell? ⟨b, 3, none⟩ = some (.int .i64 (a : Int)) := (by rw [cell_blk hbk1]; rfl); have z4 : w1.cell? ⟨b, 4, none⟩ = some (.int .u64 (v : Int)) := (by rw [cell_blk hbk1]; rfl); have zf := frozen_blk hbk1 4; have zf3 := frozen_blk hbk1 3)
  refine hK.out _ _ ?_ (fun hHeld => ?_)
  · (try dsimp only)
    (first | exact ⟨(by with_reducible refine (World.cell?_setCell_other _ _ _ _ (by simp)).trans ?_; with_reducible exact z0), (by with_reducible refine (World.cell?_setCell_other _ _ _ _ (by simp)).trans ?_; with_reducible exact zw), (by with_reducible refine (World.cell?_setCell_other _ _ _ _ (by simp)).trans ?_; with_reducible exact z3)⟩ | exact ⟨u0, v0, v3⟩ | exact ⟨z0, zw, z3⟩)
  clear hK K
  (try simp only [Act.put, List.getElem_toArray, List.getElem_cons_zero, List.getElem_cons_succ, List.setIfInBounds_toArray, List.set_cons_zero, List.set_cons_succ])
  refine wpAnyH_take (i := 20) (v := ?tv19) rfl (by kernel_rfl) (by kernel_rfl) (by kernel_rfl) (fun _ _ _ h => h) (Or.inl ⟨by rfl, ?th19⟩) (by assumption) ?tr19
  (case th19 => (intro w hSw; (try dsimp only at hSw); go_simp; try with_reducible rfl))
  (try simp only [Act.put, List.getElem_toArray, List.getElem_cons_zero, List.getElem_cons_succ, List.setIfInBounds_toArray, List.set_cons_zero, List.set_cons_succ])
  refine wpAnyH_take (i := 21) (v := ?tv20) rfl (by kernel_rfl) (by kernel_rfl) (by kernel_rfl) (fun _ _ _ h => h) (Or.inl ⟨by rfl, ?th20⟩) (by assumption) ?tr20
  (case th20 => (intro w hSw; (try dsimp only at hSw); go_simp; try with_reducible rfl))
  (try simp only [Act.put, List.getElem_toArray, List.getElem_cons_zero, List.getElem_cons_succ, List.setIfInBounds_toArray, List.set_cons_zero, List.set_cons_succ])
  refine wpAnyH_take (i := 22) (v := ?tv21) rfl (by kernel_rfl) (by kernel_rfl) (by kernel_rfl) (fun _ _ _ h => h) (Or.inl ⟨by rfl, ?th21⟩) (by assumption) ?tr21
  (case th21 => (intro w hSw; (try dsimp only at hSw); go_simp; try with_reducible rfl))
  (try simp only [Act.put, List.getElem_toArray, List.getElem_cons_zero, List.getElem_cons_succ, List.setIfInBounds_toArray, List.set_cons_zero, List.set_cons_succ])
  refine wpAnyH_ready (rs := [23]) (by kernel_rfl) (by simp) ?_
  refine AllReadyH.cons rfl (fun K hK => ?_) AllReadyH.nil
  go_simp
  refine hK.out _ _ ?_ (fun hHeld => ?_)
  · (try dsimp only)
    (first | exact ⟨(by with_reducible refine (World.cell?_setCell_other _ _ _ _ (by simp)).trans ?_; with_reducible exact z0), (by with_reducible refine (World.cell?_setCell_other _ _ _ _ (by simp)).trans ?_; with_reducible exact zw), (by with_reducible refine (World.cell?_setCell_other _ _ _ _ (by simp)).trans ?_; with_reducible exact z3)⟩ | exact ⟨u0, v0, v3⟩ | exact ⟨z0, zw, z3⟩)
  clear hK K
  (try simp only [Act.put, List.getElem_toArray, List.getElem_cons_zero, List.getElem_cons_succ, List.setIfInBounds_toArray, List.set_cons_zero, List.set_cons_succ])
  refine wpAnyH_done (by kernel_rfl) ?_ _
  rotate_left
  go_simp
  (go_at_call 169; refine (Rd.out wq _ Hcq.out ?_).mono ?_; (exact (Chg.refl _ _).drew); rintro e w1 ⟨rfl, hm1, hc1⟩; have hc1' : Chg (MemSet I.bm I.bw) w w1 := ((Hcq.out.mono (fun _ _ h => h.elim)).trans (Chg.refl _ wq).drew).trans hc1; have hc1q : Chg (MemSet I.bm I.bw) wq w1 := ((Chg.refl _ wq).drew).trans hc1; have z0 := box_keep hc1q S2.out u0; have hbk1 := (hc1'.block b hblt Nb.out).trans Hbk.out; have zw : w1.cell? ⟨b, 0, none⟩ = some (.int .i64 0) := (by rw [cell_blk hbk1]; rfl); have z3 : w1.cell? ⟨b, 3, none⟩ = some (.int .i64 (a : Int)) := (by rw [cell_blk hbk1]; rfl); have z4 : w1.cell? ⟨b, 4, none⟩ = some (.int .u64 (v : Int)) := (by rw [cell_blk hbk1]; rfl); have zf := frozen_blk hbk1 4; have zf3 := frozen_blk hbk1 3)
  refine hK.out _ _ ?_ (fun hHeld => ?_)
  · (try dsimp only)
    (first | exact ⟨(by with_reducible refine (World.cell?_setCell_other _ _ _ _ (by simp)).trans ?_; with_reducible exact z0), (by with_reducible refine (World.cell?_setCell_other _ _ _ _ (by simp)).trans ?_; with_reducible exact zw), (by with_reducible refine (World.cell?_setCell_other _ _ _ _ (by simp)).trans ?_; with_reducible exact z3)⟩ | exact ⟨u0, v0, v3⟩ | exact ⟨z0, zw, z3⟩)
  clear hK K
  (try simp only [Act.put, List.getElem_toArray, List.getElem_cons_zero, List.getElem_cons_succ, List.setIfInBounds_toArray, List.set_cons_zero, List.set_cons_succ])
  refine wpAnyH_ready (rs := [4]) (by kernel_rfl) (by simp) ?_
  refine AllReadyH.cons rfl (fun K hK => ?_) AllReadyH.nil
  go_simp
  refine hK.out _ _ ?_ (fun hHeld => ?_)
  · (try dsimp only)
    (first | exact ⟨(by with_reducible refine (World.cell?_setCell_other _ _ _ _ (by simp)).trans ?_; with_reducible exact z0), (by with_reducible refine (World.cell?_setCell_other _ _ _ _ (by simp)).trans ?_; with_reducible exact zw), (by with_reducible refine (World.cell?_setCell_other _ _ _ _ (by simp)).trans ?_; with_reducible exact z3)⟩ | exact ⟨u0, v0, v3⟩ | exact ⟨z0, zw, z3⟩)
  clear hK K
  (try simp only [Act.put, List.getElem_toArray, List.getElem_cons_zero, List.getElem_cons_succ, List.setIfInBounds_toArray, List.set_cons_zero, List.set_cons_succ])
  refine wpAnyH_take (i := 20) (v := ?tv22) rfl (by kernel_rfl) (by kernel_rfl) (by kernel_rfl) (fun _ _ _ h => h) (Or.inl ⟨by rfl, ?th22⟩) (by assumption) ?tr22
  (case th22 => (intro w hSw; (try dsimp only at hSw); go_simp; try with_reducible rfl))
  (try simp only [Act.put, List.getElem_toArray, List.getElem_cons_zero, List.getElem_cons_succ, List.setIfInBounds_toArray, List.set_cons_zero, List.set_cons_succ])
  refine wpAnyH_take (i := 21) (v := ?tv23) rfl (by kernel_rfl) (by kernel_rfl) (by kernel_rfl) (fun _ _ _ h => h) (Or.inl ⟨by rfl, ?th23⟩) (by assumption) ?tr23
  (case th23 => (intro w hSw; (try dsimp only at hSw); go_simp; try with_reducible rfl))
  (try simp only [Act.put, List.getElem_toArray, List.getElem_cons_zero, List.getElem_cons_succ, List.setIfInBounds_toArray, List.set_cons_zero, List.set_cons_succ])
  refine wpAnyH_take (i := 22) (v := ?tv24) rfl (by kernel_rfl) (by kernel_rfl) (by kernel_rfl) (fun _ _ _ h => h) (Or.inl ⟨by rfl, ?th24⟩) (by assumption) ?tr24
  (case th24 => (intro w hSw; (try dsimp only at hSw); go_simp; try with_reducible rfl))
  (try simp only [Act.put, List.getElem_toArray, List.getElem_cons_zero, List.getElem_cons_succ, List.setIfInBounds_toArray, List.set_cons_zero, List.set_cons_succ])
  refine wpAnyH_ready (rs := [23]) (by kernel_rfl) (by simp) ?_
  refine AllReadyH.cons rfl (fun K hK => ?_) AllReadyH.nil
  go_simp
  refine hK.out _ _ ?_ (fun hHeld => ?_)
  · (try dsimp only)
    (first | exact ⟨(by with_reducible refine (World.cell?_setCell_other _ _ _ _ (by simp)).trans ?_; with_reducible exact z0), (by with_reducible refine (World.cell?_setCell_other _ _ _ _ (by simp)).trans ?_; with_reducible exact zw), (by with_reducible refine (World.cell?_setCell_other _ _ _ _ (by simp)).trans ?_; with_reducible exact z3)⟩ | exact ⟨u0, v0, v3⟩ | exact ⟨z0, zw, z3⟩)
  clear hK K
  (try simp only [Act.put, List.getElem_toArray, List.getElem_cons_zero, List.getElem_cons_succ, List.setIfInBounds_toArray, List.set_cons_zero, List.set_cons_succ])
  refine wpAnyH_done (by kernel_rfl) ?_ _
  all_goals
    obtain ⟨hw1, hch1⟩ := Hw.out.mems hc1' hm1
    have fin : ∀ q : Int, q = max (v : Int) (r : Int) → OwnTo w ((w1.setCell ⟨b, 4, none⟩ (.int .u64 q)).setCell ⟨b, 3, none⟩ (.int .i64 ((a : Int) + 1))) Mut B I N (taRead wd a) b (doCells n p (a + 1) (max v (taGot wd a))) 282 false (.returned (.bool false)) := by
      rintro q rfl
      refine own_fin hw1 hch1 Hb.out HB.out (((Chg.refl (fun k => k = b) w1).setCell (by exact .inl rfl) _).setCell (by exact .inl rfl) _) ?_
      rw [blk_set (blk_set hbk1 _ _), ← Hr.out]
      unfold doCells
      rw [Ha.out, max_cast]; rfl
    obtain ⟨M, hM⟩ : ∃ M : Int, M = if v < r then (r : Int) else (v : Int) := ⟨_, rfl⟩
    have Fin := Lib.hid (fin M (by rw [hM]; split <;> omega))
    rw [← hM]
    clear hM
    clear fin hw1 hch1 hbk1 hc1 hc1' hc1q hm1 u0 v0 v3 v4 z0 zw hHeld
    go_wp2_with fail
    go_ret
    exact Fin.out
set_option maxHeartbeats 4000000 in
theorem take_write (w : World) (Mut B : Nat → Prop) (I : WIds) (N : Nat) (wd : WD) (n p v b : Nat) (hw : WorldAt w Mut I N wd) (hbk : w.heap[b]? = some (.cells (doCells n p n v) 282 (0, 0))) (hb : B b) (hB : ∀ b, B b → Mut b ∧ ¬ WSet I b) (hp : p < 16) (hc : wd.mem.c.all + 1 < 1000000000000)
    (hv : v < 1000000) :
    Calls Tryz.prog 240 #[.pointer (some ⟨b, 0, none⟩), .pointer (some ⟨I.bW, 0, none⟩)] w fun e w' => OwnTo w w' Mut B I N (doWrite wd p (v + 1)) b (doCells n p n (v + 1)) 282 true e := by
  obtain ⟨s1, s2, s3⟩ := memSet_sub hw
  obtain ⟨mks, hwb, _, _⟩ := hw.blk
  have x0 : w.cell? ⟨I.bW, 0, none⟩ = some (.pointer (some ⟨I.bm, 0, none⟩)) := by rw [cell_blk hwb]; exact world_mem
  have y1 : w.cell? ⟨b, 1, none⟩ = some (.int .i64 (n : Int)) := by rw [cell_blk hbk]; rfl
  have y3 : w.cell? ⟨b, 3, none⟩ = some (.int .i64 (n : Int)) := by rw [cell_blk hbk]; rfl
  have hblt := blk_lt hbk
  have nb : ¬ MemSet I.bm I.bw b := fun h => (hB b hb).2 (s3 b h).1
  have nbW : b ≠ I.bW := fun h => (hB b hb).2 (.inl h)
  have Wr := Lib.hid (fun (wq u : World) (h0 : Chg (fun k => k = b) w wq) (h : Chg noB wq u) => write_any I.bm I.bw wd.mem (p : Int) (v + 1) u (hw.mem.chg (h0.trans (h.mono (fun _ _ h => h.elim))) (fun h => nb (.inl h.symm)) (fun q hq h => nb (.inr (by rw [← h]; exact hq.symm)))) (by omega) hc)
  rw [show (((v + 1 : Nat) : Int)) = (v : Int) + 1 by omega] at Wr
  have Hw := Lib.hid hw; have Hbk := Lib.hid hbk; have Nb := Lib.hid nb; have HB := Lib.hid hB; have Hb := Lib.hid hb; have S2 := Lib.hid s2
  have hpi : (p : Int) < 16 := by omega
  have wp : IntKind.i64.wrap (p : Int) = (p : Int) := by rw [IntKind.wrap_i64]; omega
  have hvi : (v : Int) < 1000000 := by omega
  have wv : IntKind.u64.wrap ((v : Int) + 1) = (v : Int) + 1 := by rw [IntKind.wrap_u64]; omega
  have Hv := Lib.hid (show ((v + 1 : Nat) : Int) = (v : Int) + 1 by omega)
  clear hw hbk hwb s1 s2 s3 nb hB hb hv
  go_enter Tryz.func240, Tryz.ntmps240
  go_wp2_with fail
  go_quiet (fail)
  obtain ⟨wq, hwq⟩ : ∃ wq, wq = w.drewN nq := ⟨_, rfl⟩
  have hcq : Chg noB w wq := by rw [hwq]; exact (Chg.refl _ _).drewN nq
  have hbkq : wq.heap[b]? = some (.cells (doCells n p n v) 282 (0, 0)) := by rw [hwq]; exact Hbk.out
  have u0 : wq.cell? ⟨I.bW, 0, none⟩ = some (.pointer (some ⟨I.bm, 0, none⟩)) := by rw [hwq]; exact x0
  have v0 : wq.cell? ⟨b, 0, none⟩ = some (.int .i64 0) := by rw [cell_blk hbkq]; rfl
  have v2 : wq.cell? ⟨b, 2, none⟩ = some (.int .i64 (p : Int)) := by rw [cell_blk hbkq]; rfl
  have v4 : wq.cell? ⟨b, 4, none⟩ = some (.int .u64 (v : Int)) := by rw [cell_blk hbkq]; rfl
  have vf : wq.frozen? ⟨b, 4, none⟩ = false := frozen_blk hbkq 4
  rw [← hwq]
  have Hcq := Lib.hid hcq; have Hbkq := Lib.hid hbkq
  clear x0 y1 y3 hwq hcq hbkq
  go_upto_region 6 with fail
  obtain ⟨wr, hwr⟩ : ∃ wr, wr = wq.setCell ⟨b, 4, none⟩ (.int .u64 ((v : Int) + 1)) := ⟨_, rfl⟩
  have hcr : Chg (fun k => k = b) wq wr := by rw [hwr]; exact (Chg.refl (fun k => k = b) wq).setCell (by exact .inl rfl) _
  have hbkr : wr.heap[b]? = some (.cells (doCells n p n (v + 1)) 282 (0, 0)) := by
    rw [hwr, blk_set Hbkq.out]; unfold doCells; rw [Hv.out]; rfl
  have r0 : wr.cell? ⟨I.bW, 0, none⟩ = some (.pointer (some ⟨I.bm, 0, none⟩)) := box_keep hcr (fun h => nbW h.symm) u0
  have t0 : wr.cell? ⟨b, 0, none⟩ = some (.int .i64 0) := by rw [cell_blk hbkr]; rfl
  have t2 : wr.cell? ⟨b, 2, none⟩ = some (.int .i64 (p : Int)) := by rw [cell_blk hbkr]; rfl
  have t4 : wr.cell? ⟨b, 4, none⟩ = some (.int .u64 ((v : Int) + 1)) := by rw [cell_blk hbkr, ← Hv.out]; rfl
  rw [← hwr]
  have hcwr : Chg (fun k => k = b) w wr := (Hcq.out.mono (fun _ _ h => h.elim)).trans hcr
  have Hcr := Lib.hid hcr; have Hbkr := Lib.hid hbkr; have Hcwr := Lib.hid hcwr
  clear u0 v0 v2 v4 vf hwr hcr hbkr hcwr
  go_wp2_with fail
  go_region_held3 (fun u => u.cell? ⟨I.bW, 0, none⟩ = some (.pointer (some ⟨I.bm, 0, none⟩)) ∧ u.cell? ⟨b, 0, none⟩ = some (.int .i64 0) ∧ u.cell? ⟨b, 2, none⟩ = some (.int .i64 (p : Int)) ∧ u.cell? ⟨b, 4, none⟩ = some (.int .u64 ((v : Int) + 1)))
    (first | exact ⟨r0, t0, t2, t4⟩ | exact ⟨z0, zw, z2, z4⟩)
    ((go_at_call 204; refine (Wr.out wr _ Hcwr.out ?_).mono ?_; (exact (Chg.refl _ _).drew); rintro e w1 ⟨rfl, hm1, hc1⟩; have hc1' : Chg (MemSet I.bm I.bw) wr w1 := ((Chg.refl _ wr).drew).trans hc1; have z0 := box_keep hc1' S2.out r0; have hbk1 := (hc1'.block b (blk_lt Hbkr.out) Nb.out).trans Hbkr.out; have zw : w1.cell? ⟨b, 0, none⟩ = some (.int .i64 0) := (by rw [cell_blk hbk1]; rfl); have z2 : w1.cell? ⟨b, 2, none⟩ = some (.int .i64 (p : Int)) := (by rw [cell_blk hbk1]; rfl); have z4 : w1.cell? ⟨b, 4, none⟩ = some (.int .u64 ((v : Int) + 1)) := (by rw [cell_blk hbk1, ← Hv.out]; rfl)))
  have hwr2 : WorldAt wr (mutTo Mut B (fun k => k = b)) I N wd := world_own Hw.out Hcwr.out Hb.out HB.out
  obtain ⟨hw1, hch1⟩ := hwr2.mems hc1' hm1
  have fin : OwnTo w w1 Mut B I N (doWrite wd p (v + 1)) b (doCells n p n (v + 1)) 282 true (.returned (.bool true)) :=
    ⟨rfl, (Hcwr.out.mono (fun k _ h => by cases h; exact .inr Hb.out)).trans (hch1.mono (fun k _ h => .inl h)), hw1, hbk1⟩
  have Fin := Lib.hid fin
  clear fin hw1 hch1 hbk1 hc1 hc1' hm1 hwr2 r0 t0 t2 t4 z0 zw z2 z4
  go_wp2
  go_ret
  exact Fin.out
end Go.Proofs.YteffgpcjfnjlkaaGreat
