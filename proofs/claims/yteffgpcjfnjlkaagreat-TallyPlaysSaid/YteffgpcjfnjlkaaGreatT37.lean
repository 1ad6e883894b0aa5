/- Layer 8: the tally's machines: reading. -/
import Derived.Test.YteffgpcjfnjlkaaGreatT36
set_option maxRecDepth 100000
set_option linter.unusedVariables false
set_option linter.unusedSimpArgs false
set_option linter.unnecessarySimpa false
namespace Go.Proofs.YteffgpcjfnjlkaaGreat
open List renaming getElem_toArray → zq1, getElem_cons_zero → zq2, getElem_cons_succ → zq3, setIfInBounds_toArray → zq4, set_cons_zero → zq5, set_cons_succ → zq6
open Go.RowKit
set_option maxHeartbeats 4000000 in
theorem read_more (w : World) (Mut B : Nat → Prop) (I : WIds) (N : Nat) (wd : WD) (n p a s : Nat) (kv : Value) (b : Nat) (hw : WorldAt w Mut I N wd) (hbk : w.heap[b]? = some (.cells (taReadC n p a s kv) 254 (0, 0))) (hb : B b) (hB : ∀ b, B b → Mut b ∧ ¬ WSet I b) (hp : p < 16) (hc : wd.mem.c.all + 1 < 1000000000000)
    (hn : n ≤ 16) (ha : a + 1 < n) (hs6 : s < 1000000) (hr6 : taGot wd a < 1000000) :
    Calls Tryz.prog 221 #[.pointer (some ⟨b, 0, none⟩), .pointer (some ⟨I.bW, 0, none⟩)] w fun e w' => OwnTo w w' Mut B I N (taRead wd a) b (taReadC n p (a + 1) (s + taGot wd a) kv) 254 false e := by
  have SR : s + taGot wd a = s + taGot wd a := rfl
  obtain ⟨s1, s2, s3⟩ := memSet_sub hw
  obtain ⟨mks, hwb, _, _⟩ := hw.blk
  have x0 : w.cell? ⟨I.bW, 0, none⟩ = some (.pointer (some ⟨I.bm, 0, none⟩)) := by rw [cell_blk hwb]; exact world_mem
  have x1 : w.cell? ⟨I.bW, 1, none⟩ = some (.int .i64 (wd.now : Int)) := by rw [cell_blk hwb]; exact world_now
  have y0 : w.cell? ⟨b, 0, none⟩ = some (.int .i64 0) := by rw [cell_blk hbk]; rfl
  have y3 : w.cell? ⟨b, 3, none⟩ = some (.int .i64 (a : Int)) := by rw [cell_blk hbk]; rfl
  have y4 : w.cell? ⟨b, 4, none⟩ = some (.int .u64 (s : Int)) := by rw [cell_blk hbk]; rfl
  have hblt := blk_lt hbk
  have nb : ¬ MemSet I.bm I.bw b := fun h => (hB b hb).2 (s3 b h).1
  have nbW : b ≠ I.bW := fun h => (hB b hb).2 (.inl h)
  have Rd := Lib.hid (fun (u : World) (h : Chg noB w u) => read_any I.bm I.bw wd.mem (a : Int) u (hw.mem.chg h (fun h => h) (fun _ _ h => h)) hc)
  obtain ⟨r, hr⟩ : ∃ r, r = taGot wd a := ⟨_, rfl⟩
  rw [show (memRead wd.mem (a : Int)).2 = r from hr.symm] at Rd
  rw [← hr] at hr6 SR
  have Hw := Lib.hid hw; have Hbk := Lib.hid hbk; have Nb := Lib.hid nb; have HB := Lib.hid hB; have Hb := Lib.hid hb; have S2 := Lib.hid s2; have Hr := Lib.hid hr
  have hai : (a : Int) + 1 < 1000000 := by omega
  have hsi : (s : Int) < 1000000 := by omega
  have hri : (r : Int) < 1000000 := by omega
  have wa1 : IntKind.i64.wrap (a : Int) = (a : Int) := by rw [IntKind.wrap_i64]; omega
  have wa2 : IntKind.i64.wrap ((a : Int) + 1) = (a : Int) + 1 := by rw [IntKind.wrap_i64]; omega
  have ws1 : IntKind.u64.wrap ((s : Int) + (r : Int)) = (s : Int) + (r : Int) := by rw [IntKind.wrap_u64]; omega
  have y1 : w.cell? ⟨b, 1, none⟩ = some (.int .i64 (n : Int)) := by rw [cell_blk hbk]; rfl
  have hal : (a : Int) + 1 < (n : Int) := by omega
  have Ha := Lib.hid (show ((a + 1 : Nat) : Int) = (a : Int) + 1 by omega)
  have Hsr := Lib.hid (show ((s + r : Nat) : Int) = (s : Int) + (r : Int) by omega)
  clear hw hbk hwb s1 s2 s3 nb hB hb hr hs6 hr6 ha SR
  go_enter Tryz.func221, Tryz.ntmps221
  go_wp2_with fail
  refine wp_region_held_drew (S := (fun u => u.cell? ⟨I.bW, 0, none⟩ = some (.pointer (some ⟨I.bm, 0, none⟩)) ∧ u.cell? ⟨b, 0, none⟩ = some (.int .i64 0) ∧ u.cell? ⟨b, 3, none⟩ = some (.int .i64 (a : Int)))) (by kernel_rfl) ?_ (fun hHeld => ?_)
  · (try dsimp only)
    (first | exact ⟨(by with_reducible refine (World.cell?_setCell_other _ _ _ _ (by simp)).trans ?_; with_reducible exact z0), (by with_reducible refine (World.cell?_setCell_other _ _ _ _ (by simp)).trans ?_; with_reducible exact zw), (by with_reducible refine (World.cell?_setCell_other _ _ _ _ (by simp)).trans ?_; with_reducible exact z3)⟩ | exact ⟨x0, y0, y3⟩ | exact ⟨z0, zw, z3⟩)
  refine wpAnyH_take (i := 0) (v := ?tv1) rfl (by kernel_rfl) (by kernel_rfl) (by kernel_rfl) (fun _ _ _ h => h) (Or.inl ⟨by rfl, ?th1⟩) (by assumption) ?tr1
  (case th1 => (intro w hSw; (try dsimp only at hSw); go_simp; try with_reducible rfl))
  (try simp only [Act.put, zq1, zq2, zq3, zq4, zq5, zq6])
  refine wpAnyH_take (i := 1) (v := ?tv2) rfl (by kernel_rfl) (by kernel_rfl) (by kernel_rfl) (fun _ _ _ h => h) (Or.inl ⟨by rfl, ?th2⟩) (by assumption) ?tr2
  (case th2 => (intro w hSw; (try dsimp only at hSw); go_simp; try with_reducible rfl))
  (try simp only [Act.put, zq1, zq2, zq3, zq4, zq5, zq6])
  refine wpAnyH_take (i := 2) (v := ?tv3) rfl (by kernel_rfl) (by kernel_rfl) (by kernel_rfl) (fun _ _ _ h => h) (Or.inl ⟨by rfl, ?th3⟩) (by assumption) ?tr3
  (case th3 => (intro w hSw; (try dsimp only at hSw); go_simp; try with_reducible rfl))
  (try simp only [Act.put, zq1, zq2, zq3, zq4, zq5, zq6])
  refine wpAnyH_take (i := 4) (v := ?tv4) rfl (by kernel_rfl) (by kernel_rfl) (by kernel_rfl) (fun _ _ _ h => h) (Or.inl ⟨by rfl, ?th4⟩) (by assumption) ?tr4
  (case th4 => (intro w hSw; (try dsimp only at hSw); go_simp; try with_reducible rfl))
  (try simp only [Act.put, zq1, zq2, zq3, zq4, zq5, zq6])
  refine wpAnyH_take (i := 5) (v := ?tv5) rfl (by kernel_rfl) (by kernel_rfl) (by kernel_rfl) (fun _ _ _ h => h) (Or.inl ⟨by rfl, ?th5⟩) (by assumption) ?tr5
  (case th5 => (intro w hSw; (try dsimp only at hSw); go_simp; try with_reducible rfl))
  (try simp only [Act.put, zq1, zq2, zq3, zq4, zq5, zq6])
  refine wpAnyH_take (i := 6) (v := ?tv6) rfl (by kernel_rfl) (by kernel_rfl) (by kernel_rfl) (fun _ _ _ h => h) (Or.inl ⟨by rfl, ?th6⟩) (by assumption) ?tr6
  (case th6 => (intro w hSw; (try dsimp only at hSw); go_simp; try with_reducible rfl))
  (try simp only [Act.put, zq1, zq2, zq3, zq4, zq5, zq6])
  refine wpAnyH_take (i := 7) (v := ?tv7) rfl (by kernel_rfl) (by kernel_rfl) (by kernel_rfl) (fun _ _ _ h => h) (Or.inl ⟨by rfl, ?th7⟩) (by assumption) ?tr7
  (case th7 => (intro w hSw; (try dsimp only at hSw); go_simp; try with_reducible rfl))
  (try simp only [Act.put, zq1, zq2, zq3, zq4, zq5, zq6])
  refine wpAnyH_take (i := 8) (v := ?tv8) rfl (by kernel_rfl) (by kernel_rfl) (by kernel_rfl) (fun _ _ _ h => h) (Or.inl ⟨by rfl, ?th8⟩) (by assumption) ?tr8
  (case th8 => (intro w hSw; (try dsimp only at hSw); go_simp; try with_reducible rfl))
  (try simp only [Act.put, zq1, zq2, zq3, zq4, zq5, zq6])
  refine wpAnyH_take (i := 9) (v := ?tv9) rfl (by kernel_rfl) (by kernel_rfl) (by kernel_rfl) (fun _ _ _ h => h) (Or.inl ⟨by rfl, ?th9⟩) (by assumption) ?tr9
  (case th9 => (intro w hSw; (try dsimp only at hSw); go_simp; try with_reducible rfl))
  (try simp only [Act.put, zq1, zq2, zq3, zq4, zq5, zq6])
  refine wpAnyH_take (i := 10) (v := ?tv10) rfl (by kernel_rfl) (by kernel_rfl) (by kernel_rfl) (fun _ _ _ h => h) (Or.inl ⟨by rfl, ?th10⟩) (by assumption) ?tr10
  (case th10 => (intro w hSw; (try dsimp only at hSw); go_simp; try with_reducible rfl))
  (try simp only [Act.put, zq1, zq2, zq3, zq4, zq5, zq6])
  refine wpAnyH_take (i := 11) (v := ?tv11) rfl (by kernel_rfl) (by kernel_rfl) (by kernel_rfl) (fun _ _ _ h => h) (Or.inl ⟨by rfl, ?th11⟩) (by assumption) ?tr11
  (case th11 => (intro w hSw; (try dsimp only at hSw); go_simp; try with_reducible rfl))
  (try simp only [Act.put, zq1, zq2, zq3, zq4, zq5, zq6])
  refine wpAnyH_take (i := 12) (v := ?tv12) rfl (by kernel_rfl) (by kernel_rfl) (by kernel_rfl) (fun _ _ _ h => h) (Or.inl ⟨by rfl, ?th12⟩) (by assumption) ?tr12
  (case th12 => (intro w hSw; (try dsimp only at hSw); go_simp; try with_reducible rfl))
  (try simp only [Act.put, zq1, zq2, zq3, zq4, zq5, zq6])
  refine wpAnyH_take (i := 13) (v := ?tv13) rfl (by kernel_rfl) (by kernel_rfl) (by kernel_rfl) (fun _ _ _ h => h) (Or.inl ⟨by rfl, ?th13⟩) (by assumption) ?tr13
  (case th13 => (intro w hSw; (try dsimp only at hSw); go_simp; try with_reducible rfl))
  (try simp only [Act.put, zq1, zq2, zq3, zq4, zq5, zq6])
  refine wpAnyH_take (i := 14) (v := ?tv14) rfl (by kernel_rfl) (by kernel_rfl) (by kernel_rfl) (fun _ _ _ h => h) (Or.inl ⟨by rfl, ?th14⟩) (by assumption) ?tr14
  (case th14 => (intro w hSw; (try dsimp only at hSw); go_simp; try with_reducible rfl))
  (try simp only [Act.put, zq1, zq2, zq3, zq4, zq5, zq6])
  refine wpAnyH_take (i := 15) (v := ?tv15) rfl (by kernel_rfl) (by kernel_rfl) (by kernel_rfl) (fun _ _ _ h => h) (Or.inl ⟨by rfl, ?th15⟩) (by assumption) ?tr15
  (case th15 => (intro w hSw; (try dsimp only at hSw); go_simp; try with_reducible rfl))
  (try simp only [Act.put, zq1, zq2, zq3, zq4, zq5, zq6])
  refine wpAnyH_take (i := 16) (v := ?tv16) rfl (by kernel_rfl) (by kernel_rfl) (by kernel_rfl) (fun _ _ _ h => h) (Or.inl ⟨by rfl, ?th16⟩) (by assumption) ?tr16
  (case th16 => (intro w hSw; (try dsimp only at hSw); go_simp; try with_reducible rfl))
  (try simp only [Act.put, zq1, zq2, zq3, zq4, zq5, zq6])
  refine wpAnyH_take (i := 17) (v := ?tv17) rfl (by kernel_rfl) (by kernel_rfl) (by kernel_rfl) (fun _ _ _ h => h) (Or.inl ⟨by rfl, ?th17⟩) (by assumption) ?tr17
  (case th17 => (intro w hSw; (try dsimp only at hSw); go_simp; try with_reducible rfl))
  (try simp only [Act.put, zq1, zq2, zq3, zq4, zq5, zq6])
  refine wpAnyH_ready (rs := [3, 18]) (by kernel_rfl) (by simp) ?_
  refine AllReadyH.cons rfl (fun K hK => ?_) (AllReadyH.cons rfl (fun K hK => ?_) (AllReadyH.nil))
  go_simp
  refine hK.out _ _ ?_ (fun hHeld => ?_)
  · (try dsimp only)
    (first | exact ⟨(by with_reducible refine (World.cell?_setCell_other _ _ _ _ (by simp)).trans ?_; with_reducible exact z0), (by with_reducible refine (World.cell?_setCell_other _ _ _ _ (by simp)).trans ?_; with_reducible exact zw), (by with_reducible refine (World.cell?_setCell_other _ _ _ _ (by simp)).trans ?_; with_reducible exact z3)⟩ | exact ⟨x0, y0, y3⟩ | exact ⟨z0, zw, z3⟩)
  clear hK K
  (try simp only [Act.put, zq1, zq2, zq3, zq4, zq5, zq6])
  refine wpAnyH_ready (rs := [18]) (by kernel_rfl) (by simp) ?_
  refine AllReadyH.cons rfl (fun K hK => ?_) AllReadyH.nil
  go_simp
  (go_at_call 169; refine (Rd.out _ ?_).mono ?_; (exact (Chg.refl _ _).drew); rintro e w1 ⟨rfl, hm1, hc1⟩; have hc1' : Chg (MemSet I.bm I.bw) w w1 := ((Chg.refl _ w).drew).trans hc1; have z0 := box_keep hc1' S2.out x0; have zx1 := box_keep hc1' S2.out x1; have hbk1 := (hc1'.block b hblt Nb.out).trans Hbk.out; have zw : w1.cell? ⟨b, 0, none⟩ = some (.int .i64 0) := (by rw [cell_blk hbk1]; rfl); have z3 : w1.cell? ⟨b, 3, none⟩ = some (.int .i64 (a : Int)) := (by rw [cell_blk hbk1]; rfl); have z4 : w1.cell? ⟨b, 4, none⟩ = some (.int .u64 (s : Int)) := (by rw [cell_blk hbk1]; rfl); have zf := frozen_blk hbk1 4; have zf3 := frozen_blk hbk1 3)
  refine hK.out _ _ ?_ (fun hHeld => ?_)
  · (try dsimp only)
    (first | exact ⟨(by with_reducible refine (World.cell?_setCell_other _ _ _ _ (by simp)).trans ?_; with_reducible exact z0), (by with_reducible refine (World.cell?_setCell_other _ _ _ _ (by simp)).trans ?_; with_reducible exact zw), (by with_reducible refine (World.cell?_setCell_other _ _ _ _ (by simp)).trans ?_; with_reducible exact z3)⟩ | exact ⟨x0, y0, y3⟩ | exact ⟨z0, zw, z3⟩)
  clear hK K
  (try simp only [Act.put, zq1, zq2, zq3, zq4, zq5, zq6])
  refine wpAnyH_take (i := 19) (v := ?tv18) rfl (by kernel_rfl) (by kernel_rfl) (by kernel_rfl) (fun _ _ _ h => h) (Or.inl ⟨by rfl, ?th18⟩) (by assumption) ?tr18
  (case th18 => (intro w hSw; (try dsimp only at hSw); go_simp; try with_reducible rfl))
  (try simp only [Act.put, zq1, zq2, zq3, zq4, zq5, zq6])
  refine wpAnyH_take (i := 20) (v := ?tv19) rfl (by kernel_rfl) (by kernel_rfl) (by kernel_rfl) (fun _ _ _ h => h) (Or.inl ⟨by rfl, ?th19⟩) (by assumption) ?tr19
  (case th19 => (intro w hSw; (try dsimp only at hSw); go_simp; try with_reducible rfl))
  (try simp only [Act.put, zq1, zq2, zq3, zq4, zq5, zq6])
  refine wpAnyH_take (i := 21) (v := ?tv20) rfl (by kernel_rfl) (by kernel_rfl) (by kernel_rfl) (fun _ _ _ h => h) (Or.inl ⟨by rfl, ?th20⟩) (by assumption) ?tr20
  (case th20 => (intro w hSw; (try dsimp only at hSw); go_simp; try with_reducible rfl))
  (try simp only [Act.put, zq1, zq2, zq3, zq4, zq5, zq6])
  refine wpAnyH_ready (rs := [22]) (by kernel_rfl) (by simp) ?_
  refine AllReadyH.cons rfl (fun K hK => ?_) AllReadyH.nil
  go_simp
  refine hK.out _ _ ?_ (fun hHeld => ?_)
  · (try dsimp only)
    (first | exact ⟨(by with_reducible refine (World.cell?_setCell_other _ _ _ _ (by simp)).trans ?_; with_reducible exact z0), (by with_reducible refine (World.cell?_setCell_other _ _ _ _ (by simp)).trans ?_; with_reducible exact zw), (by with_reducible refine (World.cell?_setCell_other _ _ _ _ (by simp)).trans ?_; with_reducible exact z3)⟩ | exact ⟨x0, y0, y3⟩ | exact ⟨z0, zw, z3⟩)
  clear hK K
  (try simp only [Act.put, zq1, zq2, zq3, zq4, zq5, zq6])
  refine wpAnyH_done (by kernel_rfl) ?_ _
  rotate_left
  go_simp
  (go_at_call 169; refine (Rd.out _ ?_).mono ?_; (exact (Chg.refl _ _).drew); rintro e w1 ⟨rfl, hm1, hc1⟩; have hc1' : Chg (MemSet I.bm I.bw) w w1 := ((Chg.refl _ w).drew).trans hc1; have z0 := box_keep hc1' S2.out x0; have zx1 := box_keep hc1' S2.out x1; have hbk1 := (hc1'.block b hblt Nb.out).trans Hbk.out; have zw : w1.cell? ⟨b, 0, none⟩ = some (.int .i64 0) := (by rw [cell_blk hbk1]; rfl); have z3 : w1.cell? ⟨b, 3, none⟩ = some (.int .i64 (a : Int)) := (by rw [cell_blk hbk1]; rfl); have z4 : w1.cell? ⟨b, 4, none⟩ = some (.int .u64 (s : Int)) := (by rw [cell_blk hbk1]; rfl); have zf := frozen_blk hbk1 4; have zf3 := frozen_blk hbk1 3)
  refine hK.out _ _ ?_ (fun hHeld => ?_)
  · (try dsimp only)
    (first | exact ⟨(by with_reducible refine (World.cell?_setCell_other _ _ _ _ (by simp)).trans ?_; with_reducible exact z0), (by with_reducible refine (World.cell?_setCell_other _ _ _ _ (by simp)).trans ?_; with_reducible exact zw), (by with_reducible refine (World.cell?_setCell_other _ _ _ _ (by simp)).trans ?_; with_reducible exact z3)⟩ | exact ⟨x0, y0, y3⟩ | exact ⟨z0, zw, z3⟩)
  clear hK K
  (try simp only [Act.put, zq1, zq2, zq3, zq4, zq5, zq6])
  refine wpAnyH_ready (rs := [3]) (by kernel_rfl) (by simp) ?_
  refine AllReadyH.cons rfl (fun K hK => ?_) AllReadyH.nil
  go_simp
  refine hK.out _ _ ?_ (fun hHeld => ?_)
  · (try dsimp only)
    (first | exact ⟨(by with_reducible refine (World.cell?_setCell_other _ _ _ _ (by simp)).trans ?_; with_reducible exact z0), (by with_reducible refine (World.cell?_setCell_other _ _ _ _ (by simp)).trans ?_; with_reducible exact zw), (by with_reducible refine (World.cell?_setCell_other _ _ _ _ (by simp)).trans ?_; with_reducible exact z3)⟩ | exact ⟨x0, y0, y3⟩ | exact ⟨z0, zw, z3⟩)
  clear hK K
  (try simp only [Act.put, zq1, zq2, zq3, zq4, zq5, zq6])
  refine wpAnyH_take (i := 19) (v := ?tv21) rfl (by kernel_rfl) (by kernel_rfl) (by kernel_rfl) (fun _ _ _ h => h) (Or.inl ⟨by rfl, ?th21⟩) (by assumption) ?tr21
  (case th21 => (intro w hSw; (try dsimp only at hSw); go_simp; try with_reducible rfl))
  (try simp only [Act.put, zq1, zq2, zq3, zq4, zq5, zq6])
  refine wpAnyH_take (i := 20) (v := ?tv22) rfl (by kernel_rfl) (by kernel_rfl) (by kernel_rfl) (fun _ _ _ h => h) (Or.inl ⟨by rfl, ?th22⟩) (by assumption) ?tr22
  (case th22 => (intro w hSw; (try dsimp only at hSw); go_simp; try with_reducible rfl))
  (try simp only [Act.put, zq1, zq2, zq3, zq4, zq5, zq6])
  refine wpAnyH_take (i := 21) (v := ?tv23) rfl (by kernel_rfl) (by kernel_rfl) (by kernel_rfl) (fun _ _ _ h => h) (Or.inl ⟨by rfl, ?th23⟩) (by assumption) ?tr23
  (case th23 => (intro w hSw; (try dsimp only at hSw); go_simp; try with_reducible rfl))
  (try simp only [Act.put, zq1, zq2, zq3, zq4, zq5, zq6])
  refine wpAnyH_ready (rs := [22]) (by kernel_rfl) (by simp) ?_
  refine AllReadyH.cons rfl (fun K hK => ?_) AllReadyH.nil
  go_simp
  refine hK.out _ _ ?_ (fun hHeld => ?_)
  · (try dsimp only)
    (first | exact ⟨(by with_reducible refine (World.cell?_setCell_other _ _ _ _ (by simp)).trans ?_; with_reducible exact z0), (by with_reducible refine (World.cell?_setCell_other _ _ _ _ (by simp)).trans ?_; with_reducible exact zw), (by with_reducible refine (World.cell?_setCell_other _ _ _ _ (by simp)).trans ?_; with_reducible exact z3)⟩ | exact ⟨x0, y0, y3⟩ | exact ⟨z0, zw, z3⟩)
  clear hK K
  (try simp only [Act.put, zq1, zq2, zq3, zq4, zq5, zq6])
  refine wpAnyH_done (by kernel_rfl) ?_ _
  all_goals
    obtain ⟨hw1, hch1⟩ := Hw.out.mems hc1' hm1
    have z1 : w1.cell? ⟨b, 1, none⟩ = some (.int .i64 (n : Int)) := by rw [cell_blk hbk1]; rfl
    have fin : OwnTo w ((w1.setCell ⟨b, 4, none⟩ (.int .u64 ((s : Int) + (r : Int)))).setCell ⟨b, 3, none⟩ (.int .i64 ((a : Int) + 1))) Mut B I N (taRead wd a) b (taReadC n p (a + 1) (s + taGot wd a) kv) 254 false (.returned (.bool false)) := by
      refine own_fin hw1 hch1 Hb.out HB.out (((Chg.refl (fun k => k = b) w1).setCell (by exact .inl rfl) _).setCell (by exact .inl rfl) _) ?_
      rw [blk_set (blk_set hbk1 _ _), ← Hr.out]
      unfold taReadC
      rw [Ha.out, Hsr.out]; rfl
    have Fin := Lib.hid fin
    clear fin hw1 hch1 hbk1 hc1 hc1' hm1 x0 x1 y0 y1 y3 y4 z0 zw zx1
    go_wp2_with fail
    go_quiet (fail)
    go_wp2
    go_ret
    exact Fin.out.drewN nq
set_option maxHeartbeats 4000000 in
theorem read_last (w : World) (Mut B : Nat → Prop) (I : WIds) (N : Nat) (wd : WD) (n p a s : Nat) (kv : Value) (b : Nat) (hw : WorldAt w Mut I N wd) (hbk : w.heap[b]? = some (.cells (taReadC n p a s kv) 254 (0, 0))) (hb : B b) (hB : ∀ b, B b → Mut b ∧ ¬ WSet I b) (hp : p < 16) (hc : wd.mem.c.all + 1 < 1000000000000)
    (hn : n ≤ 16) (ha : a + 1 = n) (hs6 : s < 1000000) (hr6 : taGot wd a < 1000000) (hL : (wd.traces 0).length < 1000000) (hT : ∀ t ∈ wd.traces 0, 0 ≤ t ∧ t < 1000000) (hI : wd.inv.getD p 0 < 1000000) :
    Calls Tryz.prog 221 #[.pointer (some ⟨b, 0, none⟩), .pointer (some ⟨I.bW, 0, none⟩)] w fun e w' => ∃ kv, OwnTo w w' Mut B I N (taRead wd a) b (taReadC n p (a + 1) (s + taGot wd a) kv) 254 true e ∧ Lst w' (mutTo Mut B (fun k => k = b)) kv (taKey wd p (s + taGot wd a)) := by
  have SR : s + taGot wd a = s + taGot wd a := rfl
  obtain ⟨s1, s2, s3⟩ := memSet_sub hw
  obtain ⟨mks, hwb, _, _⟩ := hw.blk
  have x0 : w.cell? ⟨I.bW, 0, none⟩ = some (.pointer (some ⟨I.bm, 0, none⟩)) := by rw [cell_blk hwb]; exact world_mem
  have x1 : w.cell? ⟨I.bW, 1, none⟩ = some (.int .i64 (wd.now : Int)) := by rw [cell_blk hwb]; exact world_now
  have y0 : w.cell? ⟨b, 0, none⟩ = some (.int .i64 0) := by rw [cell_blk hbk]; rfl
  have y3 : w.cell? ⟨b, 3, none⟩ = some (.int .i64 (a : Int)) := by rw [cell_blk hbk]; rfl
  have y4 : w.cell? ⟨b, 4, none⟩ = some (.int .u64 (s : Int)) := by rw [cell_blk hbk]; rfl
  have hblt := blk_lt hbk
  have nb : ¬ MemSet I.bm I.bw b := fun h => (hB b hb).2 (s3 b h).1
  have nbW : b ≠ I.bW := fun h => (hB b hb).2 (.inl h)
  have Rd := Lib.hid (fun (u : World) (h : Chg noB w u) => read_any I.bm I.bw wd.mem (a : Int) u (hw.mem.chg h (fun h => h) (fun _ _ h => h)) hc)
  obtain ⟨r, hr⟩ : ∃ r, r = taGot wd a := ⟨_, rfl⟩
  rw [show (memRead wd.mem (a : Int)).2 = r from hr.symm] at Rd
  rw [← hr] at hr6 SR
  have Hw := Lib.hid hw; have Hbk := Lib.hid hbk; have Nb := Lib.hid nb; have HB := Lib.hid hB; have Hb := Lib.hid hb; have S2 := Lib.hid s2; have Hr := Lib.hid hr
  have hai : (a : Int) + 1 < 1000000 := by omega
  have hsi : (s : Int) < 1000000 := by omega
  have hri : (r : Int) < 1000000 := by omega
  have wa1 : IntKind.i64.wrap (a : Int) = (a : Int) := by rw [IntKind.wrap_i64]; omega
  have wa2 : IntKind.i64.wrap ((a : Int) + 1) = (a : Int) + 1 := by rw [IntKind.wrap_i64]; omega
  have ws1 : IntKind.u64.wrap ((s : Int) + (r : Int)) = (s : Int) + (r : Int) := by rw [IntKind.wrap_u64]; omega
  have y1 : w.cell? ⟨b, 1, none⟩ = some (.int .i64 (n : Int)) := by rw [cell_blk hbk]; rfl
  have hnlt := hw.nowlt
  obtain ⟨now, hnow⟩ : ∃ now, now = wd.now := ⟨_, rfl⟩
  rw [← hnow] at x1 hnlt
  obtain ⟨S, hS⟩ : ∃ S, S = s + r := ⟨_, rfl⟩
  rw [← hr, ← hS]
  obtain ⟨ticks, htk⟩ : ∃ ticks, ticks = wd.traces 0 := ⟨_, rfl⟩
  obtain ⟨iv, hiv⟩ : ∃ iv, iv = wd.inv.getD p 0 := ⟨_, rfl⟩
  have hkey : taKey wd p S = [2 * taWhen ticks iv S, 2 * (now : Int)] := by unfold taKey; rw [htk, hiv, hnow]
  rw [hkey]
  rw [← htk] at hL hT
  rw [← hiv] at hI
  obtain ⟨L, hLn⟩ : ∃ L, L = ticks.length := ⟨_, rfl⟩
  rw [← hLn] at hL
  have hal : ¬ (a : Int) + 1 < (n : Int) := by omega
  have Ha := Lib.hid (show ((a + 1 : Nat) : Int) = (a : Int) + 1 by omega)
  have Hsr := Lib.hid (show ((S : Nat) : Int) = (s : Int) + (r : Int) by omega)
  have Htk := Lib.hid htk; have Hiv := Lib.hid hiv; have HLn := Lib.hid hLn; have HT := Lib.hid hT; have Hnow := Lib.hid hnow; have HI := Lib.hid hI; have HL := Lib.hid hL; have Hnlt := Lib.hid hnlt
  clear hw hbk hwb s1 s2 s3 nb hB hb hr hs6 hr6 ha SR hS htk hiv hkey hLn hT hnow hnlt hI hL
  go_enter Tryz.func221, Tryz.ntmps221
  go_wp2_with fail
  refine wp_region_held_drew (S := (fun u => u.cell? ⟨I.bW, 0, none⟩ = some (.pointer (some ⟨I.bm, 0, none⟩)) ∧ u.cell? ⟨b, 0, none⟩ = some (.int .i64 0) ∧ u.cell? ⟨b, 3, none⟩ = some (.int .i64 (a : Int)))) (by kernel_rfl) ?_ (fun hHeld => ?_)
  · (try dsimp only)
    (first | exact ⟨(by with_reducible refine (World.cell?_setCell_other _ _ _ _ (by simp)).trans ?_; with_reducible exact z0), (by with_reducible refine (World.cell?_setCell_other _ _ _ _ (by simp)).trans ?_; with_reducible exact zw), (by with_reducible refine (World.cell?_setCell_other _ _ _ _ (by simp)).trans ?_; with_reducible exact z3)⟩ | exact ⟨x0, y0, y3⟩ | exact ⟨z0, zw, z3⟩)
  refine wpAnyH_take (i := 0) (v := ?tv1) rfl (by kernel_rfl) (by kernel_rfl) (by kernel_rfl) (fun _ _ _ h => h) (Or.inl ⟨by rfl, ?th1⟩) (by assumption) ?tr1
  (case th1 => (intro w hSw; (try dsimp only at hSw); go_simp; try with_reducible rfl))
  (try simp only [Act.put, zq1, zq2, zq3, zq4, zq5, zq6])
  refine wpAnyH_take (i := 1) (v := ?tv2) rfl (by kernel_rfl) (by kernel_rfl) (by kernel_rfl) (fun _ _ _ h => h) (Or.inl ⟨by rfl, ?th2⟩) (by assumption) ?tr2
  (case th2 => (intro w hSw; (try dsimp only at hSw); go_simp; try with_reducible rfl))
  (try simp only [Act.put, zq1, zq2, zq3, zq4, zq5, zq6])
  refine wpAnyH_take (i := 2) (v := ?tv3) rfl (by kernel_rfl) (by kernel_rfl) (by kernel_rfl) (fun _ _ _ h => h) (Or.inl ⟨by rfl, ?th3⟩) (by assumption) ?tr3
  (case th3 => (intro w hSw; (try dsimp only at hSw); go_simp; try with_reducible rfl))
  (try simp only [Act.put, zq1, zq2, zq3, zq4, zq5, zq6])
  refine wpAnyH_take (i := 4) (v := ?tv4) rfl (by kernel_rfl) (by kernel_rfl) (by kernel_rfl) (fun _ _ _ h => h) (Or.inl ⟨by rfl, ?th4⟩) (by assumption) ?tr4
  (case th4 => (intro w hSw; (try dsimp only at hSw); go_simp; try with_reducible rfl))
  (try simp only [Act.put, zq1, zq2, zq3, zq4, zq5, zq6])
  refine wpAnyH_take (i := 5) (v := ?tv5) rfl (by kernel_rfl) (by kernel_rfl) (by kernel_rfl) (fun _ _ _ h => h) (Or.inl ⟨by rfl, ?th5⟩) (by assumption) ?tr5
  (case th5 => (intro w hSw; (try dsimp only at hSw); go_simp; try with_reducible rfl))
  (try simp only [Act.put, zq1, zq2, zq3, zq4, zq5, zq6])
  refine wpAnyH_take (i := 6) (v := ?tv6) rfl (by kernel_rfl) (by kernel_rfl) (by kernel_rfl) (fun _ _ _ h => h) (Or.inl ⟨by rfl, ?th6⟩) (by assumption) ?tr6
  (case th6 => (intro w hSw; (try dsimp only at hSw); go_simp; try with_reducible rfl))
  (try simp only [Act.put, zq1, zq2, zq3, zq4, zq5, zq6])
  refine wpAnyH_take (i := 7) (v := ?tv7) rfl (by kernel_rfl) (by kernel_rfl) (by kernel_rfl) (fun _ _ _ h => h) (Or.inl ⟨by rfl, ?th7⟩) (by assumption) ?tr7
  (case th7 => (intro w hSw; (try dsimp only at hSw); go_simp; try with_reducible rfl))
  (try simp only [Act.put, zq1, zq2, zq3, zq4, zq5, zq6])
  refine wpAnyH_take (i := 8) (v := ?tv8) rfl (by kernel_rfl) (by kernel_rfl) (by kernel_rfl) (fun _ _ _ h => h) (Or.inl ⟨by rfl, ?th8⟩) (by assumption) ?tr8
  (case th8 => (intro w hSw; (try dsimp only at hSw); go_simp; try with_reducible rfl))
  (try simp only [Act.put, zq1, zq2, zq3, zq4, zq5, zq6])
  refine wpAnyH_take (i := 9) (v := ?tv9) rfl (by kernel_rfl) (by kernel_rfl) (by kernel_rfl) (fun _ _ _ h => h) (Or.inl ⟨by rfl, ?th9⟩) (by assumption) ?tr9
  (case th9 => (intro w hSw; (try dsimp only at hSw); go_simp; try with_reducible rfl))
  (try simp only [Act.put, zq1, zq2, zq3, zq4, zq5, zq6])
  refine wpAnyH_take (i := 10) (v := ?tv10) rfl (by kernel_rfl) (by kernel_rfl) (by kernel_rfl) (fun _ _ _ h => h) (Or.inl ⟨by rfl, ?th10⟩) (by assumption) ?tr10
  (case th10 => (intro w hSw; (try dsimp only at hSw); go_simp; try with_reducible rfl))
  (try simp only [Act.put, zq1, zq2, zq3, zq4, zq5, zq6])
  refine wpAnyH_take (i := 11) (v := ?tv11) rfl (by kernel_rfl) (by kernel_rfl) (by kernel_rfl) (fun _ _ _ h => h) (Or.inl ⟨by rfl, ?th11⟩) (by assumption) ?tr11
  (case th11 => (intro w hSw; (try dsimp only at hSw); go_simp; try with_reducible rfl))
  (try simp only [Act.put, zq1, zq2, zq3, zq4, zq5, zq6])
  refine wpAnyH_take (i := 12) (v := ?tv12) rfl (by kernel_rfl) (by kernel_rfl) (by kernel_rfl) (fun _ _ _ h => h) (Or.inl ⟨by rfl, ?th12⟩) (by assumption) ?tr12
  (case th12 => (intro w hSw; (try dsimp only at hSw); go_simp; try with_reducible rfl))
  (try simp only [Act.put, zq1, zq2, zq3, zq4, zq5, zq6])
  refine wpAnyH_take (i := 13) (v := ?tv13) rfl (by kernel_rfl) (by kernel_rfl) (by kernel_rfl) (fun _ _ _ h => h) (Or.inl ⟨by rfl, ?th13⟩) (by assumption) ?tr13
  (case th13 => (intro w hSw; (try dsimp only at hSw); go_simp; try with_reducible rfl))
  (try simp only [Act.put, zq1, zq2, zq3, zq4, zq5, zq6])
  refine wpAnyH_take (i := 14) (v := ?tv14) rfl (by kernel_rfl) (by kernel_rfl) (by kernel_rfl) (fun _ _ _ h => h) (Or.inl ⟨by rfl, ?th14⟩) (by assumption) ?tr14
  (case th14 => (intro w hSw; (try dsimp only at hSw); go_simp; try with_reducible rfl))
  (try simp only [Act.put, zq1, zq2, zq3, zq4, zq5, zq6])
  refine wpAnyH_take (i := 15) (v := ?tv15) rfl (by kernel_rfl) (by kernel_rfl) (by kernel_rfl) (fun _ _ _ h => h) (Or.inl ⟨by rfl, ?th15⟩) (by assumption) ?tr15
  (case th15 => (intro w hSw; (try dsimp only at hSw); go_simp; try with_reducible rfl))
  (try simp only [Act.put, zq1, zq2, zq3, zq4, zq5, zq6])
  refine wpAnyH_take (i := 16) (v := ?tv16) rfl (by kernel_rfl) (by kernel_rfl) (by kernel_rfl) (fun _ _ _ h => h) (Or.inl ⟨by rfl, ?th16⟩) (by assumption) ?tr16
  (case th16 => (intro w hSw; (try dsimp only at hSw); go_simp; try with_reducible rfl))
  (try simp only [Act.put, zq1, zq2, zq3, zq4, zq5, zq6])
  refine wpAnyH_take (i := 17) (v := ?tv17) rfl (by kernel_rfl) (by kernel_rfl) (by kernel_rfl) (fun _ _ _ h => h) (Or.inl ⟨by rfl, ?th17⟩) (by assumption) ?tr17
  (case th17 => (intro w hSw; (try dsimp only at hSw); go_simp; try with_reducible rfl))
  (try simp only [Act.put, zq1, zq2, zq3, zq4, zq5, zq6])
  refine wpAnyH_ready (rs := [3, 18]) (by kernel_rfl) (by simp) ?_
  refine AllReadyH.cons rfl (fun K hK => ?_) (AllReadyH.cons rfl (fun K hK => ?_) (AllReadyH.nil))
  go_simp
  refine hK.out _ _ ?_ (fun hHeld => ?_)
  · (try dsimp only)
    (first | exact ⟨(by with_reducible refine (World.cell?_setCell_other _ _ _ _ (by simp)).trans ?_; with_reducible exact z0), (by with_reducible refine (World.cell?_setCell_other _ _ _ _ (by simp)).trans ?_; with_reducible exact zw), (by with_reducible refine (World.cell?_setCell_other _ _ _ _ (by simp)).trans ?_; with_reducible exact z3)⟩ | exact ⟨x0, y0, y3⟩ | exact ⟨z0, zw, z3⟩)
  clear hK K
  (try simp only [Act.put, zq1, zq2, zq3, zq4, zq5, zq6])
  refine wpAnyH_ready (rs := [18]) (by kernel_rfl) (by simp) ?_
  refine AllReadyH.cons rfl (fun K hK => ?_) AllReadyH.nil
  go_simp
  (go_at_call 169; refine (Rd.out _ ?_).mono ?_; (exact (Chg.refl _ _).drew); rintro e w1 ⟨rfl, hm1, hc1⟩; have hc1' : Chg (MemSet I.bm I.bw) w w1 := ((Chg.refl _ w).drew).trans hc1; have z0 := box_keep hc1' S2.out x0; have zx1 := box_keep hc1' S2.out x1; have hbk1 := (hc1'.block b hblt Nb.out).trans Hbk.out; have zw : w1.cell? ⟨b, 0, none⟩ = some (.int .i64 0) := (by rw [cell_blk hbk1]; rfl); have z3 : w1.cell? ⟨b, 3, none⟩ = some (.int .i64 (a : Int)) := (by rw [cell_blk hbk1]; rfl); have z4 : w1.cell? ⟨b, 4, none⟩ = some (.int .u64 (s : Int)) := (by rw [cell_blk hbk1]; rfl); have zf := frozen_blk hbk1 4; have zf3 := frozen_blk hbk1 3)
  refine hK.out _ _ ?_ (fun hHeld => ?_)
  · (try dsimp only)
    (first | exact ⟨(by with_reducible refine (World.cell?_setCell_other _ _ _ _ (by simp)).trans ?_; with_reducible exact z0), (by with_reducible refine (World.cell?_setCell_other _ _ _ _ (by simp)).trans ?_; with_reducible exact zw), (by with_reducible refine (World.cell?_setCell_other _ _ _ _ (by simp)).trans ?_; with_reducible exact z3)⟩ | exact ⟨x0, y0, y3⟩ | exact ⟨z0, zw, z3⟩)
  clear hK K
  (try simp only [Act.put, zq1, zq2, zq3, zq4, zq5, zq6])
  refine wpAnyH_take (i := 19) (v := ?tv18) rfl (by kernel_rfl) (by kernel_rfl) (by kernel_rfl) (fun _ _ _ h => h) (Or.inl ⟨by rfl, ?th18⟩) (by assumption) ?tr18
  (case th18 => (intro w hSw; (try dsimp only at hSw); go_simp; try with_reducible rfl))
  (try simp only [Act.put, zq1, zq2, zq3, zq4, zq5, zq6])
  refine wpAnyH_take (i := 20) (v := ?tv19) rfl (by kernel_rfl) (by kernel_rfl) (by kernel_rfl) (fun _ _ _ h => h) (Or.inl ⟨by rfl, ?th19⟩) (by assumption) ?tr19
  (case th19 => (intro w hSw; (try dsimp only at hSw); go_simp; try with_reducible rfl))
  (try simp only [Act.put, zq1, zq2, zq3, zq4, zq5, zq6])
  refine wpAnyH_take (i := 21) (v := ?tv20) rfl (by kernel_rfl) (by kernel_rfl) (by kernel_rfl) (fun _ _ _ h => h) (Or.inl ⟨by rfl, ?th20⟩) (by assumption) ?tr20
  (case th20 => (intro w hSw; (try dsimp only at hSw); go_simp; try with_reducible rfl))
  (try simp only [Act.put, zq1, zq2, zq3, zq4, zq5, zq6])
  refine wpAnyH_ready (rs := [22]) (by kernel_rfl) (by simp) ?_
  refine AllReadyH.cons rfl (fun K hK => ?_) AllReadyH.nil
  go_simp
  refine hK.out _ _ ?_ (fun hHeld => ?_)
  · (try dsimp only)
    (first | exact ⟨(by with_reducible refine (World.cell?_setCell_other _ _ _ _ (by simp)).trans ?_; with_reducible exact z0), (by with_reducible refine (World.cell?_setCell_other _ _ _ _ (by simp)).trans ?_; with_reducible exact zw), (by with_reducible refine (World.cell?_setCell_other _ _ _ _ (by simp)).trans ?_; with_reducible exact z3)⟩ | exact ⟨x0, y0, y3⟩ | exact ⟨z0, zw, z3⟩)
  clear hK K
  (try simp only [Act.put, zq1, zq2, zq3, zq4, zq5, zq6])
  refine wpAnyH_done (by kernel_rfl) ?_ _
  rotate_left
  go_simp
  (go_at_call 169; refine (Rd.out _ ?_).mono ?_; (exact (Chg.refl _ _).drew); rintro e w1 ⟨rfl, hm1, hc1⟩; have hc1' : Chg (MemSet I.bm I.bw) w w1 := ((Chg.refl _ w).drew).trans hc1; have z0 := box_keep hc1' S2.out x0; have zx1 := box_keep hc1' S2.out x1; have hbk1 := (hc1'.block b hblt Nb.out).trans Hbk.out; have zw : w1.cell? ⟨b, 0, none⟩ = some (.int .i64 0) := (by rw [cell_blk hbk1]; rfl); have z3 : w1.cell? ⟨b, 3, none⟩ = some (.int .i64 (a : Int)) := (by rw [cell_blk hbk1]; rfl); have z4 : w1.cell? ⟨b, 4, none⟩ = some (.int .u64 (s : Int)) := (by rw [cell_blk hbk1]; rfl); have zf := frozen_blk hbk1 4; have zf3 := frozen_blk hbk1 3)
  refine hK.out _ _ ?_ (fun hHeld => ?_)
  · (try dsimp only)
    (first | exact ⟨(by with_reducible refine (World.cell?_setCell_other _ _ _ _ (by simp)).trans ?_; with_reducible exact z0), (by with_reducible refine (World.cell?_setCell_other _ _ _ _ (by simp)).trans ?_; with_reducible exact zw), (by with_reducible refine (World.cell?_setCell_other _ _ _ _ (by simp)).trans ?_; with_reducible exact z3)⟩ | exact ⟨x0, y0, y3⟩ | exact ⟨z0, zw, z3⟩)
  clear hK K
  (try simp only [Act.put, zq1, zq2, zq3, zq4, zq5, zq6])
  refine wpAnyH_ready (rs := [3]) (by kernel_rfl) (by simp) ?_
  refine AllReadyH.cons rfl (fun K hK => ?_) AllReadyH.nil
  go_simp
  refine hK.out _ _ ?_ (fun hHeld => ?_)
  · (try dsimp only)
    (first | exact ⟨(by with_reducible refine (World.cell?_setCell_other _ _ _ _ (by simp)).trans ?_; with_reducible exact z0), (by with_reducible refine (World.cell?_setCell_other _ _ _ _ (by simp)).trans ?_; with_reducible exact zw), (by with_reducible refine (World.cell?_setCell_other _ _ _ _ (by simp)).trans ?_; with_reducible exact z3)⟩ | exact ⟨x0, y0, y3⟩ | exact ⟨z0, zw, z3⟩)
  clear hK K
  (try simp only [Act.put, zq1, zq2, zq3, zq4, zq5, zq6])
  refine wpAnyH_take (i := 19) (v := ?tv21) rfl (by kernel_rfl) (by kernel_rfl) (by kernel_rfl) (fun _ _ _ h => h) (Or.inl ⟨by rfl, ?th21⟩) (by assumption) ?tr21
  (case th21 => (intro w hSw; (try dsimp only at hSw); go_simp; try with_reducible rfl))
  (try simp only [Act.put, zq1, zq2, zq3, zq4, zq5, zq6])
  refine wpAnyH_take (i := 20) (v := ?tv22) rfl (by kernel_rfl) (by kernel_rfl) (by kernel_rfl) (fun _ _ _ h => h) (Or.inl ⟨by rfl, ?th22⟩) (by assumption) ?tr22
  (case th22 => (intro w hSw; (try dsimp only at hSw); go_simp; try with_reducible rfl))
  (try simp only [Act.put, zq1, zq2, zq3, zq4, zq5, zq6])
  refine wpAnyH_take (i := 21) (v := ?tv23) rfl (by kernel_rfl) (by kernel_rfl) (by kernel_rfl) (fun _ _ _ h => h) (Or.inl ⟨by rfl, ?th23⟩) (by assumption) ?tr23
  (case th23 => (intro w hSw; (try dsimp only at hSw); go_simp; try with_reducible rfl))
  (try simp only [Act.put, zq1, zq2, zq3, zq4, zq5, zq6])
  refine wpAnyH_ready (rs := [22]) (by kernel_rfl) (by simp) ?_
  refine AllReadyH.cons rfl (fun K hK => ?_) AllReadyH.nil
  go_simp
  refine hK.out _ _ ?_ (fun hHeld => ?_)
  · (try dsimp only)
    (first | exact ⟨(by with_reducible refine (World.cell?_setCell_other _ _ _ _ (by simp)).trans ?_; with_reducible exact z0), (by with_reducible refine (World.cell?_setCell_other _ _ _ _ (by simp)).trans ?_; with_reducible exact zw), (by with_reducible refine (World.cell?_setCell_other _ _ _ _ (by simp)).trans ?_; with_reducible exact z3)⟩ | exact ⟨x0, y0, y3⟩ | exact ⟨z0, zw, z3⟩)
  clear hK K
  (try simp only [Act.put, zq1, zq2, zq3, zq4, zq5, zq6])
  refine wpAnyH_done (by kernel_rfl) ?_ _
  all_goals
    obtain ⟨hw1, hch1⟩ := Hw.out.mems hc1' hm1
    have z1 : w1.cell? ⟨b, 1, none⟩ = some (.int .i64 (n : Int)) := by rw [cell_blk hbk1]; rfl
    obtain ⟨w3, hw3⟩ : ∃ w3, w3 = (w1.setCell ⟨b, 4, none⟩ (.int .u64 ((s : Int) + (r : Int)))).setCell ⟨b, 3, none⟩ (.int .i64 ((a : Int) + 1)) := ⟨_, rfl⟩
    have hc3 : Chg (fun k => k = b) w1 w3 := by rw [hw3]; exact ((Chg.refl (fun k => k = b) w1).setCell (by exact .inl rfl) _).setCell (by exact .inl rfl) _
    have hbk3 : w3.heap[b]? = some (.cells (taReadC n p (a + 1) S kv) 254 (0, 0)) := by
      rw [hw3, blk_set (blk_set hbk1 _ _)]
      unfold taReadC
      rw [Ha.out, Hsr.out]; rfl
    have own3 : OwnTo w w3 Mut B I N (taRead wd a) b (taReadC n p (a + 1) S kv) 254 true (.returned (.bool true)) := own_fin hw1 hch1 Hb.out HB.out hc3 hbk3
    have Hw1 := Lib.hid hw1; have Hch1 := Lib.hid hch1; have Own3 := Lib.hid own3; have Hc3 := Lib.hid hc3; have Hw3 := Lib.hid hw3
    have v1 : w3.cell? ⟨b, 1, none⟩ = some (.int .i64 (n : Int)) := by rw [cell_blk hbk3]; rfl
    have v2 : w3.cell? ⟨b, 2, none⟩ = some (.int .i64 (p : Int)) := by rw [cell_blk hbk3]; rfl
    have v3 : w3.cell? ⟨b, 3, none⟩ = some (.int .i64 ((a : Int) + 1)) := by rw [cell_blk hbk3, ← Ha.out]; rfl
    have v0 : w3.cell? ⟨b, 0, none⟩ = some (.int .i64 0) := by rw [cell_blk hbk3]; rfl
    have vx : w3.cell? ⟨I.bW, 1, none⟩ = some (.int .i64 (now : Int)) := box_keep hc3 (fun h => nbW h.symm) zx1
    have Hbk3 := Lib.hid hbk3
    clear hw1 hch1 hbk1 hc1 hc1' hm1 x0 x1 y0 y1 y3 y4 z0 z3 zx1 own3 hc3 hbk3 hw3
    go_upto_region 3 with fail
    rw [← Hw3.out]
    clear z1 z4 zw zf zf3 hai hsi hri wa1 wa2 ws1
    go_wp2_with fail
    go_quiet (fail)
    have Iv := Lib.hid (inv_any (w3.drewN nq) (mutTo Mut B (fun k => k = b)) I N _ p (Own3.out.drewN nq).2.2.1 hp)
    have Tr := Lib.hid (trace_any (w3.drewN nq) (mutTo Mut B (fun k => k = b)) I N _ 0 (Own3.out.drewN nq).2.2.1 (by rfl))
    rw [show (taRead wd a).inv.getD p 0 = iv from Hiv.out.symm] at Iv
    rw [show (taRead wd a).traces 0 = ticks from Htk.out.symm] at Tr
    have hlow := (Own3.out.drewN nq).2.2.1.low
    have hmb : (mutTo Mut B (fun k => k = b)) b := .inr rfl
    obtain ⟨wq, hwq⟩ : ∃ wq, wq = w3.drewN nq := ⟨_, rfl⟩
    have hbq : wq.heap[b]? = some (.cells (taReadC n p (a + 1) S kv) 254 (0, 0)) := by rw [hwq]; exact Hbk3.out
    have hcq : Chg (fun k => k = b) w1 wq := by rw [hwq]; exact Hc3.out.drewN nq
    have u2 : wq.cell? ⟨b, 2, none⟩ = some (.int .i64 (p : Int)) := by rw [hwq]; exact v2
    have u0 : wq.cell? ⟨b, 0, none⟩ = some (.int .i64 0) := by rw [hwq]; exact v0
    have u4 : wq.cell? ⟨b, 4, none⟩ = some (.int .u64 (S : Int)) := by rw [cell_blk hbq]; rfl
    have ux : wq.cell? ⟨I.bW, 1, none⟩ = some (.int .i64 (now : Int)) := by rw [hwq]; exact vx
    have uf : wq.frozen? ⟨b, 5, none⟩ = false := frozen_blk hbq 5
    have hbl9 := blk_lt hbq
    have hbl8 : wq.heap.size ≠ b := by omega
    have u5 : wq.cell? ⟨b, 5, none⟩ = some kv := by rw [cell_blk hbq]; rfl
    rw [← hwq] at Iv Tr hlow
    have Hwq := Lib.hid hwq; have Hbq := Lib.hid hbq; have Hcq := Lib.hid hcq; have Hlow := Lib.hid hlow; have Hmb := Lib.hid hmb
    have fin : ∀ q : Int, q = taWhen ticks iv S → ∀ w5, w5 = (wq.setCell ⟨b, 5, none⟩ (.slice (some ⟨wq.heap.size, 0, none⟩) 2 2)).alloc (.cells #[.int .i64 (2 * q), .int .i64 (2 * (now : Int))] 3) →
        ∃ kv, OwnTo w w5 Mut B I N (taRead wd a) b (taReadC n p (a + 1) S kv) 254 true (.returned (.bool true)) ∧ Lst w5 (mutTo Mut B (fun k => k = b)) kv [2 * taWhen ticks iv S, 2 * (now : Int)] := by
      rintro q rfl w5 hw5
      have hblt := blk_lt hbq
      have hc5 : Chg (fun k => k = b) w1 w5 := by rw [hw5]; exact (hcq.setCell (by exact .inl rfl) _).alloc _
      have hb5 : w5.heap[b]? = some (.cells (taReadC n p (a + 1) S (.slice (some ⟨wq.heap.size, 0, none⟩) 2 2)) 254 (0, 0)) := by
        rw [hw5, Below.heap_alloc _ _ _ (by simpa [World.setCell] using hblt), blk_set hbq]; rfl
      refine ⟨_, own_fin Hw1.out Hch1.out Hb.out HB.out hc5 hb5, ⟨some ⟨wq.heap.size, 0, none⟩, 2, rfl, (fun h => by cases h), ?_, fun k off e hk => by cases e; have := hlow _ hk; omega⟩⟩
      have h8 : w5.heap[wq.heap.size]? = some (.cells (([2 * taWhen ticks iv S, 2 * (now : Int)] : List Int).map (Value.int .i64)).toArray 3 (0, 0)) := by
        have h7 := heap_alloc_new (wq.setCell ⟨b, 5, none⟩ (.slice (some ⟨wq.heap.size, 0, none⟩) 2 2)) (.cells #[.int .i64 (2 * taWhen ticks iv S), .int .i64 (2 * (now : Int))] 3 (0, 0))
        rw [show (wq.setCell ⟨b, 5, none⟩ (.slice (some ⟨wq.heap.size, 0, none⟩) 2 2)).heap.size = wq.heap.size by simp [World.setCell]] at h7
        rw [hw5]; exact h7
      exact ints_block h8 (by simp)
    have Fin := Lib.hid fin
    clear v0 v1 v2 v3 vx hbq hcq hwq hlow hmb fin
    rw [← Hwq.out]
    go_wp2_with fail
    refine Iv.out.mono ?_
    rintro e w4 ⟨rfl, rfl⟩
    go_wp2_with fail
    refine Tr.out.mono ?_
    rintro e w4 ⟨⟨tv, rfl, ta, tc, htv, htn, hts, htm⟩, rfl⟩
    rw [← HLn.out] at hts htv
    subst htv
    by_cases hc : 0 < S ∧ S ≤ L
    · obtain ⟨k, rfl⟩ : ∃ k, S = k + 1 := ⟨S - 1, by omega⟩
      obtain ⟨t, ht⟩ : ∃ t, t = ticks.getD k 0 := ⟨_, rfl⟩
      have hwh : taWhen ticks iv (k + 1) = max (iv : Int) t := by unfold taWhen; rw [if_pos (by rw [← HLn.out]; exact hc), ht]; rfl
      have htr : 0 ≤ t ∧ t < 1000000 := by
        rw [ht, List.getD_eq_getElem?_getD, List.getElem?_eq_getElem (by rw [← HLn.out]; omega)]
        exact HT.out _ (List.getElem_mem _)
      obtain ⟨tb, tof, rfl, _, h9⟩ := hts.2 k (by omega)
      have e9 : wq.cell? ⟨tb, tof + k, none⟩ = some (.int .i64 t) := by have h10 := h9 0 (by omega); rw [Nat.mul_one, Nat.add_zero] at h10; rw [h10, ht]; rfl
      rw [show ((k + 1 : Nat) : Int) = (k : Int) + 1 by omega] at u4
      have k1 : (k : Int) + 1 ≤ (L : Int) := by omega
      have hL2 := HL.out
      have k3 : (0 : Int) ≤ (k : Int) := by omega
      have hnl := Hnlt.out; have hiv2 := HI.out
      have wn : IntKind.i64.wrap (2 * (now : Int)) = 2 * (now : Int) := by rw [IntKind.wrap_i64]; omega
      have wi : IntKind.i64.wrap (2 * (iv : Int)) = 2 * (iv : Int) := by rw [IntKind.wrap_i64]; omega
      have wt : IntKind.i64.wrap (2 * t) = 2 * t := by rw [IntKind.wrap_i64]; omega
      have wt2 : wrap64 (2 * t) = 2 * t := by unfold wrap64; omega
      have wi2 : wrap64 (2 * (iv : Int)) = 2 * (iv : Int) := by unfold wrap64; omega
      have wk : IntKind.u64.wrap ((k : Int) + 1 - 1) = (k : Int) := by rw [IntKind.wrap_u64]; omega
      have wk2 : IntKind.u64.wrap (k : Int) = (k : Int) := by rw [IntKind.wrap_u64]; omega
      have wL : IntKind.u64.wrap (L : Int) = (L : Int) := by rw [IntKind.wrap_u64]; omega
      clear hnl hiv2 htr hL2
      have F1 := Lib.hid (Fin.out _ hwh.symm)
      clear hwh h9 hts htm htn ht hc
      by_cases hm : (iv : Int) ≤ t
      · have hmx : max (iv : Int) t = t := by omega
        rw [hmx] at F1
        clear hmx
        go_wp2
        all_goals
          first
          | (go_ret; exact F1.out _ rfl)
          | (exfalso; omega)
          | (have hx : t = (iv : Int) := by omega
             subst hx; go_ret; exact F1.out _ rfl)
      · have hmx : max (iv : Int) t = (iv : Int) := by omega
        rw [hmx] at F1
        clear hmx
        go_wp2
        all_goals
          first
          | (go_ret; exact F1.out _ rfl)
          | (exfalso; omega)
          | (have hx : t = (iv : Int) := by omega
             subst hx; go_ret; exact F1.out _ rfl)
    · have hwh : taWhen ticks iv S = (iv : Int) := by unfold taWhen; rw [if_neg (by rw [← HLn.out]; exact hc)]
      have F1 := Lib.hid (Fin.out _ hwh.symm)
      clear hwh hts htm htn
      have hnl := Hnlt.out; have hiv2 := HI.out; have hL2 := HL.out
      have wn : IntKind.i64.wrap (2 * (now : Int)) = 2 * (now : Int) := by rw [IntKind.wrap_i64]; omega
      have wi : IntKind.i64.wrap (2 * (iv : Int)) = 2 * (iv : Int) := by rw [IntKind.wrap_i64]; omega
      have wL : IntKind.u64.wrap (L : Int) = (L : Int) := by rw [IntKind.wrap_u64]; omega
      clear hnl hiv2 hL2
      by_cases h0 : S = 0
      · subst h0
        clear hc
        go_wp2
        all_goals
          first
          | (go_ret; exact F1.out _ rfl)
          | (exfalso; omega)
          | (have hx : t = (iv : Int) := by omega
             subst hx; go_ret; exact F1.out _ rfl)
      · have k1 : ¬ (S : Int) ≤ (L : Int) := by omega
        have k0 : (0 : Int) < (S : Int) := by omega
        clear hc h0
        go_wp2
        all_goals
          first
          | (go_ret; exact F1.out _ rfl)
          | (exfalso; omega)
          | (have hx : t = (iv : Int) := by omega
             subst hx; go_ret; exact F1.out _ rfl)
end Go.Proofs.YteffgpcjfnjlkaaGreat
