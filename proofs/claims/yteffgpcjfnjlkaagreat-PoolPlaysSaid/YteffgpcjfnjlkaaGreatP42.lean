/- Layer 13: the pool's machine: taking a place. -/
import Derived.Test.YteffgpcjfnjlkaaGreatP41
import Derived.Laws.BitsAllLaws
import Derived.WalkMore
import Derived.Test.YteffgpcjfnjlkaaGreatP39
set_option maxRecDepth 100000
set_option linter.unusedVariables false
set_option linter.unusedSimpArgs false
set_option linter.unnecessarySimpa false
namespace Go.Proofs.YteffgpcjfnjlkaaGreat
section
open Go.RowKit
def poCells (n k a f m : Nat) (free : Bool) (er : Int) (vl : Nat) : Array Value := #[.int .i64 0, .int .i64 (n : Int), .int .i64 (k : Int), .int .i64 ((a : Int) + 2), .int .i64 ((f : Int) + 2), .int .u64 (m : Int), .bool free, .int .i64 er, .int .u64 (vl : Int), .slice none 0 0]
def poolV (n k : Nat) : Value := .agg #[.int .i64 0, .int .i64 (n : Int), .int .i64 (k : Int)]
theorem pool_at (n k a : Nat) (ha : a < 1000000) (w : World) : Calls Tryz.prog 194 #[.agg #[.int .i64 0, .int .i64 (n : Int), .int .i64 (k : Int)], .int .i64 ((a : Int) + 2)] w fun e w' => e = .returned (.int .i64 (a : Int)) ∧ Below w.heap.size w w' := by
 have h1 : (a : Int) < 1000000 := by omega
 have w1 : IntKind.i64.wrap ((a : Int) + 2) = (a : Int) + 2 := by rw [IntKind.wrap_i64]; omega
 have w2 : IntKind.i64.wrap (a : Int) = (a : Int) := by rw [IntKind.wrap_i64]; omega
 clear ha
 go_enter Tryz.func194, Tryz.ntmps194
 go_wp2
 go_ret
 exact ⟨rfl, Gr.new _ _⟩
theorem poRef_or {a v : Nat} (ha : a < 512) : ((a + 2) ||| (v * 1024)) = poRef a v := by
 unfold poRef
 have h := Nat.two_pow_add_eq_or_of_lt (i := 10) (b := a + 2) (by omega) v
 rw [Nat.or_comm, Nat.mul_comm v 1024]
 have h2 : 2 ^ 10 * v + (a + 2) = 1024 * v + (a + 2) := by omega
 rw [show (1024 : Nat) = 2 ^ 10 from rfl, ← h]; omega
theorem pool_ref (a v : Nat) (ha : a < 512) (hv : v < 1000000) (w : World) : Calls Tryz.prog 243 #[.int .i64 ((a : Int) + 2), .int .u64 (v : Int)] w fun e w' => e = .returned (.int .u64 (poRef a v : Int)) ∧ Below w.heap.size w w' := by
 have h1 : (a : Int) < 512 := by omega
 have h2 : (v : Int) < 1000000 := by omega
 have w1 : IntKind.u64.wrap ((a : Int) + 2) = (a : Int) + 2 := by rw [IntKind.wrap_u64]; omega
 have w2 : IntKind.u64.wrap ((v : Int) * 1024) = (v : Int) * 1024 := by rw [IntKind.wrap_u64]; omega
 have e : bits .or .u64 ((a : Int) + 2) ((v : Int) * 1024) = (poRef a v : Int) := by
  have h3 := u64_or_nat (a + 2) (v * 1024) (by omega) (by omega)
  rw [poRef_or ha] at h3
  simpa using h3
 have E := Lib.hid e
 clear e ha hv
 go_enter Tryz.func243, Tryz.ntmps243
 go_wp2
 go_ret
 refine ⟨?_, Gr.refl _⟩
 rw [← E.out]; rfl
set_option maxHeartbeats 4000000 in
theorem take_put (w : World) (Mut B : Nat → Prop) (I : WIds) (N : Nat) (wd : WD) (n k a f m b : Nat) (hw : WorldAt w Mut I N wd) (hbk : w.heap[b]? = some (.cells (poCells n k a f m true 0 0) 285 (0, 0))) (hb : B b) (hB : ∀ b, B b → Mut b ∧ ¬ WSet I b) (hc : wd.mem.c.all + 1 < 1000000000000)
  (ha : a < 512) (hm : m < 1000000) :
  Calls Tryz.prog 242 #[.pointer (some ⟨b, 0, none⟩), .pointer (some ⟨I.bW, 0, none⟩)] w fun e w' => OwnTo w w' Mut B I N (doWrite wd a (m + 3)) b (poCells n k a f m true 0 (poRef a (m / 2 + 1))) 285 true e := by
 obtain ⟨s1, s2, s3⟩ := memSet_sub hw
 obtain ⟨mks, hwb, _, _⟩ := hw.blk
 have x0 : w.cell? ⟨I.bW, 0, none⟩ = some (.pointer (some ⟨I.bm, 0, none⟩)) := by rw [cell_blk hwb]; exact world_mem
 have y0 : w.cell? ⟨b, 0, none⟩ = some (.int .i64 0) := by rw [cell_blk hbk]; rfl
 have y1 : w.cell? ⟨b, 1, none⟩ = some (.int .i64 (n : Int)) := by rw [cell_blk hbk]; rfl
 have y2 : w.cell? ⟨b, 2, none⟩ = some (.int .i64 (k : Int)) := by rw [cell_blk hbk]; rfl
 have y3 : w.cell? ⟨b, 3, none⟩ = some (.int .i64 ((a : Int) + 2)) := by rw [cell_blk hbk]; rfl
 have y5 : w.cell? ⟨b, 5, none⟩ = some (.int .u64 (m : Int)) := by rw [cell_blk hbk]; rfl
 have y6 : w.cell? ⟨b, 6, none⟩ = some (.bool true) := by rw [cell_blk hbk]; rfl
 have hblt := blk_lt hbk
 have nb : ¬ MemSet I.bm I.bw b := fun h => (hB b hb).2 (s3 b h).1
 have Wr := Lib.hid (fun (u : World) (h : Chg noB w u) => write_any I.bm I.bw wd.mem (a : Int) (m + 3) u (hw.mem.chg h (fun h => h) (fun _ _ h => h)) (by omega) hc)
 rw [show (((m + 3 : Nat) : Int)) = (m : Int) + 3 by omega] at Wr
 have At := Lib.hid (pool_at n k a (by omega))
 have Rf := Lib.hid (pool_ref a (m / 2 + 1) ha (by omega))
 obtain ⟨R, hR⟩ : ∃ R, R = poRef a (m / 2 + 1) := ⟨_, rfl⟩
 rw [← hR] at Rf
 rw [show ((m / 2 + 1 : Nat) : Int) = (m : Int) / 2 + 1 by omega] at Rf
 have Hw := Lib.hid hw; have Hbk := Lib.hid hbk; have Nb := Lib.hid nb; have HB := Lib.hid hB; have Hb := Lib.hid hb; have S2 := Lib.hid s2; have HR := Lib.hid hR
 have hmi : (m : Int) < 1000000 := by omega
 have hai : (a : Int) < 512 := by omega
 have wm3 : IntKind.u64.wrap ((m : Int) + 3) = (m : Int) + 3 := by rw [IntKind.wrap_u64]; omega
 have wm1 : IntKind.u64.wrap ((m : Int) / 2 + 1) = (m : Int) / 2 + 1 := by rw [IntKind.wrap_u64]; omega
 have wm2 : IntKind.u64.wrap ((m : Int) / 2) = (m : Int) / 2 := by rw [IntKind.wrap_u64]; omega
 clear hw hbk hwb s1 s2 s3 nb hB hb ha hm hR
 go_enter Tryz.func242, Tryz.ntmps242
 go_wp2_with fail
 go_step3
 go_wp2_with fail
 go_step3
 go_wp2_with fail
 go_region_held3 (fun u => u.cell? ⟨I.bW, 0, none⟩ = some (.pointer (some ⟨I.bm, 0, none⟩)) ∧ u.cell? ⟨b, 0, none⟩ = some (.int .i64 0) ∧ u.cell? ⟨b, 1, none⟩ = some (.int .i64 (n : Int)) ∧ u.cell? ⟨b, 2, none⟩ = some (.int .i64 (k : Int)) ∧ u.cell? ⟨b, 3, none⟩ = some (.int .i64 ((a : Int) + 2)) ∧ u.cell? ⟨b, 5, none⟩ = some (.int .u64 (m : Int)))
  (first | exact ⟨x0, y0, y1, y2, y3, y5⟩ | exact ⟨v0, u0, u1, u2, u3, u5⟩ | exact ⟨z0, zw, z1, z2, z3, z5⟩)
  (first | (go_at_call 194; refine (At.out _).mono ?_; rintro e w5 ⟨rfl, hb5⟩; have hc5 : Chg noB w w5 := ((Chg.refl _ w).drew).trans (Chg.of_below hb5); have v0 := box_keep hc5 (fun h => h) x0; have hbk5 := (hc5.block b hblt (fun h => h)).trans Hbk.out; have u0 : w5.cell? ⟨b, 0, none⟩ = some (.int .i64 0) := (by rw [cell_blk hbk5]; rfl); have u1 : w5.cell? ⟨b, 1, none⟩ = some (.int .i64 (n : Int)) := (by rw [cell_blk hbk5]; rfl); have u2 : w5.cell? ⟨b, 2, none⟩ = some (.int .i64 (k : Int)) := (by rw [cell_blk hbk5]; rfl); have u3 : w5.cell? ⟨b, 3, none⟩ = some (.int .i64 ((a : Int) + 2)) := (by rw [cell_blk hbk5]; rfl); have u5 : w5.cell? ⟨b, 5, none⟩ = some (.int .u64 (m : Int)) := (by rw [cell_blk hbk5]; rfl)) | (go_at_call 204; refine (Wr.out _ hc5).mono ?_; rintro e w1 ⟨rfl, hm1, hc1⟩; have hc1' : Chg (MemSet I.bm I.bw) w w1 := (hc5.mono (fun _ _ h => h.elim)).trans hc1; have z0 := box_keep hc1' S2.out x0; have hbk1 := (hc1'.block b hblt Nb.out).trans Hbk.out; have zw : w1.cell? ⟨b, 0, none⟩ = some (.int .i64 0) := (by rw [cell_blk hbk1]; rfl); have z1 : w1.cell? ⟨b, 1, none⟩ = some (.int .i64 (n : Int)) := (by rw [cell_blk hbk1]; rfl); have z2 : w1.cell? ⟨b, 2, none⟩ = some (.int .i64 (k : Int)) := (by rw [cell_blk hbk1]; rfl); have z3 : w1.cell? ⟨b, 3, none⟩ = some (.int .i64 ((a : Int) + 2)) := (by rw [cell_blk hbk1]; rfl); have z5 : w1.cell? ⟨b, 5, none⟩ = some (.int .u64 (m : Int)) := (by rw [cell_blk hbk1]; rfl)))
 obtain ⟨hw1, hch1⟩ := Hw.out.mems hc1' hm1
 have fin : ∀ u, Chg (fun k => k = b) w1 u → u.heap[b]? = some (.cells (poCells n k a f m true 0 R) 285 (0, 0)) → OwnTo w u Mut B I N (doWrite wd a (m + 3)) b (poCells n k a f m true 0 (poRef a (m / 2 + 1))) 285 true (.returned (.bool true)) := by
  intro u hu hbu
  exact own_fin hw1 hch1 Hb.out HB.out hu (by rw [← HR.out]; exact hbu)
 have Fin := Lib.hid fin
 have Hbk1 := Lib.hid hbk1
 clear fin hw1 hch1 hbk1 hc1 hc1' hm1 hc5 x0 y0 y1 y2 y3 y5 y6 v0 u0 u1 u2 u3 u5 z0 zw z1 z2
 go_wp2_with fail
 go_region_held3 (fun u => u.cell? ⟨b, 3, none⟩ = some (.int .i64 ((a : Int) + 2)) ∧ u.cell? ⟨b, 5, none⟩ = some (.int .u64 (m : Int)))
  (first | exact ⟨(by with_reducible refine (World.cell?_setCell_other _ _ _ _ (by simp)).trans ?_; with_reducible exact k3), (by with_reducible refine (World.cell?_setCell_other _ _ _ _ (by simp)).trans ?_; with_reducible exact k5)⟩ | exact ⟨k3, k5⟩ | exact ⟨z3, z5⟩)
  ((go_at_call 243; refine (Rf.out _).mono ?_; rintro e w2 ⟨rfl, hb2⟩; have hc2 : Chg (fun k => k = b) w1 w2 := ((Chg.refl _ w1).drew).trans (Chg.of_below hb2); have hbk2 := ((Chg.refl noB w1).drew.trans (Chg.of_below hb2)).block b (blk_lt Hbk1.out) (fun h => h); have hbk3 := hbk2.trans Hbk1.out; have k3 : w2.cell? ⟨b, 3, none⟩ = some (.int .i64 ((a : Int) + 2)) := (by rw [cell_blk hbk3]; rfl); have k5 : w2.cell? ⟨b, 5, none⟩ = some (.int .u64 (m : Int)) := (by rw [cell_blk hbk3]; rfl); have kf := frozen_blk hbk3 8; have k8 : w2.cell? ⟨b, 8, none⟩ = some (.int .u64 ((0 : Nat) : Int)) := (by rw [cell_blk hbk3]; rfl)))
 have F := Lib.hid (Fin.out (w2.setCell ⟨b, 8, none⟩ (.int .u64 (R : Int))) (hc2.setCell (by exact .inl rfl) _) (by rw [blk_set hbk3]; rfl))
 clear hb2 hc2 hbk2 hbk3 k3 k5 kf k8 z3 z5
 go_wp2_with fail
 simp only [Exit.noGoto]
 go_wp2_with fail
 go_ret
 exact F.out
def poNext (n k a f g : Nat) : Array Value := if g % 2 = 0 then poCells n k a f g true 0 0 else if a + 1 < f then poCells n k (a + 1) f g false 0 0 else poCells n k (a + 1) f g false 6 0
def poEnds (a f g : Nat) : Bool := if g % 2 = 0 then false else if a + 1 < f then false else true
set_option maxHeartbeats 8000000 in
theorem take_read (w : World) (Mut B : Nat → Prop) (I : WIds) (N : Nat) (wd : WD) (n k a f m b : Nat) (hw : WorldAt w Mut I N wd) (hbk : w.heap[b]? = some (.cells (poCells n k a f m false 0 0) 285 (0, 0))) (hb : B b) (hB : ∀ b, B b → Mut b ∧ ¬ WSet I b) (hc : wd.mem.c.all + 1 < 1000000000000)
  (haf : a < f) (hf : f ≤ 512) :
  Calls Tryz.prog 242 #[.pointer (some ⟨b, 0, none⟩), .pointer (some ⟨I.bW, 0, none⟩)] w fun e w' => OwnTo w w' Mut B I N (taRead wd a) b (poNext n k a f (taGot wd a)) 285 (poEnds a f (taGot wd a)) e := by
 obtain ⟨s1, s2, s3⟩ := memSet_sub hw
 obtain ⟨mks, hwb, _, _⟩ := hw.blk
 have x0 : w.cell? ⟨I.bW, 0, none⟩ = some (.pointer (some ⟨I.bm, 0, none⟩)) := by rw [cell_blk hwb]; exact world_mem
 have y0 : w.cell? ⟨b, 0, none⟩ = some (.int .i64 0) := by rw [cell_blk hbk]; rfl
 have y1 : w.cell? ⟨b, 1, none⟩ = some (.int .i64 (n : Int)) := by rw [cell_blk hbk]; rfl
 have y2 : w.cell? ⟨b, 2, none⟩ = some (.int .i64 (k : Int)) := by rw [cell_blk hbk]; rfl
 have y3 : w.cell? ⟨b, 3, none⟩ = some (.int .i64 ((a : Int) + 2)) := by rw [cell_blk hbk]; rfl
 have y6 : w.cell? ⟨b, 6, none⟩ = some (.bool false) := by rw [cell_blk hbk]; rfl
 have hblt := blk_lt hbk
 have nb : ¬ MemSet I.bm I.bw b := fun h => (hB b hb).2 (s3 b h).1
 have Rd := Lib.hid (fun (u : World) (h : Chg noB w u) => read_any I.bm I.bw wd.mem (a : Int) u (hw.mem.chg h (fun h => h) (fun _ _ h => h)) hc)
 have At := Lib.hid (pool_at n k a (by omega))
 obtain ⟨r, hr⟩ : ∃ r, r = taGot wd a := ⟨_, rfl⟩
 rw [show (memRead wd.mem (a : Int)).2 = r from hr.symm] at Rd
 rw [← hr]
 have Hw := Lib.hid hw; have Hbk := Lib.hid hbk; have Nb := Lib.hid nb; have HB := Lib.hid hB; have Hb := Lib.hid hb; have S2 := Lib.hid s2; have Hr := Lib.hid hr; have Haf := Lib.hid haf
 have hai : (a : Int) < 512 := by omega
 have wa3 : IntKind.i64.wrap ((a : Int) + 2 + 1) = (a : Int) + 2 + 1 := by rw [IntKind.wrap_i64]; omega
 clear hw hbk hwb s1 s2 s3 nb hB hb hr haf hf
 go_enter Tryz.func242, Tryz.ntmps242
 go_wp2_with fail
 go_step3
 go_wp2_with fail
 go_step3
 go_wp2_with fail
 go_region_held3 (fun u => u.cell? ⟨I.bW, 0, none⟩ = some (.pointer (some ⟨I.bm, 0, none⟩)) ∧ u.cell? ⟨b, 0, none⟩ = some (.int .i64 0) ∧ u.cell? ⟨b, 1, none⟩ = some (.int .i64 (n : Int)) ∧ u.cell? ⟨b, 2, none⟩ = some (.int .i64 (k : Int)) ∧ u.cell? ⟨b, 3, none⟩ = some (.int .i64 ((a : Int) + 2)))
  (first | exact ⟨(by with_reducible refine (World.cell?_setCell_other _ _ _ _ (by simp)).trans ?_; with_reducible exact z0), (by with_reducible refine (World.cell?_setCell_other _ _ _ _ (by simp)).trans ?_; with_reducible exact zw), (by with_reducible refine (World.cell?_setCell_other _ _ _ _ (by simp)).trans ?_; with_reducible exact z1), (by with_reducible refine (World.cell?_setCell_other _ _ _ _ (by simp)).trans ?_; with_reducible exact z2), (by with_reducible refine (World.cell?_setCell_other _ _ _ _ (by simp)).trans ?_; with_reducible exact z3)⟩ | exact ⟨x0, y0, y1, y2, y3⟩ | exact ⟨v0, u0, u1, u2, u3⟩ | exact ⟨z0, zw, z1, z2, z3⟩)
  (first | (go_at_call 194; refine (At.out _).mono ?_; rintro e w5 ⟨rfl, hb5⟩; have hc5 : Chg noB w w5 := ((Chg.refl _ w).drew).trans (Chg.of_below hb5); have v0 := box_keep hc5 (fun h => h) x0; have hbk5 := (hc5.block b hblt (fun h => h)).trans Hbk.out; have u0 : w5.cell? ⟨b, 0, none⟩ = some (.int .i64 0) := (by rw [cell_blk hbk5]; rfl); have u1 : w5.cell? ⟨b, 1, none⟩ = some (.int .i64 (n : Int)) := (by rw [cell_blk hbk5]; rfl); have u2 : w5.cell? ⟨b, 2, none⟩ = some (.int .i64 (k : Int)) := (by rw [cell_blk hbk5]; rfl); have u3 : w5.cell? ⟨b, 3, none⟩ = some (.int .i64 ((a : Int) + 2)) := (by rw [cell_blk hbk5]; rfl)) | (go_at_call 169; refine (Rd.out _ hc5).mono ?_; rintro e w1 ⟨rfl, hm1, hc1⟩; have hc1' : Chg (MemSet I.bm I.bw) w w1 := (hc5.mono (fun _ _ h => h.elim)).trans hc1; have z0 := box_keep hc1' S2.out x0; have hbk1 := (hc1'.block b hblt Nb.out).trans Hbk.out; have zw : w1.cell? ⟨b, 0, none⟩ = some (.int .i64 0) := (by rw [cell_blk hbk1]; rfl); have z1 : w1.cell? ⟨b, 1, none⟩ = some (.int .i64 (n : Int)) := (by rw [cell_blk hbk1]; rfl); have z2 : w1.cell? ⟨b, 2, none⟩ = some (.int .i64 (k : Int)) := (by rw [cell_blk hbk1]; rfl); have z3 : w1.cell? ⟨b, 3, none⟩ = some (.int .i64 ((a : Int) + 2)) := (by rw [cell_blk hbk1]; rfl); have z5 : w1.cell? ⟨b, 5, none⟩ = some (.int .u64 (m : Int)) := (by rw [cell_blk hbk1]; rfl); have zf := frozen_blk hbk1 5))
 obtain ⟨hw1, hch1⟩ := Hw.out.mems hc1' hm1
 have fin : ∀ (u : World) (cs : Array Value) (d : Bool), Chg (fun k => k = b) w1 u → u.heap[b]? = some (.cells cs 285 (0, 0)) → cs = poNext n k a f r → d = poEnds a f r → OwnTo w u Mut B I N (taRead wd a) b (poNext n k a f r) 285 (poEnds a f r) (.returned (.bool d)) := by
  rintro u cs d hu hbu rfl rfl
  exact own_fin hw1 hch1 Hb.out HB.out hu hbu
 have Fin := Lib.hid fin
 obtain ⟨w2, hw2⟩ : ∃ w2, w2 = w1.setCell ⟨b, 5, none⟩ (.int .u64 (r : Int)) := ⟨_, rfl⟩
 have hc2 : Chg (fun k => k = b) w1 w2 := by rw [hw2]; exact (Chg.refl (fun k => k = b) w1).setCell (by exact .inl rfl) _
 have hbk2 : w2.heap[b]? = some (.cells (poCells n k a f r false 0 0) 285 (0, 0)) := by rw [hw2, blk_set hbk1]; rfl
 rw [← hw2]
 have q1 : w2.cell? ⟨b, 3, none⟩ = some (.int .i64 ((a : Int) + 2)) := by rw [cell_blk hbk2]; rfl
 have q4 : w2.cell? ⟨b, 4, none⟩ = some (.int .i64 ((f : Int) + 2)) := by rw [cell_blk hbk2]; rfl
 have q5 : w2.cell? ⟨b, 5, none⟩ = some (.int .u64 (r : Int)) := by rw [cell_blk hbk2]; rfl
 have q6 : w2.cell? ⟨b, 6, none⟩ = some (.bool false) := by rw [cell_blk hbk2]; rfl
 have qf3 := frozen_blk hbk2 3; have qf6 := frozen_blk hbk2 6
 have Hbk2 := Lib.hid hbk2; have Hc2 := Lib.hid hc2
 clear fin hw1 hch1 hbk1 hc1 hc1' hm1 hc5 x0 y0 y1 y2 y3 y6 v0 u0 u1 u2 u3 z0 zw z1 z2 z3 z5 zf hw2 hc2 hbk2
 go_upto_region 2 with fail
 by_cases hev : r % 2 = 0
 ·have e1 : (r : Int) % 2 = 0 := by omega
  have hn : poNext n k a f r = poCells n k a f r true 0 0 := if_pos hev
  have hd : poEnds a f r = false := if_pos hev
  have Hn := Lib.hid hn; have Hd := Lib.hid hd
  have e9 : (a : Int) + 2 < (f : Int) + 2 := by have := Haf.out; omega
  clear hn hd hev
  go_upto_region 9 with fail
  obtain ⟨w3, hw3⟩ : ∃ w3, w3 = w2.setCell ⟨b, 6, none⟩ (.bool true) := ⟨_, rfl⟩
  have hbk3 : w3.heap[b]? = some (.cells (poCells n k a f r true 0 0) 285 (0, 0)) := by rw [hw3, blk_set Hbk2.out]; rfl
  have hc3 : Chg (fun k => k = b) w1 w3 := by rw [hw3]; exact Hc2.out.setCell (by exact .inl rfl) _
  rw [← hw3]
  have p3 : w3.cell? ⟨b, 3, none⟩ = some (.int .i64 ((a : Int) + 2)) := by rw [cell_blk hbk3]; rfl
  have p4 : w3.cell? ⟨b, 4, none⟩ = some (.int .i64 ((f : Int) + 2)) := by rw [cell_blk hbk3]; rfl
  have Hbk3 := Lib.hid hbk3; have Hc3 := Lib.hid hc3
  clear hw3 hbk3 hc3 q1 q4 q5 q6 qf3 qf6
  go_quiet (fail)
  have F := Lib.hid (Fin.out (w3.drewN nq) _ false (Hc3.out.drewN nq) Hbk3.out Hn.out.symm Hd.out.symm)
  go_wp2_with fail
  simp only [Exit.noGoto]
  go_wp2_with fail
  go_ret
  exact F.out
 ·have e1 : ¬ (r : Int) % 2 = 0 := by omega
  have e2 : (r : Int) % 2 = 1 := by omega
  go_upto_region 9 with fail
  obtain ⟨w3, hw3⟩ : ∃ w3, w3 = w2.setCell ⟨b, 3, none⟩ (.int .i64 ((a : Int) + 2 + 1)) := ⟨_, rfl⟩
  have hbk3 : w3.heap[b]? = some (.cells (poCells n k (a + 1) f r false 0 0) 285 (0, 0)) := by
   rw [hw3, blk_set Hbk2.out]; unfold poCells
   rw [show ((a + 1 : Nat) : Int) + 2 = (a : Int) + 2 + 1 by omega]; rfl
  have hc3 : Chg (fun k => k = b) w1 w3 := by rw [hw3]; exact Hc2.out.setCell (by exact .inl rfl) _
  rw [← hw3]
  have p3 : w3.cell? ⟨b, 3, none⟩ = some (.int .i64 ((a : Int) + 2 + 1)) := by rw [cell_blk hbk3, show (a : Int) + 2 + 1 = ((a + 1 : Nat) : Int) + 2 by omega]; rfl
  have p4 : w3.cell? ⟨b, 4, none⟩ = some (.int .i64 ((f : Int) + 2)) := by rw [cell_blk hbk3]; rfl
  have Hbk3 := Lib.hid hbk3; have Hc3 := Lib.hid hc3
  clear hw3 hbk3 hc3 q1 q4 q5 q6 qf3 qf6
  by_cases hla : a + 1 < f
  ·have hn : poNext n k a f r = poCells n k (a + 1) f r false 0 0 := (if_neg hev).trans (if_pos hla)
   have hd : poEnds a f r = false := (if_neg hev).trans (if_pos hla)
   have Hn := Lib.hid hn; have Hd := Lib.hid hd
   have e9 : (a : Int) + 2 + 1 < (f : Int) + 2 := by omega
   clear hn hd hev hla
   go_quiet (fail)
   have F := Lib.hid (Fin.out (w3.drewN nq) _ false (Hc3.out.drewN nq) Hbk3.out Hn.out.symm Hd.out.symm)
   go_wp2_with fail
   simp only [Exit.noGoto]
   go_wp2_with fail
   go_ret
   exact F.out
  ·have hn : poNext n k a f r = poCells n k (a + 1) f r false 6 0 := (if_neg hev).trans (if_neg hla)
   have hd : poEnds a f r = true := (if_neg hev).trans (if_neg hla)
   have Hn := Lib.hid hn; have Hd := Lib.hid hd
   have e9 : ¬ (a : Int) + 2 + 1 < (f : Int) + 2 := by omega
   clear hn hd hev hla
   go_quiet (fail)
   obtain ⟨w4, hw4⟩ : ∃ w4, w4 = w3.drewN nq := ⟨_, rfl⟩
   have hbk4 : w4.heap[b]? = some (.cells (poCells n k (a + 1) f r false 0 0) 285 (0, 0)) := by rw [hw4]; exact Hbk3.out
   have hc4 : Chg (fun k => k = b) w1 w4 := by rw [hw4]; exact Hc3.out.drewN nq
   rw [← hw4]
   have p7 : w4.cell? ⟨b, 7, none⟩ = some (.int .i64 0) := by rw [cell_blk hbk4]; rfl
   have pf := frozen_blk hbk4 7
   have F := Lib.hid (Fin.out (w4.setCell ⟨b, 7, none⟩ (.int .i64 6)) _ true (hc4.setCell (by exact .inl rfl) _) (by rw [blk_set hbk4]; exact rfl) Hn.out.symm Hd.out.symm)
   clear hw4 hbk4 hc4 p3 p4
   go_wp2_with fail
   go_ret
   exact F.out
end
section

/- Layer 13: the pool as the loom's object. -/
open Go.RowKit
def poolCap : CapRep := fun w Mut K cap c =>
 K = 196 ∧ ∃ b b2 b3 n k a : Nat, cap = #[.pointer (some ⟨b, 0, none⟩), .pointer (some ⟨b2, 0, none⟩), .pointer (some ⟨b3, 0, none⟩)] ∧ w.heap[b]? = some (.cells #[.int .i64 0, .int .i64 (n : Int), .int .i64 (k : Int)] 84 (0, 0)) ∧ ¬ Mut b ∧ w.cell? ⟨b2, 0, none⟩ = some (.int .i64 ((a : Int) + 2)) ∧ ¬ Mut b2 ∧ w.cell? ⟨b3, 0, none⟩ = some (.int .u64 ((c.a / 1024 : Nat) : Int)) ∧ ¬ Mut b3 ∧ c.a % 1024 = a + 2 ∧ c.a / 1024 < 1099511627776
def poM (n k : Nat) (w : World) (Mut B : Nat → Prop) (T : TypeId) (x : Value) (_ : Nat) : PoS → Prop
 | .once c r => OnceM poolCap w Mut B T x c r
 | .take a f m free r => T = 283 ∧ ∃ b, x = .pointer (some ⟨b, 0, none⟩) ∧ w.heap[b]? = some (.cells (poCells n k a f m free r.1 r.2) 285 (0, 0)) ∧ B b
def poolR (n k : Nat) : Real (poolS n k) where
 T := 84
 x := poolV n k
 OB := noB
 ORep := fun _ _ _ => True
 MRep := poM n k
 inv := fun _ _ => True
 dN := 1
 live := fun _ _ _ s => poLive n k s
theorem pool_taken (v : Nat) (hv : v < 1099511627776) (w : World) : Calls Tryz.prog 198 #[.int .u64 (v : Int)] w fun e w' => e = .returned (.int .u64 (2 * (v : Int) + 1)) ∧ Below w.heap.size w w' := by
 have h2 : (v : Int) < 1099511627776 := by omega
 have w1 : IntKind.u64.wrap (2 * (v : Int)) = 2 * (v : Int) := by rw [IntKind.wrap_u64]; omega
 have w2 : IntKind.u64.wrap (2 * (v : Int) + 1) = 2 * (v : Int) + 1 := by rw [IntKind.wrap_u64]; omega
 clear hv
 go_enter Tryz.func198, Tryz.ntmps198
 go_wp2
 go_ret
 exact ⟨rfl, Gr.refl _⟩
theorem pool_place (x q v : Nat) (hq : x % 1024 = q) (hv : x / 1024 = v) (hx : x < 18446744073709551616) (w : World) : Calls Tryz.prog 195 #[.int .u64 (x : Int)] w fun e w' => e = .returned (.tuple #[.int .i64 (q : Int), .int .u64 (v : Int)]) ∧ Below w.heap.size w w' := by
 have e1 : (x : Int) % 1024 = (q : Int) := by omega
 have e2 : (x : Int) / 1024 = (v : Int) := by omega
 have e3 : (x : Int) / 2 ^ 10 = (v : Int) := by omega
 have w1 : IntKind.i64.wrap (q : Int) = (q : Int) := by rw [IntKind.wrap_i64]; omega
 have w2 : IntKind.u64.wrap (v : Int) = (v : Int) := by rw [IntKind.wrap_u64]; omega
 have w3 : IntKind.u64.wrap (q : Int) = (q : Int) := by rw [IntKind.wrap_u64]; omega
 have E1 := Lib.hid e1; have E2 := Lib.hid e2
 clear hq hv hx
 go_enter Tryz.func195, Tryz.ntmps195
 go_wp2
 go_ret2
 exact ⟨rfl, Gr.refl _⟩
set_option maxHeartbeats 4000000 in
theorem pool_in (w : World) (Mut : Nat → Prop) (I : WIds) (N : Nat) (wd : WD) (b bo b2 b3 n k a v : Nat) (hw : WorldAt w Mut I N wd) (hb : ¬ WSet I b) (hbl : b < w.heap.size) (hc : wd.mem.c.all + 1 < 1000000000000) (hbo : w.heap[bo]? = some (.cells #[.int .i64 0, .int .i64 (n : Int), .int .i64 (k : Int)] 84 (0, 0))) (hm : ¬ Mut bo) (hb2 : w.cell? ⟨b2, 0, none⟩ = some (.int .i64 ((a : Int) + 2))) (hm2 : ¬ Mut b2) (hb3 : w.cell? ⟨b3, 0, none⟩ = some (.int .u64 (v : Int))) (hm3 : ¬ Mut b3) (ha : a < 1000000) (hv : v < 1099511627776) (sw : MemD × Bool) (hsw : sw = memSwap wd.mem (a : Int) (2 * v + 1) (2 * v)) (ez : Int) (hez : ez = if sw.2 then 0 else 8) :
  Calls Tryz.prog 196 #[.pointer (some ⟨I.bW, 0, none⟩), .pointer (some ⟨bo, 0, none⟩), .pointer (some ⟨b2, 0, none⟩), .pointer (some ⟨b3, 0, none⟩)] w (OnceIn b w (AccTo w Mut I N wd sw.1 ez 0)) := by
 obtain ⟨s1, s2, s3⟩ := memSet_sub hw
 obtain ⟨wa, hwa⟩ : ∃ wa, wa = w.alloc (.cells #[.int .i64 0, .int .u64 0, .slice none 0 0] 50) := ⟨_, rfl⟩
 have hga : Below w.heap.size w wa := by rw [hwa]; exact Gr.new _ _
 have hra : wa.heap[w.heap.size]? = some (.cells #[.int .i64 0, .int .u64 0, .slice none 0 0] 50 (0, 0)) := by rw [hwa]; exact heap_alloc_new _ _
 obtain ⟨mks, hwb, _, _⟩ := hw.blk
 have hWlt := blk_lt hwb
 have hbolt := blk_lt hbo
 have hb2lt := World.block_lt_of_cell? _ _ hb2
 have hb3lt := World.block_lt_of_cell? _ _ hb3
 simp only at hb2lt hb3lt
 have x0 : wa.cell? ⟨I.bW, 0, none⟩ = some (.pointer (some ⟨I.bm, 0, none⟩)) := by rw [hga.cell hWlt, cell_blk hwb]; exact world_mem
 have y0 : wa.cell? ⟨bo, 0, none⟩ = some (.int .i64 0) := by rw [hga.cell hbolt, cell_blk hbo]; rfl
 have y1 : wa.cell? ⟨bo, 1, none⟩ = some (.int .i64 (n : Int)) := by rw [hga.cell hbolt, cell_blk hbo]; rfl
 have y2 : wa.cell? ⟨bo, 2, none⟩ = some (.int .i64 (k : Int)) := by rw [hga.cell hbolt, cell_blk hbo]; rfl
 have y3 : wa.cell? ⟨b2, 0, none⟩ = some (.int .i64 ((a : Int) + 2)) := by rw [hga.cell hb2lt]; exact hb2
 have y4 : wa.cell? ⟨b3, 0, none⟩ = some (.int .u64 (v : Int)) := by rw [hga.cell hb3lt]; exact hb3
 have hra' : ¬ MemSet I.bm I.bw w.heap.size := fun h => Nat.lt_irrefl _ (s3 _ h).2
 have Sw := Lib.hid (fun (u : World) (h : Chg noB wa u) => swap_any I.bm I.bw wd.mem (a : Int) (2 * v + 1) (2 * v) u ((hw.mem.gr hga).chg h (fun h => h) (fun _ _ h => h)) (by omega) hc)
 rw [← hsw, show (((2 * v + 1 : Nat)) : Int) = 2 * (v : Int) + 1 by omega, show ((2 * v : Nat) : Int) = 2 * (v : Int) by omega] at Sw
 have At := Lib.hid (pool_at n k a ha)
 have Tk := Lib.hid (pool_taken v hv)
 have Hw := Lib.hid hw; have Hga := Lib.hid hga; have Hra := Lib.hid hra; have Hwa := Lib.hid hwa; have S2 := Lib.hid s2; have Nm := Lib.hid (fun h => hm (s1 bo h)); have Nm2 := Lib.hid (fun h => hm2 (s1 b2 h)); have Nm3 := Lib.hid (fun h => hm3 (s1 b3 h)); have S3 := Lib.hid s3; have Hra' := Lib.hid hra'; have Hb := Lib.hid hb
 have hvi : (v : Int) < 1099511627776 := by omega
 have wv : IntKind.u64.wrap (2 * (v : Int)) = 2 * (v : Int) := by rw [IntKind.wrap_u64]; omega
 obtain ⟨m', bb⟩ := sw
 simp only at Sw hez ⊢
 have Hez := Lib.hid hez
 clear hez
 clear hw hga hra hwb s1 s2 s3 hbo hm hra' hb hwa hb2 hm2 hb3 hm3 ha hv hsw
 have hn1 : w.heap.size ≠ I.bW := by omega
 go_enter Tryz.func196, Tryz.ntmps196
 go_wp2_with fail
 rw [← Hwa.out]
 go_region_held3 (fun u => u.cell? ⟨I.bW, 0, none⟩ = some (.pointer (some ⟨I.bm, 0, none⟩)) ∧ u.cell? ⟨bo, 0, none⟩ = some (.int .i64 0) ∧ u.cell? ⟨bo, 1, none⟩ = some (.int .i64 (n : Int)) ∧ u.cell? ⟨bo, 2, none⟩ = some (.int .i64 (k : Int)) ∧ u.cell? ⟨b2, 0, none⟩ = some (.int .i64 ((a : Int) + 2)) ∧ u.cell? ⟨b3, 0, none⟩ = some (.int .u64 (v : Int)))
  (first | exact ⟨x0, y0, y1, y2, y3, y4⟩ | exact ⟨u0, u1, u2, u3, u4, u5⟩ | exact ⟨t0, t1, t2, t3, t4, t5⟩ | exact ⟨z0, z1, z2, z3, z4, z5⟩)
  (first | (go_at_call 194; refine (At.out _).mono ?_; rintro e w5 ⟨rfl, hb5⟩; have hc5 : Chg noB wa w5 := ((Chg.refl _ wa).drew).trans (Chg.of_below hb5); have u0 := box_keep hc5 (fun h => h) x0; have u1 := box_keep hc5 (fun h => h) y0; have u2 := box_keep hc5 (fun h => h) y1; have u3 := box_keep hc5 (fun h => h) y2; have u4 := box_keep hc5 (fun h => h) y3; have u5 := box_keep hc5 (fun h => h) y4) | (go_at_call 198; refine (Tk.out _).mono ?_; rintro e w6 ⟨rfl, hb6⟩; have hc6 : Chg noB wa w6 := hc5.trans (Chg.of_below hb6); have t0 := box_keep hc6 (fun h => h) x0; have t1 := box_keep hc6 (fun h => h) y0; have t2 := box_keep hc6 (fun h => h) y1; have t3 := box_keep hc6 (fun h => h) y2; have t4 := box_keep hc6 (fun h => h) y3; have t5 := box_keep hc6 (fun h => h) y4) | (go_at_call 197; refine (Sw.out _ hc6).mono ?_; rintro e w4 ⟨rfl, hm4, hc4⟩; have hc4' : Chg (MemSet I.bm I.bw) wa w4 := (hc6.mono (fun _ _ h => h.elim)).trans hc4; have z0 := box_keep hc4' S2.out x0; have z1 := box_keep hc4' Nm.out y0; have z2 := box_keep hc4' Nm.out y1; have z3 := box_keep hc4' Nm.out y2; have z4 := box_keep hc4' Nm2.out y3; have z5 := box_keep hc4' Nm3.out y4; have hr4 := (hc4'.block _ (blk_lt Hra.out) Hra'.out).trans Hra.out; have g0 : w4.cell? ⟨w.heap.size, 0, none⟩ = some (.int .i64 0) := (by rw [cell_blk hr4]; rfl); have g1 : w4.cell? ⟨w.heap.size, 1, none⟩ = some (.int .u64 0) := (by rw [cell_blk hr4]; rfl); have g2 : w4.cell? ⟨w.heap.size, 2, none⟩ = some (.slice none 0 0) := (by rw [cell_blk hr4]; rfl); have gf0 := frozen_blk hr4 0; have gf1 := frozen_blk hr4 1; have gf2 := frozen_blk hr4 2))
 have fin : ∀ er : Int, er = ez → OnceIn b w (AccTo w Mut I N wd m' ez 0) (.returned (ansV er 0 (.slice none 0 0))) (((w4.setCell ⟨w.heap.size, 0, none⟩ (.int .i64 er)).setCell ⟨w.heap.size, 1, none⟩ (.int .u64 0)).setCell ⟨w.heap.size, 2, none⟩ (.slice none 0 0)) ∧
   (((w4.setCell ⟨w.heap.size, 0, none⟩ (.int .i64 er)).setCell ⟨w.heap.size, 1, none⟩ (.int .u64 0)).setCell ⟨w.heap.size, 2, none⟩ (.slice none 0 0)).heap[w.heap.size]? = some (.cells #[.int .i64 er, .int .u64 0, .slice none 0 0] 50 (0, 0)) := by
  rintro er her
  have hcR : Chg (fun k => k = w.heap.size) w4 (((w4.setCell ⟨w.heap.size, 0, none⟩ (.int .i64 er)).setCell ⟨w.heap.size, 1, none⟩ (.int .u64 0)).setCell ⟨w.heap.size, 2, none⟩ (.slice none 0 0)) := (((Chg.refl (fun k => k = w.heap.size) w4).setCell (by exact .inl rfl) _).setCell (by exact .inl rfl) _).setCell (by exact .inl rfl) _
  have hcA : Chg (MemSet I.bm I.bw) w (((w4.setCell ⟨w.heap.size, 0, none⟩ (.int .i64 er)).setCell ⟨w.heap.size, 1, none⟩ (.int .u64 0)).setCell ⟨w.heap.size, 2, none⟩ (.slice none 0 0)) :=
   ((((Chg.of_below Hga.out).trans hc4').setCell (by exact .inr (Nat.le_refl _)) _).setCell (by exact .inr (Nat.le_refl _)) _).setCell (by exact .inr (Nat.le_refl _)) _
  have hm6 := hm4.chg hcR (fun e => Hra'.out (.inl e.symm)) (fun q hq e => Hra'.out (.inr (by rw [← e]; exact hq.symm)))
  obtain ⟨hwf, hcf⟩ := Hw.out.mems hcA hm6
  refine ⟨⟨er, 0, rfl, hcA.block b hbl (fun h => Hb.out (S3.out b h).1), her, rfl, hcf, hwf⟩, ?_⟩
  rw [blk_set (blk_set (blk_set hr4 _ _) _ _)]; rfl
 have Fin := Lib.hid fin
 clear fin hr4 hc4 hc4' hm4 x0 y0 y1 y2 y3 y4 u0 u1 u2 u3 u4 u5 t0 t1 t2 t3 t4 t5 z0 z1 z2 z3 z4 z5 hc5 hc6 hb5 hb6
 cases bb with
 | true =>
  obtain ⟨f1, f2⟩ := Fin.out 0 (by rw [Hez.out]; rfl)
  obtain ⟨w6, hw6⟩ : ∃ w6, w6 = (((w4.setCell ⟨w.heap.size, 0, none⟩ (.int .i64 0)).setCell ⟨w.heap.size, 1, none⟩ (.int .u64 0)).setCell ⟨w.heap.size, 2, none⟩ (.slice none 0 0)) := ⟨_, rfl⟩
  rw [← hw6] at f1 f2
  have k0 : w6.cell? ⟨w.heap.size, 0, none⟩ = some (.int .i64 0) := by rw [cell_blk f2]; rfl
  have k1 : w6.cell? ⟨w.heap.size, 1, none⟩ = some (.int .u64 0) := by rw [cell_blk f2]; rfl
  have k2 : w6.cell? ⟨w.heap.size, 2, none⟩ = some (.slice none 0 0) := by rw [cell_blk f2]; rfl
  have F1 := Lib.hid f1; have Hw6 := Lib.hid hw6.symm
  clear f1 f2 hw6
  rename_i hHH
  clear hHH
  simp only [Bool.not_true, Bool.not_false]
  go_wp2
  rw [Hw6.out]
  exact bodyPost_ret (v := ansV 0 0 (.slice none 0 0)) (by simp [results, Tryz.results196 , go_sem, ansV, k0, k1, k2]) rfl F1.out
 | false =>
  obtain ⟨f1, f2⟩ := Fin.out 8 (by rw [Hez.out]; rfl)
  obtain ⟨w6, hw6⟩ : ∃ w6, w6 = (((w4.setCell ⟨w.heap.size, 0, none⟩ (.int .i64 8)).setCell ⟨w.heap.size, 1, none⟩ (.int .u64 0)).setCell ⟨w.heap.size, 2, none⟩ (.slice none 0 0)) := ⟨_, rfl⟩
  rw [← hw6] at f1 f2
  have k0 : w6.cell? ⟨w.heap.size, 0, none⟩ = some (.int .i64 8) := by rw [cell_blk f2]; rfl
  have k1 : w6.cell? ⟨w.heap.size, 1, none⟩ = some (.int .u64 0) := by rw [cell_blk f2]; rfl
  have k2 : w6.cell? ⟨w.heap.size, 2, none⟩ = some (.slice none 0 0) := by rw [cell_blk f2]; rfl
  have F1 := Lib.hid f1; have Hw6 := Lib.hid hw6.symm
  clear f1 f2 hw6
  rename_i hHH
  clear hHH
  simp only [Bool.not_true, Bool.not_false]
  go_wp2
  rw [Hw6.out]
  exact bodyPost_ret (v := ansV 8 0 (.slice none 0 0)) (by simp [results, Tryz.results196 , go_sem, ansV, k0, k1, k2]) rfl F1.out
theorem pool_capgo : CapGo poolCap poolAct where
 keep := by
  rintro w w' Q Mut Mut' K cap c ⟨h2, b, b2, b3, n, k, a, h3, h4, h5, h6, h7, h8, h9, h10, h11⟩ hc hQ hm
  have hcell : w.cell? ⟨b, 0, none⟩ = some (.int .i64 0) := by rw [cell_blk h4]; rfl
  exact ⟨h2, b, b2, b3, n, k, a, h3, (hc.block _ (blk_lt h4) (fun hq => h5 (hQ _ hq))).trans h4, notMut_keep hcell h5 hm, box_keep hc (fun hq => h7 (hQ _ hq)) h6, notMut_keep h6 h7 hm, box_keep hc (fun hq => h9 (hQ _ hq)) h8, notMut_keep h8 h9 hm, h10, h11⟩
 go := by
  rintro w Mut I N wd b K cap c hw ⟨rfl, bo, b2, b3, n, k, a, rfl, h4, h5, h6, h7, h8, h9, h10, h11⟩ hb hbl hc
  refine (pool_in w Mut I N wd b bo b2 b3 n k a (c.a / 1024) hw hb hbl hc h4 h5 h6 h7 h8 h9 (by omega) h11 (poolMem c wd) (by unfold poolMem; rw [show c.a % 1024 - 2 = a by omega]) _ rfl).mono ?_
  rintro e w' ⟨er, vl, he, hbk, rfl, rfl, hch, hw'⟩
  exact ⟨_, _, he, hbk, rfl, hch, hw'⟩
end
end Go.Proofs.YteffgpcjfnjlkaaGreat
