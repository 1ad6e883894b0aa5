/- Layer 13: the pool's machine: taking a place. -/
import Derived.Test.YtjkgfkbanbhkgaaJ34
import Derived.Laws.BitsAllLaws
import Derived.WalkMore
set_option maxRecDepth 100000
set_option linter.unusedVariables false
set_option linter.unusedSimpArgs false
set_option linter.unnecessarySimpa false
namespace Go.Proofs.Ytjkgfkbanbhkgaa
open Go.RowKit

def poCells (n k a f m : Nat) (free : Bool) (er : Int) (vl : Nat) : Array Value := #[.int .i64 0, .int .i64 (n : Int), .int .i64 (k : Int), .int .i64 ((a : Int) + 2), .int .i64 ((f : Int) + 2), .int .u64 (m : Int), .bool free, .int .i64 er, .int .u64 (vl : Int), .slice none 0 0]
def poolV (n k : Nat) : Value := .agg #[.int .i64 0, .int .i64 (n : Int), .int .i64 (k : Int)]
theorem pool_at (n k a : Nat) (ha : a < 1000000) (w : World) : Calls Try.prog 153 #[.agg #[.int .i64 0, .int .i64 (n : Int), .int .i64 (k : Int)], .int .i64 ((a : Int) + 2)] w fun e w' => e = .returned (.int .i64 (a : Int)) ∧ Below w.heap.size w w' := by
  have h1 : (a : Int) < 1000000 := by omega
  have w1 : IntKind.i64.wrap ((a : Int) + 2) = (a : Int) + 2 := by rw [IntKind.wrap_i64]; omega
  have w2 : IntKind.i64.wrap (a : Int) = (a : Int) := by rw [IntKind.wrap_i64]; omega
  clear ha
  go_enter Try.func153, Try.ntmps153
  go_wp2
  go_ret
  exact ⟨rfl, Gr.new _ _⟩
theorem poRef_or {a v : Nat} (ha : a < 512) : ((a + 2) ||| (v * 1024)) = poRef a v := by
  unfold poRef
  have h := Nat.two_pow_add_eq_or_of_lt (i := 10) (b := a + 2) (by omega) v
  rw [Nat.or_comm, Nat.mul_comm v 1024]
  have h2 : 2 ^ 10 * v + (a + 2) = 1024 * v + (a + 2) := by omega
  rw [show (1024 : Nat) = 2 ^ 10 from rfl, ← h]; omega
theorem pool_ref (a v : Nat) (ha : a < 512) (hv : v < 1000000) (w : World) : Calls Try.prog 202 #[.int .i64 ((a : Int) + 2), .int .u64 (v : Int)] w fun e w' => e = .returned (.int .u64 (poRef a v : Int)) ∧ Below w.heap.size w w' := by
  have h1 : (a : Int) < 512 := by omega
  have h2 : (v : Int) < 1000000 := by omega
  have w1 : IntKind.u64.wrap ((a : Int) + 2) = (a : Int) + 2 := by rw [IntKind.wrap_u64]; omega
  have w2 : IntKind.u64.wrap ((v : Int) * 1024) = (v : Int) * 1024 := by rw [IntKind.wrap_u64]; omega
  have e : bits .or .u64 ((a : Int) + 2) ((v : Int) * 1024) = (poRef a v : Int) := by
    have h3 := u64_or_nat (a + 2) (v * 1024) (by omega) (by omega)
    rw [poRef_or ha] at h3
    simpa using h3
  have E := Lib.hid e
  clear e ha hv
  go_enter Try.func202, Try.ntmps202
  go_wp2
  go_ret
  refine ⟨?_, Gr.refl _⟩
  rw [← E.out]; rfl

set_option maxHeartbeats 4000000 in
theorem take_put (w : World) (Mut B : Nat → Prop) (I : WIds) (N : Nat) (wd : WD) (n k a f m b : Nat) (hw : WorldAt w Mut I N wd) (hbk : w.heap[b]? = some (.cells (poCells n k a f m true 0 0) 250 (0, 0))) (hb : B b) (hB : ∀ b, B b → Mut b ∧ ¬ WSet I b) (hc : wd.mem.c.all + 1 < 1000000000000)
    (ha : a < 512) (hm : m < 1000000) :
    Calls Try.prog 201 #[.pointer (some ⟨b, 0, none⟩), .pointer (some ⟨I.bW, 0, none⟩)] w fun e w' => OwnTo w w' Mut B I N (doWrite wd a (m + 3)) b (poCells n k a f m true 0 (poRef a (m / 2 + 1))) 250 true e := by
  obtain ⟨s1, s2, s3⟩ := memSet_sub hw
  obtain ⟨mks, hwb, _, _⟩ := hw.blk
  have x0 : w.cell? ⟨I.bW, 0, none⟩ = some (.pointer (some ⟨I.bm, 0, none⟩)) := by rw [cell_blk hwb]; exact world_mem
  have y0 : w.cell? ⟨b, 0, none⟩ = some (.int .i64 0) := by rw [cell_blk hbk]; rfl
  have y1 : w.cell? ⟨b, 1, none⟩ = some (.int .i64 (n : Int)) := by rw [cell_blk hbk]; rfl
  have y2 : w.cell? ⟨b, 2, none⟩ = some (.int .i64 (k : Int)) := by rw [cell_blk hbk]; rfl
  have y3 : w.cell? ⟨b, 3, none⟩ = some (.int .i64 ((a : Int) + 2)) := by rw [cell_blk hbk]; rfl
  have y5 : w.cell? ⟨b, 5, none⟩ = some (.int .u64 (m : Int)) := by rw [cell_blk hbk]; rfl
  have y6 : w.cell? ⟨b, 6, none⟩ = some (.bool true) := by rw [cell_blk hbk]; rfl
  have hblt := blk_lt hbk
  have nb : ¬ MemSet I.bm I.bw b := fun h => (hB b hb).2 (s3 b h).1
  have Wr := Lib.hid (fun (u : World) (h : Chg noB w u) => write_any I.bm I.bw wd.mem (a : Int) (m + 3) u (hw.mem.chg h (fun h => h) (fun _ _ h => h)) (by omega) hc)
  rw [show (((m + 3 : Nat) : Int)) = (m : Int) + 3 by omega] at Wr
  have At := Lib.hid (pool_at n k a (by omega))
  have Rf := Lib.hid (pool_ref a (m / 2 + 1) ha (by omega))
  obtain ⟨R, hR⟩ : ∃ R, R = poRef a (m / 2 + 1) := ⟨_, rfl⟩
  rw [← hR] at Rf
  rw [show ((m / 2 + 1 : Nat) : Int) = (m : Int) / 2 + 1 by omega] at Rf
  have Hw := Lib.hid hw; have Hbk := Lib.hid hbk; have Nb := Lib.hid nb; have HB := Lib.hid hB; have Hb := Lib.hid hb; have S2 := Lib.hid s2; have HR := Lib.hid hR
  have hmi : (m : Int) < 1000000 := by omega
  have hai : (a : Int) < 512 := by omega
  have wm3 : IntKind.u64.wrap ((m : Int) + 3) = (m : Int) + 3 := by rw [IntKind.wrap_u64]; omega
  have wm1 : IntKind.u64.wrap ((m : Int) / 2 + 1) = (m : Int) / 2 + 1 := by rw [IntKind.wrap_u64]; omega
  have wm2 : IntKind.u64.wrap ((m : Int) / 2) = (m : Int) / 2 := by rw [IntKind.wrap_u64]; omega
  clear hw hbk hwb s1 s2 s3 nb hB hb ha hm hR
  go_enter Try.func201, Try.ntmps201
  go_wp2_with fail
  go_step3
  go_wp2_with fail
  go_step3
  go_wp2_with fail
  go_region_held3 (fun u => u.cell? ⟨I.bW, 0, none⟩ = some (.pointer (some ⟨I.bm, 0, none⟩)) ∧ u.cell? ⟨b, 0, none⟩ = some (.int .i64 0) ∧ u.cell? ⟨b, 1, none⟩ = some (.int .i64 (n : Int)) ∧ u.cell? ⟨b, 2, none⟩ = some (.int .i64 (k : Int)) ∧ u.cell? ⟨b, 3, none⟩ = some (.int .i64 ((a : Int) + 2)) ∧ u.cell? ⟨b, 5, none⟩ = some (.int .u64 (m : Int)))
    (first | exact ⟨x0, y0, y1, y2, y3, y5⟩ | exact ⟨v0, u0, u1, u2, u3, u5⟩ | exact ⟨z0, zw, z1, z2, z3, z5⟩)
    (first | (go_at_call 153; refine (At.out _).mono ?_; rintro e w5 ⟨rfl, hb5⟩; have hc5 : Chg noB w w5 := ((Chg.refl _ w).drew).trans (Chg.of_below hb5); have v0 := box_keep hc5 (fun h => h) x0; have hbk5 := (hc5.block b hblt (fun h => h)).trans Hbk.out; have u0 : w5.cell? ⟨b, 0, none⟩ = some (.int .i64 0) := (by rw [cell_blk hbk5]; rfl); have u1 : w5.cell? ⟨b, 1, none⟩ = some (.int .i64 (n : Int)) := (by rw [cell_blk hbk5]; rfl); have u2 : w5.cell? ⟨b, 2, none⟩ = some (.int .i64 (k : Int)) := (by rw [cell_blk hbk5]; rfl); have u3 : w5.cell? ⟨b, 3, none⟩ = some (.int .i64 ((a : Int) + 2)) := (by rw [cell_blk hbk5]; rfl); have u5 : w5.cell? ⟨b, 5, none⟩ = some (.int .u64 (m : Int)) := (by rw [cell_blk hbk5]; rfl)) | (go_at_call 163; refine (Wr.out _ hc5).mono ?_; rintro e w1 ⟨rfl, hm1, hc1⟩; have hc1' : Chg (MemSet I.bm I.bw) w w1 := (hc5.mono (fun _ _ h => h.elim)).trans hc1; have z0 := box_keep hc1' S2.out x0; have hbk1 := (hc1'.block b hblt Nb.out).trans Hbk.out; have zw : w1.cell? ⟨b, 0, none⟩ = some (.int .i64 0) := (by rw [cell_blk hbk1]; rfl); have z1 : w1.cell? ⟨b, 1, none⟩ = some (.int .i64 (n : Int)) := (by rw [cell_blk hbk1]; rfl); have z2 : w1.cell? ⟨b, 2, none⟩ = some (.int .i64 (k : Int)) := (by rw [cell_blk hbk1]; rfl); have z3 : w1.cell? ⟨b, 3, none⟩ = some (.int .i64 ((a : Int) + 2)) := (by rw [cell_blk hbk1]; rfl); have z5 : w1.cell? ⟨b, 5, none⟩ = some (.int .u64 (m : Int)) := (by rw [cell_blk hbk1]; rfl)))
  obtain ⟨hw1, hch1⟩ := Hw.out.mems hc1' hm1
  have fin : ∀ u, Chg (fun k => k = b) w1 u → u.heap[b]? = some (.cells (poCells n k a f m true 0 R) 250 (0, 0)) → OwnTo w u Mut B I N (doWrite wd a (m + 3)) b (poCells n k a f m true 0 (poRef a (m / 2 + 1))) 250 true (.returned (.bool true)) := by
    intro u hu hbu
    exact own_fin hw1 hch1 Hb.out HB.out hu (by rw [← HR.out]; exact hbu)
  have Fin := Lib.hid fin
  have Hbk1 := Lib.hid hbk1
  clear fin hw1 hch1 hbk1 hc1 hc1' hm1 hc5 x0 y0 y1 y2 y3 y5 y6 v0 u0 u1 u2 u3 u5 z0 zw z1 z2
  go_wp2_with fail
  go_region_held3 (fun u => u.cell? ⟨b, 3, none⟩ = some (.int .i64 ((a : Int) + 2)) ∧ u.cell? ⟨b, 5, none⟩ = some (.int .u64 (m : Int)))
    (first | exact ⟨(by with_reducible refine (World.cell?_setCell_other _ _ _ _ (by simp)).trans ?_; with_reducible exact k3), (by with_reducible refine (World.cell?_setCell_other _ _ _ _ (by simp)).trans ?_; with_reducible exact k5)⟩ | exact ⟨k3, k5⟩ | exact ⟨z3, z5⟩)
    ((go_at_call 202; refine (Rf.out _).mono ?_; rintro e w2 ⟨rfl, hb2⟩; have hc2 : Chg (fun k => k = b) w1 w2 := ((Chg.refl _ w1).drew).trans (Chg.of_below hb2); have hbk2 := ((Chg.refl noB w1).drew.trans (Chg.of_below hb2)).block b (blk_lt Hbk1.out) (fun h => h); have hbk3 := hbk2.trans Hbk1.out; have k3 : w2.cell? ⟨b, 3, none⟩ = some (.int .i64 ((a : Int) + 2)) := (by rw [cell_blk hbk3]; rfl); have k5 : w2.cell? ⟨b, 5, none⟩ = some (.int .u64 (m : Int)) := (by rw [cell_blk hbk3]; rfl); have kf := frozen_blk hbk3 8; have k8 : w2.cell? ⟨b, 8, none⟩ = some (.int .u64 ((0 : Nat) : Int)) := (by rw [cell_blk hbk3]; rfl)))
  have F := Lib.hid (Fin.out (w2.setCell ⟨b, 8, none⟩ (.int .u64 (R : Int))) (hc2.setCell (by exact .inl rfl) _) (by rw [blk_set hbk3]; rfl))
  clear hb2 hc2 hbk2 hbk3 k3 k5 kf k8 z3 z5
  go_wp2_with fail
  simp only [Exit.noGoto]
  go_wp2_with fail
  go_ret
  exact F.out

/-- What a read leaves of the machine. -/
def poNext (n k a f g : Nat) : Array Value := if g % 2 = 0 then poCells n k a f g true 0 0 else if a + 1 < f then poCells n k (a + 1) f g false 0 0 else poCells n k (a + 1) f g false 6 0
def poEnds (a f g : Nat) : Bool := if g % 2 = 0 then false else if a + 1 < f then false else true
set_option maxHeartbeats 8000000 in
theorem take_read (w : World) (Mut B : Nat → Prop) (I : WIds) (N : Nat) (wd : WD) (n k a f m b : Nat) (hw : WorldAt w Mut I N wd) (hbk : w.heap[b]? = some (.cells (poCells n k a f m false 0 0) 250 (0, 0))) (hb : B b) (hB : ∀ b, B b → Mut b ∧ ¬ WSet I b) (hc : wd.mem.c.all + 1 < 1000000000000)
    (haf : a < f) (hf : f ≤ 512) :
    Calls Try.prog 201 #[.pointer (some ⟨b, 0, none⟩), .pointer (some ⟨I.bW, 0, none⟩)] w fun e w' => OwnTo w w' Mut B I N (taRead wd a) b (poNext n k a f (taGot wd a)) 250 (poEnds a f (taGot wd a)) e := by
  obtain ⟨s1, s2, s3⟩ := memSet_sub hw
  obtain ⟨mks, hwb, _, _⟩ := hw.blk
  have x0 : w.cell? ⟨I.bW, 0, none⟩ = some (.pointer (some ⟨I.bm, 0, none⟩)) := by rw [cell_blk hwb]; exact world_mem
  have y0 : w.cell? ⟨b, 0, none⟩ = some (.int .i64 0) := by rw [cell_blk hbk]; rfl
  have y1 : w.cell? ⟨b, 1, none⟩ = some (.int .i64 (n : Int)) := by rw [cell_blk hbk]; rfl
  have y2 : w.cell? ⟨b, 2, none⟩ = some (.int .i64 (k : Int)) := by rw [cell_blk hbk]; rfl
  have y3 : w.cell? ⟨b, 3, none⟩ = some (.int .i64 ((a : Int) + 2)) := by rw [cell_blk hbk]; rfl
  have y6 : w.cell? ⟨b, 6, none⟩ = some (.bool false) := by rw [cell_blk hbk]; rfl
  have hblt := blk_lt hbk
  have nb : ¬ MemSet I.bm I.bw b := fun h => (hB b hb).2 (s3 b h).1
  have Rd := Lib.hid (fun (u : World) (h : Chg noB w u) => read_any I.bm I.bw wd.mem (a : Int) u (hw.mem.chg h (fun h => h) (fun _ _ h => h)) hc)
  have At := Lib.hid (pool_at n k a (by omega))
  obtain ⟨r, hr⟩ : ∃ r, r = taGot wd a := ⟨_, rfl⟩
  rw [show (memRead wd.mem (a : Int)).2 = r from hr.symm] at Rd
  rw [← hr]
  have Hw := Lib.hid hw; have Hbk := Lib.hid hbk; have Nb := Lib.hid nb; have HB := Lib.hid hB; have Hb := Lib.hid hb; have S2 := Lib.hid s2; have Hr := Lib.hid hr; have Haf := Lib.hid haf
  have hai : (a : Int) < 512 := by omega
  have wa3 : IntKind.i64.wrap ((a : Int) + 2 + 1) = (a : Int) + 2 + 1 := by rw [IntKind.wrap_i64]; omega
  clear hw hbk hwb s1 s2 s3 nb hB hb hr haf hf
  go_enter Try.func201, Try.ntmps201
  go_wp2_with fail
  go_step3
  go_wp2_with fail
  go_step3
  go_wp2_with fail
  go_region_held3 (fun u => u.cell? ⟨I.bW, 0, none⟩ = some (.pointer (some ⟨I.bm, 0, none⟩)) ∧ u.cell? ⟨b, 0, none⟩ = some (.int .i64 0) ∧ u.cell? ⟨b, 1, none⟩ = some (.int .i64 (n : Int)) ∧ u.cell? ⟨b, 2, none⟩ = some (.int .i64 (k : Int)) ∧ u.cell? ⟨b, 3, none⟩ = some (.int .i64 ((a : Int) + 2)))
    (first | exact ⟨(by with_reducible refine (World.cell?_setCell_other _ _ _ _ (by simp)).trans ?_; with_reducible exact z0), (by with_reducible refine (World.cell?_setCell_other _ _ _ _ (by simp)).trans ?_; with_reducible exact zw), (by with_reducible refine (World.cell?_setCell_other _ _ _ _ (by simp)).trans ?_; with_reducible exact z1), (by with_reducible refine (World.cell?_setCell_other _ _ _ _ (by simp)).trans ?_; with_reducible exact z2), (by with_reducible refine (World.cell?_setCell_other _ _ _ _ (by simp)).trans ?_; with_reducible exact z3)⟩ | exact ⟨x0, y0, y1, y2, y3⟩ | exact ⟨v0, u0, u1, u2, u3⟩ | exact ⟨z0, zw, z1, z2, z3⟩)
    (first | (go_at_call 153; refine (At.out _).mono ?_; rintro e w5 ⟨rfl, hb5⟩; have hc5 : Chg noB w w5 := ((Chg.refl _ w).drew).trans (Chg.of_below hb5); have v0 := box_keep hc5 (fun h => h) x0; have hbk5 := (hc5.block b hblt (fun h => h)).trans Hbk.out; have u0 : w5.cell? ⟨b, 0, none⟩ = some (.int .i64 0) := (by rw [cell_blk hbk5]; rfl); have u1 : w5.cell? ⟨b, 1, none⟩ = some (.int .i64 (n : Int)) := (by rw [cell_blk hbk5]; rfl); have u2 : w5.cell? ⟨b, 2, none⟩ = some (.int .i64 (k : Int)) := (by rw [cell_blk hbk5]; rfl); have u3 : w5.cell? ⟨b, 3, none⟩ = some (.int .i64 ((a : Int) + 2)) := (by rw [cell_blk hbk5]; rfl)) | (go_at_call 128; refine (Rd.out _ hc5).mono ?_; rintro e w1 ⟨rfl, hm1, hc1⟩; have hc1' : Chg (MemSet I.bm I.bw) w w1 := (hc5.mono (fun _ _ h => h.elim)).trans hc1; have z0 := box_keep hc1' S2.out x0; have hbk1 := (hc1'.block b hblt Nb.out).trans Hbk.out; have zw : w1.cell? ⟨b, 0, none⟩ = some (.int .i64 0) := (by rw [cell_blk hbk1]; rfl); have z1 : w1.cell? ⟨b, 1, none⟩ = some (.int .i64 (n : Int)) := (by rw [cell_blk hbk1]; rfl); have z2 : w1.cell? ⟨b, 2, none⟩ = some (.int .i64 (k : Int)) := (by rw [cell_blk hbk1]; rfl); have z3 : w1.cell? ⟨b, 3, none⟩ = some (.int .i64 ((a : Int) + 2)) := (by rw [cell_blk hbk1]; rfl); have z5 : w1.cell? ⟨b, 5, none⟩ = some (.int .u64 (m : Int)) := (by rw [cell_blk hbk1]; rfl); have zf := frozen_blk hbk1 5))
  obtain ⟨hw1, hch1⟩ := Hw.out.mems hc1' hm1
  have fin : ∀ (u : World) (cs : Array Value) (d : Bool), Chg (fun k => k = b) w1 u → u.heap[b]? = some (.cells cs 250 (0, 0)) → cs = poNext n k a f r → d = poEnds a f r → OwnTo w u Mut B I N (taRead wd a) b (poNext n k a f r) 250 (poEnds a f r) (.returned (.bool d)) := by
    rintro u cs d hu hbu rfl rfl
    exact own_fin hw1 hch1 Hb.out HB.out hu hbu
  have Fin := Lib.hid fin
  obtain ⟨w2, hw2⟩ : ∃ w2, w2 = w1.setCell ⟨b, 5, none⟩ (.int .u64 (r : Int)) := ⟨_, rfl⟩
  have hc2 : Chg (fun k => k = b) w1 w2 := by rw [hw2]; exact (Chg.refl (fun k => k = b) w1).setCell (by exact .inl rfl) _
  have hbk2 : w2.heap[b]? = some (.cells (poCells n k a f r false 0 0) 250 (0, 0)) := by rw [hw2, blk_set hbk1]; rfl
  rw [← hw2]
  have q1 : w2.cell? ⟨b, 3, none⟩ = some (.int .i64 ((a : Int) + 2)) := by rw [cell_blk hbk2]; rfl
  have q4 : w2.cell? ⟨b, 4, none⟩ = some (.int .i64 ((f : Int) + 2)) := by rw [cell_blk hbk2]; rfl
  have q5 : w2.cell? ⟨b, 5, none⟩ = some (.int .u64 (r : Int)) := by rw [cell_blk hbk2]; rfl
  have q6 : w2.cell? ⟨b, 6, none⟩ = some (.bool false) := by rw [cell_blk hbk2]; rfl
  have qf3 := frozen_blk hbk2 3; have qf6 := frozen_blk hbk2 6
  have Hbk2 := Lib.hid hbk2; have Hc2 := Lib.hid hc2
  clear fin hw1 hch1 hbk1 hc1 hc1' hm1 hc5 x0 y0 y1 y2 y3 y6 v0 u0 u1 u2 u3 z0 zw z1 z2 z3 z5 zf hw2 hc2 hbk2
  go_upto_region 2 with fail
  by_cases hev : r % 2 = 0
  · have e1 : (r : Int) % 2 = 0 := by omega
    have hn : poNext n k a f r = poCells n k a f r true 0 0 := if_pos hev
    have hd : poEnds a f r = false := if_pos hev
    have Hn := Lib.hid hn; have Hd := Lib.hid hd
    have e9 : (a : Int) + 2 < (f : Int) + 2 := by have := Haf.out; omega
    clear hn hd hev
    go_upto_region 9 with fail
    obtain ⟨w3, hw3⟩ : ∃ w3, w3 = w2.setCell ⟨b, 6, none⟩ (.bool true) := ⟨_, rfl⟩
    have hbk3 : w3.heap[b]? = some (.cells (poCells n k a f r true 0 0) 250 (0, 0)) := by rw [hw3, blk_set Hbk2.out]; rfl
    have hc3 : Chg (fun k => k = b) w1 w3 := by rw [hw3]; exact Hc2.out.setCell (by exact .inl rfl) _
    rw [← hw3]
    have p3 : w3.cell? ⟨b, 3, none⟩ = some (.int .i64 ((a : Int) + 2)) := by rw [cell_blk hbk3]; rfl
    have p4 : w3.cell? ⟨b, 4, none⟩ = some (.int .i64 ((f : Int) + 2)) := by rw [cell_blk hbk3]; rfl
    have Hbk3 := Lib.hid hbk3; have Hc3 := Lib.hid hc3
    clear hw3 hbk3 hc3 q1 q4 q5 q6 qf3 qf6
    go_quiet (fail)
    have F := Lib.hid (Fin.out (w3.drewN nq) _ false (Hc3.out.drewN nq) Hbk3.out Hn.out.symm Hd.out.symm)
    go_wp2_with fail
    simp only [Exit.noGoto]
    go_wp2_with fail
    go_ret
    exact F.out
  · have e1 : ¬ (r : Int) % 2 = 0 := by omega
    have e2 : (r : Int) % 2 = 1 := by omega
    go_upto_region 9 with fail
    obtain ⟨w3, hw3⟩ : ∃ w3, w3 = w2.setCell ⟨b, 3, none⟩ (.int .i64 ((a : Int) + 2 + 1)) := ⟨_, rfl⟩
    have hbk3 : w3.heap[b]? = some (.cells (poCells n k (a + 1) f r false 0 0) 250 (0, 0)) := by
      rw [hw3, blk_set Hbk2.out]; unfold poCells
      rw [show ((a + 1 : Nat) : Int) + 2 = (a : Int) + 2 + 1 by omega]; rfl
    have hc3 : Chg (fun k => k = b) w1 w3 := by rw [hw3]; exact Hc2.out.setCell (by exact .inl rfl) _
    rw [← hw3]
    have p3 : w3.cell? ⟨b, 3, none⟩ = some (.int .i64 ((a : Int) + 2 + 1)) := by rw [cell_blk hbk3, show (a : Int) + 2 + 1 = ((a + 1 : Nat) : Int) + 2 by omega]; rfl
    have p4 : w3.cell? ⟨b, 4, none⟩ = some (.int .i64 ((f : Int) + 2)) := by rw [cell_blk hbk3]; rfl
    have Hbk3 := Lib.hid hbk3; have Hc3 := Lib.hid hc3
    clear hw3 hbk3 hc3 q1 q4 q5 q6 qf3 qf6
    by_cases hla : a + 1 < f
    · have hn : poNext n k a f r = poCells n k (a + 1) f r false 0 0 := (if_neg hev).trans (if_pos hla)
      have hd : poEnds a f r = false := (if_neg hev).trans (if_pos hla)
      have Hn := Lib.hid hn; have Hd := Lib.hid hd
      have e9 : (a : Int) + 2 + 1 < (f : Int) + 2 := by omega
      clear hn hd hev hla
      go_quiet (fail)
      have F := Lib.hid (Fin.out (w3.drewN nq) _ false (Hc3.out.drewN nq) Hbk3.out Hn.out.symm Hd.out.symm)
      go_wp2_with fail
      simp only [Exit.noGoto]
      go_wp2_with fail
      go_ret
      exact F.out
    · have hn : poNext n k a f r = poCells n k (a + 1) f r false 6 0 := (if_neg hev).trans (if_neg hla)
      have hd : poEnds a f r = true := (if_neg hev).trans (if_neg hla)
      have Hn := Lib.hid hn; have Hd := Lib.hid hd
      have e9 : ¬ (a : Int) + 2 + 1 < (f : Int) + 2 := by omega
      clear hn hd hev hla
      go_quiet (fail)
      obtain ⟨w4, hw4⟩ : ∃ w4, w4 = w3.drewN nq := ⟨_, rfl⟩
      have hbk4 : w4.heap[b]? = some (.cells (poCells n k (a + 1) f r false 0 0) 250 (0, 0)) := by rw [hw4]; exact Hbk3.out
      have hc4 : Chg (fun k => k = b) w1 w4 := by rw [hw4]; exact Hc3.out.drewN nq
      rw [← hw4]
      have p7 : w4.cell? ⟨b, 7, none⟩ = some (.int .i64 0) := by rw [cell_blk hbk4]; rfl
      have pf := frozen_blk hbk4 7
      have F := Lib.hid (Fin.out (w4.setCell ⟨b, 7, none⟩ (.int .i64 6)) _ true (hc4.setCell (by exact .inl rfl) _) (by rw [blk_set hbk4]; exact rfl) Hn.out.symm Hd.out.symm)
      clear hw4 hbk4 hc4 p3 p4
      go_wp2_with fail
      go_ret
      exact F.out
end Go.Proofs.Ytjkgfkbanbhkgaa
