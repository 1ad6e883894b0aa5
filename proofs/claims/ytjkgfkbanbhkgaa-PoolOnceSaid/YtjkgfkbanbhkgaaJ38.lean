/- Layer 13: the pool as the loom's object. -/
import Derived.Test.YtjkgfkbanbhkgaaJ35
import Derived.Test.YtjkgfkbanbhkgaaJ37
set_option maxRecDepth 100000
set_option linter.unusedVariables false
set_option linter.unusedSimpArgs false
set_option linter.unnecessarySimpa false
namespace Go.Proofs.Ytjkgfkbanbhkgaa
open Go.RowKit

def poolCap : CapRep := fun w Mut K cap c =>
  K = 155 ∧ ∃ b b2 b3 n k a : Nat, cap = #[.pointer (some ⟨b, 0, none⟩), .pointer (some ⟨b2, 0, none⟩), .pointer (some ⟨b3, 0, none⟩)] ∧ w.heap[b]? = some (.cells #[.int .i64 0, .int .i64 (n : Int), .int .i64 (k : Int)] 105 (0, 0)) ∧ ¬ Mut b ∧ w.cell? ⟨b2, 0, none⟩ = some (.int .i64 ((a : Int) + 2)) ∧ ¬ Mut b2 ∧ w.cell? ⟨b3, 0, none⟩ = some (.int .u64 ((c.a / 1024 : Nat) : Int)) ∧ ¬ Mut b3 ∧ c.a % 1024 = a + 2 ∧ c.a / 1024 < 1099511627776
def poM (n k : Nat) (w : World) (Mut B : Nat → Prop) (T : TypeId) (x : Value) (_ : Nat) : PoS → Prop
  | .once c r => OnceM poolCap w Mut B T x c r
  | .take a f m free r => T = 248 ∧ ∃ b, x = .pointer (some ⟨b, 0, none⟩) ∧ w.heap[b]? = some (.cells (poCells n k a f m free r.1 r.2) 250 (0, 0)) ∧ B b
def poolR (n k : Nat) : Real (poolS n k) where
  T := 105
  x := poolV n k
  OB := noB
  ORep := fun _ _ _ => True
  MRep := poM n k
  inv := fun _ _ => True
  dN := 1
  live := fun _ _ _ s => poLive n k s

theorem pool_taken (v : Nat) (hv : v < 1099511627776) (w : World) : Calls Try.prog 157 #[.int .u64 (v : Int)] w fun e w' => e = .returned (.int .u64 (2 * (v : Int) + 1)) ∧ Below w.heap.size w w' := by
  have h2 : (v : Int) < 1099511627776 := by omega
  have w1 : IntKind.u64.wrap (2 * (v : Int)) = 2 * (v : Int) := by rw [IntKind.wrap_u64]; omega
  have w2 : IntKind.u64.wrap (2 * (v : Int) + 1) = 2 * (v : Int) + 1 := by rw [IntKind.wrap_u64]; omega
  clear hv
  go_enter Try.func157, Try.ntmps157
  go_wp2
  go_ret
  exact ⟨rfl, Gr.refl _⟩
theorem pool_place (x q v : Nat) (hq : x % 1024 = q) (hv : x / 1024 = v) (hx : x < 18446744073709551616) (w : World) : Calls Try.prog 154 #[.int .u64 (x : Int)] w fun e w' => e = .returned (.tuple #[.int .i64 (q : Int), .int .u64 (v : Int)]) ∧ Below w.heap.size w w' := by
  have e1 : (x : Int) % 1024 = (q : Int) := by omega
  have e2 : (x : Int) / 1024 = (v : Int) := by omega
  have e3 : (x : Int) / 2 ^ 10 = (v : Int) := by omega
  have w1 : IntKind.i64.wrap (q : Int) = (q : Int) := by rw [IntKind.wrap_i64]; omega
  have w2 : IntKind.u64.wrap (v : Int) = (v : Int) := by rw [IntKind.wrap_u64]; omega
  have w3 : IntKind.u64.wrap (q : Int) = (q : Int) := by rw [IntKind.wrap_u64]; omega
  have E1 := Lib.hid e1; have E2 := Lib.hid e2
  clear hq hv hx
  go_enter Try.func154, Try.ntmps154
  go_wp2
  go_ret2
  exact ⟨rfl, Gr.refl _⟩

set_option maxHeartbeats 4000000 in
theorem pool_in (w : World) (Mut : Nat → Prop) (I : WIds) (N : Nat) (wd : WD) (b bo b2 b3 n k a v : Nat) (hw : WorldAt w Mut I N wd) (hb : ¬ WSet I b) (hbl : b < w.heap.size) (hc : wd.mem.c.all + 1 < 1000000000000) (hbo : w.heap[bo]? = some (.cells #[.int .i64 0, .int .i64 (n : Int), .int .i64 (k : Int)] 105 (0, 0))) (hm : ¬ Mut bo) (hb2 : w.cell? ⟨b2, 0, none⟩ = some (.int .i64 ((a : Int) + 2))) (hm2 : ¬ Mut b2) (hb3 : w.cell? ⟨b3, 0, none⟩ = some (.int .u64 (v : Int))) (hm3 : ¬ Mut b3) (ha : a < 1000000) (hv : v < 1099511627776) (sw : MemD × Bool) (hsw : sw = memSwap wd.mem (a : Int) (2 * v + 1) (2 * v)) (ez : Int) (hez : ez = if sw.2 then 0 else 8) :
    Calls Try.prog 155 #[.pointer (some ⟨I.bW, 0, none⟩), .pointer (some ⟨bo, 0, none⟩), .pointer (some ⟨b2, 0, none⟩), .pointer (some ⟨b3, 0, none⟩)] w (OnceIn b w (AccTo w Mut I N wd sw.1 ez 0)) := by
  obtain ⟨s1, s2, s3⟩ := memSet_sub hw
  obtain ⟨wa, hwa⟩ : ∃ wa, wa = w.alloc (.cells #[.int .i64 0, .int .u64 0, .slice none 0 0] 48) := ⟨_, rfl⟩
  have hga : Below w.heap.size w wa := by rw [hwa]; exact Gr.new _ _
  have hra : wa.heap[w.heap.size]? = some (.cells #[.int .i64 0, .int .u64 0, .slice none 0 0] 48 (0, 0)) := by rw [hwa]; exact heap_alloc_new _ _
  obtain ⟨mks, hwb, _, _⟩ := hw.blk
  have hWlt := blk_lt hwb
  have hbolt := blk_lt hbo
  have hb2lt := World.block_lt_of_cell? _ _ hb2
  have hb3lt := World.block_lt_of_cell? _ _ hb3
  simp only at hb2lt hb3lt
  have x0 : wa.cell? ⟨I.bW, 0, none⟩ = some (.pointer (some ⟨I.bm, 0, none⟩)) := by rw [hga.cell hWlt, cell_blk hwb]; exact world_mem
  have y0 : wa.cell? ⟨bo, 0, none⟩ = some (.int .i64 0) := by rw [hga.cell hbolt, cell_blk hbo]; rfl
  have y1 : wa.cell? ⟨bo, 1, none⟩ = some (.int .i64 (n : Int)) := by rw [hga.cell hbolt, cell_blk hbo]; rfl
  have y2 : wa.cell? ⟨bo, 2, none⟩ = some (.int .i64 (k : Int)) := by rw [hga.cell hbolt, cell_blk hbo]; rfl
  have y3 : wa.cell? ⟨b2, 0, none⟩ = some (.int .i64 ((a : Int) + 2)) := by rw [hga.cell hb2lt]; exact hb2
  have y4 : wa.cell? ⟨b3, 0, none⟩ = some (.int .u64 (v : Int)) := by rw [hga.cell hb3lt]; exact hb3
  have hra' : ¬ MemSet I.bm I.bw w.heap.size := fun h => Nat.lt_irrefl _ (s3 _ h).2
  have Sw := Lib.hid (fun (u : World) (h : Chg noB wa u) => swap_any I.bm I.bw wd.mem (a : Int) (2 * v + 1) (2 * v) u ((hw.mem.gr hga).chg h (fun h => h) (fun _ _ h => h)) (by omega) hc)
  rw [← hsw, show (((2 * v + 1 : Nat)) : Int) = 2 * (v : Int) + 1 by omega, show ((2 * v : Nat) : Int) = 2 * (v : Int) by omega] at Sw
  have At := Lib.hid (pool_at n k a ha)
  have Tk := Lib.hid (pool_taken v hv)
  have Hw := Lib.hid hw; have Hga := Lib.hid hga; have Hra := Lib.hid hra; have Hwa := Lib.hid hwa; have S2 := Lib.hid s2; have Nm := Lib.hid (fun h => hm (s1 bo h)); have Nm2 := Lib.hid (fun h => hm2 (s1 b2 h)); have Nm3 := Lib.hid (fun h => hm3 (s1 b3 h)); have S3 := Lib.hid s3; have Hra' := Lib.hid hra'; have Hb := Lib.hid hb
  have hvi : (v : Int) < 1099511627776 := by omega
  have wv : IntKind.u64.wrap (2 * (v : Int)) = 2 * (v : Int) := by rw [IntKind.wrap_u64]; omega
  obtain ⟨m', bb⟩ := sw
  simp only at Sw hez ⊢
  have Hez := Lib.hid hez
  clear hez
  clear hw hga hra hwb s1 s2 s3 hbo hm hra' hb hwa hb2 hm2 hb3 hm3 ha hv hsw
  have hn1 : w.heap.size ≠ I.bW := by omega
  go_enter Try.func155, Try.ntmps155
  go_wp2_with fail
  rw [← Hwa.out]
  go_region_held3 (fun u => u.cell? ⟨I.bW, 0, none⟩ = some (.pointer (some ⟨I.bm, 0, none⟩)) ∧ u.cell? ⟨bo, 0, none⟩ = some (.int .i64 0) ∧ u.cell? ⟨bo, 1, none⟩ = some (.int .i64 (n : Int)) ∧ u.cell? ⟨bo, 2, none⟩ = some (.int .i64 (k : Int)) ∧ u.cell? ⟨b2, 0, none⟩ = some (.int .i64 ((a : Int) + 2)) ∧ u.cell? ⟨b3, 0, none⟩ = some (.int .u64 (v : Int)))
    (first | exact ⟨x0, y0, y1, y2, y3, y4⟩ | exact ⟨u0, u1, u2, u3, u4, u5⟩ | exact ⟨t0, t1, t2, t3, t4, t5⟩ | exact ⟨z0, z1, z2, z3, z4, z5⟩)
    (first | (go_at_call 153; refine (At.out _).mono ?_; rintro e w5 ⟨rfl, hb5⟩; have hc5 : Chg noB wa w5 := ((Chg.refl _ wa).drew).trans (Chg.of_below hb5); have u0 := box_keep hc5 (fun h => h) x0; have u1 := box_keep hc5 (fun h => h) y0; have u2 := box_keep hc5 (fun h => h) y1; have u3 := box_keep hc5 (fun h => h) y2; have u4 := box_keep hc5 (fun h => h) y3; have u5 := box_keep hc5 (fun h => h) y4) | (go_at_call 157; refine (Tk.out _).mono ?_; rintro e w6 ⟨rfl, hb6⟩; have hc6 : Chg noB wa w6 := hc5.trans (Chg.of_below hb6); have t0 := box_keep hc6 (fun h => h) x0; have t1 := box_keep hc6 (fun h => h) y0; have t2 := box_keep hc6 (fun h => h) y1; have t3 := box_keep hc6 (fun h => h) y2; have t4 := box_keep hc6 (fun h => h) y3; have t5 := box_keep hc6 (fun h => h) y4) | (go_at_call 156; refine (Sw.out _ hc6).mono ?_; rintro e w4 ⟨rfl, hm4, hc4⟩; have hc4' : Chg (MemSet I.bm I.bw) wa w4 := (hc6.mono (fun _ _ h => h.elim)).trans hc4; have z0 := box_keep hc4' S2.out x0; have z1 := box_keep hc4' Nm.out y0; have z2 := box_keep hc4' Nm.out y1; have z3 := box_keep hc4' Nm.out y2; have z4 := box_keep hc4' Nm2.out y3; have z5 := box_keep hc4' Nm3.out y4; have hr4 := (hc4'.block _ (blk_lt Hra.out) Hra'.out).trans Hra.out; have g0 : w4.cell? ⟨w.heap.size, 0, none⟩ = some (.int .i64 0) := (by rw [cell_blk hr4]; rfl); have g1 : w4.cell? ⟨w.heap.size, 1, none⟩ = some (.int .u64 0) := (by rw [cell_blk hr4]; rfl); have g2 : w4.cell? ⟨w.heap.size, 2, none⟩ = some (.slice none 0 0) := (by rw [cell_blk hr4]; rfl); have gf0 := frozen_blk hr4 0; have gf1 := frozen_blk hr4 1; have gf2 := frozen_blk hr4 2))
  have fin : ∀ er : Int, er = ez → OnceIn b w (AccTo w Mut I N wd m' ez 0) (.returned (ansV er 0 (.slice none 0 0))) (((w4.setCell ⟨w.heap.size, 0, none⟩ (.int .i64 er)).setCell ⟨w.heap.size, 1, none⟩ (.int .u64 0)).setCell ⟨w.heap.size, 2, none⟩ (.slice none 0 0)) ∧
      (((w4.setCell ⟨w.heap.size, 0, none⟩ (.int .i64 er)).setCell ⟨w.heap.size, 1, none⟩ (.int .u64 0)).setCell ⟨w.heap.size, 2, none⟩ (.slice none 0 0)).heap[w.heap.size]? = some (.cells #[.int .i64 er, .int .u64 0, .slice none 0 0] 48 (0, 0)) := by
    rintro er her
    have hcR : Chg (fun k => k = w.heap.size) w4 (((w4.setCell ⟨w.heap.size, 0, none⟩ (.int .i64 er)).setCell ⟨w.heap.size, 1, none⟩ (.int .u64 0)).setCell ⟨w.heap.size, 2, none⟩ (.slice none 0 0)) := (((Chg.refl (fun k => k = w.heap.size) w4).setCell (by exact .inl rfl) _).setCell (by exact .inl rfl) _).setCell (by exact .inl rfl) _
    have hcA : Chg (MemSet I.bm I.bw) w (((w4.setCell ⟨w.heap.size, 0, none⟩ (.int .i64 er)).setCell ⟨w.heap.size, 1, none⟩ (.int .u64 0)).setCell ⟨w.heap.size, 2, none⟩ (.slice none 0 0)) :=
      ((((Chg.of_below Hga.out).trans hc4').setCell (by exact .inr (Nat.le_refl _)) _).setCell (by exact .inr (Nat.le_refl _)) _).setCell (by exact .inr (Nat.le_refl _)) _
    have hm6 := hm4.chg hcR (fun e => Hra'.out (.inl e.symm)) (fun q hq e => Hra'.out (.inr (by rw [← e]; exact hq.symm)))
    obtain ⟨hwf, hcf⟩ := Hw.out.mems hcA hm6
    refine ⟨⟨er, 0, rfl, hcA.block b hbl (fun h => Hb.out (S3.out b h).1), her, rfl, hcf, hwf⟩, ?_⟩
    rw [blk_set (blk_set (blk_set hr4 _ _) _ _)]; rfl
  have Fin := Lib.hid fin
  clear fin hr4 hc4 hc4' hm4 x0 y0 y1 y2 y3 y4 u0 u1 u2 u3 u4 u5 t0 t1 t2 t3 t4 t5 z0 z1 z2 z3 z4 z5 hc5 hc6 hb5 hb6
  cases bb with
  | true =>
    obtain ⟨f1, f2⟩ := Fin.out 0 (by rw [Hez.out]; rfl)
    obtain ⟨w6, hw6⟩ : ∃ w6, w6 = (((w4.setCell ⟨w.heap.size, 0, none⟩ (.int .i64 0)).setCell ⟨w.heap.size, 1, none⟩ (.int .u64 0)).setCell ⟨w.heap.size, 2, none⟩ (.slice none 0 0)) := ⟨_, rfl⟩
    rw [← hw6] at f1 f2
    have k0 : w6.cell? ⟨w.heap.size, 0, none⟩ = some (.int .i64 0) := by rw [cell_blk f2]; rfl
    have k1 : w6.cell? ⟨w.heap.size, 1, none⟩ = some (.int .u64 0) := by rw [cell_blk f2]; rfl
    have k2 : w6.cell? ⟨w.heap.size, 2, none⟩ = some (.slice none 0 0) := by rw [cell_blk f2]; rfl
    have F1 := Lib.hid f1; have Hw6 := Lib.hid hw6.symm
    clear f1 f2 hw6
    rename_i hHH
    clear hHH
    simp only [Bool.not_true, Bool.not_false]
    go_wp2
    rw [Hw6.out]
    exact bodyPost_ret (v := ansV 0 0 (.slice none 0 0)) (by simp [results, Try.results155 , go_sem, ansV, k0, k1, k2]) rfl F1.out
  | false =>
    obtain ⟨f1, f2⟩ := Fin.out 8 (by rw [Hez.out]; rfl)
    obtain ⟨w6, hw6⟩ : ∃ w6, w6 = (((w4.setCell ⟨w.heap.size, 0, none⟩ (.int .i64 8)).setCell ⟨w.heap.size, 1, none⟩ (.int .u64 0)).setCell ⟨w.heap.size, 2, none⟩ (.slice none 0 0)) := ⟨_, rfl⟩
    rw [← hw6] at f1 f2
    have k0 : w6.cell? ⟨w.heap.size, 0, none⟩ = some (.int .i64 8) := by rw [cell_blk f2]; rfl
    have k1 : w6.cell? ⟨w.heap.size, 1, none⟩ = some (.int .u64 0) := by rw [cell_blk f2]; rfl
    have k2 : w6.cell? ⟨w.heap.size, 2, none⟩ = some (.slice none 0 0) := by rw [cell_blk f2]; rfl
    have F1 := Lib.hid f1; have Hw6 := Lib.hid hw6.symm
    clear f1 f2 hw6
    rename_i hHH
    clear hHH
    simp only [Bool.not_true, Bool.not_false]
    go_wp2
    rw [Hw6.out]
    exact bodyPost_ret (v := ansV 8 0 (.slice none 0 0)) (by simp [results, Try.results155 , go_sem, ansV, k0, k1, k2]) rfl F1.out
theorem pool_capgo : CapGo poolCap poolAct where
  keep := by
    rintro w w' Q Mut Mut' K cap c ⟨h2, b, b2, b3, n, k, a, h3, h4, h5, h6, h7, h8, h9, h10, h11⟩ hc hQ hm
    have hcell : w.cell? ⟨b, 0, none⟩ = some (.int .i64 0) := by rw [cell_blk h4]; rfl
    exact ⟨h2, b, b2, b3, n, k, a, h3, (hc.block _ (blk_lt h4) (fun hq => h5 (hQ _ hq))).trans h4, notMut_keep hcell h5 hm, box_keep hc (fun hq => h7 (hQ _ hq)) h6, notMut_keep h6 h7 hm, box_keep hc (fun hq => h9 (hQ _ hq)) h8, notMut_keep h8 h9 hm, h10, h11⟩
  go := by
    rintro w Mut I N wd b K cap c hw ⟨rfl, bo, b2, b3, n, k, a, rfl, h4, h5, h6, h7, h8, h9, h10, h11⟩ hb hbl hc
    refine (pool_in w Mut I N wd b bo b2 b3 n k a (c.a / 1024) hw hb hbl hc h4 h5 h6 h7 h8 h9 (by omega) h11 (poolMem c wd) (by unfold poolMem; rw [show c.a % 1024 - 2 = a by omega]) _ rfl).mono ?_
    rintro e w' ⟨er, vl, he, hbk, rfl, rfl, hch, hw'⟩
    exact ⟨_, _, he, hbk, rfl, hch, hw'⟩
end Go.Proofs.Ytjkgfkbanbhkgaa
