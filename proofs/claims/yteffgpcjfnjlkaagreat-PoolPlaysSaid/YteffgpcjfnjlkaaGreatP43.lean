/- Layer 13: the pool starts an operation; the pool as the loom's object. -/
import Derived.Test.YteffgpcjfnjlkaaGreatP42
set_option maxRecDepth 100000
set_option linter.unusedVariables false
set_option linter.unusedSimpArgs false
set_option linter.unnecessarySimpa false
namespace Go.Proofs.YteffgpcjfnjlkaaGreat
open Go.RowKit
theorem take13_step_m (a : Addr) : Meth 283 (.pointer (some a)) "Step" 242 (.pointer (some a)) := ⟨fun _ _ => by kernel_rfl, fun _ _ => by kernel_rfl, fun _ _ => by kernel_rfl⟩
theorem take13_answer_m (a : Addr) : Meth 283 (.pointer (some a)) "Answer" 241 (.pointer (some a)) := ⟨fun _ _ => by kernel_rfl, fun _ _ => by kernel_rfl, fun _ _ => by kernel_rfl⟩
theorem pool_start_m (n k : Nat) : Meth 84 (poolV n k) "Start" 193 (poolV n k) := ⟨fun _ _ => by kernel_rfl, fun _ _ => by kernel_rfl, fun _ _ => by kernel_rfl⟩
theorem take13_kind (v : Value) (u : World) : (Instr.typeAssert (.iface 283 v) 138 167 true).run Tryz.prog u = .ok (.tuple #[.nilIface, .bool false]) u := run_typeAssert_lacksB Tryz.underlying167 (by kernel_rfl) (by kernel_rfl) v _ u
theorem enter_pool1 (args : Array Value) (u : World) : (callFunc 196 args).run Tryz.prog u = .ok (.enter 196 args) u := by kernel_rfl
theorem take13_answer (b n k a f m : Nat) (free : Bool) (er : Int) (vl : Nat) (w : World) (h : w.heap[b]? = some (.cells (poCells n k a f m free er vl) 285 (0, 0))) :
  Calls Tryz.prog 241 #[.pointer (some ⟨b, 0, none⟩)] w fun e w' => e = .returned (.tuple #[ansV er vl (.slice none 0 0), .slice none 0 0]) ∧ Below w.heap.size w w' := by
 have hlt := blk_lt h
 have hb2 : (w.alloc (.cells #[.int .i64 0, .int .u64 0, .slice none 0 0] 50)).heap[b]? = some (.cells (poCells n k a f m free er vl) 285 (0, 0)) := by rw [Below.heap_alloc _ _ _ hlt]; exact h
 have c7 : (w.alloc (.cells #[.int .i64 0, .int .u64 0, .slice none 0 0] 50)).cell? ⟨b, 7, none⟩ = some (.int .i64 er) := by rw [cell_blk hb2]; rfl
 have c8 : (w.alloc (.cells #[.int .i64 0, .int .u64 0, .slice none 0 0] 50)).cell? ⟨b, 8, none⟩ = some (.int .u64 (vl : Int)) := by rw [cell_blk hb2]; rfl
 have c9 : (w.alloc (.cells #[.int .i64 0, .int .u64 0, .slice none 0 0] 50)).cell? ⟨b, 9, none⟩ = some (.slice none 0 0) := by rw [cell_blk hb2]; rfl
 clear h hb2
 unfold ansV
 go_enter Tryz.func241, Tryz.ntmps241
 go_wp2
 exact bodyPost_ret (v := .tuple #[.agg #[.int .i64 er, .int .u64 (vl : Int), .slice none 0 0], .slice none 0 0]) (by simp [results, Tryz.results241 , go_sem]) rfl ⟨rfl, Gr.new _ _⟩
theorem pool_blks (w : World) (n k th ob kd ca cb cc : Int) : ∃ wa, wa = (w.alloc (.cells #[.int .i64 0, .int .i64 n, .int .i64 k] 84)).alloc (.cells #[.int .i64 th, .int .i64 ob, .int .i64 kd, .int .u64 ca, .int .u64 cb, .int .u64 cc] 48) ∧ Below w.heap.size w wa ∧ wa.heap.size = w.heap.size + 2 ∧
  wa.heap[w.heap.size]? = some (.cells #[.int .i64 0, .int .i64 n, .int .i64 k] 84 (0, 0)) ∧ wa.heap[w.heap.size + 1]? = some (.cells #[.int .i64 th, .int .i64 ob, .int .i64 kd, .int .u64 ca, .int .u64 cb, .int .u64 cc] 48 (0, 0)) := by
 refine ⟨_, rfl, Gr.alloc (Gr.new _ _) _, by simp, ?_, ?_⟩
 ·rw [Below.heap_alloc _ _ _ (by simp)]; exact heap_alloc_new _ _
 ·have := heap_alloc_new (w.alloc (.cells #[.int .i64 0, .int .i64 n, .int .i64 k] 84)) (.cells #[.int .i64 th, .int .i64 ob, .int .i64 kd, .int .u64 ca, .int .u64 cb, .int .u64 cc] 48 (0, 0))
  simp only [World.size_alloc] at this
  exact this
theorem pool_caps (w0 : World) (q v : Int) : ∃ w3, w3 = (w0.alloc (.cells #[.int .i64 q] 3)).alloc (.cells #[.int .u64 v] 46) ∧ Below w0.heap.size w0 w3 ∧ w3.heap.size = w0.heap.size + 2 ∧ w3.cell? ⟨w0.heap.size, 0, none⟩ = some (.int .i64 q) ∧ w3.cell? ⟨w0.heap.size + 1, 0, none⟩ = some (.int .u64 v) := by
 refine ⟨_, rfl, Gr.alloc (Gr.new _ _) _, by simp, ?_, ?_⟩
 ·rw [World.cell?_alloc_lt _ _ _ (by simp), cell_new]; rfl
 ·have := cell_new (w0.alloc (.cells #[.int .i64 q] 3)) #[.int .u64 v] 46 (0, 0) 0
  simp only [World.size_alloc] at this
  exact this
set_option maxHeartbeats 8000000 in
theorem pool_start (n k : Nat) (hn : n ≤ 16) (hk : k ≤ 32) (w : World) (Mut : Nat → Prop) (I : WIds) (N : Nat) (wd : WD) (p : Nat) (c : CallD) (hw : WorldAt w Mut I N wd) (hp : p < 16) (hc : CallOk c) :
  Calls Tryz.prog 193 #[poolV n k, .pointer (some ⟨I.bW, 0, none⟩), .int .i64 (p : Int), callAgg c] w (StartPost (poolR n k) w Mut I wd () p c) := by
 have hca := hc.a
 obtain ⟨c0, hc0⟩ : ∃ c0, c0 = c := ⟨_, rfl⟩
 obtain ⟨th, ob, kd, ca, cb, cc⟩ := c
 have hlow := hw.low
 unfold callAgg poolV
 simp only at hca ⊢
 have Hlow := Lib.hid hlow
 clear hw hc hlow
 have ST : (poolS n k).start () wd p ⟨th, ob, kd, ca, cb, cc⟩ = (if kd = 0 then Mc.run (PoS.take (p * k) (p * k + k) 0 false (0, 0)) else if kd ≠ 1 then .refuse 9 else if poBad n k ⟨th, ob, kd, ca, cb, cc⟩ = true then .refuse 10 else .run (.once ⟨th, ob, kd, ca, cb, cc⟩ (0, 0))) := rfl
 have nm : ∀ (d k : Nat), w.heap.size ≤ k → k ≠ d → ¬ (mutTo Mut noB (fun b => b = d) k) := fun d k hk hkd => by
  rintro (⟨hx, _⟩ | hx)
  ·have := Hlow.out _ hx; omega
  ·exact hkd hx
 have Nm := Lib.hid nm
 have STh := Lib.hid ST
 clear nm ST
 obtain ⟨wa, hwa, hga, hsz, ha0, ha1⟩ := pool_blks w (n : Int) (k : Int) th ob kd (ca : Int) (cb : Int) (cc : Int)
 have d0 : wa.cell? ⟨w.heap.size, 0, none⟩ = some (.int .i64 0) := by rw [cell_blk ha0]; rfl
 have d1 : wa.cell? ⟨w.heap.size, 1, none⟩ = some (.int .i64 (n : Int)) := by rw [cell_blk ha0]; rfl
 have d2 : wa.cell? ⟨w.heap.size, 2, none⟩ = some (.int .i64 (k : Int)) := by rw [cell_blk ha0]; rfl
 have f2 : wa.cell? ⟨w.heap.size + 1, 2, none⟩ = some (.int .i64 kd) := by rw [cell_blk ha1]; rfl
 have f3 : wa.cell? ⟨w.heap.size + 1, 3, none⟩ = some (.int .u64 (ca : Int)) := by rw [cell_blk ha1]; rfl
 have Hwa := Lib.hid hwa; have Hga := Lib.hid hga; have Hsz := Lib.hid hsz; have Ha0 := Lib.hid ha0; have Ha1 := Lib.hid ha1
 have hpk : p * k ≤ 512 := by
  have : p * k ≤ 16 * 32 := Nat.mul_le_mul (by omega) hk
  omega
 have hnk : n * k ≤ 512 := by
  have : n * k ≤ 16 * 32 := Nat.mul_le_mul hn hk
  omega
 have epk : (p : Int) * (k : Int) = ((p * k : Nat) : Int) := by simp
 have enk : (n : Int) * (k : Int) = ((n * k : Nat) : Int) := by simp
 clear hwa hga hsz ha0 ha1
 by_cases h0 : kd = 0
 ·have Hst := Lib.hid (show (poolS n k).start () wd p ⟨th, ob, kd, ca, cb, cc⟩ = .run (.take (p * k) (p * k + k) 0 false (0, 0)) by rw [STh.out, if_pos h0]; rfl)
  subst h0
  have w1 : IntKind.i64.wrap ((p : Int) * (k : Int)) = (p : Int) * (k : Int) := by rw [IntKind.wrap_i64]; omega
  have w2 : IntKind.i64.wrap (2 + (p : Int) * (k : Int)) = 2 + (p : Int) * (k : Int) := by rw [IntKind.wrap_i64]; omega
  have w3 : IntKind.i64.wrap (2 + (p : Int) * (k : Int) + (k : Int)) = 2 + (p : Int) * (k : Int) + (k : Int) := by rw [IntKind.wrap_i64]; omega
  have Epk := Lib.hid epk
  clear epk enk
  go_enter Tryz.func193, Tryz.ntmps193
  go_upto_region 1 with fail
  rw [← Hwa.out]
  go_wp2
  go_ret
  refine ⟨_, _, fun b => b = wa.heap.size, rfl, Gr.trans Hga.out (Gr.new _ _), fun b hb => by subst hb; have := Hsz.out; exact ⟨by omega, by simp⟩, ?_⟩
  rw [Hst.out]
  refine ⟨rfl, wa.heap.size, rfl, ?_, rfl⟩
  rw [heap_alloc_new]
  unfold poCells
  rw [show ((p * k : Nat) : Int) + 2 = 2 + (p : Int) * (k : Int) by rw [Epk.out]; omega, show ((p * k + k : Nat) : Int) + 2 = 2 + (p : Int) * (k : Int) + (k : Int) by rw [Epk.out]; omega]
  rfl
 by_cases h1 : kd = 1
 ·have STk : (poolS n k).start () wd p ⟨th, ob, kd, ca, cb, cc⟩ = (if poBad n k ⟨th, ob, kd, ca, cb, cc⟩ = true then .refuse 10 else .run (.once ⟨th, ob, kd, ca, cb, cc⟩ (0, 0))) := by rw [STh.out, if_neg h0, if_neg (by simpa using h1)]; rfl
  have STK := Lib.hid STk
  subst h1
  have Rf := Lib.hid (refuse_any 10)
  obtain ⟨q, hq⟩ : ∃ q, q = ca % 1024 := ⟨_, rfl⟩
  obtain ⟨v, hv⟩ : ∃ v, v = ca / 1024 := ⟨_, rfl⟩
  have Pl := Lib.hid (pool_place ca q v hq.symm hv.symm hca)
  have hbad : poBad n k ⟨th, ob, 1, ca, cb, cc⟩ = (decide (q < 2) || decide (2 + n * k ≤ q) || decide (1099511627776 ≤ v)) := by rw [hq, hv]; rfl
  have Hbad := Lib.hid hbad
  have w1 : IntKind.i64.wrap ((n : Int) * (k : Int)) = (n : Int) * (k : Int) := by rw [IntKind.wrap_i64]; omega
  have w2 : IntKind.i64.wrap (2 + (n : Int) * (k : Int)) = 2 + (n : Int) * (k : Int) := by rw [IntKind.wrap_i64]; omega
  have hql : q < 1024 := by omega
  have hvl : v < 18446744073709551616 := by omega
  have wv : IntKind.u64.wrap ((v : Int) / 1099511627776) = (v : Int) / 1099511627776 := by rw [IntKind.wrap_u64]; omega
  have Hq := Lib.hid hq; have Hv := Lib.hid hv
  have F3 := Lib.hid f3; have D0 := Lib.hid d0; have D1 := Lib.hid d1; have D2 := Lib.hid d2
  have Enk := Lib.hid enk
  clear h0 STk hbad hq hv hca enk epk
  go_enter Tryz.func193, Tryz.ntmps193
  go_upto_region 1 with fail
  rw [← Hwa.out]
  go_wp2_with fail
  refine (Pl.out _).mono ?_
  rintro e w0 ⟨rfl, hb0⟩
  obtain ⟨w3, hw3, hg3, hsz3, k2, k3⟩ := pool_caps w0 (q : Int) (v : Int)
  have hbw3 : Below wa.heap.size wa w3 := Gr.trans hb0 hg3
  have e1 : w3.cell? ⟨w.heap.size, 1, none⟩ = some (.int .i64 (n : Int)) := (hbw3.cell (World.block_lt_of_cell? _ _ D1.out)).trans D1.out
  have e2 : w3.cell? ⟨w.heap.size, 2, none⟩ = some (.int .i64 (k : Int)) := (hbw3.cell (World.block_lt_of_cell? _ _ D2.out)).trans D2.out
  have hpb : w3.heap[w.heap.size]? = some (.cells #[.int .i64 0, .int .i64 (n : Int), .int .i64 (k : Int)] 84 (0, 0)) := (hbw3.block _ (blk_lt Ha0.out)).trans Ha0.out
  have hs0 := hb0.size
  have hs2 := Hsz.out
  have Hw3 := Lib.hid hw3; have Hg3 := Lib.hid (Gr.trans Hga.out hbw3); have Hpb := Lib.hid hpb; have K2 := Lib.hid k2; have K3 := Lib.hid k3
  have Hsw := Lib.hid (show w.heap.size + 2 ≤ w0.heap.size ∧ w3.heap.size = w0.heap.size + 2 by omega)
  clear hw3 hg3 hbw3 hpb hs0 hs2 hsz3
  go_upto_region 7 with fail
  rw [← Hw3.out]
  clear d0 d1 d2 f2 f3 hb0
  by_cases hA : q < 2
  ·have c1 : (q : Int) < 2 := by omega
   have Hst := Lib.hid (show (poolS n k).start () wd p ⟨th, ob, 1, ca, cb, cc⟩ = .refuse 10 by rw [STK.out, if_pos (by rw [Hbad.out]; simp; omega)])
   go_wp2_with (go_at_call 99; refine (Rf.out _).mono ?_; rintro e w' ⟨rfl, hrf, hbr⟩)
   go_ret
   have hsw := Hsw.out
   refine ⟨_, _, fun b => b = w3.heap.size + 1, rfl, Gr.trans Hg3.out hbr, fun b hb => by subst hb; exact ⟨by omega, blk_lt hrf.1⟩, ?_⟩
   rw [Hst.out]
   exact ⟨rfl, w3.heap.size + 1, w3.heap.size, rfl, hrf, rfl, Nm.out _ _ (by omega) (by omega)⟩
  ·have c1 : ¬ (q : Int) < 2 := by omega
   by_cases hB : 2 + n * k ≤ q
   ·have c2 : 2 + (n : Int) * (k : Int) ≤ (q : Int) := by have := Enk.out; omega
    have Hst := Lib.hid (show (poolS n k).start () wd p ⟨th, ob, 1, ca, cb, cc⟩ = .refuse 10 by rw [STK.out, if_pos (by rw [Hbad.out]; simp; omega)])
    go_wp2_with (go_at_call 99; refine (Rf.out _).mono ?_; rintro e w' ⟨rfl, hrf, hbr⟩)
    go_ret
    have hsw := Hsw.out
    refine ⟨_, _, fun b => b = w3.heap.size + 1, rfl, Gr.trans Hg3.out hbr, fun b hb => by subst hb; exact ⟨by omega, blk_lt hrf.1⟩, ?_⟩
    rw [Hst.out]
    exact ⟨rfl, w3.heap.size + 1, w3.heap.size, rfl, hrf, rfl, Nm.out _ _ (by omega) (by omega)⟩
   ·have c2 : ¬ 2 + (n : Int) * (k : Int) ≤ (q : Int) := by have := Enk.out; omega
    by_cases hC : 1099511627776 ≤ v
    ·have c3 : ¬ (v : Int) / 1099511627776 = 0 := by omega
     have c4 : ((v : Int) / 1099511627776 != 0) = true := by simpa using c3
     have Hst := Lib.hid (show (poolS n k).start () wd p ⟨th, ob, 1, ca, cb, cc⟩ = .refuse 10 by rw [STK.out, if_pos (by rw [Hbad.out]; simp; omega)])
     go_wp2_with (go_at_call 99; refine (Rf.out _).mono ?_; rintro e w' ⟨rfl, hrf, hbr⟩)
     go_ret
     have hsw := Hsw.out
     refine ⟨_, _, fun b => b = w3.heap.size + 1, rfl, Gr.trans Hg3.out hbr, fun b hb => by subst hb; exact ⟨by omega, blk_lt hrf.1⟩, ?_⟩
     rw [Hst.out]
     exact ⟨rfl, w3.heap.size + 1, w3.heap.size, rfl, hrf, rfl, Nm.out _ _ (by omega) (by omega)⟩
    ·have c3 : (v : Int) / 1099511627776 = 0 := by omega
     have Hst := Lib.hid (show (poolS n k).start () wd p ⟨th, ob, 1, ca, cb, cc⟩ = .run (.once ⟨th, ob, 1, ca, cb, cc⟩ (0, 0)) by rw [STK.out, if_neg (by rw [Hbad.out]; simp; omega)])
     obtain ⟨a, ha⟩ : ∃ a, q = a + 2 := ⟨q - 2, by omega⟩
     have Ha := Lib.hid ha
     have Hk1 := Lib.hid (show ¬ 1099511627776 ≤ v from hC)
     clear ha
     go_wp2
     go_ret
     have hsw := Hsw.out
     refine ⟨_, _, fun b => b = w3.heap.size, rfl, Gr.trans Hg3.out (Gr.new _ _), fun b hb => by subst hb; exact ⟨by omega, by simp⟩, ?_⟩
     rw [Hst.out]
     have hblk := heap_alloc_new w3 (.cells (onceCells 196 #[.pointer (some ⟨w.heap.size, 0, none⟩), .pointer (some ⟨w0.heap.size, 0, none⟩), .pointer (some ⟨w0.heap.size + 1, 0, none⟩)] 0 0) 217 (0, 0))
     refine ⟨rfl, w3.heap.size, _, _, rfl, hblk, rfl, enter_pool1, rfl, w.heap.size, w0.heap.size, w0.heap.size + 1, n, k, a, rfl, ?_, Nm.out _ _ (Nat.le_refl _) (by omega), ?_, Nm.out _ _ (by omega) (by omega), ?_, Nm.out _ _ (by omega) (by omega), ?_, ?_⟩
     ·rw [Below.heap_alloc _ _ _ (by omega)]; exact Hpb.out
     ·rw [World.cell?_alloc_lt _ _ _ (by show w0.heap.size < w3.heap.size; omega), K2.out, Ha.out]; simp
     ·rw [World.cell?_alloc_lt _ _ _ (by show w0.heap.size + 1 < w3.heap.size; omega), K3.out, Hv.out]
     ·show ca % 1024 = a + 2
      rw [← Hq.out, Ha.out]
     ·show ca / 1024 < 1099511627776
      rw [← Hv.out]; have := Hk1.out; omega
 ·have Hst := Lib.hid (show (poolS n k).start () wd p ⟨th, ob, kd, ca, cb, cc⟩ = .refuse 9 by rw [STh.out, if_neg h0, if_pos h1]; rfl)
  have Rf := Lib.hid (refuse_any 9)
  have q1 : (kd != 1) = true := by simp [h1]
  have q0 : (kd == 0) = false := by simp [h0]
  clear d0 d1 d2 epk enk
  go_enter Tryz.func193, Tryz.ntmps193
  go_upto_region 1 with fail
  rw [← Hwa.out]
  go_wp2_with (go_at_call 99; refine (Rf.out _).mono ?_; rintro e w' ⟨rfl, hrf, hbr⟩)
  go_ret
  have hsw := Hsz.out
  refine ⟨_, _, fun b => b = wa.heap.size + 1, rfl, Gr.trans Hga.out hbr, fun b hb => by subst hb; exact ⟨by omega, blk_lt hrf.1⟩, ?_⟩
  rw [Hst.out]
  exact ⟨rfl, wa.heap.size + 1, wa.heap.size, rfl, hrf, rfl, Nm.out _ _ (by omega) (by omega)⟩
theorem pool_ok (n k : Nat) (hn : n ≤ 16) (hk : k ≤ 32) : RealOk (poolR n k) where
 keepM := by
  intro w w' Q Mut Mut' B T x p s h hc hQ hB hm
  match s with
  | .once c r => exact OnceM.keep pool_capgo h hc hQ hB hm
  | .take a f m free r =>
   obtain ⟨h1, b, h2, h3, h4⟩ := h
   exact ⟨h1, b, h2, (hc.block _ (blk_lt h3) (hB b h4)).trans h3, h4⟩
 keepO := fun _ _ _ _ _ _ _ _ _ _ _ => trivial
 lowO := fun _ _ _ _ b hb => hb.elim
 start := ⟨_, _, pool_start_m n k, fun w Mut I N wd o p c hw _ _ hp hc => pool_start n k hn hk w Mut I N wd p c hw hp hc⟩
 step := by
  intro w Mut B I N wd o T' x' p s hw _ hm _ hp hN hc hB hl
  have hB2 : ∀ b, B b → Mut b ∧ ¬ WSet I b := fun b hb => ⟨(hB b hb).1, (hB b hb).2.1⟩
  have hN2 : N + 1 < 1000000000 := hN
  have hnk : n * k ≤ 512 := by
   have : n * k ≤ 16 * 32 := Nat.mul_le_mul hn hk
   omega
  match s with
  | .once c r =>
   obtain ⟨K, recv, h1, h2⟩ := onceM_step pool_capgo hw hm hc hB2
   refine ⟨K, recv, h1, h2.mono ?_⟩
   rintro e w' ⟨rfl, hch, B', b1, b2, b3, b4⟩
   exact ⟨rfl, hch.mono (fun b _ hb => by rcases hb with hb | hb; exact .inl hb; exact .inr (.inr hb)), B', fun b hb => .inl (b1 b hb), b2, b3.more (Nat.le_succ _) hN2, trivial, b4⟩
  | .take a f m true r =>
   obtain ⟨rfl, b, rfl, h3, h4⟩ := hm
   obtain ⟨l1, l2, l3, rfl⟩ := hl
   refine ⟨_, _, take13_step_m _, (take_put w Mut B I N wd n k a f m b hw h3 h4 hB2 hc (by omega) (l3 rfl)).mono ?_⟩
   rintro e w' ⟨rfl, hch, hw', hbk⟩
   exact ⟨rfl, hch.mono (fun b _ hb => by rcases hb with hb | hb; exact .inl hb; exact .inr (.inr hb)), fun k => k = b, (fun k hk => by cases hk; exact .inl h4), (fun k hk => by cases hk; exact blk_lt hbk), hw'.more (Nat.le_succ _) hN2, trivial, rfl, b, rfl, hbk, rfl⟩
  | .take a f m false r =>
   obtain ⟨rfl, b, rfl, h3, h4⟩ := hm
   obtain ⟨l1, l2, l3, rfl⟩ := hl
   refine ⟨_, _, take13_step_m _, (take_read w Mut B I N wd n k a f m b hw h3 h4 hB2 hc l1 (by omega)).mono ?_⟩
   rintro e w' ⟨rfl, hch, hw', hbk⟩
   by_cases hev : taGot wd a % 2 = 0
   ·have hst : (poolS n k).step o wd p (.take a f m false (0, 0)) = ((), taRead wd a, .take a f (taGot wd a) true (0, 0), false) := if_pos hev
    rw [show poNext n k a f (taGot wd a) = poCells n k a f (taGot wd a) true 0 0 from if_pos hev] at hbk
    unfold StepPost
    rw [hst, show poEnds a f (taGot wd a) = false from if_pos hev]
    exact ⟨rfl, hch.mono (fun b _ hb => by rcases hb with hb | hb; exact .inl hb; exact .inr (.inr hb)), fun k => k = b, (fun k hk => by cases hk; exact .inl h4), (fun k hk => by cases hk; exact blk_lt hbk), hw'.more (Nat.le_succ _) hN2, trivial, rfl, b, rfl, hbk, rfl⟩
   ·by_cases hla : a + 1 < f
    ·have hst : (poolS n k).step o wd p (.take a f m false (0, 0)) = ((), taRead wd a, .take (a + 1) f (taGot wd a) false (0, 0), false) := (if_neg hev).trans (if_pos hla)
     rw [show poNext n k a f (taGot wd a) = poCells n k (a + 1) f (taGot wd a) false 0 0 from (if_neg hev).trans (if_pos hla)] at hbk
     unfold StepPost
     rw [hst, show poEnds a f (taGot wd a) = false from (if_neg hev).trans (if_pos hla)]
     exact ⟨rfl, hch.mono (fun b _ hb => by rcases hb with hb | hb; exact .inl hb; exact .inr (.inr hb)), fun k => k = b, (fun k hk => by cases hk; exact .inl h4), (fun k hk => by cases hk; exact blk_lt hbk), hw'.more (Nat.le_succ _) hN2, trivial, rfl, b, rfl, hbk, rfl⟩
    ·have hst : (poolS n k).step o wd p (.take a f m false (0, 0)) = ((), taRead wd a, .take (a + 1) f (taGot wd a) false (6, 0), true) := (if_neg hev).trans (if_neg hla)
     rw [show poNext n k a f (taGot wd a) = poCells n k (a + 1) f (taGot wd a) false 6 0 from (if_neg hev).trans (if_neg hla)] at hbk
     unfold StepPost
     rw [hst, show poEnds a f (taGot wd a) = true from (if_neg hev).trans (if_neg hla)]
     exact ⟨rfl, hch.mono (fun b _ hb => by rcases hb with hb | hb; exact .inl hb; exact .inr (.inr hb)), fun k => k = b, (fun k hk => by cases hk; exact .inl h4), (fun k hk => by cases hk; exact blk_lt hbk), hw'.more (Nat.le_succ _) hN2, trivial, rfl, b, rfl, hbk, rfl⟩
 answer := by
  intro w Mut B T' x' p s hm
  match s with
  | .once c r => exact onceM_answer hm
  | .take a f m free r =>
   obtain ⟨rfl, b, rfl, h3, _⟩ := hm
   refine ⟨_, _, take13_answer_m _, (take13_answer b n k a f m free r.1 r.2 w h3).mono ?_⟩
   rintro e' w' ⟨rfl, hb⟩
   exact ⟨none, 0, .slice none 0 0, rfl, LstU.nil _ _, Lst.nil _ _, hb⟩
 now := fun o wd p s => pool_now o wd p s
 cnt := by
  intro o wd p s
  match s with
  | .once c r => exact memSwap_cnt _ _ _ _
  | .take a f m true r => exact memWrite_cnt _ _ _
  | .take a f m false r =>
   show ((poolS n k).step o wd p (.take a f m false r)).2.1.mem.c.all ≤ _
   by_cases h1 : taGot wd a % 2 = 0
   ·rw [show (poolS n k).step o wd p (.take a f m false r) = _ from if_pos h1]; exact memRead_cnt _ _
   ·by_cases h2 : a + 1 < f
    ·rw [show (poolS n k).step o wd p (.take a f m false r) = _ from (if_neg h1).trans (if_pos h2)]; exact memRead_cnt _ _
    ·rw [show (poolS n k).step o wd p (.take a f m false r) = _ from (if_neg h1).trans (if_neg h2)]; exact memRead_cnt _ _
 invStep := fun _ _ _ _ _ => trivial
 invTick := fun _ _ _ => trivial
 invBegin := fun _ _ _ _ => trivial
theorem pool_nolate (n k : Nat) : NoLate (poolR n k) where
 late := fun _ _ _ _ => rfl
 kind := by
  intro w Mut B T' x' p s hm v u
  match s with
  | .once c r =>
   obtain ⟨rfl, _⟩ := hm
   exact once_kind v u
  | .take a f m free r =>
   obtain ⟨rfl, _⟩ := hm
   exact take13_kind v u
theorem po_live {n k : Nat} (hk1 : 1 ≤ k) {calls : List CallD} (hthr : ∀ c, c < calls.length → 0 ≤ (calls.getD c d0).thread ∧ (calls.getD c d0).thread < n) {st : PlayD (poolS n k)} {q i j : Nat} {s : PoS} {evs0 : List EvD} {wd0 : WD} (hg : StGood calls st) (h : PoInv n k calls st) (hnow : st.wd.now < 100000) (hN : nowN calls st.fin (q : Int) = some i) (hf : From calls st q i j s evs0 wd0) : poLive n k s := by
 obtain ⟨_, g2, _⟩ := po_pre hk1 hg h hf
 have hqn : q < n := by
  have := hthr i (nowN_spec hN).1
  rw [(nowN_spec hN).2.1] at this; omega
 match s, g2 with
 | .once c r, _ => trivial
 | .take a f m free r, ⟨⟨b1, b2, b3, b4, b5, _⟩, _⟩ =>
  have hfn : f ≤ n * k := by
   have : (q + 1) * k ≤ n * k := Nat.mul_le_mul_right k hqn
   rw [Nat.succ_mul] at this; omega
  refine ⟨b3, hfn, fun hf => ?_, b4⟩
  obtain ⟨c1, _⟩ := b5 hf
  have := h.w.top a (by omega)
  omega
end Go.Proofs.YteffgpcjfnjlkaaGreat
