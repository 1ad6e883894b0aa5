/- A pool in the reference's play: what its function does. -/
import Derived.Test.YteffgpcjfnjlkaaGreatP38
import Derived.Test.YteffgpcjfnjlkaaGreatP37
import Derived.Test.YteffgpcjfnjlkaaGreatP36
import Derived.Test.YteffgpcjfnjlkaaGreatP32
set_option maxRecDepth 100000
set_option linter.unusedVariables false
set_option linter.unusedSimpArgs false
set_option linter.unnecessarySimpa false
namespace Go.Proofs.YteffgpcjfnjlkaaGreat
section
open Go.RowKit
variable {B : RBase} {w w' : World} {t : TapeP} {r : RWD}
def PoolPre (n : Nat) (_ : CallD) (t : TapeP) (r : RWD) : Prop := Bnd t r ∧ t.thread < n
set_option maxHeartbeats 4000000 in
theorem rpool_r (n k : Nat) (hn : n ≤ 16) (hk1 : 0 < k) (hk : k ≤ 32) (c : CallD) (hok : CallOk c) (h : RAt B w t r) (hpre : PoolPre n c t r) :
  Calls Tryz.prog 90 #[.pointer (some ⟨B.I.tb, B.I.pre.length, none⟩), .int .i64 (n : Int), .int .i64 0, .agg #[.int .i64 12, .int .i64 (k : Int), .int .i64 0], .agg #[.int .i64 c.thread, .int .i64 0, .int .i64 c.kind, .int .u64 (c.a : Int), .int .u64 (c.b : Int), .int .u64 (c.c : Int)]] w fun e u => e = .returned (.tuple #[]) ∧ RAt B u (rpoolDo n k c t r).1 (rpoolDo n k c t r).2 := by
 obtain ⟨th, ob, kd, xa, xb, xc⟩ := c
 simp only
 obtain ⟨wb, hwb, hg, hS, hC⟩ := do_boxes w 12 (k : Int) 0 th kd xa xb xc
 have hA := h.grown hg
 have p1 : wb.cell? ⟨w.heap.size, 1, none⟩ = some (.int .i64 (k : Int)) := by rw [cell_blk hS]; rfl
 have q2 : wb.cell? ⟨w.heap.size + 1, 2, none⟩ = some (.int .i64 kd) := by rw [cell_blk hC]; rfl
 have q3 : wb.cell? ⟨w.heap.size + 1, 3, none⟩ = some (.int .u64 (xa : Int)) := by rw [cell_blk hC]; rfl
 have e9 : wb.cell? ⟨B.I.tb, B.I.pre.length + 9, none⟩ = some (.int .i64 t.err) := hA.cErr
 have f9 : wb.frozen? ⟨B.I.tb, B.I.pre.length + 9, none⟩ = false := hA.frozen _
 have Hwb := Lib.hid hwb; have HA := Lib.hid hA; have HPre := Lib.hid hpre
 have hca : xa < 18446744073709551616 := hok.a
 obtain ⟨R, hR⟩ : ∃ R, R = rpoolDo n k ⟨th, ob, kd, xa, xb, xc⟩ t r := ⟨_, rfl⟩
 have HR := Lib.hid hR
 rw [← hR]
 clear hwb hg hS hC h hA hR hok hpre
 by_cases h0 : kd = 0
 ·obtain ⟨hb, hth⟩ := HPre.out
  have hT : R = rpoL (t.thread * k) k t r := by rw [HR.out]; unfold rpoolDo; rw [if_pos h0]
  obtain ⟨p, hp⟩ : ∃ p, p = t.thread := ⟨_, rfl⟩
  rw [← hp] at hT hth
  have x1 : wb.cell? ⟨B.I.tb, B.I.pre.length + 1, none⟩ = some (.int .i64 (p : Int)) := by rw [HA.out.cThread, hp]
  have hpk : p * k ≤ 16 * 32 := Nat.mul_le_mul (by omega) hk
  obtain ⟨bs, hbs⟩ : ∃ bs, bs = p * k := ⟨_, rfl⟩
  rw [← hbs] at hT hpk
  have f1 : IntKind.i64.wrap ((p : Int) * (k : Int)) = (bs : Int) := by rw [show ((p : Int) * (k : Int)) = (bs : Int) by rw [hbs]; exact (Int.natCast_mul p k).symm, IntKind.wrap_i64]; omega
  obtain ⟨i0, hi0⟩ : ∃ i0, i0 = bs + 2 := ⟨_, rfl⟩
  obtain ⟨be, hbe⟩ : ∃ be, be = bs + k := ⟨_, rfl⟩
  obtain ⟨E, hE⟩ : ∃ E, E = be + 2 := ⟨_, rfl⟩
  have f2 : IntKind.i64.wrap (2 + (bs : Int)) = (i0 : Int) := by rw [IntKind.wrap_i64]; omega
  have f3 : IntKind.i64.wrap ((p : Int) + 1) = (p : Int) + 1 := by rw [IntKind.wrap_i64]; omega
  have f4 : IntKind.i64.wrap (((p : Int) + 1) * (k : Int)) = (be : Int) := by
   rw [show (((p : Int) + 1) * (k : Int)) = (be : Int) by rw [Int.add_mul, Int.one_mul, hbe, hbs]; push_cast; rfl, IntKind.wrap_i64]; omega
  have f5 : IntKind.i64.wrap (2 + (be : Int)) = (E : Int) := by rw [IntKind.wrap_i64]; omega
  have Hi0 := Lib.hid hi0; have Hbe := Lib.hid hbe; have HE := Lib.hid hE
  have HT := Lib.hid hT; have Hb := Lib.hid hb; have Hp := Lib.hid hp
  subst h0
  clear HR HPre hT hb hp hbs hth hi0 hbe hE
  go_enter Tryz.func90, Tryz.ntmps90
  go_upto_region 1 with fail
  rw [← Hwb.out]
  clear e9 f9
  go_wp2
  clear x1
  go_loopw [11] (fun i wr => ∃ (j : Nat) (t' : TapeP) (r' : RWD), j ≤ k ∧ i = .int .i64 ((bs + j + 2 : Nat) : Int) ∧ RAt B wr t' r' ∧ R = rpoL (bs + j) (k - j) t' r' ∧ Bnd t' r' ∧ t'.thread = p) (fun i _ => bs + k + 2 - (intOf i).toNat)
  case atStart => exact ⟨0, t, r, Nat.zero_le _, by rw [Hi0.out], HA.out, HT.out, Hb.out, Hp.out.symm⟩
  case round =>
   obtain ⟨j, t', r', hj, rfl, hA, hR, hB, hth'⟩ := hrel
   have x1 : wr.cell? ⟨B.I.tb, B.I.pre.length + 1, none⟩ = some (.int .i64 (p : Int)) := by rw [hA.cThread, hth']
   obtain ⟨hh, hhe⟩ : ∃ hh, hh = t'.halt := ⟨_, rfl⟩
   have x7 : wr.cell? ⟨B.I.tb, B.I.pre.length + 7, none⟩ = some (.bool hh) := by rw [hA.cHalt, hhe]
   have x9 := hA.cErr
   have xf := hA.frozen (B.I.pre.length + 9)
   obtain ⟨i, hi⟩ : ∃ i, i = bs + j + 2 := ⟨_, rfl⟩
   obtain ⟨i', hi'⟩ : ∃ i', i' = bs + (j + 1) + 2 := ⟨_, rfl⟩
   have hE := HE.out; have hbe := Hbe.out
   have hfin : k - j = 0 ∨ t'.halt = true → R = ({ t' with err := 6 }, r') := fun h9 => by
    rw [hR]
    rcases h9 with h9 | h9
    ·rw [h9]; rfl
    ·exact rpoL_halt h9 r' _ _
   rw [← hi]
   by_cases hlt : j < k
   ·have l1 : (i : Int) < (E : Int) := by omega
    cases hh with
    | true =>
     have hT := hfin (.inr hhe.symm)
     have Fin := Lib.hid (hA.putErr 6)
     subst hT
     clear hfin hR hB hA hth' HT Hb Hp hhe hi hE hi' hbe
     go_wp2
     (first | go_end0 | ((try simp only [Exit.inBlock, Exit.then]); refine bodyPost_ret (results_none rfl _ _ _) rfl ?_))
     exact ⟨rfl, Fin.out⟩
    | false =>
     obtain ⟨a, ha⟩ : ∃ a, a = bs + j := ⟨_, rfl⟩
     obtain ⟨m, hm⟩ : ∃ m, k - j = m + 1 := ⟨k - j - 1, by omega⟩
     have A1 := tread_r hA (a : Int)
     obtain ⟨hv1, hB2⟩ := hB.read (a : Int)
     have hth2 := (Runs.acc 0 (a : Int) 0 0 t' r').thread
     rw [hm, ← ha] at hR
     have hR2 : R = (if (accP 0 (a : Int) 0 0 t' r').2.1.halt = false ∧ (accP 0 (a : Int) 0 0 t' r').1 % 2 = 0 then
       ({ (accP 1 (a : Int) ((accP 0 (a : Int) 0 0 t' r').1 + 3) 0 (accP 0 (a : Int) 0 0 t' r').2.1 (accP 0 (a : Int) 0 0 t' r').2.2).2.1 with val := poRef a ((accP 0 (a : Int) 0 0 t' r').1 / 2 + 1) }, (accP 1 (a : Int) ((accP 0 (a : Int) 0 0 t' r').1 + 3) 0 (accP 0 (a : Int) 0 0 t' r').2.1 (accP 0 (a : Int) 0 0 t' r').2.2).2.2)
       else rpoL (a + 1) m (accP 0 (a : Int) 0 0 t' r').2.1 (accP 0 (a : Int) 0 0 t' r').2.2) := by
      rw [hR]
      show (if t'.halt = true then _ else _) = _
      rw [if_neg (by rw [← hhe]; exact Bool.false_ne_true)]
     obtain ⟨Z, hZ⟩ : ∃ Z, Z = accP 0 (a : Int) 0 0 t' r' := ⟨_, rfl⟩
     rw [← hZ] at A1 hR2 hv1 hB2 hth2
     obtain ⟨v, t2, r2⟩ := Z
     simp only at A1 hR2 hv1 hB2 hth2
     rw [hth'] at hth2
     have g1 : IntKind.i64.wrap (i : Int) = (i : Int) := by rw [IntKind.wrap_i64]; omega
     have g2 : IntKind.i64.wrap ((i : Int) - 2) = (a : Int) := by rw [IntKind.wrap_i64]; omega
     have g3 : IntKind.i64.wrap ((i : Int) + 1) = (i' : Int) := by rw [IntKind.wrap_i64]; omega
     have HA1 := Lib.hid A1; have HB2 := Lib.hid hB2; have Hth2 := Lib.hid hth2; have Hi := Lib.hid hi; have Hi2 := Lib.hid hi'; have Ha := Lib.hid ha
     by_cases hz : t2.halt = true
     ·have hT : R = rpoL (bs + (j + 1)) (k - (j + 1)) t2 r2 := by
       rw [hR2, if_neg (fun x => by rw [hz] at x; cases x.1), ha, show k - (j + 1) = m by omega]; rfl
      have HTT := Lib.hid hT; have Hz := Lib.hid hz
      clear A1 hB2 hth2 hT hR2 hZ hfin hR hB hA hth' HT Hb Hp hhe hz hi hE ha hm hi' hbe
      go_wp2_with (go_at_call 102; refine HA1.out.mono ?_; rintro e w2 ⟨rfl, h2⟩; have y7 : w2.cell? ⟨B.I.tb, B.I.pre.length + 7, none⟩ = some (.bool true) := (by rw [h2.cHalt, Hz.out]))
      go_roundw
      case rel => exact ⟨j + 1, t2, r2, by omega, by rw [Hi2.out], h2, HTT.out, HB2.out, Hth2.out⟩
      case measure => (have hi9 := Hi.out; have hi8 := Hi2.out; simp [intOf] <;> omega)
     ·have hz' : t2.halt = false := by simpa using hz
      have Hz := Lib.hid hz'
      by_cases hev : v % 2 = 0
      ·have hT : R = ({ (accP 1 (a : Int) (v + 3) 0 t2 r2).2.1 with val := poRef a (v / 2 + 1) }, (accP 1 (a : Int) (v + 3) 0 t2 r2).2.2) := by
        rw [hR2, if_pos ⟨hz', hev⟩]
       have A2 := fun (w2 : World) (h2 : RAt B w2 t2 r2) => twrite_r h2 (a : Int) (v + 3) (by omega)
       obtain ⟨Z3, hZ3⟩ : ∃ Z3, Z3 = accP 1 (a : Int) (v + 3) 0 t2 r2 := ⟨_, rfl⟩
       rw [← hZ3] at hT
       simp only [← hZ3] at A2
       obtain ⟨v3, t3, r3⟩ := Z3
       simp only at hT A2
       obtain ⟨V, hV⟩ : ∃ V, V = poRef a (v / 2 + 1) := ⟨_, rfl⟩
       rw [← hV] at hT
       have hVi : (V : Int) = (i : Int) + 1024 * ((v : Int) / 2 + 1) := by rw [hV]; unfold poRef; omega
       have u0 : IntKind.u64.wrap ((v : Int) + 3) = (v : Int) + 3 := by rw [IntKind.wrap_u64]; omega
       have u1 : IntKind.u64.wrap (i : Int) = (i : Int) := by rw [IntKind.wrap_u64]; omega
       have u2 : IntKind.u64.wrap ((v : Int) / 2) = (v : Int) / 2 := by rw [IntKind.wrap_u64]; omega
       have u3 : IntKind.u64.wrap ((v : Int) / 2 + 1) = (v : Int) / 2 + 1 := by rw [IntKind.wrap_u64]; omega
       have u4 : IntKind.u64.wrap (1024 * ((v : Int) / 2 + 1)) = 1024 * ((v : Int) / 2 + 1) := by rw [IntKind.wrap_u64]; omega
       have u5 : IntKind.u64.wrap ((i : Int) + 1024 * ((v : Int) / 2 + 1)) = (V : Int) := by rw [IntKind.wrap_u64]; omega
       have HA2 := Lib.hid (show ∀ (w2 : World), RAt B w2 t2 r2 → Calls Tryz.prog 103 #[.pointer (some ⟨B.I.tb, B.I.pre.length, none⟩), .int .i64 (a : Int), .int .u64 ((v : Int) + 3)] w2 fun e w' => e = .returned (.tuple #[]) ∧ RAt B w' t3 r3 from A2)
       have e1 : (v : Int) % 2 = 0 := by omega
       subst hT
       clear A1 A2 hB2 hth2 hR2 hZ hZ3 hV hVi hfin hR hB hA hth' HT Hb Hp hhe hz hz' hi hE ha hm hi' hbe
       go_wp2_with (first | (go_at_call 102; refine HA1.out.mono ?_; rintro e w2 ⟨rfl, h2⟩; have y7 : w2.cell? ⟨B.I.tb, B.I.pre.length + 7, none⟩ = some (.bool false) := (by rw [h2.cHalt, Hz.out])) | (go_at_call 103; refine (HA2.out _ h2).mono ?_; rintro e w3 ⟨rfl, h3⟩; have z10 := h3.cVal; have zf := h3.frozen (B.I.pre.length + 10)))
       (first | go_end0 | ((try simp only [Exit.inBlock, Exit.then]); refine bodyPost_ret (results_none rfl _ _ _) rfl ?_))
       exact ⟨rfl, h3.putVal V⟩
      ·have hT : R = rpoL (bs + (j + 1)) (k - (j + 1)) t2 r2 := by
        rw [hR2, if_neg (fun x => hev x.2), ha, show k - (j + 1) = m by omega]; rfl
       have HTT := Lib.hid hT
       have e1 : ¬ (v : Int) % 2 = 0 := by omega
       have e2 : (v : Int) % 2 = 1 := by omega
       have e3 : ((v : Int) % 2 == 0) = false := by rw [e2]; rfl
       clear A1 hB2 hth2 hT hR2 hZ hfin hR hB hA hth' HT Hb Hp hhe hz hz' hi hE ha hm hi' hbe
       go_wp2_with (go_at_call 102; refine HA1.out.mono ?_; rintro e w2 ⟨rfl, h2⟩; have y7 : w2.cell? ⟨B.I.tb, B.I.pre.length + 7, none⟩ = some (.bool false) := (by rw [h2.cHalt, Hz.out]))
       go_roundw
       case rel => exact ⟨j + 1, t2, r2, by omega, by rw [Hi2.out], h2, HTT.out, HB2.out, Hth2.out⟩
       case measure => (have hi9 := Hi.out; have hi8 := Hi2.out; simp [intOf] <;> omega)
   ·have l1 : ¬ (i : Int) < (E : Int) := by omega
    have hT := hfin (.inl (by omega))
    have Fin := Lib.hid (hA.putErr 6)
    subst hT
    clear hfin hR hB hA hth' HT Hb Hp hhe hi hE hi' hbe
    go_wp2
    (first | go_end0 | ((try simp only [Exit.inBlock, Exit.then]); refine bodyPost_ret (results_none rfl _ _ _) rfl ?_))
    exact ⟨rfl, Fin.out⟩
 by_cases h1 : kd = 1
 ·obtain ⟨i, hi⟩ : ∃ i, i = xa % 1024 := ⟨_, rfl⟩
  obtain ⟨v, hv⟩ : ∃ v, v = xa / 1024 := ⟨_, rfl⟩
  obtain ⟨nk, hnk⟩ : ∃ nk, nk = n * k := ⟨_, rfl⟩
  have hnk2 : nk ≤ 16 * 32 := by rw [hnk]; exact Nat.mul_le_mul hn hk
  have g1 : (xa : Int) % 1024 = (i : Int) := by omega
  have g2 : (xa : Int) / 1024 = (v : Int) := by omega
  have g3 : IntKind.u64.wrap (i : Int) = (i : Int) := by rw [IntKind.wrap_u64]; omega
  have g4 : IntKind.i64.wrap (i : Int) = (i : Int) := by rw [IntKind.wrap_i64]; omega
  have g5 : IntKind.u64.wrap (v : Int) = (v : Int) := by rw [IntKind.wrap_u64]; omega
  have g6 : IntKind.i64.wrap ((n : Int) * (k : Int)) = (nk : Int) := by rw [show ((n : Int) * (k : Int)) = (nk : Int) by rw [hnk]; exact (Int.natCast_mul n k).symm, IntKind.wrap_i64]; omega
  have g7 : IntKind.i64.wrap (1 + (nk : Int)) = 1 + (nk : Int) := by rw [IntKind.wrap_i64]; omega
  have hbad : poBad n k ⟨th, ob, kd, xa, xb, xc⟩ = (decide (i < 2) || decide (2 + nk ≤ i) || decide (1099511627776 ≤ v)) := by unfold poBad; rw [hi, hv, hnk]
  have hR0 : R = if poBad n k ⟨th, ob, kd, xa, xb, xc⟩ = true then ({ t with err := 10 }, r) else if (accP 2 ((i - 2 : Nat) : Int) (2 * v + 1) (2 * v) t r).1 = 1 then (accP 2 ((i - 2 : Nat) : Int) (2 * v + 1) (2 * v) t r).2 else ({ (accP 2 ((i - 2 : Nat) : Int) (2 * v + 1) (2 * v) t r).2.1 with err := 8 }, (accP 2 ((i - 2 : Nat) : Int) (2 * v + 1) (2 * v) t r).2.2) := by
   rw [HR.out, hi, hv]; unfold rpoolDo; rw [if_neg h0, if_neg (fun x => x h1)]
  rw [hbad] at hR0
  have Q3 := grown_cell q3
  have Hi := Lib.hid hi; have Hv := Lib.hid hv; have Hnk := Lib.hid hnk
  clear hbad hi hv hnk HR HPre e9 f9 q3
  subst h1
  by_cases b1 : i < 2
  ·have l1 : (i : Int) < 2 := by omega
   have hT : R = ({ t with err := 10 }, r) := by rw [hR0, if_pos (by simp; omega)]
   subst hT
   clear hR0
   go_enter Tryz.func90, Tryz.ntmps90
   go_upto_region 1 with fail
   rw [← Hwb.out]
   go_wp2_with fail
   ((with_reducible refine wp_region_grown_lit (by kernel_rfl) (by kernel_rfl) ?_); (repeat ((with_reducible refine wpQuiet_step (fun K hK => ?_)); go_simp; first | ((with_reducible refine hK _ ?_); clear hK K) | ((with_reducible apply Exists.intro); (with_reducible refine ⟨fun _ => ?_, hK _ ?_⟩); (fail); clear hK K))); (with_reducible refine wpQuiet_nil ?_); intro _ hw'; obtain ⟨nq, hw''⟩ := hw'; subst hw'')
   have h3 := HA.out.grown nq.below
   have x9 := h3.cErr
   have xf := h3.frozen (B.I.pre.length + 9)
   have Fin := Lib.hid (h3.putErr 10)
   obtain ⟨w4, hw4⟩ : ∃ w4, w4 = nq.u := ⟨_, rfl⟩
   rw [← hw4] at x9 xf Fin ⊢
   clear h3 hw4 nq Q3
   go_wp2
   (first | go_end0 | ((try simp only [Exit.inBlock, Exit.then]); refine bodyPost_ret (results_none rfl _ _ _) rfl ?_))
   exact ⟨rfl, Fin.out⟩
  have l1 : ¬ (i : Int) < 2 := by omega
  by_cases b2 : 2 + nk ≤ i
  ·have l2 : 1 + (nk : Int) < (i : Int) := by omega
   have hT : R = ({ t with err := 10 }, r) := by rw [hR0, if_pos (by simp; omega)]
   subst hT
   clear hR0
   go_enter Tryz.func90, Tryz.ntmps90
   go_upto_region 1 with fail
   rw [← Hwb.out]
   go_wp2_with fail
   ((with_reducible refine wp_region_grown_lit (by kernel_rfl) (by kernel_rfl) ?_); (repeat ((with_reducible refine wpQuiet_step (fun K hK => ?_)); go_simp; first | ((with_reducible refine hK _ ?_); clear hK K) | ((with_reducible apply Exists.intro); (with_reducible refine ⟨fun _ => ?_, hK _ ?_⟩); (fail); clear hK K))); (with_reducible refine wpQuiet_nil ?_); intro _ hw'; obtain ⟨nq, hw''⟩ := hw'; subst hw'')
   have h3 := HA.out.grown nq.below
   have x9 := h3.cErr
   have xf := h3.frozen (B.I.pre.length + 9)
   have Fin := Lib.hid (h3.putErr 10)
   obtain ⟨w4, hw4⟩ : ∃ w4, w4 = nq.u := ⟨_, rfl⟩
   rw [← hw4] at x9 xf Fin ⊢
   clear h3 hw4 nq Q3
   go_wp2
   (first | go_end0 | ((try simp only [Exit.inBlock, Exit.then]); refine bodyPost_ret (results_none rfl _ _ _) rfl ?_))
   exact ⟨rfl, Fin.out⟩
  have l2 : ¬ 1 + (nk : Int) < (i : Int) := by omega
  by_cases b3 : 1099511627776 ≤ v
  ·have l3 : (1099511627776 : Int) ≤ (v : Int) := by omega
   have hT : R = ({ t with err := 10 }, r) := by rw [hR0, if_pos (by simp; omega)]
   subst hT
   clear hR0
   go_enter Tryz.func90, Tryz.ntmps90
   go_upto_region 1 with fail
   rw [← Hwb.out]
   go_wp2_with fail
   ((with_reducible refine wp_region_grown_lit (by kernel_rfl) (by kernel_rfl) ?_); (repeat ((with_reducible refine wpQuiet_step (fun K hK => ?_)); go_simp; first | ((with_reducible refine hK _ ?_); clear hK K) | ((with_reducible apply Exists.intro); (with_reducible refine ⟨fun _ => ?_, hK _ ?_⟩); (fail); clear hK K))); (with_reducible refine wpQuiet_nil ?_); intro _ hw'; obtain ⟨nq, hw''⟩ := hw'; subst hw'')
   have h3 := HA.out.grown nq.below
   have x9 := h3.cErr
   have xf := h3.frozen (B.I.pre.length + 9)
   have Fin := Lib.hid (h3.putErr 10)
   obtain ⟨w4, hw4⟩ : ∃ w4, w4 = nq.u := ⟨_, rfl⟩
   rw [← hw4] at x9 xf Fin ⊢
   clear h3 hw4 nq Q3
   go_wp2
   (first | go_end0 | ((try simp only [Exit.inBlock, Exit.then]); refine bodyPost_ret (results_none rfl _ _ _) rfl ?_))
   exact ⟨rfl, Fin.out⟩
  have l3 : (decide ((1099511627776 : Int) ≤ (v : Int))) = false := by simp; omega
  rw [if_neg (by simp; omega)] at hR0
  obtain ⟨x, hx⟩ : ∃ x, x = i - 2 := ⟨_, rfl⟩
  obtain ⟨y, hy⟩ : ∃ y, y = 2 * v := ⟨_, rfl⟩
  rw [← hx, ← hy] at hR0
  have u1 : IntKind.i64.wrap ((i : Int) - 2) = (x : Int) := by rw [IntKind.wrap_i64]; omega
  have u2 : IntKind.u64.wrap (2 * (v : Int)) = (y : Int) := by rw [IntKind.wrap_u64]; omega
  have u3 : IntKind.u64.wrap ((y : Int) + 1) = (y : Int) + 1 := by rw [IntKind.wrap_u64]; omega
  have SW := fun (w2 : World) (hb : Below wb.heap.size wb w2) => tswap_r (HA.out.grown hb) (x : Int) (y + 1) y (by omega) (by omega)
  obtain ⟨Z, hZ⟩ : ∃ Z, Z = accP 2 (x : Int) (y + 1) y t r := ⟨_, rfl⟩
  rw [← hZ] at hR0
  simp only [← hZ] at SW
  obtain ⟨z, t2, r2⟩ := Z
  simp only at hR0 SW
  by_cases hz : z = 1
  ·rw [if_pos hz] at hR0
   have HSW := Lib.hid (show ∀ (w2 : World), Below wb.heap.size wb w2 → Calls Tryz.prog 104 #[.pointer (some ⟨B.I.tb, B.I.pre.length, none⟩), .int .i64 (x : Int), .int .u64 ((y : Int) + 1), .int .u64 (y : Int)] w2 fun e w' => e = .returned (.bool true) ∧ RAt B w' t2 r2 from fun w2 hb => (SW w2 hb).mono (fun e w' h => ⟨by rw [h.1, hz]; rfl, h.2⟩))
   subst hR0
   clear SW hZ hz hx hy
   go_enter Tryz.func90, Tryz.ntmps90
   go_upto_region 1 with fail
   rw [← Hwb.out]
   go_wp2_with fail
   ((with_reducible refine wp_region_grown_lit (by kernel_rfl) (by kernel_rfl) ?_); (repeat ((with_reducible refine wpQuiet_step (fun K hK => ?_)); go_simp; first | ((with_reducible refine hK _ ?_); clear hK K) | ((with_reducible apply Exists.intro); (with_reducible refine ⟨fun _ => ?_, hK _ ?_⟩); (fail); clear hK K))); (with_reducible refine wpQuiet_nil ?_); intro _ hw'; obtain ⟨nq, hw''⟩ := hw'; subst hw'')
   have A1 := Lib.hid (HSW.out _ nq.below)
   obtain ⟨w4, hw4⟩ : ∃ w4, w4 = nq.u := ⟨_, rfl⟩
   rw [← hw4] at A1 ⊢
   clear hw4 nq Q3
   go_wp2_with (go_at_call 104; refine A1.out.mono ?_; rintro e w2 ⟨rfl, h2⟩)
   (first | go_end0 | ((try simp only [Exit.inBlock, Exit.then]); refine bodyPost_ret (results_none rfl _ _ _) rfl ?_))
   exact ⟨rfl, h2⟩
  ·rw [if_neg hz] at hR0
   have HSW := Lib.hid (show ∀ (w2 : World), Below wb.heap.size wb w2 → Calls Tryz.prog 104 #[.pointer (some ⟨B.I.tb, B.I.pre.length, none⟩), .int .i64 (x : Int), .int .u64 ((y : Int) + 1), .int .u64 (y : Int)] w2 fun e w' => e = .returned (.bool false) ∧ RAt B w' t2 r2 from fun w2 hb => (SW w2 hb).mono (fun e w' h => ⟨by rw [h.1]; simp [hz], h.2⟩))
   subst hR0
   clear SW hZ hz hx hy
   go_enter Tryz.func90, Tryz.ntmps90
   go_upto_region 1 with fail
   rw [← Hwb.out]
   go_wp2_with fail
   ((with_reducible refine wp_region_grown_lit (by kernel_rfl) (by kernel_rfl) ?_); (repeat ((with_reducible refine wpQuiet_step (fun K hK => ?_)); go_simp; first | ((with_reducible refine hK _ ?_); clear hK K) | ((with_reducible apply Exists.intro); (with_reducible refine ⟨fun _ => ?_, hK _ ?_⟩); (fail); clear hK K))); (with_reducible refine wpQuiet_nil ?_); intro _ hw'; obtain ⟨nq, hw''⟩ := hw'; subst hw'')
   have A1 := Lib.hid (HSW.out _ nq.below)
   obtain ⟨w4, hw4⟩ : ∃ w4, w4 = nq.u := ⟨_, rfl⟩
   rw [← hw4] at A1 ⊢
   clear hw4 nq Q3
   go_wp2_with (go_at_call 104; refine A1.out.mono ?_; rintro e w2 ⟨rfl, h2⟩; have z9 := h2.cErr; have zf := h2.frozen (B.I.pre.length + 9))
   (first | go_end0 | ((try simp only [Exit.inBlock, Exit.then]); refine bodyPost_ret (results_none rfl _ _ _) rfl ?_))
   exact ⟨rfl, h2.putErr 8⟩
 ·have hT : R = ({ t with err := 9 }, r) := by rw [HR.out]; unfold rpoolDo; rw [if_neg h0, if_pos h1]
  have Fin := Lib.hid (HA.out.putErr 9)
  have l1 : (kd == 1) = false := by simp [h1]
  have l0 : (kd == 0) = false := by simp [h0]
  subst hT
  clear HR HPre
  go_enter Tryz.func90, Tryz.ntmps90
  go_upto_region 1 with fail
  rw [← Hwb.out]
  go_wp2
  (first | go_end0 | ((try simp only [Exit.inBlock, Exit.then]); refine bodyPost_ret (results_none rfl _ _ _) rfl ?_))
  exact ⟨rfl, Fin.out⟩
end
section

/- A door in the reference's play: what its function does. -/
open Go.RowKit
variable {B : RBase} {w w' : World} {t : TapeP} {r : RWD}
end
section

/- Layer 12: the door's machine: taking a phase. -/
open Go.RowKit
end
section

/- Layer 12: the door as the loom's object. -/
open Go.RowKit
end
section

/- Layer 8: tally.Play. -/
open Go.RowKit
theorem made_blk3 {u w1 : World} {size : Nat} (hk : ∀ (b : Nat) (o : Obj), (u.alloc (.cells (madeCells #[.int .u64 0] size) 46)).heap[b]? = some o → w1.heap[b]? = some o) (o : Obj) (b : Nat) (hb : b = u.heap.size) : (w1.alloc o).heap[b]? = some (.cells (madeCells #[.int .u64 0] size) 46 (0, 0)) := by
 have h1 := hk u.heap.size _ (heap_alloc_new u (.cells (madeCells #[.int .u64 0] size) 46 (0, 0)))
 rw [hb, Below.heap_alloc _ _ _ (blk_lt h1)]; exact h1
end
section

/- Layer 12: door.Play. -/
open Go.RowKit
end
section

/- The reference's play of a door. -/
open Go.RowKit
end
end Go.Proofs.YteffgpcjfnjlkaaGreat
