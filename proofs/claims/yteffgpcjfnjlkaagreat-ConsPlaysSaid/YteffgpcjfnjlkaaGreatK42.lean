/- A cons in the reference's play: what its function does. -/
import Derived.Test.YteffgpcjfnjlkaaGreatK40
import Derived.Test.YteffgpcjfnjlkaaGreatK41
import Derived.Test.YteffgpcjfnjlkaaGreatK20
set_option maxRecDepth 100000
set_option linter.unusedVariables false
set_option linter.unusedSimpArgs false
set_option linter.unnecessarySimpa false
namespace Go.Proofs.YteffgpcjfnjlkaaGreat
section
open Go.RowKit
variable {B : RBase} {w w' : World} {t : TapeP} {r : RWD}
theorem mark_new (h : RAt B w t r) (hb : Below w.heap.size w w') (b : Nat) (k : Int) (hk : w'.heap[b]? = some (.cells #[.int .i64 k] 3 (0, 0))) (hge : w.heap.size ≤ b) (p : Nat) (hp : p < r.marks.length) (hn : r.marks.length ≤ 1000000) :
    Calls Tryz.prog 106 #[.pointer (some ⟨B.I.tb, B.I.pre.length, none⟩), .int .i64 (p : Int), .slice (some ⟨b, 0, none⟩) 1 1] w' fun e u => e = .returned (.tuple #[]) ∧ RAt B u t (markP (p : Int) [k] t r) :=
  mark_r (v := .slice (some ⟨b, 0, none⟩) 1 1) (h.newL (l := [k]) (c := 1) hb ⟨by unfold maxLen; simp, fun j hj => ⟨b, 0, rfl, blk_lt hk, fun f hf => by
    obtain rfl : j = 0 := by simpa using hj
    obtain rfl : f = 0 := by omega
    rw [cell_blk hk]; rfl⟩⟩ (fun e => by cases e) (fun b' off e => by cases e; exact hge)) p hp hn
def TickPre (_ : CallD) (t : TapeP) (r : RWD) : Prop := t.inv ≤ 1000000 ∧ r.now ≤ 1000000 ∧ (∀ x, x ∈ t.ticks → 0 ≤ x ∧ x ≤ 1000000) ∧ t.thread < r.marks.length ∧ r.marks.length ≤ 16
def ConsPre (c : CallD) (t : TapeP) (r : RWD) : Prop := TickPre c t r ∧ (c.kind = 1 → t.got = []) ∧ t.got.length ≤ 1 ∧ t.at_ = 0 ∧ t.halt = false ∧ t.fresh = true
theorem lastP_le {t : TapeP} (h1 : t.inv ≤ 1000000) (h2 : ∀ x, x ∈ t.ticks → 0 ≤ x ∧ x ≤ 1000000) : 0 ≤ lastP t ∧ lastP t ≤ 1000000 := by
  unfold lastP
  split
  · omega
  · by_cases h : t.at_ - 1 < t.ticks.length
    · have e : t.ticks.getD (t.at_ - 1) 0 = t.ticks[t.at_ - 1] := by simp [List.getD_eq_getElem?_getD, h]
      rw [e]; exact h2 _ (List.getElem_mem h)
    · have e : t.ticks.getD (t.at_ - 1) 0 = 0 := by simp [List.getD_eq_getElem?_getD, Nat.le_of_not_lt h]
      rw [e]; omega
theorem read_lt (h : RAt B w t r) (ha : ¬ t.at_ < t.got.length) : (accP 0 0 0 0 t r).1 < 18446744073709551616 := by
  obtain ⟨G, K, L, h1, _⟩ := h
  obtain ⟨PV, LV, KV, ht, _⟩ := h1.tape
  have hv := ht.mem.val
  cases hh : t.halt with
  | true => rw [accP_halt hh]; exact (by decide : (0 : Nat) < 18446744073709551616)
  | false =>
    cases hf : t.fresh with
    | false => rw [accP_end hh ha hf]; exact (by decide : (0 : Nat) < 18446744073709551616)
    | true =>
      rw [accP_fresh hh ha hf]
      show (memRead r.mem 0).2 < _
      unfold memRead
      split
      · exact (by decide : (0 : Nat) < 18446744073709551616)
      · show r.mem.ws.getD _ 0 < _
        rw [List.getD_eq_getElem?_getD]
        cases hx : r.mem.ws[(0 : Int).toNat]? with
        | none => exact (by decide : (0 : Nat) < 18446744073709551616)
        | some x => exact hv x (List.mem_of_getElem? hx)
theorem dec_wrap (v : Nat) (hv : v < 18446744073709551616) : IntKind.u64.wrap ((v : Int) - 1) = (consDec v : Int) := by
  rw [IntKind.wrap_u64]
  unfold consDec
  split <;> omega
set_option maxHeartbeats 4000000 in
theorem rcons_r (c : CallD) (hok : CallOk c) (h : RAt B w t r) (hpre : ConsPre c t r) :
    Calls Tryz.prog 79 #[.pointer (some ⟨B.I.tb, B.I.pre.length, none⟩), .int .i64 0, .agg #[.int .i64 c.thread, .int .i64 0, .int .i64 c.kind, .int .u64 (c.a : Int), .int .u64 (c.b : Int), .int .u64 (c.c : Int)]] w fun e u => e = .returned (.tuple #[]) ∧ RAt B u (rconsDo c t r).1 (rconsDo c t r).2 := by
  obtain ⟨wb, hwb⟩ : ∃ wb, wb = w.alloc (.cells #[.int .i64 c.thread, .int .i64 0, .int .i64 c.kind, .int .u64 (c.a : Int), .int .u64 (c.b : Int), .int .u64 (c.c : Int)] 48) := ⟨_, rfl⟩
  have hg : Below w.heap.size w wb := by rw [hwb]; exact Gr.new _ _
  have hC : wb.heap[w.heap.size]? = some (.cells #[.int .i64 c.thread, .int .i64 0, .int .i64 c.kind, .int .u64 (c.a : Int), .int .u64 (c.b : Int), .int .u64 (c.c : Int)] 48 (0, 0)) := by rw [hwb]; exact heap_alloc_new _ _
  have hA := h.grown hg
  have q2 : wb.cell? ⟨w.heap.size, 2, none⟩ = some (.int .i64 c.kind) := by rw [cell_blk hC]; rfl
  have q3 : wb.cell? ⟨w.heap.size, 3, none⟩ = some (.int .u64 (c.a : Int)) := by rw [cell_blk hC]; rfl
  have e9 : wb.cell? ⟨B.I.tb, B.I.pre.length + 9, none⟩ = some (.int .i64 t.err) := hA.cErr
  have f9 : wb.frozen? ⟨B.I.tb, B.I.pre.length + 9, none⟩ = false := hA.frozen _
  have Hwb := Lib.hid hwb; have HA := Lib.hid hA; have HPre := Lib.hid hpre
  have hca := hok.a
  obtain ⟨R, hR⟩ : ∃ R, R = rconsDo c t r := ⟨_, rfl⟩
  have HR := Lib.hid hR
  rw [← hR]
  clear hwb hg hC h hA hR hok hpre
  obtain ⟨th, ob, kd, xa, xb, xc⟩ := c
  simp only at *
  by_cases h1 : kd = 1
  · have A1 := Lib.hid (tread_r HA.out 0)
    obtain ⟨Z, hZ⟩ : ∃ Z, Z = accP 0 0 0 0 t r := ⟨_, rfl⟩
    have hT : R = if Z.1 = 0 then ({ Z.2.1 with err := 7 }, Z.2.2) else ({ Z.2.1 with val := Z.1 - 1 }, Z.2.2) := by rw [HR.out, hZ]; unfold rconsDo; rw [if_pos h1]
    have hvl : Z.1 < 18446744073709551616 := by rw [hZ]; exact read_lt HA.out (by rw [HPre.out.2.1 h1]; exact Nat.not_lt_zero _)
    rw [← hZ] at A1
    obtain ⟨v, t', r'⟩ := Z
    simp only at hT A1 hvl
    clear HR hZ HPre
    subst h1
    by_cases hv : v = 0
    · subst hv
      rw [if_pos rfl] at hT
      subst hT
      have A2 := Lib.hid (show Calls Tryz.prog 102 #[.pointer (some ⟨B.I.tb, B.I.pre.length, none⟩), .int .i64 0] wb fun e w' => e = .returned (.int .u64 0) ∧ RAt B w' t' r' from A1.out)
      clear A1
      go_enter Tryz.func79, Tryz.ntmps79
      go_upto_region 1 with fail
      rw [← Hwb.out]
      clear e9 f9
      go_wp2_with (go_at_call 102; refine A2.out.mono ?_; rintro e w2 ⟨rfl, h2⟩; have z9 := h2.cErr; have zf := h2.frozen (B.I.pre.length + 9))
      (first | go_end0 | ((try simp only [Exit.inBlock, Exit.then]); refine bodyPost_ret (results_none rfl _ _ _) rfl ?_))
      exact ⟨rfl, h2.putErr 7⟩
    · rw [if_neg hv] at hT
      subst hT
      have l1 : ((v : Int) == 0) = false := by simp; omega
      have l2 : ¬ (v : Int) = 0 := by omega
      have l3 : IntKind.u64.wrap ((v : Int) - 1) = ((v - 1 : Nat) : Int) := by rw [IntKind.wrap_u64]; omega
      clear hv hvl
      go_enter Tryz.func79, Tryz.ntmps79
      go_upto_region 1 with fail
      rw [← Hwb.out]
      clear e9 f9
      go_wp2_with (go_at_call 102; refine A1.out.mono ?_; rintro e w2 ⟨rfl, h2⟩; have z10 := h2.cVal; have zf := h2.frozen (B.I.pre.length + 10))
      (first | go_end0 | ((try simp only [Exit.inBlock, Exit.then]); refine bodyPost_ret (results_none rfl _ _ _) rfl ?_))
      exact ⟨rfl, h2.putVal (v - 1)⟩
  by_cases h0 : kd = 0
  · by_cases h3 : 4294967296 ≤ xa
    · have hT : R = ({ t with err := 10 }, r) := by rw [HR.out]; unfold rconsDo; rw [if_neg h1, if_neg (fun x => x h0), if_pos h3]
      have Fin := Lib.hid (HA.out.putErr 10)
      have l3 : (4294967296 : Int) ≤ (xa : Int) := by omega
      subst hT
      subst h0
      clear HR HPre h1
      go_enter Tryz.func79, Tryz.ntmps79
      go_upto_region 1 with fail
      rw [← Hwb.out]
      go_wp2
      (first | go_end0 | ((try simp only [Exit.inBlock, Exit.then]); refine bodyPost_ret (results_none rfl _ _ _) rfl ?_))
      exact ⟨rfl, Fin.out⟩
    · obtain ⟨⟨p1, p2, p3, p4, p5⟩, _, g1, g2, g3, g4⟩ := HPre.out
      have A1 := Lib.hid (tswap_r HA.out 0 0 (xa + 1) (by decide) (by omega))
      obtain ⟨Z, hZ⟩ : ∃ Z, Z = accP 2 0 0 (xa + 1) t r := ⟨_, rfl⟩
      have R1 := Runs.acc 2 0 0 (xa + 1) t r
      have hmk1 : (accP 2 0 0 (xa + 1) t r).2.2.marks.length = r.marks.length := accP_mlen _ _ _ _ _ _
      have hat1 : ¬ (accP 2 0 0 (xa + 1) t r).2.1.at_ < (accP 2 0 0 (xa + 1) t r).2.1.got.length := by
        by_cases hx : t.at_ < t.got.length
        · rw [accP_old g3 hx]; show ¬ t.at_ + 1 < t.got.length; omega
        · rw [accP_fresh g3 hx g4]; show ¬ t.at_ + 1 < (t.got ++ [_]).length; simp; omega
      have hla : 0 ≤ lastP (accP 2 0 0 (xa + 1) t r).2.1 ∧ lastP (accP 2 0 0 (xa + 1) t r).2.1 ≤ 1000000 := lastP_le (by rw [R1.inv]; exact p1) (fun x hx => by
        rcases accP_ticks _ _ _ _ _ _ _ hx with h | h
        · exact p3 x h
        · rw [h]; omega)
      have hth : (accP 2 0 0 (xa + 1) t r).2.1.thread = t.thread := R1.thread
      have hT : R = ({ (accP 0 0 0 0 Z.2.1 (markP (t.thread : Int) [2 * lastP Z.2.1] Z.2.1 Z.2.2)).2.1 with val := consDec (accP 0 0 0 0 Z.2.1 (markP (t.thread : Int) [2 * lastP Z.2.1] Z.2.1 Z.2.2)).1 }, (accP 0 0 0 0 Z.2.1 (markP (t.thread : Int) [2 * lastP Z.2.1] Z.2.1 Z.2.2)).2.2) := by rw [HR.out, hZ]; unfold rconsDo; rw [if_neg h1, if_neg (fun x => x h0), if_neg h3]
      rw [← hZ] at A1 hmk1 hat1 hla hth
      obtain ⟨v1, t1, r1⟩ := Z
      simp only at hT A1 hmk1 hat1 hla hth
      obtain ⟨la, hlae⟩ : ∃ la, la = lastP t1 := ⟨_, rfl⟩
      obtain ⟨p, hpe⟩ : ∃ p, p = t.thread := ⟨_, rfl⟩
      rw [← hlae] at hT hla
      rw [← hpe] at hT hth p4
      obtain ⟨Z2, hZ2⟩ : ∃ Z2, Z2 = accP 0 0 0 0 t1 (markP (p : Int) [2 * la] t1 r1) := ⟨_, rfl⟩
      rw [← hZ2] at hT
      have RD := Lib.hid (fun (u : World) (hu : RAt B u t1 (markP (p : Int) [2 * la] t1 r1)) => (And.intro (by (have h9 := tread_r hu 0); rw [← hZ2] at h9; exact h9) (by rw [hZ2]; exact read_lt hu hat1) : Calls Tryz.prog 102 #[.pointer (some ⟨B.I.tb, B.I.pre.length, none⟩), .int .i64 0] u (fun e w' => e = .returned (.int .u64 (Z2.1 : Int)) ∧ RAt B w' Z2.2.1 Z2.2.2) ∧ Z2.1 < 18446744073709551616))
      obtain ⟨v2, t2, r2⟩ := Z2
      simp only at hT RD
      subst hT
      have LS := Lib.hid (fun (u : World) (hu : RAt B u t1 r1) => (by (have h9 := last_r hu); rw [← hlae] at h9; exact h9 : Calls Tryz.prog 107 #[.pointer (some ⟨B.I.tb, B.I.pre.length, none⟩)] u (fun e w' => e = .returned (.int .i64 la) ∧ Below u.heap.size u w')))
      have MK := Lib.hid (fun (u u' : World) (hu : RAt B u t1 r1) (hb : Below u.heap.size u u') (b : Nat) (hk : u'.heap[b]? = some (.cells #[.int .i64 (2 * la)] 3 (0, 0))) (hge : u.heap.size ≤ b) => mark_new hu hb b (2 * la) hk hge p (by omega) (by omega))
      have Hth := Lib.hid hth
      have l3 : ¬ (4294967296 : Int) ≤ (xa : Int) := by omega
      have l4 : IntKind.u64.wrap ((xa : Int) + 1) = (xa : Int) + 1 := by rw [IntKind.wrap_u64]; omega
      have l5 : IntKind.i64.wrap (2 * la) = 2 * la := by rw [IntKind.wrap_i64]; omega
      have l6 : wrap64 (2 * la) = 2 * la := by unfold wrap64; omega
      have A2 := Lib.hid (show Calls Tryz.prog 104 #[.pointer (some ⟨B.I.tb, B.I.pre.length, none⟩), .int .i64 0, .int .u64 0, .int .u64 ((xa : Int) + 1)] wb fun e w' => e = .returned (.bool (v1 == 1)) ∧ RAt B w' t1 r1 from A1.out)
      subst h0
      clear HR hZ HPre h1 h3 p1 p2 p3 p4 p5 g1 g2 g3 g4 R1 hmk1 hat1 hla hth hlae hpe hZ2 A1 hca
      go_enter Tryz.func79, Tryz.ntmps79
      go_upto_region 1 with fail
      rw [← Hwb.out]
      clear e9 f9
      go_upto_region 11 with (go_at_call 104; refine A2.out.mono ?_; rintro e w2 ⟨rfl, h2⟩)
      have h2d := h2.grown (Gr.refl w2).drew
      have x1 : w2.cell? ⟨B.I.tb, B.I.pre.length + 1, none⟩ = some (.int .i64 (p : Int)) := by rw [h2.cThread, Hth.out]
      have ltb := h2.lt
      refine wp_region_L ((fun u => u.cell? ⟨B.I.tb, B.I.pre.length + 1, none⟩ = some (.int .i64 (p : Int)))) 9 (by kernel_rfl) ?hS0L1 ?_
      case hS0L1 =>
        (try dsimp only)
        (first | exact x1 | exact y1 | exact ((Gr.new w3 _).cell (Nat.lt_of_lt_of_le ltb hb3.size)).trans y1)
      intro hS hcl
      refine wpAnyL_take (i := 0) (v := ?tv0L1) 10 rfl (by kernel_rfl) (by kernel_rfl) (by kernel_rfl) (by kernel_rfl) (by kernel_rfl) hcl (by first | exact fun _ _ _ h => h | exact fun _ _ _ h => HQp.out _ _ _ _ h) (Or.inl ⟨by rfl, ?th0L1⟩) hS ?tr0L1
      (case th0L1 => (intro w hSw; (try dsimp only at hSw); go_simp; try with_reducible rfl))
      clear hcl; intro hcl
      (try simp only [Act.put, List.getElem_toArray, List.getElem_cons_zero, List.getElem_cons_succ, List.setIfInBounds_toArray, List.set_cons_zero, List.set_cons_succ])
      refine wpAnyL_take (i := 1) (v := ?tv1L1) 10 rfl (by kernel_rfl) (by kernel_rfl) (by kernel_rfl) (by kernel_rfl) (by kernel_rfl) hcl (by first | exact fun _ _ _ h => h | exact fun _ _ _ h => HQp.out _ _ _ _ h) (Or.inl ⟨by rfl, ?th1L1⟩) hS ?tr1L1
      (case th1L1 => (intro w hSw; (try dsimp only at hSw); go_simp; try with_reducible rfl))
      clear hcl; intro hcl
      (try simp only [Act.put, List.getElem_toArray, List.getElem_cons_zero, List.getElem_cons_succ, List.setIfInBounds_toArray, List.set_cons_zero, List.set_cons_succ])
      refine wpAnyL_take (i := 2) (v := ?tv2L1) 10 rfl (by kernel_rfl) (by kernel_rfl) (by kernel_rfl) (by kernel_rfl) (by kernel_rfl) hcl (by first | exact fun _ _ _ h => h | exact fun _ _ _ h => HQp.out _ _ _ _ h) (Or.inl ⟨by rfl, ?th2L1⟩) hS ?tr2L1
      (case th2L1 => (intro w hSw; (try dsimp only at hSw); go_simp; try with_reducible rfl))
      clear hcl; intro hcl
      (try simp only [Act.put, List.getElem_toArray, List.getElem_cons_zero, List.getElem_cons_succ, List.setIfInBounds_toArray, List.set_cons_zero, List.set_cons_succ])
      refine wpAnyL_take (i := 3) (v := ?tv3L1) 10 rfl (by kernel_rfl) (by kernel_rfl) (by kernel_rfl) (by kernel_rfl) (by kernel_rfl) hcl (by first | exact fun _ _ _ h => h | exact fun _ _ _ h => HQp.out _ _ _ _ h) (Or.inl ⟨by rfl, ?th3L1⟩) hS ?tr3L1
      (case th3L1 => (intro w hSw; (try dsimp only at hSw); go_simp; try with_reducible rfl))
      clear hcl; intro hcl
      (try simp only [Act.put, List.getElem_toArray, List.getElem_cons_zero, List.getElem_cons_succ, List.setIfInBounds_toArray, List.set_cons_zero, List.set_cons_succ])
      refine wpAnyL_take (i := 4) (v := ?tv4L1) 10 rfl (by kernel_rfl) (by kernel_rfl) (by kernel_rfl) (by kernel_rfl) (by kernel_rfl) hcl (by first | exact fun _ _ _ h => h | exact fun _ _ _ h => HQp.out _ _ _ _ h) (Or.inl ⟨by rfl, ?th4L1⟩) hS ?tr4L1
      (case th4L1 => (intro w hSw; (try dsimp only at hSw); go_simp; try with_reducible rfl))
      clear hcl; intro hcl
      (try simp only [Act.put, List.getElem_toArray, List.getElem_cons_zero, List.getElem_cons_succ, List.setIfInBounds_toArray, List.set_cons_zero, List.set_cons_succ])
      refine wpAnyL_take (i := 5) (v := ?tv5L1) 10 rfl (by kernel_rfl) (by kernel_rfl) (by kernel_rfl) (by kernel_rfl) (by kernel_rfl) hcl (by first | exact fun _ _ _ h => h | exact fun _ _ _ h => HQp.out _ _ _ _ h) (Or.inl ⟨by rfl, ?th5L1⟩) hS ?tr5L1
      (case th5L1 => (intro w hSw; (try dsimp only at hSw); go_simp; try with_reducible rfl))
      clear hcl; intro hcl
      (try simp only [Act.put, List.getElem_toArray, List.getElem_cons_zero, List.getElem_cons_succ, List.setIfInBounds_toArray, List.set_cons_zero, List.set_cons_succ])
      refine wpAnyL_one (i := 6) (by kernel_rfl) rfl hcl (fun K' hK => ?_)
      have HK := Lib.hid hK; clear hK
      ((rw [if_pos (by kernel_rfl)]); (try simp only [List.getElem_toArray, List.getElem_cons_zero, List.getElem_cons_succ]); go_big_op)
      (first | (go_at_call 107; refine (LS.out _ h2d).mono ?_; rintro e w3 ⟨rfl, hb3⟩; have y1 := (hb3.cell (p := ⟨B.I.tb, B.I.pre.length + 1, none⟩) ltb).trans x1; have h3d := h2d.grown hb3) | (go_at_call 106; refine (MK.out w3 _ h3d (Gr.new w3 _) w3.heap.size (heap_alloc_new _ _) (Nat.le_refl _)).mono ?_; rintro e w5 ⟨rfl, h5⟩))
      refine HK.out _ _ ?hS6L1 (fun hcl => ?_)
      case hS6L1 =>
        intro _
        (try dsimp only)
        (first | exact x1 | exact y1 | exact ((Gr.new w3 _).cell (Nat.lt_of_lt_of_le ltb hb3.size)).trans y1)
      clear HK
      (try simp only [Act.put, List.getElem_toArray, List.getElem_cons_zero, List.getElem_cons_succ, List.setIfInBounds_toArray, List.set_cons_zero, List.set_cons_succ])
      refine wpAnyL_one (i := 7) (by kernel_rfl) rfl hcl (fun K' hK => ?_)
      have HK := Lib.hid hK; clear hK
      ((rw [if_pos (by kernel_rfl)]); (try simp only [List.getElem_toArray, List.getElem_cons_zero, List.getElem_cons_succ]); first | go_big_move | go_big_op)
      refine HK.out _ _ ?hS7L1 (fun hcl => ?_)
      case hS7L1 =>
        intro _
        (try dsimp only)
        (first | exact x1 | exact y1 | exact ((Gr.new w3 _).cell (Nat.lt_of_lt_of_le ltb hb3.size)).trans y1)
      clear HK
      (try simp only [Act.put, List.getElem_toArray, List.getElem_cons_zero, List.getElem_cons_succ, List.setIfInBounds_toArray, List.set_cons_zero, List.set_cons_succ])
      refine wpAnyL_one (i := 8) (by kernel_rfl) rfl hcl (fun K' hK => ?_)
      have HK := Lib.hid hK; clear hK
      ((rw [if_pos (by kernel_rfl)]); (try simp only [List.getElem_toArray, List.getElem_cons_zero, List.getElem_cons_succ]); first | go_big_move | go_big_op)
      refine HK.out _ _ ?hS8L1 (fun hcl => ?_)
      case hS8L1 =>
        intro _
        (try dsimp only)
        (first | exact x1 | exact y1 | exact ((Gr.new w3 _).cell (Nat.lt_of_lt_of_le ltb hb3.size)).trans y1)
      clear HK
      (try simp only [Act.put, List.getElem_toArray, List.getElem_cons_zero, List.getElem_cons_succ, List.setIfInBounds_toArray, List.set_cons_zero, List.set_cons_succ])
      refine wpAnyL_one (i := 9) (by kernel_rfl) rfl hcl (fun K' hK => ?_)
      have HK := Lib.hid hK; clear hK
      ((rw [if_pos (by kernel_rfl)]); (try simp only [List.getElem_toArray, List.getElem_cons_zero, List.getElem_cons_succ]); go_big_op)
      (first | (go_at_call 107; refine (LS.out _ h2d).mono ?_; rintro e w3 ⟨rfl, hb3⟩; have y1 := (hb3.cell (p := ⟨B.I.tb, B.I.pre.length + 1, none⟩) ltb).trans x1; have h3d := h2d.grown hb3) | (go_at_call 106; refine (MK.out w3 _ h3d (Gr.new w3 _) w3.heap.size (heap_alloc_new _ _) (Nat.le_refl _)).mono ?_; rintro e w5 ⟨rfl, h5⟩))
      refine HK.out _ _ (fun h => by cases h.symm.trans (by kernel_rfl : _ = true)) (fun _ => wpAnyL_done (by kernel_rfl) ?_ _)
      clear HK
      (try clear hS)
      obtain ⟨RC, hv2⟩ := RD.out w5 h5
      have l7 := dec_wrap v2 hv2
      have HRC := Lib.hid RC
      clear RC h5 h3d h2d h2 x1 hv2
      go_wp2_with (go_at_call 102; refine HRC.out.mono ?_; rintro e w6 ⟨rfl, h6⟩; have z10 := h6.cVal; have zf := h6.frozen (B.I.pre.length + 10))
      (first | go_end0 | ((try simp only [Exit.inBlock, Exit.then]); refine bodyPost_ret (results_none rfl _ _ _) rfl ?_))
      exact ⟨rfl, h6.putVal (consDec v2)⟩
  · have hT : R = ({ t with err := 9 }, r) := by rw [HR.out]; unfold rconsDo; rw [if_neg h1, if_pos h0]
    have Fin := Lib.hid (HA.out.putErr 9)
    have l1 : (kd == 1) = false := by simp [h1]
    have l0 : (kd == 0) = false := by simp [h0]
    subst hT
    clear HR HPre
    go_enter Tryz.func79, Tryz.ntmps79
    go_upto_region 1 with fail
    rw [← Hwb.out]
    go_wp2
    (first | go_end0 | ((try simp only [Exit.inBlock, Exit.then]); refine bodyPost_ret (results_none rfl _ _ _) rfl ?_))
    exact ⟨rfl, Fin.out⟩
theorem rcons_do (n : Nat) : DoC 1 0 0 n ConsPre rconsDo := by
  intro B u c t r hok hob hpre hA
  have C := do_cons (B := B) (w := u) (t := t) (r := r) (fun u' => RAt B u' (rconsDo c t r).1 (rconsDo c t r).2) n 0 0 c.thread c.kind c.a c.b c.c hA (fun u' h' => rcons_r c hok h' hpre)
  have R := rcons_dob.runs c t r
  have e1 : callW c = .agg #[.int .i64 c.thread, .int .i64 0, .int .i64 c.kind, .int .u64 (c.a : Int), .int .u64 (c.b : Int), .int .u64 (c.c : Int)] := by unfold callW; rw [hob]
  rw [e1]
  refine C.mono ?_
  rintro e u' ⟨rfl, h1⟩
  exact ⟨rfl, _, h1, R.thread, R.inv, rfl, rfl, rfl, fun _ => ⟨rfl, rfl, rfl, rfl, fun _ => rfl⟩⟩
end
section

/- What holds of a hand of the reference's play as its step begins. -/
open Go.RowKit
variable {S : Sys} {M : RefSim S} {n : Nat} {calls : List CallD}
structure HandPre (M : RefSim S) (n : Nat) (calls : List CallD) (s : RefS) (st : PlayD S) (q i : Nat) (h : RHand) (r : RWD) : Prop where
  inv : h.inv ≤ 65537
  now : r.now ≤ 65537
  ticks : ∀ x, x ∈ h.ticks → 0 ≤ x ∧ x ≤ 65537
  mlen : r.marks.length = n
  mem : r.mem = s.rw.mem
  traces : r.traces = s.rw.traces
  own : h.own = (s.hands.getD q rh0).own
  how : (h.got = [] ∧ h.ticks = [] ∧ (s.hands.getD q rh0).opn = false) ∨ ∃ σ, st.hands.getD q (none, 0) = (some σ, h.ev) ∧ M.Rel st.obj s.rw q (calls.getD i d0) h σ ∧ h = s.hands.getD q rh0
theorem hand_pre {sz : Nat} {s : RefS} {st : PlayD S} {q i : Nat} (hP : PSim M n calls s st) (hg : StGood calls st) (hR : RGood n sz calls s) (hT : RTick n s) (hnow : s.rw.now ≤ 65536) (hq : q < n) (hN : nowN calls s.fin (q : Int) = some i) (s1 : RefS) (hs1 : s1 = ropen { s with rw := s.rw.tick } q i) :
    HandPre M n calls s st q i (s1.hands.getD q rh0) s1.rw := by
  obtain ⟨n1, _, _⟩ := nowN_spec hN
  obtain ⟨t1, t2⟩ := hT.open_ hR.hl q i hq
  rw [← hs1] at t1 t2
  have hql : q < s.hands.length := by rw [hR.hl]; exact hq
  by_cases ho : (s.hands.getD q rh0).opn = true
  · have e : s1 = { s with rw := s.rw.tick } := by rw [hs1]; unfold ropen; rw [if_pos ho]
    have ho1 : (s1.hands.getD q rh0).opn = true := by rw [e]; exact ho
    obtain ⟨a, b⟩ := t1 q hq ho1
    have H := hP.hand q hq
    rw [H.opn] at ho
    cases hs : (st.hands.getD q (none, 0)).1 with
    | none => rw [hs] at ho; cases ho
    | some σ =>
      have hc := psim_call hP hg q hq (by rw [H.opn, hs]; rfl)
      rw [hN] at hc
      cases hc
      have hev := H.ev (by rw [H.opn, hs]; rfl)
      refine ⟨by omega, by omega, fun x hx => ⟨(b x hx).1, by have := (b x hx).2; omega⟩, by rw [e]; exact hP.rw.mlen, by rw [e]; rfl, by rw [e]; rfl, by rw [e], .inr ⟨σ, ?_, ?_, by rw [e]⟩⟩
      · rw [e]; exact Prod.ext hs hev.symm
      · rw [e]
        have h9 := (H.rel σ hs).1
        rw [← hev, ← hP.evs] at h9
        exact h9
  · have e : s1 = rbegin { s with rw := s.rw.tick } q i := by rw [hs1]; unfold ropen; rw [if_neg ho]
    have hb : s1.hands.getD q rh0 = ⟨true, s.evs.length, s.rw.now + 1, [], [], (s.hands.getD q rh0).own⟩ := by rw [e]; exact getD_set_eq hql
    rw [hb]
    refine ⟨by show s.rw.now + 1 ≤ _; omega, by omega, (fun x hx => by cases hx), ?_, by rw [e]; rfl, by rw [e]; rfl, rfl, .inl ⟨rfl, rfl, by simpa using ho⟩⟩
    rw [e]
    show (s.rw.marks.set q []).length = n
    rw [List.length_set]; exact hP.rw.mlen
end
section

/- The reference's play of a cons. -/
open Go.RowKit
theorem cons_pre {n sz : Nat} {calls : List CallD} {s : RefS} {st : PlayD consS} {q i : Nat} (hn : n ≤ 16) (hP : PSim consSim n calls s st) (hg : StGood calls st) (hR : RGood n sz calls s) (hT : RTick n s) (hnow : s.rw.now ≤ 65536) (hq : q < n) (hN : nowN calls s.fin (q : Int) = some i) (s1 : RefS) (hs1 : s1 = ropen { s with rw := s.rw.tick } q i) :
    ConsPre (calls.getD i d0) ((s1.hands.getD q rh0).tape q) s1.rw := by
  have H := hand_pre hP hg hR hT hnow hq hN s1 hs1
  obtain ⟨h, hh⟩ : ∃ h, h = s1.hands.getD q rh0 := ⟨_, rfl⟩
  rw [← hh] at H ⊢
  have g : ((calls.getD i d0).kind = 1 → h.got = []) ∧ h.got.length ≤ 1 := by
    rcases H.how with ⟨e1, e2, _⟩ | ⟨σ, _, hr, _⟩
    · exact ⟨fun _ => e1, by rw [e1]; exact Nat.zero_le _⟩
    · match σ, hr with
      | .once c' r0, hr => exact ⟨fun _ => hr.2.2.2, by rw [hr.2.2.2]; exact Nat.zero_le _⟩
      | .prop v false, hr => exact ⟨fun _ => hr.2.2.2.1, by rw [hr.2.2.2.1]; exact Nat.zero_le _⟩
      | .prop v true, hr =>
        obtain ⟨_, h0, _, x, hx⟩ := hr
        exact ⟨fun e => by rw [h0] at e; exact absurd e (by decide), by rw [hx]; exact Nat.le_refl 1⟩
  have hi := H.inv; have hw := H.now
  exact ⟨⟨by show h.inv ≤ _; omega, by omega, fun x hx => ⟨(H.ticks x hx).1, by have := (H.ticks x hx).2; omega⟩, by rw [H.mlen]; exact hq, by rw [H.mlen]; exact hn⟩, g.1, g.2, rfl, rfl, rfl⟩
theorem rcons_play (X : Nat → Prop) (q0 : Int) (calls : List CallD) (picks : List Int) (ca pa : Option Addr) (cc pc bS : Nat) (w : World) (hX : ∀ b, X b → b < w.heap.size) (hS : SpecAt w bS 1 0 0) (hc : CallsAt noB w ca calls) (hp : PicksAt w pa picks) :
    Calls Tryz.prog 14 #[.int .i64 q0, .slice (some ⟨bS, 0, none⟩) 1 1, .slice ca calls.length cc, .slice pa picks.length pc] w fun e w' => RefAny X w w' (checkN q0 calls picks.length) (playD consS () [0] calls picks) true e := by
  by_cases hck : checkN q0 calls picks.length = 0
  · obtain ⟨z1, z2, z3, _⟩ := wrongN_zero (checkN_zero hck).1
    obtain ⟨n, rfl⟩ : ∃ n : Nat, q0 = (n : Int) := ⟨q0.toNat, by omega⟩
    rw [hck]
    have hthr := thr_16 hck
    exact rplay_any (S := consS) (M := consSim) X 1 1 0 0 picks ca pa cc pc bS w () ConsPre hX (by decide) (by omega) (by omega) hck hS hc hp (fun v => size_one 1 0 0 (n : Int) (.inl rfl) v) rcons_dob rcons_dot (rcons_do n) (late_marks 1 0 0 n (by decide)) (cons_ref_ok n (by omega) calls) cons_now (fun _ _ => trivial)
      (fun k => cons_mlen hthr _ _) (fun s st q i h1 h2 h3 h4 h5 h6 h7 h8 _ s1 hs1 => cons_pre (by omega) h1 h2 h4 h5 h6 h7 h8 s1 hs1)
  · refine rplay_of X q0 _ _ _ _ _ w (fun u hu hul => ?_)
    exact rlog_wrong _ q0 calls picks ca pa cc pc _ _ u hck (hc.grown hu) (hp.grown hu)
theorem rcons_len {q0 : Int} {calls : List CallD} {picks : List Int} (hck : checkN q0 calls picks.length = 0) : (playD consS () [0] calls picks).evs.length < 1000000 ∧ (playD consS () [0] calls picks).words.length < 1000000 := by
  obtain ⟨z1, z2, z3, _⟩ := wrongN_zero (checkN_zero hck).1
  obtain ⟨n, rfl⟩ : ∃ n : Nat, q0 = (n : Int) := ⟨q0.toNat, by omega⟩
  obtain ⟨a1, a2⟩ := rlen_any (S := consS) (M := consSim) 1 picks () hck rcons_dob (cons_ref_ok n (by omega) calls) cons_now (fun _ _ => trivial) (fun k => cons_mlen (thr_16 hck) _ _)
  have a1' : (playD consS () [0] calls picks).evs.length ≤ 65536 := a1
  have a2' : (playD consS () [0] calls picks).words.length = 1 := a2
  omega
end
end Go.Proofs.YteffgpcjfnjlkaaGreat
