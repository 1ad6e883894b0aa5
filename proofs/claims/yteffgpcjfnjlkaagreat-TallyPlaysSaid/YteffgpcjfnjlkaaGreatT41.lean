/- The reference's tape: what it marks, and what it notes. -/
import Derived.Test.YteffgpcjfnjlkaaGreatT40
import Derived.Test.YteffgpcjfnjlkaaGreatT22
import Derived.Test.YteffgpcjfnjlkaaGreatT28
import Derived.Test.YteffgpcjfnjlkaaGreatT35
import Derived.Test.YteffgpcjfnjlkaaGreatT16
import Derived.Test.YteffgpcjfnjlkaaGreatT23
import Derived.Deep.AppendLies
set_option maxRecDepth 100000
set_option linter.unusedVariables false
set_option linter.unusedSimpArgs false
set_option linter.unnecessarySimpa false
namespace Go.Proofs.YteffgpcjfnjlkaaGreat
section
open Go.RowKit
variable {B : RBase} {w w' : World} {t : TapeP} {r : RWD}
theorem just_r (h : RAt B w t r) : Calls Tryz.prog 131 #[.pointer (some ⟨B.I.tb, B.I.pre.length, none⟩)] w fun e w' => e = .returned (.bool (justP t)) ∧ Below w.heap.size w w' := by
 have c5 := h.cAt
 have c6 := h.cFresh
 have c7 := h.cHalt
 obtain ⟨⟨gc, ga, c3⟩, _, h1, h2, h3⟩ := h.lists
 obtain ⟨b, hb⟩ : ∃ b, b = justP t := ⟨_, rfl⟩
 rw [← hb]
 obtain ⟨hh, hhe⟩ : ∃ hh, hh = t.halt := ⟨_, rfl⟩
 obtain ⟨ff, hfe⟩ : ∃ ff, ff = t.fresh := ⟨_, rfl⟩
 obtain ⟨a, hae⟩ : ∃ a, a = t.at_ := ⟨_, rfl⟩
 obtain ⟨n, hne⟩ : ∃ n, n = t.got.length := ⟨_, rfl⟩
 have hb2 : b = (!hh && !ff && decide (a = n) && decide (0 < a)) := by rw [hb, hhe, hfe, hae, hne]; rfl
 rw [← hhe] at c7; rw [← hfe] at c6; rw [← hae] at c5; rw [← hne] at c3
 have C3 := grown_cell c3; have C5 := grown_cell c5; have C6 := grown_cell c6; have C7 := grown_cell c7
 clear hb hhe hfe hae hne c3 c5 c6 c7 h h1 h2 h3
 cases hh with
 | true =>
  obtain rfl : b = false := hb2
  go_enter Tryz.func131, Tryz.ntmps131
  go_upto_region 1 with fail
  ((with_reducible refine wp_region_grown_lit (by kernel_rfl) (by kernel_rfl) ?_); (repeat (first | go_big_quiet_skip | (go_big_quiet_want; go_big_quiet_op; first | go_big_quiet_on | ((with_reducible apply Exists.intro); (with_reducible refine ⟨fun _ => ?_, ?_⟩); (fail); go_big_quiet_on)) | ((with_reducible refine wpQuiet_step (fun K hK => ?_)); go_simp; first | ((with_reducible refine hK _ ?_); clear hK K) | ((with_reducible apply Exists.intro); (with_reducible refine ⟨fun _ => ?_, hK _ ?_⟩); (fail); clear hK K)))); (with_reducible refine wpQuiet_nil ?_); intro _ hw'; obtain ⟨nq, hw''⟩ := hw'; subst hw'')
  have hb := nq.below
  go_wp2
  go_ret
  exact ⟨rfl, hb⟩
 | false =>
  cases ff with
  | true =>
   obtain rfl : b = false := hb2
   go_enter Tryz.func131, Tryz.ntmps131
   go_upto_region 1 with fail
   ((with_reducible refine wp_region_grown_lit (by kernel_rfl) (by kernel_rfl) ?_); (repeat (first | go_big_quiet_skip | (go_big_quiet_want; go_big_quiet_op; first | go_big_quiet_on | ((with_reducible apply Exists.intro); (with_reducible refine ⟨fun _ => ?_, ?_⟩); (fail); go_big_quiet_on)) | ((with_reducible refine wpQuiet_step (fun K hK => ?_)); go_simp; first | ((with_reducible refine hK _ ?_); clear hK K) | ((with_reducible apply Exists.intro); (with_reducible refine ⟨fun _ => ?_, hK _ ?_⟩); (fail); clear hK K)))); (with_reducible refine wpQuiet_nil ?_); intro _ hw'; obtain ⟨nq, hw''⟩ := hw'; subst hw'')
   have hb := nq.below
   go_wp2
   go_ret
   exact ⟨rfl, hb⟩
  | false =>
   by_cases hn : a = n
   ·subst hn
    have le : ((a : Int) == (a : Int)) = true := by simp
    by_cases h0 : 0 < a
    ·obtain rfl : b = true := by rw [hb2]; simp [h0]
     have l0 : decide ((0 : Int) < (a : Int)) = true := by simp; omega
     have l1 : (0 : Int) < (a : Int) := by omega
     clear hb2
     go_enter Tryz.func131, Tryz.ntmps131
     go_upto_region 1 with fail
     ((with_reducible refine wp_region_grown_lit (by kernel_rfl) (by kernel_rfl) ?_); (repeat (first | go_big_quiet_skip | (go_big_quiet_want; go_big_quiet_op; first | go_big_quiet_on | ((with_reducible apply Exists.intro); (with_reducible refine ⟨fun _ => ?_, ?_⟩); (fail); go_big_quiet_on)) | ((with_reducible refine wpQuiet_step (fun K hK => ?_)); go_simp; first | ((with_reducible refine hK _ ?_); clear hK K) | ((with_reducible apply Exists.intro); (with_reducible refine ⟨fun _ => ?_, hK _ ?_⟩); (fail); clear hK K)))); (with_reducible refine wpQuiet_nil ?_); intro _ hw'; obtain ⟨nq, hw''⟩ := hw'; subst hw'')
     have hb := nq.below
     go_wp2
     go_ret
     exact ⟨rfl, hb⟩
    ·obtain rfl : a = 0 := by omega
     obtain rfl : b = false := by rw [hb2]; simp
     clear hb2 h0
     go_enter Tryz.func131, Tryz.ntmps131
     go_upto_region 1 with fail
     ((with_reducible refine wp_region_grown_lit (by kernel_rfl) (by kernel_rfl) ?_); (repeat (first | go_big_quiet_skip | (go_big_quiet_want; go_big_quiet_op; first | go_big_quiet_on | ((with_reducible apply Exists.intro); (with_reducible refine ⟨fun _ => ?_, ?_⟩); (fail); go_big_quiet_on)) | ((with_reducible refine wpQuiet_step (fun K hK => ?_)); go_simp; first | ((with_reducible refine hK _ ?_); clear hK K) | ((with_reducible apply Exists.intro); (with_reducible refine ⟨fun _ => ?_, hK _ ?_⟩); (fail); clear hK K)))); (with_reducible refine wpQuiet_nil ?_); intro _ hw'; obtain ⟨nq, hw''⟩ := hw'; subst hw'')
     have hb := nq.below
     go_wp2
     go_ret
     exact ⟨rfl, hb⟩
   ·obtain rfl : b = false := by rw [hb2]; simp [hn]
    have le : ((a : Int) == (n : Int)) = false := by simp; omega
    have le2 : ¬ (a : Int) = (n : Int) := by omega
    clear hb2 hn
    go_enter Tryz.func131, Tryz.ntmps131
    go_upto_region 1 with fail
    ((with_reducible refine wp_region_grown_lit (by kernel_rfl) (by kernel_rfl) ?_); (repeat (first | go_big_quiet_skip | (go_big_quiet_want; go_big_quiet_op; first | go_big_quiet_on | ((with_reducible apply Exists.intro); (with_reducible refine ⟨fun _ => ?_, ?_⟩); (fail); go_big_quiet_on)) | ((with_reducible refine wpQuiet_step (fun K hK => ?_)); go_simp; first | ((with_reducible refine hK _ ?_); clear hK K) | ((with_reducible apply Exists.intro); (with_reducible refine ⟨fun _ => ?_, hK _ ?_⟩); (fail); clear hK K)))); (with_reducible refine wpQuiet_nil ?_); intro _ hw'; obtain ⟨nq, hw''⟩ := hw'; subst hw'')
    have hb := nq.below
    go_wp2
    go_ret
    exact ⟨rfl, hb⟩
theorem noteP_of (p : Nat) (l : List Int) (hp : p < r.traces.length) : noteP (p : Int) l t r = if justP t = true then { r with traces := r.traces.set p l } else r := by
 unfold noteP
 by_cases h : justP t = true
 ·rw [if_pos h, if_pos ⟨h, by omega, by omega⟩]; rfl
 ·rw [if_neg h, if_neg (fun x => h x.1)]
end
section

/- The reference's Do at each kind of object. -/
open Go.RowKit
theorem do_boxes (w : World) (kd sP sQ th kn : Int) (xa xb xc : Nat) : ∃ wb, wb = (w.alloc (.cells #[.int .i64 kd, .int .i64 sP, .int .i64 sQ] 39)).alloc (.cells #[.int .i64 th, .int .i64 0, .int .i64 kn, .int .u64 (xa : Int), .int .u64 (xb : Int), .int .u64 (xc : Int)] 48) ∧ Below w.heap.size w wb ∧
  wb.heap[w.heap.size]? = some (.cells #[.int .i64 kd, .int .i64 sP, .int .i64 sQ] 39 (0, 0)) ∧ wb.heap[w.heap.size + 1]? = some (.cells #[.int .i64 th, .int .i64 0, .int .i64 kn, .int .u64 (xa : Int), .int .u64 (xb : Int), .int .u64 (xc : Int)] 48 (0, 0)) := by
 refine ⟨_, rfl, Gr.alloc (Gr.new _ _) _, ?_, ?_⟩
 ·rw [Below.heap_alloc _ _ _ (by simp)]; exact heap_alloc_new _ _
 ·have := heap_alloc_new (w.alloc (.cells #[.int .i64 kd, .int .i64 sP, .int .i64 sQ] 39)) (.cells #[.int .i64 th, .int .i64 0, .int .i64 kn, .int .u64 (xa : Int), .int .u64 (xb : Int), .int .u64 (xc : Int)] 48 (0, 0))
  simp only [World.size_alloc] at this
  exact this
set_option maxHeartbeats 4000000 in
theorem do_tally {B : RBase} {w : World} {t : TapeP} {r : RWD} (P : World → Prop) (n : Nat) (sP sQ th kn : Int) (xa xb xc : Nat) (h : RAt B w t r) (FC : ∀ u, RAt B u t r → Calls Tryz.prog 80 #[.pointer (some ⟨B.I.tb, B.I.pre.length, none⟩), .int .i64 (n : Int), .int .i64 0, .agg #[.int .i64 th, .int .i64 0, .int .i64 kn, .int .u64 (xa : Int), .int .u64 (xb : Int), .int .u64 (xc : Int)]] u fun e u' => e = .returned (.tuple #[]) ∧ P u') :
  Calls Tryz.prog 70 #[.pointer (some ⟨B.I.tb, B.I.pre.length, none⟩), .int .i64 (n : Int), .int .i64 0, .agg #[.int .i64 2, .int .i64 sP, .int .i64 sQ], .agg #[.int .i64 th, .int .i64 0, .int .i64 kn, .int .u64 (xa : Int), .int .u64 (xb : Int), .int .u64 (xc : Int)]] w fun e u' => e = .returned (.tuple #[]) ∧ P u' := by
 obtain ⟨wb, hwb, hg, hS, hC⟩ := do_boxes w 2 sP sQ th kn xa xb xc
 have HC := Lib.hid (FC wb (h.grown hg)); have Hwb := Lib.hid hwb
 clear FC h hg hwb
 have s0 : wb.cell? ⟨w.heap.size, 0, none⟩ = some (.int .i64 2) := by rw [cell_blk hS]; rfl
 have s1 : wb.cell? ⟨w.heap.size, 1, none⟩ = some (.int .i64 sP) := by rw [cell_blk hS]; rfl
 have s2 : wb.cell? ⟨w.heap.size, 2, none⟩ = some (.int .i64 sQ) := by rw [cell_blk hS]; rfl
 have y0 : wb.cell? ⟨w.heap.size + 1, 0, none⟩ = some (.int .i64 th) := by rw [cell_blk hC]; rfl
 have y1 : wb.cell? ⟨w.heap.size + 1, 1, none⟩ = some (.int .i64 0) := by rw [cell_blk hC]; rfl
 have y2 : wb.cell? ⟨w.heap.size + 1, 2, none⟩ = some (.int .i64 kn) := by rw [cell_blk hC]; rfl
 have y3 : wb.cell? ⟨w.heap.size + 1, 3, none⟩ = some (.int .u64 (xa : Int)) := by rw [cell_blk hC]; rfl
 have y4 : wb.cell? ⟨w.heap.size + 1, 4, none⟩ = some (.int .u64 (xb : Int)) := by rw [cell_blk hC]; rfl
 have y5 : wb.cell? ⟨w.heap.size + 1, 5, none⟩ = some (.int .u64 (xc : Int)) := by rw [cell_blk hC]; rfl
 clear hS hC
 go_enter Tryz.func70, Tryz.ntmps70
 go_upto_region 1 with fail
 rw [← Hwb.out]
 go_wp2_with (go_at_call 80; refine HC.out.mono ?_; rintro e w2 ⟨rfl, h2⟩)
 (first | go_end0 | ((try simp only [Exit.inBlock, Exit.then]); refine bodyPost_ret (results_none rfl _ _ _) rfl ?_))
 exact ⟨rfl, h2⟩
end
section

/- The key of an operation that has not responded: its mark: roundelayplain.Late, but for a max register. -/
open Go.RowKit
set_option maxHeartbeats 4000000 in
theorem late_marks (kd P Q : Int) (n : Nat) (hk : kd ≠ 4) : LateC kd P Q n (fun _ p _ r => r.marks.getD p []) := by
 intro B u c t r h hok hob hp hinv hgot htk hml hA
 obtain ⟨wb, hwb, hg, hS, hC⟩ := do_boxes u kd P Q c.thread c.kind c.a c.b c.c
 have hA2 := hA.grown hg
 obtain ⟨G, K, L, h1, h2⟩ := id hA2
 obtain ⟨PV, LV, KV, ht, _⟩ := h1.tape
 obtain ⟨ms, hM, hmn, hms⟩ := h1.marks.blk
 have hnM : B.I.nM = n := by rw [← hml]; exact h1.marks.len.symm
 have hpm : t.thread < B.I.nM := by rw [hnM]; exact hp
 have hfin : RAtL B wb t r (ms.getD t.thread undef) (r.marks.getD t.thread []) := ⟨G, K, L, h1, h2, hms _ hpm⟩
 obtain ⟨wa, cap, _, hW, _⟩ := ht.mem.blk
 have d0 : wb.cell? ⟨B.I.tb, B.I.pre.length, none⟩ = some (.pointer (some ⟨B.I.bW, 0, none⟩)) := ht.cell0
 have d1 := hA2.cThread
 have d7 : wb.cell? ⟨B.I.bW, 7, none⟩ = some (.slice (some ⟨B.I.bM, 0, none⟩) B.I.nM B.I.nM) := by
  have hW' : wb.heap[B.I.bW]? = _ := hW
  rw [cell_blk hW']; rfl
 have dm : wb.cell? ⟨B.I.bM, t.thread, none⟩ = some (ms.getD t.thread undef) := by
  rw [cell_blk hM]
  simp [List.getD_eq_getElem?_getD, show t.thread < ms.length by omega]
 obtain ⟨mv, hmv⟩ : ∃ mv, mv = ms.getD t.thread undef := ⟨_, rfl⟩
 rw [← hmv] at dm hfin
 obtain ⟨p, hpp⟩ : ∃ p, p = t.thread := ⟨_, rfl⟩
 rw [← hpp] at d1 dm hpm
 have s0 : wb.cell? ⟨u.heap.size, 0, none⟩ = some (.int .i64 kd) := by rw [cell_blk hS]; rfl
 have l1 : (p : Int) < (B.I.nM : Int) := by omega
 have l2 : ¬ (p : Int) < 0 := by omega
 have lk : (kd == 4) = false := by simpa using hk
 have D0 := grown_cell d0; have D1 := grown_cell d1; have D7 := grown_cell d7; have DM := grown_cell dm
 have HF := Lib.hid hfin; have Hwb := Lib.hid hwb
 clear hA hA2 h1 h2 ht hM hms hW hfin hmv hpp hS hC hg hwb d0 d1 d7 dm hinv hgot htk hml hnM hmn hp hok
 suffices main : Calls Tryz.prog 58 #[.pointer (some ⟨B.I.tb, B.I.pre.length, none⟩), .int .i64 (n : Int), .int .i64 0, specV kd P Q, callW c] u fun e u' => e = .returned mv ∧ RAtL B u' t r mv (r.marks.getD t.thread []) by
  refine Calls.mono main ?_
  rintro e u' ⟨h1, h2⟩
  exact ⟨mv, t, h1, h2, rfl, rfl, rfl, rfl⟩
 unfold specV callW
 rw [hob]
 clear hob
 go_enter Tryz.func58, Tryz.ntmps58
 go_upto_region 1 with fail
 rw [← Hwb.out]
 go_upto_region 3 with fail
 ((with_reducible refine wp_region_grown_lit (by kernel_rfl) (by kernel_rfl) ?_); (repeat ((with_reducible refine wpQuiet_step (fun K hK => ?_)); go_simp; first | ((with_reducible refine hK _ ?_); clear hK K) | ((with_reducible apply Exists.intro); (with_reducible refine ⟨fun _ => ?_, hK _ ?_⟩); (fail); clear hK K))); (with_reducible refine wpQuiet_nil ?_); intro _ hw'; obtain ⟨nq, hw''⟩ := hw'; subst hw'')
 have hb := nq.below
 have HG := Lib.hid (HF.out.grown hb)
 clear hb
 go_wp2
 go_ret
 exact ⟨rfl, HG.out⟩
end
section

/- A cons in the reference's play: what its function does. -/
open Go.RowKit
variable {B : RBase} {w w' : World} {t : TapeP} {r : RWD}
theorem lastP_le {t : TapeP} (h1 : t.inv ≤ 1000000) (h2 : ∀ x, x ∈ t.ticks → 0 ≤ x ∧ x ≤ 1000000) : 0 ≤ lastP t ∧ lastP t ≤ 1000000 := by
 unfold lastP
 split
 ·omega
 ·by_cases h : t.at_ - 1 < t.ticks.length
  ·have e : t.ticks.getD (t.at_ - 1) 0 = t.ticks[t.at_ - 1] := by simp [List.getD_eq_getElem?_getD, h]
   rw [e]; exact h2 _ (List.getElem_mem h)
  ·have e : t.ticks.getD (t.at_ - 1) 0 = 0 := by simp [List.getD_eq_getElem?_getD, Nat.le_of_not_lt h]
   rw [e]; omega
end
section

/- A list of ints is copied into a slice of its own, at the list of a plain region. -/
open Go.RowKit
theorem run_append_zeroI (w : World) (ty : TypeId) (b : Nat) (oa : Option Addr) (oc : Nat) : (Builtin.append_ #[24, 24] ty #[.slice (some ⟨b, 0, none⟩) 0 0, .slice oa 0 oc]).run Tryz.prog w = .ok (.slice (some ⟨b, 0, none⟩) 0 0) w := by
 obtain ⟨j0, hj0, hy0, hy1, hy2⟩ := info_parts int_info0
 cases oa <;> simp [Builtin.append_, run_underlying (P := Tryz.prog) Tryz.underlying24, sizeOf, typeInfo, hj0, Builtin.lenOf, Builtin.firstCells, storeCells, loadCells, loadCellsFrom]
theorem wpList_copy_ints {ops : Array Oper} {rest : List Oper} {o : Oper} {a : Act} {w : World} {Q : Exit → Act → World → Prop} (hgd : o.guard = none) (s x : Operand) (ho : o.op = .call { callee := .builtin .append, args := #[s, x], argTypes := #[24, 24] })
  (z : Nat) (hz : w.heap[z]? = some (.cells #[] 3 (0, 0))) (oa : Option Addr) (oc : Nat) (l : List Int) (hl : l.length ≤ 1000000) (hs : a.eval s = .slice (some ⟨z, 0, none⟩) 0 0) (hx : a.eval x = .slice oa l.length oc) (hsl : SlAt w oa l.length 1 (intG l))
  (h : ∀ (g vc : Nat) (w' : World), w'.ownsRow z 3 1 (.slice (some ⟨g, 0, none⟩) l.length vc) l.length (l.map (Value.int .i64)) → Below z w w' → wpList Tryz.prog ops Q rest (a.put o.dst (.slice (some ⟨g, 0, none⟩) l.length vc)) w') :
  wpList Tryz.prog ops Q (o :: rest) a w := by
 rcases Nat.eq_zero_or_pos l.length with h0 | h0
 ·obtain rfl := List.eq_nil_of_length_eq_zero h0
  refine wpList_plain hgd fun _ hK => ?_
  have hrun := run_append_zeroI w o.type z oa oc
  have h9 := h z 0 w ⟨by decide, .inr ⟨z, 0, #[], rfl, Nat.le_refl _, hz, by simp⟩⟩ (Below.refl _ _)
  have hx' : a.eval x = .slice oa 0 oc := hx
  unfold Oper.wp
  simp [execOp, ho, resolve, invoke, builtin, hs, hx', hrun, Result.andThen]
  exact hK _ _ h9
 ·obtain ⟨j0, hj0, hy0, hy1, hy2⟩ := info_parts int_info0
  obtain ⟨b0, off0, e0, hb0⟩ := hsl.lt h0
  refine wpList_append_lies w hgd s x 24 ho z 3 j0 (.int .i64 0) 1 8 Tryz.underlying24 hj0 hy0 hy1 hy2 rfl (by decide) _ 0 [] hs ⟨by decide, .inr ⟨z, 0, #[], rfl, Nat.le_refl _, hz, by simp⟩⟩ ⟨b0, off0, none⟩ l.length oc (l.map (Value.int .i64)) (by rw [← e0]; exact hx) (by simp) ?_ ?_ h0 ?_ ?_ (Nat.le_of_lt (blk_lt hz)) w.heap.size rfl ?_
  ·intro j u hu
   have hj : j < l.length := by
    rcases Nat.lt_or_ge j l.length with h9 | h9
    ·exact h9
    ·rw [List.getElem?_eq_none (by simpa using h9)] at hu; cases hu
   obtain ⟨b9, off9, e9, _, hc9⟩ := hsl.2 j hj
   rw [e0] at e9; cases e9
   have := hc9 0 (by omega)
   rw [Nat.mul_one, Nat.add_zero] at this
   have e8 : (⟨b0, off0, none⟩ : Addr).add j = ⟨b0, off0 + j, none⟩ := by unfold Addr.add; split <;> simp_all
   rw [e8, this]
   simpa [intG, List.getD_eq_getElem?_getD, hj] using hu
  ·simp [Value.oneCell']
  ·unfold maxLen; omega
  ·omega
  ·intro g cap w' hown hgr hat _
   simp only [Nat.zero_add, List.nil_append] at hown
   simp only [Nat.zero_add]
   have hc : Chg (fun b => b = z) w w' := (Chg.refl _ w).grown hgr (fun k hk => .inl (by cases hk; rfl))
   exact h g cap w' hown (hc.below (fun k e => Nat.le_of_eq e.symm) (Nat.le_of_lt (blk_lt hz)))
theorem wpList_snoc_int {ops : Array Oper} {rest : List Oper} {o : Oper} {a : Act} {w : World} {Q : Exit → Act → World → Prop} (hgd : o.guard = none) (s x : Operand) (ho : o.op = .call { callee := .builtin .append, args := #[s, x], argTypes := #[24, 24] })
  (z : Nat) (v : Value) (l : List Int) (hl : l.length ≤ 1000000) (hs : a.eval s = v) (hown : w.ownsRow z 3 1 v l.length (l.map (Value.int .i64))) (hz : z ≤ w.heap.size) (b : Nat) (k : Int) (hx : a.eval x = .slice (some ⟨b, 0, none⟩) 1 1) (hb : w.heap[b]? = some (.cells #[.int .i64 k] 3 (0, 0)))
  (h : ∀ (g vc : Nat) (w' : World), w'.ownsRow z 3 1 (.slice (some ⟨g, 0, none⟩) (l ++ [k]).length vc) (l ++ [k]).length ((l ++ [k]).map (Value.int .i64)) → Below z w w' → wpList Tryz.prog ops Q rest (a.put o.dst (.slice (some ⟨g, 0, none⟩) (l ++ [k]).length vc)) w') :
  wpList Tryz.prog ops Q (o :: rest) a w := by
 obtain ⟨j0, hj0, hy0, hy1, hy2⟩ := info_parts int_info0
 refine wpList_append_lies w hgd s x 24 ho z 3 j0 (.int .i64 0) 1 8 Tryz.underlying24 hj0 hy0 hy1 hy2 rfl (by decide) v l.length (l.map (Value.int .i64)) hs hown ⟨b, 0, none⟩ 1 1 [.int .i64 k] hx rfl ?_ ?_ (by decide) ?_ ?_ hz w.heap.size rfl ?_
 ·intro j u hu
  have e8 : (⟨b, 0, none⟩ : Addr).add j = ⟨b, j, none⟩ := addr_add0 b j
  rw [e8, cell_blk hb]
  simpa using hu
 ·simp [Value.oneCell']
 ·unfold maxLen; omega
 ·omega
 ·intro g cap w' hown' hgr hat _
  have hc : Chg (fun b => z ≤ b) w w' := (Chg.refl _ w).grown hgr (fun k hk => .inl (by
   obtain ⟨_, hh⟩ := hown
   rcases hh with ⟨e, _⟩ | ⟨g9, cap9, cur9, e, hb9, _⟩
   ·rw [e] at hk; cases hk
   ·rw [e] at hk; cases hk; exact hb9))
  have e1 : l.length + 1 = (l ++ [k]).length := by simp
  have e2 : l.map (Value.int .i64) ++ [.int .i64 k] = (l ++ [k]).map (Value.int .i64) := by simp
  rw [e1, e2] at hown'
  have := h g cap w' hown' (hc.below (fun k e => e) hz)
  rw [← e1] at this
  exact this
end
end Go.Proofs.YteffgpcjfnjlkaaGreat
