/- The reference's tape: its last tick, what it marks, and what it notes. -/
import Derived.Test.YteffgpcjfnjlkaaGreatK25
import Derived.Test.YteffgpcjfnjlkaaGreatK21
import Derived.BigQuiet
import Derived.Test.YteffgpcjfnjlkaaGreatK32
set_option maxRecDepth 100000
set_option linter.unusedVariables false
set_option linter.unusedSimpArgs false
set_option linter.unnecessarySimpa false
namespace Go.Proofs.YteffgpcjfnjlkaaGreat
section
open Go.RowKit
variable {B : RBase} {w w' : World} {t : TapeP} {r : RWD}
theorem ListsAt.put {Mut : Nat → Prop} {b n p : Nat} {ls : List (List Int)} {v : Value} {l : List Int} (h : ListsAt w Mut b n ls) (hM : Mut b) (hv : Lst w Mut v l) : ListsAt (w.setCell ⟨b, p, none⟩ v) Mut b n (ls.set p l) := by
  obtain ⟨vs, hb, hn, hvs⟩ := h.blk
  have hc : Chg (fun k => k = b) w (w.setCell ⟨b, p, none⟩ v) := (Chg.refl (fun k => k = b) w).setCell (p := ⟨b, p, none⟩) (.inl rfl) _
  have hS : ∀ k, k = b → Mut k := fun k e => by rw [e]; exact hM
  refine ⟨by simpa using h.len, vs.set p v, by rw [blk_set hb]; simp, by simpa using hn, fun i hi => ?_⟩
  by_cases e : p = i
  · subst e
    rw [getD_set_eq (by omega), getD_set_eq (by rw [h.len]; exact hi)]
    exact hv.keep hc hS (MutUp.refl _ _)
  · rw [getD_set_neq e, getD_set_neq e]
    exact (hvs i hi).keep hc hS (MutUp.refl _ _)
theorem RAtL.putMark {v : Value} {l : List Int} (h : RAtL B w t r v l) (p : Nat) : RAt B (w.setCell ⟨B.I.bM, p, none⟩ v) t { r with marks := r.marks.set p l } := by
  obtain ⟨G, K, L, h1, h2, h9⟩ := h
  obtain ⟨PV, LV, KV, ht, hpv, hl, hk⟩ := h1.tape
  obtain ⟨bm, bt⟩ := h1.bm
  have hc : Chg (fun k => k = B.I.bM) w (w.setCell ⟨B.I.bM, p, none⟩ v) := (Chg.refl (fun k => k = B.I.bM) w).setCell (p := ⟨B.I.bM, p, none⟩) (.inl rfl) _
  have hS : ∀ k, k = B.I.bM → RMut B.I G K L k := fun k e => .inl (.inr (.inl e))
  have rto : RTo w _ B.I G K L G K L := ⟨hc.mono (fun _ _ e => .inr (.inl e)), KeepB.refl _ _, KeepB.refl _ _, KeepB.refl _ _⟩
  exact ⟨G, K, L, ⟨⟨PV, LV, KV, ht.chg hc (fun k hk hs => by rw [hs] at hk; exact bm hk), hpv.keep hc hS (MutUp.refl _ _), hl.keep hc hS (MutUp.refl _ _), hk.keep hc hS (MutUp.refl _ _)⟩, h1.marks.put (hS _ rfl) h9, h1.traces.keep hc hS (MutUp.refl _ _) (fun e => h1.sep.1 e.symm), h1.sep, h1.dis, fun b hb => Nat.lt_of_lt_of_le (h1.low b hb) hc.size, h1.at_le, h1.tl, h1.room⟩, h2.trans rto⟩
theorem RAt.world (h : RAt B w t r) : (∃ bW, bW = B.I.bW ∧ w.cell? ⟨B.I.tb, B.I.pre.length, none⟩ = some (.pointer (some ⟨bW, 0, none⟩)) ∧ w.cell? ⟨bW, 7, none⟩ = some (.slice (some ⟨B.I.bM, 0, none⟩) r.marks.length r.marks.length) ∧ w.cell? ⟨bW, 8, none⟩ = some (.slice (some ⟨B.I.bT, 0, none⟩) r.traces.length r.traces.length)) ∧
    (∀ p, p < r.marks.length → (∃ v, w.cell? ⟨B.I.bM, p, none⟩ = some v ∧ RAtL B w t r v (r.marks.getD p [])) ∧ w.frozen? ⟨B.I.bM, p, none⟩ = false) ∧ (∀ p, p < r.traces.length → (∃ v, w.cell? ⟨B.I.bT, p, none⟩ = some v ∧ RAtL B w t r v (r.traces.getD p [])) ∧ w.frozen? ⟨B.I.bT, p, none⟩ = false) := by
  obtain ⟨G, K, L, h1, h2⟩ := h
  obtain ⟨PV, LV, KV, ht, _⟩ := h1.tape
  obtain ⟨ms, hM, hmn, hms⟩ := h1.marks.blk
  obtain ⟨ts, hT, htn, hts⟩ := h1.traces.blk
  obtain ⟨wa, cap, _, hW, _⟩ := ht.mem.blk
  have hW' : w.heap[B.I.bW]? = _ := hW
  have e1 := h1.marks.len
  have e2 := h1.traces.len
  refine ⟨⟨B.I.bW, rfl, ht.cell0, ?_, ?_⟩, fun p hp => ⟨⟨ms.getD p undef, ?_, G, K, L, h1, h2, hms p (by omega)⟩, frozen_blk hM _⟩, fun p hp => ⟨⟨ts.getD p undef, ?_, G, K, L, h1, h2, hts p (by omega)⟩, frozen_blk hT _⟩⟩
  · rw [cell_blk hW', e1]; rfl
  · rw [cell_blk hW', e2]; rfl
  · rw [cell_blk hM]; simp [List.getD_eq_getElem?_getD, show p < ms.length by omega]
  · rw [cell_blk hT]; simp [List.getD_eq_getElem?_getD, show p < ts.length by omega]
theorem RAt.lists (h : RAt B w t r) : (∃ gc ga, w.cell? ⟨B.I.tb, B.I.pre.length + 3, none⟩ = some (.slice ga t.got.length gc)) ∧ (∃ ka kc, w.cell? ⟨B.I.tb, B.I.pre.length + 4, none⟩ = some (.slice ka t.ticks.length kc) ∧ ∀ i, i < t.ticks.length → ∃ b o, ka = some ⟨b, o, none⟩ ∧ w.cell? ⟨b, o + i, none⟩ = some (.int .i64 (t.ticks.getD i 0))) ∧ t.at_ ≤ t.got.length ∧ t.ticks.length = t.got.length ∧ t.got.length ≤ 100000000 := by
  obtain ⟨G, K, L, h1, h2⟩ := h
  obtain ⟨PV, LV, KV, ht, _⟩ := h1.tape
  have hgl : t.got.length ≤ 100000000 := ht.glen
  obtain ⟨ga, gc, rfl⟩ := row_form ht.got
  obtain ⟨ka, kc, rfl⟩ := row_form ht.ticks
  have htl := h1.tl
  refine ⟨⟨gc, ga, ht.cell (i := 3) (by omega)⟩, ⟨ka, kc, ht.cell (i := 4) (by omega), fun i hi => ?_⟩, h1.at_le, htl, hgl⟩
  have hkr : w.ownsRow 0 3 1 (.slice ka t.ticks.length kc) t.ticks.length (t.ticks.map intV) := ht.ticks
  obtain ⟨hsl, _⟩ := row_sl hkr (by unfold maxLen; omega) (g := intG t.ticks) (fun j hj => by simp [intG, intV, List.getD_eq_getElem?_getD, hj])
  obtain ⟨b, o, rfl, _, hc⟩ := hsl.2 i hi
  have := hc 0 (by omega)
  rw [Nat.mul_one, Nat.add_zero] at this
  exact ⟨b, o, rfl, this⟩
theorem last_r (h : RAt B w t r) : Calls Tryz.prog 107 #[.pointer (some ⟨B.I.tb, B.I.pre.length, none⟩)] w fun e w' => e = .returned (.int .i64 (lastP t)) ∧ Below w.heap.size w w' := by
  have c5 := h.cAt
  have c2 := h.cInv
  obtain ⟨_, ⟨ka, kc, c4, hk⟩, h1, h2, h3⟩ := h.lists
  obtain ⟨l, hl⟩ : ∃ l, l = lastP t := ⟨_, rfl⟩
  rw [← hl]
  by_cases h0 : t.at_ = 0
  · have hl' : l = (t.inv : Int) := by rw [hl]; unfold lastP; rw [if_pos h0]
    subst hl'
    rw [h0] at c5
    clear hl hk c4 h1 h2 h3 h h0
    go_enter Tryz.func107, Tryz.ntmps107
    go_wp2
    go_ret
    exact ⟨rfl, Gr.refl _⟩
  · have hl' : l = t.ticks.getD (t.at_ - 1) 0 := by rw [hl]; unfold lastP; rw [if_neg h0]
    obtain ⟨b, o, rfl, hc⟩ := hk (t.at_ - 1) (by omega)
    rw [← hl'] at hc
    obtain ⟨n, hn⟩ : ∃ n, n = t.ticks.length := ⟨_, rfl⟩
    obtain ⟨a, ha⟩ : ∃ a, a = t.at_ - 1 := ⟨_, rfl⟩
    have ha1 : t.at_ = a + 1 := by omega
    rw [← hn] at c4
    rw [← ha] at hc
    rw [ha1] at c5
    have c5' : w.cell? ⟨B.I.tb, B.I.pre.length + 5, none⟩ = some (.int .i64 ((a : Int) + 1)) := c5
    have l1 : (a : Int) < (n : Int) := by omega
    have l2 : ¬ ((a : Int) + 1) = 0 := by omega
    have l3 : (((a : Int) + 1) == 0) = false := by simp; omega
    have l4 : IntKind.i64.wrap ((a : Int) + 1 - 1) = (a : Int) := by rw [IntKind.wrap_i64]; omega
    have l5 : IntKind.i64.wrap (a : Int) = (a : Int) := by rw [IntKind.wrap_i64]; omega
    have l6 : ¬ (a : Int) < 0 := by omega
    have C5 := grown_cell c5'; have C4 := grown_cell c4; have HC := grown_cell hc
    clear hl hl' hk c4 h1 h2 h3 h h0 c5 hc ha hn ha1 c2
    go_enter Tryz.func107, Tryz.ntmps107
    go_upto_region 3 with fail
    ((with_reducible refine wp_region_grown_lit (by kernel_rfl) (by kernel_rfl) ?_); (repeat ((with_reducible refine wpQuiet_step (fun K hK => ?_)); go_simp; first | ((with_reducible refine hK _ ?_); clear hK K) | ((with_reducible apply Exists.intro); (with_reducible refine ⟨fun _ => ?_, hK _ ?_⟩); (fail); clear hK K))); (with_reducible refine wpQuiet_nil ?_); intro _ hw'; obtain ⟨nq, hw''⟩ := hw'; subst hw'')
    have hb := nq.below
    go_wp2
    go_ret
    exact ⟨rfl, hb⟩
end
section

/- The reference's tape: what it marks, and what it notes. -/
open Go.RowKit
variable {B : RBase} {w w' : World} {t : TapeP} {r : RWD}
theorem just_r (h : RAt B w t r) : Calls Tryz.prog 131 #[.pointer (some ⟨B.I.tb, B.I.pre.length, none⟩)] w fun e w' => e = .returned (.bool (justP t)) ∧ Below w.heap.size w w' := by
  have c5 := h.cAt
  have c6 := h.cFresh
  have c7 := h.cHalt
  obtain ⟨⟨gc, ga, c3⟩, _, h1, h2, h3⟩ := h.lists
  obtain ⟨b, hb⟩ : ∃ b, b = justP t := ⟨_, rfl⟩
  rw [← hb]
  obtain ⟨hh, hhe⟩ : ∃ hh, hh = t.halt := ⟨_, rfl⟩
  obtain ⟨ff, hfe⟩ : ∃ ff, ff = t.fresh := ⟨_, rfl⟩
  obtain ⟨a, hae⟩ : ∃ a, a = t.at_ := ⟨_, rfl⟩
  obtain ⟨n, hne⟩ : ∃ n, n = t.got.length := ⟨_, rfl⟩
  have hb2 : b = (!hh && !ff && decide (a = n) && decide (0 < a)) := by rw [hb, hhe, hfe, hae, hne]; rfl
  rw [← hhe] at c7; rw [← hfe] at c6; rw [← hae] at c5; rw [← hne] at c3
  have C3 := grown_cell c3; have C5 := grown_cell c5; have C6 := grown_cell c6; have C7 := grown_cell c7
  clear hb hhe hfe hae hne c3 c5 c6 c7 h h1 h2 h3
  cases hh with
  | true =>
    obtain rfl : b = false := hb2
    go_enter Tryz.func131, Tryz.ntmps131
    go_upto_region 1 with fail
    ((with_reducible refine wp_region_grown_lit (by kernel_rfl) (by kernel_rfl) ?_); (repeat (first | go_big_quiet_skip | (go_big_quiet_want; go_big_quiet_op; first | go_big_quiet_on | ((with_reducible apply Exists.intro); (with_reducible refine ⟨fun _ => ?_, ?_⟩); (fail); go_big_quiet_on)) | ((with_reducible refine wpQuiet_step (fun K hK => ?_)); go_simp; first | ((with_reducible refine hK _ ?_); clear hK K) | ((with_reducible apply Exists.intro); (with_reducible refine ⟨fun _ => ?_, hK _ ?_⟩); (fail); clear hK K)))); (with_reducible refine wpQuiet_nil ?_); intro _ hw'; obtain ⟨nq, hw''⟩ := hw'; subst hw'')
    have hb := nq.below
    go_wp2
    go_ret
    exact ⟨rfl, hb⟩
  | false =>
    cases ff with
    | true =>
      obtain rfl : b = false := hb2
      go_enter Tryz.func131, Tryz.ntmps131
      go_upto_region 1 with fail
      ((with_reducible refine wp_region_grown_lit (by kernel_rfl) (by kernel_rfl) ?_); (repeat (first | go_big_quiet_skip | (go_big_quiet_want; go_big_quiet_op; first | go_big_quiet_on | ((with_reducible apply Exists.intro); (with_reducible refine ⟨fun _ => ?_, ?_⟩); (fail); go_big_quiet_on)) | ((with_reducible refine wpQuiet_step (fun K hK => ?_)); go_simp; first | ((with_reducible refine hK _ ?_); clear hK K) | ((with_reducible apply Exists.intro); (with_reducible refine ⟨fun _ => ?_, hK _ ?_⟩); (fail); clear hK K)))); (with_reducible refine wpQuiet_nil ?_); intro _ hw'; obtain ⟨nq, hw''⟩ := hw'; subst hw'')
      have hb := nq.below
      go_wp2
      go_ret
      exact ⟨rfl, hb⟩
    | false =>
      by_cases hn : a = n
      · subst hn
        have le : ((a : Int) == (a : Int)) = true := by simp
        by_cases h0 : 0 < a
        · obtain rfl : b = true := by rw [hb2]; simp [h0]
          have l0 : decide ((0 : Int) < (a : Int)) = true := by simp; omega
          have l1 : (0 : Int) < (a : Int) := by omega
          clear hb2
          go_enter Tryz.func131, Tryz.ntmps131
          go_upto_region 1 with fail
          ((with_reducible refine wp_region_grown_lit (by kernel_rfl) (by kernel_rfl) ?_); (repeat (first | go_big_quiet_skip | (go_big_quiet_want; go_big_quiet_op; first | go_big_quiet_on | ((with_reducible apply Exists.intro); (with_reducible refine ⟨fun _ => ?_, ?_⟩); (fail); go_big_quiet_on)) | ((with_reducible refine wpQuiet_step (fun K hK => ?_)); go_simp; first | ((with_reducible refine hK _ ?_); clear hK K) | ((with_reducible apply Exists.intro); (with_reducible refine ⟨fun _ => ?_, hK _ ?_⟩); (fail); clear hK K)))); (with_reducible refine wpQuiet_nil ?_); intro _ hw'; obtain ⟨nq, hw''⟩ := hw'; subst hw'')
          have hb := nq.below
          go_wp2
          go_ret
          exact ⟨rfl, hb⟩
        · obtain rfl : a = 0 := by omega
          obtain rfl : b = false := by rw [hb2]; simp
          clear hb2 h0
          go_enter Tryz.func131, Tryz.ntmps131
          go_upto_region 1 with fail
          ((with_reducible refine wp_region_grown_lit (by kernel_rfl) (by kernel_rfl) ?_); (repeat (first | go_big_quiet_skip | (go_big_quiet_want; go_big_quiet_op; first | go_big_quiet_on | ((with_reducible apply Exists.intro); (with_reducible refine ⟨fun _ => ?_, ?_⟩); (fail); go_big_quiet_on)) | ((with_reducible refine wpQuiet_step (fun K hK => ?_)); go_simp; first | ((with_reducible refine hK _ ?_); clear hK K) | ((with_reducible apply Exists.intro); (with_reducible refine ⟨fun _ => ?_, hK _ ?_⟩); (fail); clear hK K)))); (with_reducible refine wpQuiet_nil ?_); intro _ hw'; obtain ⟨nq, hw''⟩ := hw'; subst hw'')
          have hb := nq.below
          go_wp2
          go_ret
          exact ⟨rfl, hb⟩
      · obtain rfl : b = false := by rw [hb2]; simp [hn]
        have le : ((a : Int) == (n : Int)) = false := by simp; omega
        have le2 : ¬ (a : Int) = (n : Int) := by omega
        clear hb2 hn
        go_enter Tryz.func131, Tryz.ntmps131
        go_upto_region 1 with fail
        ((with_reducible refine wp_region_grown_lit (by kernel_rfl) (by kernel_rfl) ?_); (repeat (first | go_big_quiet_skip | (go_big_quiet_want; go_big_quiet_op; first | go_big_quiet_on | ((with_reducible apply Exists.intro); (with_reducible refine ⟨fun _ => ?_, ?_⟩); (fail); go_big_quiet_on)) | ((with_reducible refine wpQuiet_step (fun K hK => ?_)); go_simp; first | ((with_reducible refine hK _ ?_); clear hK K) | ((with_reducible apply Exists.intro); (with_reducible refine ⟨fun _ => ?_, hK _ ?_⟩); (fail); clear hK K)))); (with_reducible refine wpQuiet_nil ?_); intro _ hw'; obtain ⟨nq, hw''⟩ := hw'; subst hw'')
        have hb := nq.below
        go_wp2
        go_ret
        exact ⟨rfl, hb⟩
theorem markP_of (p : Nat) (l : List Int) (hp : p < r.marks.length) : markP (p : Int) l t r = if justP t = true then { r with marks := r.marks.set p l } else r := by
  unfold markP
  by_cases h : justP t = true
  · rw [if_pos h, if_pos ⟨h, by omega, by omega⟩]; rfl
  · rw [if_neg h, if_neg (fun x => h x.1)]
set_option maxHeartbeats 1000000 in
theorem mark_r {v : Value} {l : List Int} (h : RAtL B w t r v l) (p : Nat) (hp : p < r.marks.length) (hn : r.marks.length ≤ 1000000) : Calls Tryz.prog 106 #[.pointer (some ⟨B.I.tb, B.I.pre.length, none⟩), .int .i64 (p : Int), v] w fun e w' => e = .returned (.tuple #[]) ∧ RAt B w' t (markP (p : Int) l t r) := by
  rw [markP_of p l hp]
  obtain ⟨va, vc, rfl⟩ : ∃ a c, v = .slice a l.length c := by obtain ⟨_, _, _, _, _, a, c, e, _⟩ := h; exact ⟨a, c, e⟩
  obtain ⟨vn, hvn⟩ : ∃ vn, vn = l.length := ⟨_, rfl⟩
  rw [← hvn] at h ⊢
  clear hvn
  have JC := just_r h.at
  obtain ⟨n, hne⟩ : ∃ n, n = r.marks.length := ⟨_, rfl⟩
  have hp0 := hp
  have hp' : p < n := by omega
  have l1 : (p : Int) < (n : Int) := by omega
  have l2 : ¬ (p : Int) < 0 := by omega
  have l3 : IntKind.i64.wrap (p : Int) = (p : Int) := by rw [IntKind.wrap_i64]; omega
  have l4 : (0 : Int) ≤ (p : Int) := by omega
  cases hj : justP t with
  | false =>
    rw [hj] at JC
    have HJ := Lib.hid JC; have HH := Lib.hid h
    rw [if_neg (by exact Bool.false_ne_true)]
    clear JC h hj hne hp hp0
    go_enter Tryz.func106, Tryz.ntmps106
    go_wp2_with (go_at_call 131; refine (HJ.out).mono ?_; rintro e w1 ⟨rfl, hb⟩)
    (first | go_end0 | ((try simp only [Exit.inBlock, Exit.then]); refine bodyPost_ret (results_none rfl _ _ _) rfl ?_))
    exact ⟨rfl, HH.out.at.grown hb⟩
  | true =>
    rw [hj] at JC
    have keep : ∀ u, Below w.heap.size w u → ∃ bW x, u.cell? ⟨B.I.tb, B.I.pre.length, none⟩ = some (.pointer (some ⟨bW, 0, none⟩)) ∧ u.cell? ⟨bW, 7, none⟩ = some (.slice (some ⟨B.I.bM, 0, none⟩) n n) ∧ u.cell? ⟨B.I.bM, p, none⟩ = some x ∧ u.frozen? ⟨B.I.bM, p, none⟩ = false ∧ RAt B (u.setCell ⟨B.I.bM, p, none⟩ (.slice va vn vc)) t { r with marks := r.marks.set p l } := fun u hu => by
      have h9 := h.grown hu
      obtain ⟨⟨bW, _, g1, g2, _⟩, g3, _⟩ := h9.at.world
      obtain ⟨⟨x, g4, _⟩, g5⟩ := g3 p hp0
      exact ⟨bW, x, g1, by rw [g2, hne], g4, g5, h9.putMark p⟩
    have HJ := Lib.hid JC; have HK := Lib.hid keep
    rw [if_pos rfl]
    clear JC h hj hne keep hp hp0
    go_enter Tryz.func106, Tryz.ntmps106
    go_wp2_with (go_at_call 131; refine HJ.out.mono ?_; rintro e w1 ⟨rfl, hb⟩; obtain ⟨bW, x, g1, g2, g4, g5, g6⟩ := HK.out w1 hb)
    (first | go_end0 | ((try simp only [Exit.inBlock, Exit.then]); refine bodyPost_ret (results_none rfl _ _ _) rfl ?_))
    exact ⟨rfl, g6⟩
end
section

/- The reference's Do at each kind of object. -/
open Go.RowKit
theorem do_boxes (w : World) (kd sP sQ th kn : Int) (xa xb xc : Nat) : ∃ wb, wb = (w.alloc (.cells #[.int .i64 kd, .int .i64 sP, .int .i64 sQ] 39)).alloc (.cells #[.int .i64 th, .int .i64 0, .int .i64 kn, .int .u64 (xa : Int), .int .u64 (xb : Int), .int .u64 (xc : Int)] 48) ∧ Below w.heap.size w wb ∧
    wb.heap[w.heap.size]? = some (.cells #[.int .i64 kd, .int .i64 sP, .int .i64 sQ] 39 (0, 0)) ∧ wb.heap[w.heap.size + 1]? = some (.cells #[.int .i64 th, .int .i64 0, .int .i64 kn, .int .u64 (xa : Int), .int .u64 (xb : Int), .int .u64 (xc : Int)] 48 (0, 0)) := by
  refine ⟨_, rfl, Gr.alloc (Gr.new _ _) _, ?_, ?_⟩
  · rw [Below.heap_alloc _ _ _ (by simp)]; exact heap_alloc_new _ _
  · have := heap_alloc_new (w.alloc (.cells #[.int .i64 kd, .int .i64 sP, .int .i64 sQ] 39)) (.cells #[.int .i64 th, .int .i64 0, .int .i64 kn, .int .u64 (xa : Int), .int .u64 (xb : Int), .int .u64 (xc : Int)] 48 (0, 0))
    simp only [World.size_alloc] at this
    exact this
set_option maxHeartbeats 4000000 in
theorem do_cons {B : RBase} {w : World} {t : TapeP} {r : RWD} (P : World → Prop) (n : Nat) (sP sQ th kn : Int) (xa xb xc : Nat) (h : RAt B w t r) (FC : ∀ u, RAt B u t r → Calls Tryz.prog 79 #[.pointer (some ⟨B.I.tb, B.I.pre.length, none⟩), .int .i64 0, .agg #[.int .i64 th, .int .i64 0, .int .i64 kn, .int .u64 (xa : Int), .int .u64 (xb : Int), .int .u64 (xc : Int)]] u fun e u' => e = .returned (.tuple #[]) ∧ P u') :
    Calls Tryz.prog 70 #[.pointer (some ⟨B.I.tb, B.I.pre.length, none⟩), .int .i64 (n : Int), .int .i64 0, .agg #[.int .i64 1, .int .i64 sP, .int .i64 sQ], .agg #[.int .i64 th, .int .i64 0, .int .i64 kn, .int .u64 (xa : Int), .int .u64 (xb : Int), .int .u64 (xc : Int)]] w fun e u' => e = .returned (.tuple #[]) ∧ P u' := by
  obtain ⟨wb, hwb, hg, hS, hC⟩ := do_boxes w 1 sP sQ th kn xa xb xc
  have HC := Lib.hid (FC wb (h.grown hg)); have Hwb := Lib.hid hwb
  clear FC h hg hwb
  have s0 : wb.cell? ⟨w.heap.size, 0, none⟩ = some (.int .i64 1) := by rw [cell_blk hS]; rfl
  have s1 : wb.cell? ⟨w.heap.size, 1, none⟩ = some (.int .i64 sP) := by rw [cell_blk hS]; rfl
  have s2 : wb.cell? ⟨w.heap.size, 2, none⟩ = some (.int .i64 sQ) := by rw [cell_blk hS]; rfl
  have y0 : wb.cell? ⟨w.heap.size + 1, 0, none⟩ = some (.int .i64 th) := by rw [cell_blk hC]; rfl
  have y1 : wb.cell? ⟨w.heap.size + 1, 1, none⟩ = some (.int .i64 0) := by rw [cell_blk hC]; rfl
  have y2 : wb.cell? ⟨w.heap.size + 1, 2, none⟩ = some (.int .i64 kn) := by rw [cell_blk hC]; rfl
  have y3 : wb.cell? ⟨w.heap.size + 1, 3, none⟩ = some (.int .u64 (xa : Int)) := by rw [cell_blk hC]; rfl
  have y4 : wb.cell? ⟨w.heap.size + 1, 4, none⟩ = some (.int .u64 (xb : Int)) := by rw [cell_blk hC]; rfl
  have y5 : wb.cell? ⟨w.heap.size + 1, 5, none⟩ = some (.int .u64 (xc : Int)) := by rw [cell_blk hC]; rfl
  clear hS hC
  go_enter Tryz.func70, Tryz.ntmps70
  go_upto_region 1 with fail
  rw [← Hwb.out]
  go_wp2_with (go_at_call 79; refine HC.out.mono ?_; rintro e w2 ⟨rfl, h2⟩)
  (first | go_end0 | ((try simp only [Exit.inBlock, Exit.then]); refine bodyPost_ret (results_none rfl _ _ _) rfl ?_))
  exact ⟨rfl, h2⟩
end
section

/- The key of an operation that has not responded: its mark: roundelayplain.Late, but for a max register. -/
open Go.RowKit
set_option maxHeartbeats 4000000 in
theorem late_marks (kd P Q : Int) (n : Nat) (hk : kd ≠ 4) : LateC kd P Q n (fun _ p _ r => r.marks.getD p []) := by
  intro B u c t r h hok hob hp hinv hgot htk hml hA
  obtain ⟨wb, hwb, hg, hS, hC⟩ := do_boxes u kd P Q c.thread c.kind c.a c.b c.c
  have hA2 := hA.grown hg
  obtain ⟨G, K, L, h1, h2⟩ := id hA2
  obtain ⟨PV, LV, KV, ht, _⟩ := h1.tape
  obtain ⟨ms, hM, hmn, hms⟩ := h1.marks.blk
  have hnM : B.I.nM = n := by rw [← hml]; exact h1.marks.len.symm
  have hpm : t.thread < B.I.nM := by rw [hnM]; exact hp
  have hfin : RAtL B wb t r (ms.getD t.thread undef) (r.marks.getD t.thread []) := ⟨G, K, L, h1, h2, hms _ hpm⟩
  obtain ⟨wa, cap, _, hW, _⟩ := ht.mem.blk
  have d0 : wb.cell? ⟨B.I.tb, B.I.pre.length, none⟩ = some (.pointer (some ⟨B.I.bW, 0, none⟩)) := ht.cell0
  have d1 := hA2.cThread
  have d7 : wb.cell? ⟨B.I.bW, 7, none⟩ = some (.slice (some ⟨B.I.bM, 0, none⟩) B.I.nM B.I.nM) := by
    have hW' : wb.heap[B.I.bW]? = _ := hW
    rw [cell_blk hW']; rfl
  have dm : wb.cell? ⟨B.I.bM, t.thread, none⟩ = some (ms.getD t.thread undef) := by
    rw [cell_blk hM]
    simp [List.getD_eq_getElem?_getD, show t.thread < ms.length by omega]
  obtain ⟨mv, hmv⟩ : ∃ mv, mv = ms.getD t.thread undef := ⟨_, rfl⟩
  rw [← hmv] at dm hfin
  obtain ⟨p, hpp⟩ : ∃ p, p = t.thread := ⟨_, rfl⟩
  rw [← hpp] at d1 dm hpm
  have s0 : wb.cell? ⟨u.heap.size, 0, none⟩ = some (.int .i64 kd) := by rw [cell_blk hS]; rfl
  have l1 : (p : Int) < (B.I.nM : Int) := by omega
  have l2 : ¬ (p : Int) < 0 := by omega
  have lk : (kd == 4) = false := by simpa using hk
  have D0 := grown_cell d0; have D1 := grown_cell d1; have D7 := grown_cell d7; have DM := grown_cell dm
  have HF := Lib.hid hfin; have Hwb := Lib.hid hwb
  clear hA hA2 h1 h2 ht hM hms hW hfin hmv hpp hS hC hg hwb d0 d1 d7 dm hinv hgot htk hml hnM hmn hp hok
  suffices main : Calls Tryz.prog 58 #[.pointer (some ⟨B.I.tb, B.I.pre.length, none⟩), .int .i64 (n : Int), .int .i64 0, specV kd P Q, callW c] u fun e u' => e = .returned mv ∧ RAtL B u' t r mv (r.marks.getD t.thread []) by
    refine Calls.mono main ?_
    rintro e u' ⟨h1, h2⟩
    exact ⟨mv, t, h1, h2, rfl, rfl, rfl, rfl⟩
  unfold specV callW
  rw [hob]
  clear hob
  go_enter Tryz.func58, Tryz.ntmps58
  go_upto_region 1 with fail
  rw [← Hwb.out]
  go_upto_region 3 with fail
  ((with_reducible refine wp_region_grown_lit (by kernel_rfl) (by kernel_rfl) ?_); (repeat ((with_reducible refine wpQuiet_step (fun K hK => ?_)); go_simp; first | ((with_reducible refine hK _ ?_); clear hK K) | ((with_reducible apply Exists.intro); (with_reducible refine ⟨fun _ => ?_, hK _ ?_⟩); (fail); clear hK K))); (with_reducible refine wpQuiet_nil ?_); intro _ hw'; obtain ⟨nq, hw''⟩ := hw'; subst hw'')
  have hb := nq.below
  have HG := Lib.hid (HF.out.grown hb)
  clear hb
  go_wp2
  go_ret
  exact ⟨rfl, HG.out⟩
end
end Go.Proofs.YteffgpcjfnjlkaaGreat
