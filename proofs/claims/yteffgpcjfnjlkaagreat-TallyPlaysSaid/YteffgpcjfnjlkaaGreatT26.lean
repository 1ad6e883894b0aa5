/- A reference's play under way: what an event that has responded says. -/
import Derived.Test.YteffgpcjfnjlkaaGreatT20
import Derived.Test.YteffgpcjfnjlkaaGreatT25
import Derived.Test.YteffgpcjfnjlkaaGreatT24
import Derived.Test.YteffgpcjfnjlkaaGreatT23
import Derived.Test.YteffgpcjfnjlkaaGreatT16
import Derived.Deep.CutRange
set_option maxRecDepth 100000
set_option linter.unusedVariables false
set_option linter.unusedSimpArgs false
set_option linter.unnecessarySimpa false
namespace Go.Proofs.YteffgpcjfnjlkaaGreat
section
open Go.RowKit
variable {w0 w w' : World} {J : RJ} {s s' : RefS} {hl hl' : List Value} {vs vs' : List HV} {G K L : Value} {ea ea' : Option Addr} {ec ec' : Nat} {ers ers' : List (Value × Value)} {p : Nat} {t : TapeP} {r : RWD}
theorem LogM.hand16 (h : LogM w0 w J p s hl vs G K L ea ec ers t r) : ∃ x0 x1 x15 PV LV KV, w.heap[J.bH]? = some (.cells (hl.take (16 * p) ++ ([x0, x1, .pointer (some ⟨J.bW, 0, none⟩), .int .i64 (p : Int), .int .i64 (t.inv : Int), G, K, .int .i64 (t.at_ : Int), .bool t.fresh, .bool t.halt, PV, .int .i64 t.err, .int .u64 (t.val : Int), LV, KV, x15] ++ hl.drop (16 * p + 16))).toArray 113 (0, 0)) ∧
  LstU w (RMut (rids J p hl vs (.slice ea s.evs.length ec)) G K L) PV t.priv ∧ LstU w (RMut (rids J p hl vs (.slice ea s.evs.length ec)) G K L) LV t.list ∧ Lst w (RMut (rids J p hl vs (.slice ea s.evs.length ec)) G K L) KV t.key ∧ (∀ i v, (tapeL J.bW G K (t.raw PV LV KV))[i]? = some v → i < 13 → w.cell? ⟨J.bH, 16 * p + 2 + i, none⟩ = some v) := by
 obtain ⟨PV, LV, KV, ht, h1, h2, h3⟩ := h.tape.tape
 have hlen := h.rest.lens.1
 have hp := h.hp
 have hb := ht.blk
 have e1 : (rids J p hl vs (.slice ea s.evs.length ec)).tids.pre = hl.take (16 * p) ++ [hl[16 * p]'(by omega), hl[16 * p + 1]'(by omega)] := by
  show hl.take (16 * p + 2) = _
  rw [List.take_succ_eq_append_getElem (i := 16 * p + 1) (by omega), List.take_succ_eq_append_getElem (by omega), List.append_assoc]; rfl
 have e2 : (rids J p hl vs (.slice ea s.evs.length ec)).tids.post = hl[16 * p + 15]'(by omega) :: hl.drop (16 * p + 16) := by
  show hl.drop (16 * p + 15) = _
  rw [List.drop_eq_getElem_cons (by omega)]
 refine ⟨hl[16 * p]'(by omega), hl[16 * p + 1]'(by omega), hl[16 * p + 15]'(by omega), PV, LV, KV, ?_, h1, h2, h3, fun i v hv hi => ?_⟩
 ·rw [e1, e2, List.append_assoc] at hb
  have e3 : tapeL (rids J p hl vs (.slice ea s.evs.length ec)).tids.bW G K (t.raw PV LV KV) = [.pointer (some ⟨J.bW, 0, none⟩), .int .i64 (p : Int), .int .i64 (t.inv : Int), G, K, .int .i64 (t.at_ : Int), .bool t.fresh, .bool t.halt, PV, .int .i64 t.err, .int .u64 (t.val : Int), LV, KV] := by
   have := h.thr
   unfold tapeL TapeP.raw
   rw [this]; rfl
  rw [e3] at hb
  exact hb
 ·have hpre : (rids J p hl vs (.slice ea s.evs.length ec)).tids.pre.length = 16 * p + 2 := by show (hl.take (16 * p + 2)).length = _; simp; omega
  have := ht.cell (i := i) hi
  rw [hpre] at this
  exact this.trans hv
set_option maxHeartbeats 1000000 in
theorem done_r (h : LogM w0 w J p s hl vs G K L ea ec ers t r) (e : EvD) (v : Value × Value) (hv1 : ∃ a n c, v.1 = .slice a n c) (hv2 : ∃ a n c, v.2 = .slice a n c) (hn : J.nt ≤ 16) (hnow : r.now ≤ 1000000) (A : Nat) (hA : A = 16 * p) :
  Calls Tryz.prog 57 #[.pointer (some ⟨J.bH, A, none⟩), .agg (evCells e v).toArray] w fun x w' => ∃ la lc kv, x = .returned (.agg (evCells (rdone r p t e) (.slice la t.list.length lc, kv)).toArray) ∧ LstU w' (RMut (rids J p hl vs (.slice ea s.evs.length ec)) G K L) (.slice la t.list.length lc) t.list ∧ Lst w' (RMut (rids J p hl vs (.slice ea s.evs.length ec)) G K L) kv (rkey r p t.key) ∧ Below w.heap.size w w' := by
 obtain ⟨x0, x1, x15, PV, LV, KV, hH, hPV, hLV, hKV, _⟩ := h.hand16
 obtain ⟨v1, v2⟩ := v
 obtain ⟨a0, n0, k0, rfl⟩ := hv1
 obtain ⟨a1, n1, k1, rfl⟩ := hv2
 have hp := h.hp
 have hpre : (hl.take (16 * p)).length = A := by rw [hA]; have := h.rest.lens.1; simp; omega
 obtain ⟨ms, hM, hml, hms⟩ := h.tape.marks.blk
 have hml' : ms.length = J.nt := hml
 have hMp : ms[p]? = some (ms.getD p undef) := by rw [List.getD_eq_getElem?_getD, List.getElem?_eq_getElem (by omega)]; rfl
 have hmp := hms p hp
 obtain ⟨PV9, LV9, KV9, ht9, _⟩ := h.tape.tape
 obtain ⟨wa, cap, _, hW, _⟩ := ht9.mem.blk
 have c6 : w.cell? ⟨J.bW, 6, none⟩ = some (.int .i64 (r.now : Int)) := by
  have hW' : w.heap[J.bW]? = _ := hW
  rw [cell_blk hW']; rfl
 have c7 : w.cell? ⟨J.bW, 7, none⟩ = some (.slice (some ⟨J.bM, 0, none⟩) J.nt J.nt) := by
  have hW' : w.heap[J.bW]? = _ := hW
  rw [cell_blk hW']; rfl
 have hlow := h.tape.mutlow
 have hX := hLV
 obtain ⟨la, lc, rfl, hls, hlm⟩ := hX
 have keepU : ∀ w', Below w.heap.size w w' → LstU w' (RMut (rids J p hl vs (.slice ea s.evs.length ec)) G K L) (.slice la t.list.length lc) t.list := fun w' hb => hLV.keep (S := noB) (Chg.of_below hb) (fun _ h => h.elim) (MutUp.refl _ _)
 have hml9 : ∀ {x : List Int} {a : Option Addr} {c : Nat}, SlAt w a x.length 1 (intG x) → x.length ≤ 9223372036854775807 := fun hs => by have := hs.1; unfold maxLen at this; omega
 by_cases hk : t.key = []
 ·have hK0 : KV = .slice none 0 0 := by obtain ⟨a, c, h1, h2, _⟩ := hKV; exact h2 hk
  subst hK0
  by_cases hm : r.marks.getD p [] = []
  ·have hM0 : ms.getD p undef = .slice none 0 0 := by obtain ⟨a, c, h1, h2, _⟩ := hmp; exact h2 hm
   rw [hM0] at hMp
   have C := done_tick w J.bH J.bW J.bM J.nt p r.now J.nt e.call e.inv e.steps t.val e.ans.val e.resp n0 k0 n1 k1 t.list.length lc t.err e.ans.err a0 a1 la (hl.take (16 * p)) (hl.drop (16 * p + 16)) ms x0 x1 _ _ _ _ _ _ _ x15 hH hM hMp hp hn hnow c6 c7
   rw [hpre] at C
   refine C.mono ?_
   rintro x w' ⟨kb, rfl, hkb, hkc, hb⟩
   refine ⟨la, lc, .slice (some ⟨kb, 0, none⟩) 1 1, ?_, keepU w' hb, ?_, hb⟩
   ·rfl
   ·unfold rkey
    rw [if_pos hk, if_pos hm]
    refine ⟨_, _, rfl, fun e => by (cases e), ⟨by unfold maxLen; simp, fun j hj => ⟨kb, 0, rfl, blk_lt hkc, fun f hf => ?_⟩⟩, fun b off e hb9 => ?_⟩
    ·obtain rfl : j = 0 := by simpa using hj
     obtain rfl : f = 0 := by omega
     rw [cell_blk hkc]; rfl
    ·cases e; have := hlow _ hb9; omega
  ·obtain ⟨ma, mk, hMV, hMn, hMs, hMm⟩ := id hmp
   rw [hMV] at hMp
   have C := done_mark w J.bH J.bW J.bM J.nt p r.now J.nt e.call e.inv e.steps t.val e.ans.val e.resp n0 k0 n1 k1 t.list.length lc (r.marks.getD p []).length mk t.err e.ans.err a0 a1 la ma (hl.take (16 * p)) (hl.drop (16 * p + 16)) ms x0 x1 _ _ _ _ _ _ _ x15 hH hM hMp hp hn hnow (List.length_pos_iff.2 hm) (hml9 (c := mk) hMs) c6 c7
   rw [hpre] at C
   refine C.mono ?_
   rintro x w' ⟨rfl, hb⟩
   refine ⟨la, lc, .slice ma (r.marks.getD p []).length mk, rfl, keepU w' hb, ?_, hb⟩
   unfold rkey
   rw [if_pos hk, if_neg hm, ← hMV]
   exact hmp.keep (S := noB) (Chg.of_below hb) (fun _ h => h.elim) (MutUp.refl _ _)
 ·obtain ⟨ka, kc, rfl, hKn, hKs, hKm⟩ := id hKV
  have C := done_key w J.bH J.bW J.bM J.nt p r.now J.nt e.call e.inv e.steps t.val e.ans.val e.resp n0 k0 n1 k1 t.list.length lc t.key.length kc t.err e.ans.err a0 a1 la ka (ms.getD p undef) (hl.take (16 * p)) (hl.drop (16 * p + 16)) ms x0 x1 _ _ _ _ _ _ _ x15 hH hM hMp hp hn hnow (List.length_pos_iff.2 hk) (hml9 (c := kc) hKs) c6 c7
  rw [hpre] at C
  refine C.mono ?_
  rintro x w' ⟨rfl, hb⟩
  refine ⟨la, lc, .slice ka t.key.length kc, rfl, keepU w' hb, ?_, hb⟩
  unfold rkey
  rw [if_neg hk]
  exact hKV.keep (S := noB) (Chg.of_below hb) (fun _ h => h.elim) (MutUp.refl _ _)
end
section

/- A reference's play: how it begins. -/
open Go.RowKit
theorem step_make_any {ops : Array Oper} {o : Oper} {a : Act} {w : World} {K : Act → World → Prop} {Q : Exit → Act → World → Prop} {E : Prop} (hgd : o.guard = none) (t : TypeId) (x y : Operand) (ho : o.op = .makeSlice t x y) (n : Nat) (e : TypeId) (cs : Array Value)
  (hrun : ∀ u : World, (Instr.makeSlice t (.int .i64 (n : Int)) (.int .i64 (n : Int))).run Tryz.prog u = .ok (.slice (some ⟨u.heap.size, 0, none⟩) n n) (u.alloc (.cells cs e)))
  (hx : a.eval x = .int .i64 (n : Int)) (hy : a.eval y = .int .i64 (n : Int))
  (h : ∀ (b : Nat) (w' : World), w'.heap[b]? = some (.cells cs e (0, 0)) → w.heap.size ≤ b → Below w.heap.size w w' → K (a.put o.dst (.slice (some ⟨b, 0, none⟩) n n)) w') :
  if Region.wanted o (yielded ops a.tmps) = true then Oper.wp Tryz.prog o a w K Q else E := by
 have hw : Region.wanted o (yielded ops a.tmps) = true := by simp [Region.wanted, hgd]
 rw [if_pos hw]
 have h9 := h w.heap.size (w.alloc (.cells cs e)) (heap_alloc_new _ _) (Nat.le_refl _) (Gr.new _ _)
 unfold Oper.wp
 have hr : (execOp a.eval o).run Tryz.prog w = .ok (.value (.slice (some ⟨w.heap.size, 0, none⟩) n n)) (w.alloc (.cells cs e)) := by
  unfold execOp
  rw [ho]
  simp only [hx, hy]
  simp [Sem.run_bind, hrun, Result.andThen, Sem.run_pure]
 rw [hr]
 exact h9
structure RInit (w0 wx : World) (nt sz bM bT bW : Nat) (wa : Option Addr) (wc : Nat) : Prop where
 below : Below w0.heap.size w0 wx
 blk : wx.heap[bW]? = some (.cells #[.slice wa sz wc, .int .i64 0, .int .i64 0, .int .i64 0, .int .i64 0, .int .i64 0, .int .i64 0, .slice (some ⟨bM, 0, none⟩) nt nt, .slice (some ⟨bT, 0, none⟩) sz sz, .slice none 0 0] 106 (0, 0))
 marks : wx.heap[bM]? = some (.cells (List.replicate nt (Value.slice none 0 0)).toArray 24 (0, 0))
 traces : wx.heap[bT]? = some (.cells (List.replicate sz (Value.slice none 0 0)).toArray 24 (0, 0))
 row : wx.ownsRow w0.heap.size 46 1 (.slice wa sz wc) sz ((List.replicate sz 0).map u64V)
 ge : w0.heap.size ≤ bW
 geM : w0.heap.size ≤ bM
 geT : w0.heap.size ≤ bT
 mt : bM ≠ bT
theorem list_info9 : (Tryz.prog.info? 24).map (fun i => (i.zero, i.size, i.bytes)) = some (some (.slice none 0 0), 1, 24) := by kernel_rfl
theorem make_lists (n : Nat) (hn : n ≤ 1000000) (u : World) : (Instr.makeSlice 104 (.int .i64 (n : Int)) (.int .i64 (n : Int))).run Tryz.prog u = .ok (.slice (some ⟨u.heap.size, 0, none⟩) n n) (u.alloc (.cells (List.replicate n (Value.slice none 0 0)).toArray 24)) := by
 obtain ⟨i0, hi, hz0, hz1, hz2⟩ := info_parts list_info9
 have h := run_make (P := Tryz.prog) u 104 24 i0 (.slice none 0 0) Tryz.underlying104 hi hz0 .i64 .i64 (n : Int) (n : Int) (by omega) (Int.le_refl _) (by rw [hz2]; omega) (by omega)
 simpa [hz1, Value.cells, madeCells_one] using h
theorem bool_info9 : (Tryz.prog.info? 4).map (fun i => (i.zero, i.size, i.bytes)) = some (some (.bool false), 1, 1) := by kernel_rfl
def hand0 : Array Value := #[.bool false, .int .i64 0, .pointer none, .int .i64 0, .int .i64 0, .slice none 0 0, .slice none 0 0, .int .i64 0, .bool false, .bool false, .slice none 0 0, .int .i64 0, .int .u64 0, .slice none 0 0, .slice none 0 0, .slice none 0 0]
theorem hand_info9 : (Tryz.prog.info? 113).map (fun i => (i.zero, i.size, i.bytes)) = some (some (.agg hand0), 16, 216) := by kernel_rfl
theorem make_bools9 (n : Nat) (hn : n ≤ 1000000) (u : World) : (Instr.makeSlice 107 (.int .i64 (n : Int)) (.int .i64 (n : Int))).run Tryz.prog u = .ok (.slice (some ⟨u.heap.size, 0, none⟩) n n) (u.alloc (.cells (List.replicate n (Value.bool false)).toArray 4)) := by
 obtain ⟨i0, hi, hz0, hz1, hz2⟩ := info_parts bool_info9
 have h := run_make (P := Tryz.prog) u 107 4 i0 (.bool false) Tryz.underlying107 hi hz0 .i64 .i64 (n : Int) (n : Int) (by omega) (Int.le_refl _) (by rw [hz2]; omega) (by omega)
 simpa [hz1, Value.cells, madeCells_one] using h
theorem make_hands9 (n : Nat) (hn : n ≤ 16) (u : World) : (Instr.makeSlice 108 (.int .i64 (n : Int)) (.int .i64 (n : Int))).run Tryz.prog u = .ok (.slice (some ⟨u.heap.size, 0, none⟩) n n) (u.alloc (.cells (madeCells hand0 (n * 16)) 113)) := by
 obtain ⟨i0, hi, hz0, hz1, hz2⟩ := info_parts hand_info9
 have h := run_make (P := Tryz.prog) u 108 113 i0 (.agg hand0) Tryz.underlying108 hi hz0 .i64 .i64 (n : Int) (n : Int) (by omega) (Int.le_refl _) (by rw [hz2]; omega) (by omega)
 simpa [hz1, Value.cells] using h
theorem owns_info9 : (Tryz.prog.info? 28).map (fun i => (i.zero, i.size, i.bytes)) = some (some (.slice none 0 0), 1, 24) := by kernel_rfl
theorem make_own9 (u : World) : (Instr.makeSlice 109 (.int .i64 1) (.int .i64 1)).run Tryz.prog u = .ok (.slice (some ⟨u.heap.size, 0, none⟩) 1 1) (u.alloc (.cells #[.slice none 0 0] 28)) := by
 obtain ⟨i0, hi, hz0, hz1, hz2⟩ := info_parts owns_info9
 have h := run_make (P := Tryz.prog) u 109 28 i0 (.slice none 0 0) Tryz.underlying109 hi hz0 .i64 .i64 (1 : Int) (1 : Int) (by omega) (Int.le_refl _) (by rw [hz2]; omega) (by omega)
 simpa [hz1, Value.cells, madeCells_one] using h
theorem hands_len (n : Nat) : (madeCells hand0 (n * 16)).toList.length = 16 * n := by
 unfold madeCells
 simp [Nat.mul_comm]
theorem hands_get (n q j : Nat) (hq : q < n) (hj : j < 16) : (madeCells hand0 (n * 16)).toList[16 * q + j]? = hand0[j]? := by
 have h1 : (madeCells hand0 (n * 16))[16 * q + j]? = some (hand0[(16 * q + j) % hand0.size]!) := by
  unfold madeCells
  rw [Array.getElem?_map, Array.getElem?_eq_getElem (by simp; omega)]
  simp
 rw [Array.getElem?_toList, h1, show (16 * q + j) % hand0.size = j from by show (16 * q + j) % 16 = j; omega, getElem!_pos hand0 j hj, Array.getElem?_eq_getElem hj]
theorem rmem_row9 {w : World} {b B cap : Nat} {wa : Option Addr} {T : TypeId} {tail : List Value} {ws : List Nat} (hb : w.heap[b]? = some (.cells (rmemCells wa ws.length cap c0 tail) T (0, 0))) (h : w.ownsRow B 46 1 (.slice wa ws.length cap) ws.length (ws.map u64V))
  (h0 : 0 < ws.length) (hl : ws.length ≤ 1048576) (hv : ∀ x ∈ ws, x < 18446744073709551616) (hT : T ≠ 46) : ∃ q, wa = some ⟨q, 0, none⟩ ∧ B ≤ q ∧ q < w.heap.size ∧ RMemAt w b T tail (some q) ⟨ws, c0⟩ := by
 rcases h.2 with ⟨_, h9⟩ | ⟨q, cp, cur, e, hB, hh, hle, _, _, htk⟩
 ·omega
 ·simp only [Value.slice.injEq] at e
  obtain ⟨rfl, _, rfl⟩ := e
  refine ⟨q, rfl, hB, blk_lt hh, ⟨⟨_, _, ⟨hle, fun e => by cases e⟩, hb, fun _ => ⟨q, cur.toList.drop (ws.length * 1), rfl, rfl, ?_⟩⟩, fun e => ?_, fun q' e => by cases e; exact blk_lt hh, hl, (by show c0.all < 1000000000000; decide), hv⟩⟩
  ·rw [hh, ← htk, List.take_append_drop]
  ·cases e
   rw [hb] at hh
   simp only [Option.some.injEq, Obj.cells.injEq] at hh
   exact hT hh.2.1
structure HandsR (w0 w : World) (bH n p : Nat) (hl : List Value) (os : Nat → Nat) : Prop where
 len : hl.length = 16 * n
 blk : w.heap[bH]? = some (.cells hl.toArray 113 (0, 0))
 c0 : ∀ q, q < n → hl[16 * q]? = some (.bool false)
 own : ∀ q, q < p → hl[16 * q + 15]? = some (.slice (some ⟨os q, 0, none⟩) 1 1) ∧ w.heap[os q]? = some (.cells #[.slice none 0 0] 28 (0, 0)) ∧ w0.heap.size ≤ os q
 oo : ∀ q q', q < p → q' < p → q ≠ q' → os q ≠ os q'
def HandsK2 (w0 w : World) (bH n p : Nat) : Prop := ∃ hl os, HandsR w0 w bH n p hl os
theorem HandsK2.own {w0 w w1 w2 : World} {bH n p o : Nat} (h : HandsK2 w0 w bH n p) (hp : p < n) (hb : Below w.heap.size w w1) (ho : w1.heap[o]? = some (.cells #[.slice none 0 0] 28 (0, 0))) (hlo : w.heap.size ≤ o) (h0 : w0.heap.size ≤ w.heap.size)
  (hc : Chg (fun b => b = bH) w1 w2) (hw2 : w2.heap[bH]? = (w1.setCell ⟨bH, 16 * p + 15, none⟩ (.slice (some ⟨o, 0, none⟩) 1 1)).heap[bH]?) : HandsK2 w0 w2 bH n (p + 1) := by
 obtain ⟨hl, os, h⟩ := h
 have h2' := (hb.block _ (blk_lt h.blk)).trans h.blk
 have hne : ∀ b cs, w1.heap[b]? = some (.cells cs 28 (0, 0)) → b ≠ bH := fun b cs hb9 e => by
  rw [e, h2'] at hb9
  simp only [Option.some.injEq, Obj.cells.injEq] at hb9
  exact absurd hb9.2.1 (by decide)
 have hlen := h.len
 refine ⟨hl.set (16 * p + 15) (.slice (some ⟨o, 0, none⟩) 1 1), fun q => if q = p then o else os q, by simpa using h.len, ?_, fun q hq => ?_, fun q hq => ?_, fun q q' hq hq' hqq => ?_⟩
 ·rw [hw2, blk_set h2']; simp
 ·rw [List.getElem?_set_ne (by omega)]; exact h.c0 q hq
 ·by_cases hqp : q = p
  ·subst hqp
   rw [if_pos rfl]
   exact ⟨by rw [List.getElem?_set_self (by omega)], (hc.block _ (blk_lt ho) (hne _ _ ho)).trans ho, Nat.le_trans h0 hlo⟩
  ·rw [if_neg hqp]
   obtain ⟨g1, g2, g3⟩ := h.own q (by omega)
   have g2' := (hb.block _ (blk_lt g2)).trans g2
   exact ⟨by rw [List.getElem?_set_ne (by omega)]; exact g1, (hc.block _ (blk_lt g2') (hne _ _ g2')).trans g2', g3⟩
 ·have hlt : ∀ q, q < p → os q < w.heap.size := fun q hq => blk_lt (h.own q hq).2.1
  by_cases hqp : q = p
  ·rw [if_pos hqp, if_neg (by omega)]; have := hlt q' (by omega); omega
  ·rw [if_neg hqp]
   by_cases hqp' : q' = p
   ·rw [if_pos hqp']; have := hlt q (by omega); omega
   ·rw [if_neg hqp']; exact h.oo q q' (by omega) (by omega) hqq
theorem HandsK2.grown {w0 w w' : World} {bH n p : Nat} (h : HandsK2 w0 w bH n p) (hb : Below w.heap.size w w') : HandsK2 w0 w' bH n p := by
 obtain ⟨hl, os, h⟩ := h
 exact ⟨hl, os, h.len, (hb.block _ (blk_lt h.blk)).trans h.blk, h.c0, fun q hq => ⟨(h.own q hq).1, (hb.block _ (blk_lt (h.own q hq).2.1)).trans (h.own q hq).2.1, (h.own q hq).2.2⟩, h.oo⟩
theorem LogAt.init {w0 wx w4 : World} {nt sz bM bT bW bF bH bO bq wc nc : Nat} {old : Nat → Prop} {wa : Option Addr} (calls : List CallD) (hL : RInit w0 wx nt sz bM bT bW wa wc) (hs0 : 0 < sz) (hsz : sz ≤ 65536) (hc : Chg (fun b => b = bH) wx w4) (hbH : wx.heap.size ≤ bH) (hK : HandsK2 w0 w4 bH nt nt)
  (hF : w4.heap[bF]? = some (.cells (List.replicate calls.length (Value.bool false)).toArray 4 (0, 0))) (hFge : w0.heap.size ≤ bF) (hO : w4.heap[bO]? = some (.cells #[.slice none 0 0, .slice none 0 0, .int .i64 0, .int .i64 0, .int .i64 0, .int .i64 0, .int .i64 0, .int .i64 0, .int .i64 0] 32 (0, 0))) (hOge : w0.heap.size ≤ bO) (hRl : ∀ b, old b → b < w0.heap.size) :
  ∃ bq, LogAt w0 w4 ⟨bW, bM, bT, bF, bH, bO, some bq, nt, sz, calls.length, old⟩ (ref0 nt sz calls) := by
 have hWx : wx.heap[bW]? = some (.cells (rmemCells wa (List.replicate sz 0).length wc c0 [.int .i64 ((0 : Nat) : Int), .slice (some ⟨bM, 0, none⟩) nt nt, .slice (some ⟨bT, 0, none⟩) sz sz, .slice none 0 0]) 106 (0, 0)) := by rw [List.length_replicate]; exact hL.blk
 obtain ⟨bq, hwa, hbq, hbq2, hmem⟩ := rmem_row9 hWx (by simpa using hL.row) (by simpa using hs0) (by simp; omega) (fun x hx => by rw [(List.mem_replicate.1 hx).2]; decide) (by decide)
 obtain ⟨hl, os, hR⟩ := hK
 have hn : ∀ {b : Nat} {o : Obj}, wx.heap[b]? = some o → b ≠ bH := fun h9 e => by have := blk_lt h9; omega
 have hut : ∃ cs fz, wx.heap[bq]? = some (.cells cs 46 fz) := by
  rw [hwa] at hL
  exact row_type hL.row rfl
 have hvs : ∀ q, q < nt → ((List.range nt).map fun q => ((nilV, nilV, os q) : HV)).getD q hv0 = (nilV, nilV, os q) := fun q hq => by simp [List.getD_eq_getElem?_getD, hq]
 have hrh : ∀ q, (List.replicate nt rh0).getD q rh0 = rh0 := fun q => rep_getD9 nt q _
 have hnil : ∀ b, nilV.ownBlock ≠ some b := fun b e => by cases e
 have hsz' : nt ≤ 16 ∨ True := .inr trivial
 refine ⟨bq, hl, (List.range nt).map fun q => (nilV, nilV, os q), .slice none 0 0, none, 0, [], ⟨hL.below.trans (hc.below (fun b e => by have := hL.below.size; omega) hL.below.size), ?_, List.length_replicate .., ⟨hR.len, by simp, List.length_replicate .., rfl⟩, fun q hq => ?_, fun q hq e => ?_, fun q hq => ?_, fun q hq => ?_, fun q hq _ => ?_, hO, ⟨rfl, .inl ⟨rfl, rfl⟩⟩, fun i hi => absurd hi (Nat.not_lt_zero i), fun a b ha hb _ _ _ c e => ?_, fun a b ha hb _ _ _ c e => ?_, fun a b ha hb hab => ?_, ⟨hFge, hOge, ?_, hL.ge, hL.geM, hL.geT, fun q e => by (cases e; exact hbq), fun q hq => ?_⟩, fun b e => ?_, fun b e q hq _ => ?_, hRl⟩, hR.blk, ?_, ⟨0, [], Nat.zero_le _, rfl, .inl ⟨rfl, rfl⟩⟩, fun b e => by (cases e), ?_, ?_, hL.mt⟩
 ·show w4.heap[bF]? = some (.cells ((List.replicate calls.length false).map Value.bool).toArray _ _)
  rw [List.map_replicate]; exact hF
 ·show hl[16 * q]? = some (.bool ((List.replicate nt rh0).getD q rh0).opn)
  rw [hrh]; exact hR.c0 q hq
 ·have e' : ((List.replicate nt rh0).getD q rh0).opn = true := e
  rw [hrh] at e'; cases e'
 ·rw [hvs q hq]; exact (hR.own q hq).1
 ·rw [hvs q hq]
  refine ⟨_, (hR.own q hq).2.1, ?_⟩
  show LstU _ _ _ ((List.replicate nt rh0).getD q rh0).own
  rw [hrh]; exact LstU.nil _ _
 ·show HandAt _ _ _ _ _ ((List.replicate nt rh0).getD q rh0) _
  rw [hrh, hvs q hq]
  exact ⟨fun e => by (cases e), fun _ => ⟨rfl, rfl⟩⟩
 ·rw [hvs a ha] at e; cases e
 ·rw [hvs a ha] at e; cases e
 ·rw [hvs a ha, hvs b hb]; exact hR.oo a b ha hb hab
 ·have := hL.below.size; show _ ≤ bH; omega
 ·rw [hvs q hq]; exact ⟨(hR.own q hq).2.2, fun _ => ⟨fun b e => absurd e (hnil b), fun b e => absurd e (hnil b)⟩⟩
 ·cases e
  obtain ⟨cs, fz, h9⟩ := hut
  exact ⟨cs, fz, (hc.block _ (blk_lt h9) (hn h9)).trans h9⟩
 ·rw [hvs q hq]; exact hnil b
 ·exact hmem.chg hc (hn hL.blk) (fun q e => by cases e; obtain ⟨_, _, h9⟩ := hut; exact hn h9)
 ·refine ⟨List.length_replicate .., _, (hc.block _ (blk_lt hL.marks) (hn hL.marks)).trans hL.marks, List.length_replicate .., fun i hi => ?_⟩
  show Lst _ _ _ ((List.replicate nt ([] : List Int)).getD i [])
  rw [rep_getD9 nt i ([] : List Int), show (List.replicate nt (Value.slice none 0 0)).getD i undef = .slice none 0 0 by simp [List.getD_eq_getElem?_getD, List.getElem?_replicate, show i < nt from hi]]
  exact Lst.nil _ _
 ·refine ⟨List.length_replicate .., _, (hc.block _ (blk_lt hL.traces) (hn hL.traces)).trans hL.traces, List.length_replicate .., fun i hi => ?_⟩
  show Lst _ _ _ ((List.replicate sz ([] : List Int)).getD i [])
  rw [rep_getD9 sz i ([] : List Int), show (List.replicate sz (Value.slice none 0 0)).getD i undef = .slice none 0 0 by simp [List.getD_eq_getElem?_getD, List.getElem?_replicate, show i < sz from hi]]
  exact Lst.nil _ _
end
end Go.Proofs.YteffgpcjfnjlkaaGreat
