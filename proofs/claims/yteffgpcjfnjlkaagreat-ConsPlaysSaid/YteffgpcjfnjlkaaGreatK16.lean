/- Layer 7: the cons as the loom's object. -/
import Derived.Test.YteffgpcjfnjlkaaGreatK15
set_option maxRecDepth 100000
set_option linter.unusedVariables false
set_option linter.unusedSimpArgs false
set_option linter.unnecessarySimpa false
namespace Go.Proofs.YteffgpcjfnjlkaaGreat
open Go.RowKit
inductive CoS where
  | once (c : CallD) (r : Int × Nat)
  | prop (v : Nat) (pc : Bool)
def consAct (_ : CallD) (wd : WD) : WD × (Int × Nat) := ({ wd with mem := (memRead wd.mem 0).1 }, if (memRead wd.mem 0).2 = 0 then (7, 0) else (0, (memRead wd.mem 0).2 - 1))
def consDec (x : Nat) : Nat := if x = 0 then 18446744073709551615 else x - 1
def consSwap (wd : WD) (p v : Nat) : WD := { wd with mem := (memSwap wd.mem 0 0 (v + 1)).1, marks := wd.marks.set p (tickKey wd) }
def consRead (wd : WD) : WD := { wd with mem := (memRead wd.mem 0).1 }
def consS : Sys where
  σ := CoS
  ω := Unit
  start := fun _ _ _ c => if c.kind = 1 then .run (.once c (0, 0)) else if c.kind ≠ 0 then .refuse 9 else if 4294967296 ≤ c.a then .refuse 10 else .run (.prop c.a false)
  step := fun _ wd p s => match s with
    | .once c _ => ((), (consAct c wd).1, .once c (consAct c wd).2, true)
    | .prop v false => ((), consSwap wd p v, .prop v true, false)
    | .prop _ true => ((), consRead wd, .prop (consDec (memRead wd.mem 0).2) true, true)
  answer := fun s => match s with
    | .once _ r => (⟨r.1, r.2, []⟩, [])
    | .prop v _ => (⟨0, v, []⟩, [])
  late := fun _ _ _ _ => none
def consCap : CapRep := fun w Mut K cap _ =>
  K = 168 ∧ ∃ b, cap = #[.pointer (some ⟨b, 0, none⟩)] ∧ w.cell? ⟨b, 0, none⟩ = some (.int .i64 0) ∧ ¬ Mut b
def propCells (p v : Nat) (pc : Bool) : Array Value := #[.int .i64 0, .int .i64 (p : Int), .int .i64 (if pc then 1 else 0), .int .u64 (v : Int)]
def PropM (w : World) (B : Nat → Prop) (T : TypeId) (x : Value) (p v : Nat) (pc : Bool) : Prop :=
  T = 240 ∧ ∃ b, x = .pointer (some ⟨b, 0, none⟩) ∧ w.heap[b]? = some (.cells (propCells p v pc) 242 (0, 0)) ∧ B b ∧ (pc = false → v < 4294967296)
def consM (w : World) (Mut B : Nat → Prop) (T : TypeId) (x : Value) (p : Nat) : CoS → Prop
  | .once c r => OnceM consCap w Mut B T x c r
  | .prop v pc => PropM w B T x p v pc
def consR : Real consS where
  T := 65
  x := .agg #[.int .i64 0]
  OB := noB
  ORep := fun _ _ _ => True
  MRep := consM
  inv := fun _ _ => True
  dN := 0
theorem world_own {w3 w4 : World} {Mut B : Nat → Prop} {I : WIds} {N : Nat} {wd : WD} {b : Nat} (hw : WorldAt w3 Mut I N wd) (hc : Chg (fun k => k = b) w3 w4) (hb : B b) (hB : ∀ b, B b → Mut b ∧ ¬ WSet I b) : WorldAt w4 (mutTo Mut B (fun k => k = b)) I N wd := by
  refine hw.keep hc (by rintro k rfl; exact (hB _ hb).1) (by rintro k rfl; exact (hB _ hb).2) (mutTo_up (fun k hk => by cases hk; exact .inl hb) (fun k hk => (hB k hk).1)) ?_ ?_
  · rintro k (⟨h1, _⟩ | h1)
    · exact Nat.lt_of_lt_of_le (hw.low k h1) hc.size
    · cases h1; exact Nat.lt_of_lt_of_le (hw.low _ (hB _ hb).1) hc.size
  · intro k hk
    by_cases hkb : B k
    · exact absurd hk (hB k hkb).2
    · exact .inl ⟨hw.muts k hk, hkb⟩
theorem prop_step_m (a : Addr) : Meth 240 (.pointer (some a)) "Step" 213 (.pointer (some a)) := ⟨fun _ _ => by kernel_rfl, fun _ _ => by kernel_rfl, fun _ _ => by kernel_rfl⟩
theorem prop_answer_m (a : Addr) : Meth 240 (.pointer (some a)) "Answer" 212 (.pointer (some a)) := ⟨fun _ _ => by kernel_rfl, fun _ _ => by kernel_rfl, fun _ _ => by kernel_rfl⟩
theorem cons_start_m : Meth 65 (.agg #[.int .i64 0]) "Start" 167 (.agg #[.int .i64 0]) := ⟨fun _ _ => by kernel_rfl, fun _ _ => by kernel_rfl, fun _ _ => by kernel_rfl⟩
theorem prop_kind (v : Value) (u : World) : (Instr.typeAssert (.iface 240 v) 138 167 true).run Tryz.prog u = .ok (.tuple #[.nilIface, .bool false]) u := run_typeAssert_lacksB Tryz.underlying167 (by kernel_rfl) (by kernel_rfl) v _ u
theorem enter_cons1 (args : Array Value) (u : World) : (callFunc 168 args).run Tryz.prog u = .ok (.enter 168 args) u := by kernel_rfl
theorem prop_answer (b p v : Nat) (pc : Bool) (w : World) (h : w.heap[b]? = some (.cells (propCells p v pc) 242 (0, 0))) :
    Calls Tryz.prog 212 #[.pointer (some ⟨b, 0, none⟩)] w fun e w' => e = .returned (.tuple #[ansV 0 v (.slice none 0 0), .slice none 0 0]) ∧ Below w.heap.size w w' := by
  have hlt := blk_lt h
  have hb2 : (w.alloc (.cells #[.int .i64 0, .int .u64 0, .slice none 0 0] 50)).heap[b]? = some (.cells (propCells p v pc) 242 (0, 0)) := by rw [Below.heap_alloc _ _ _ hlt]; exact h
  have c1 : (w.alloc (.cells #[.int .i64 0, .int .u64 0, .slice none 0 0] 50)).cell? ⟨b, 3, none⟩ = some (.int .u64 (v : Int)) := by rw [cell_blk hb2]; rfl
  have c2 : (w.alloc (.cells #[.int .i64 0, .int .u64 0, .slice none 0 0] 50)).cell? ⟨w.heap.size, 0, none⟩ = some (.int .i64 0) := by rw [cell_new]; rfl
  clear h hb2
  unfold ansV
  go_enter Tryz.func212, Tryz.ntmps212
  go_wp2
  exact bodyPost_ret (v := .tuple #[.agg #[.int .i64 0, .int .u64 (v : Int), .slice none 0 0], .slice none 0 0]) (by simp [results, Tryz.results212 , go_sem]) rfl ⟨rfl, Gr.new _ _⟩
def SwapTo (w w' : World) (Mut B : Nat → Prop) (I : WIds) (N : Nat) (wd : WD) (p v b : Nat) (e : Ending) : Prop :=
  e = .returned (.bool false) ∧ Chg (fun k => WSet I k ∨ B k) w w' ∧ WorldAt w' (mutTo Mut B (fun k => k = b)) I N (consSwap wd p v) ∧ w'.heap[b]? = some (.cells (propCells p v true) 242 (0, 0))
set_option maxHeartbeats 4000000 in
theorem prop_swap (w : World) (Mut B : Nat → Prop) (I : WIds) (N : Nat) (wd : WD) (p v b : Nat) (hw : WorldAt w Mut I N wd) (hbk : w.heap[b]? = some (.cells (propCells p v false) 242 (0, 0))) (hb : B b) (hB : ∀ b, B b → Mut b ∧ ¬ WSet I b) (hp : p < 16) (hv : v < 4294967296) (hc : wd.mem.c.all + 1 < 1000000000000) :
    Calls Tryz.prog 213 #[.pointer (some ⟨b, 0, none⟩), .pointer (some ⟨I.bW, 0, none⟩)] w fun e w' => SwapTo w w' Mut B I N wd p v b e := by
  obtain ⟨s1, s2, s3⟩ := memSet_sub hw
  obtain ⟨mks, hwb, _, _⟩ := hw.blk
  have x0 : w.cell? ⟨I.bW, 0, none⟩ = some (.pointer (some ⟨I.bm, 0, none⟩)) := by rw [cell_blk hwb]; exact world_mem
  have y0 : w.cell? ⟨b, 0, none⟩ = some (.int .i64 0) := by rw [cell_blk hbk]; rfl
  have y2 : w.cell? ⟨b, 2, none⟩ = some (.int .i64 0) := by rw [cell_blk hbk]; rfl
  have y3 : w.cell? ⟨b, 3, none⟩ = some (.int .u64 (v : Int)) := by rw [cell_blk hbk]; rfl
  have hblt := blk_lt hbk
  have nb : ¬ MemSet I.bm I.bw b := fun h => (hB b hb).2 (s3 b h).1
  have Sw := Lib.hid (swap_any I.bm I.bw wd.mem 0 0 (v + 1) w.drew (hw.mem.gr (Gr.refl w).drew) (by omega) hc)
  rw [show (((v + 1 : Nat) : Int)) = (v : Int) + 1 by omega] at Sw
  have Hw := Lib.hid hw; have Hbk := Lib.hid hbk; have Nb := Lib.hid nb; have HB := Lib.hid hB; have Hb := Lib.hid hb
  have hvi : (v : Int) < 4294967296 := by omega
  clear hw hbk hwb s1 s2 s3 nb hB hb
  go_enter Tryz.func213, Tryz.ntmps213
  go_wp2_with fail
  go_still_tail 13, (by kernel_rfl)
  change wpList _ _ _ _ _ w.drew
  go_wp2_with fail
  refine Sw.out.mono ?_
  rintro e w1 ⟨rfl, hm1, hc1⟩
  have hc1' : Chg (MemSet I.bm I.bw) w w1 := ((Chg.refl _ w).drew).trans hc1
  obtain ⟨hw1, hch1⟩ := Hw.out.mems hc1' hm1
  have hbk1 := (hc1'.block b hblt Nb.out).trans Hbk.out
  have z1 : w1.cell? ⟨b, 1, none⟩ = some (.int .i64 (p : Int)) := by rw [cell_blk hbk1]; rfl
  have Tk := Lib.hid (fun (u : World) (hu : Chg noB w1 u) => tick_any u Mut I N _ (hw1.keep (S := noB) (Mut' := Mut) hu (fun b hb => hb.elim) (fun b hb => hb.elim) (MutUp.refl _ _) (fun b hb => Nat.lt_of_lt_of_le (hw1.low b hb) hu.size) hw1.muts))
  have Mk := Lib.hid (fun (u : World) (n : Nat) (hu : Chg noB w1 u) (hl : Lst u Mut (.slice (some ⟨n, 0, none⟩) 1 1) (tickKey wd)) => (show Calls Tryz.prog 214 #[.pointer (some ⟨I.bW, 0, none⟩), .int .i64 (p : Int), .slice (some ⟨n, 0, none⟩) 1 1] u fun e w' => e = .returned (.tuple #[]) ∧ WorldAt w' Mut I N { ({ wd with mem := (memSwap wd.mem 0 0 (v + 1)).1 } : WD) with marks := wd.marks.set p (tickKey wd) } ∧ Chg (WSet I) u w' from by
    obtain ⟨ta, tc, htv, _, hts, _⟩ := hl
    have hk := mark_any u Mut I N _ p ta tc (tickKey wd) (hw1.keep (S := noB) (Mut' := Mut) hu (fun b hb => hb.elim) (fun b hb => hb.elim) (MutUp.refl _ _) (fun b hb => Nat.lt_of_lt_of_le (hw1.low b hb) hu.size) hw1.muts) hp hts (by unfold tickKey; simp) (by unfold tickKey; simp) (fun e => by subst e; cases htv)
    rw [← htv] at hk
    exact hk))
  have Hch1 := Lib.hid hch1; have Hbk1 := Lib.hid hbk1
  have nw := (HB.out b Hb.out).2
  have Nw := Lib.hid nw
  clear hw1 hch1 hbk1 hc1 hc1' hm1 x0 y0 y2 y3 nw
  go_wp2_with fail
  go_region_held3 (fun u => u.cell? ⟨b, 1, none⟩ = some (.int .i64 (p : Int)))
    (first | exact z1 | exact z4 | exact z5)
    (first | (go_at_call 74; refine (Tk.out _ ?_).mono ?_; (exact (Chg.refl _ _).drew); rintro e w2 ⟨rfl, hl2, hb2⟩; have hc2 : Chg noB w1 w2 := ((Chg.refl _ w1).drew).trans (Chg.of_below hb2); have hbk2 := (hc2.block b (blk_lt Hbk1.out) (fun h => h)).trans Hbk1.out; have z4 : w2.cell? ⟨b, 1, none⟩ = some (.int .i64 (p : Int)) := (by rw [cell_blk hbk2]; rfl)) | (go_at_call 214; refine (Mk.out _ _ hc2 hl2).mono ?_; rintro e w3 ⟨rfl, hw3, hc3⟩; have hbk3 := (hc3.block b (blk_lt hbk2) Nw.out).trans hbk2; have z5 : w3.cell? ⟨b, 1, none⟩ = some (.int .i64 (p : Int)) := (by rw [cell_blk hbk3]; rfl)))
  have v2 : w3.cell? ⟨b, 2, none⟩ = some (.int .i64 0) := by rw [cell_blk hbk3]; rfl
  have vf : w3.frozen? ⟨b, 2, none⟩ = false := frozen_blk hbk3 2
  have Hw3 := Lib.hid hw3; have Hc3 := Lib.hid hc3; have Hbk3 := Lib.hid hbk3; have Hc2 := Lib.hid hc2
  clear hw3 hc3 hbk3 hc2 hl2 hb2 hbk2
  go_wp2
  go_ret
  have hc4 : Chg (fun k => k = b) w3 (w3.setCell ⟨b, 2, none⟩ (.int .i64 1)) := (Chg.refl (fun k => k = b) w3).setCell (by exact .inl rfl) _
  refine ⟨rfl, ?_, world_own Hw3.out hc4 Hb.out HB.out, ?_⟩
  · exact (((Hch1.out.mono (fun k _ h => .inl h)).trans (Hc2.out.mono (fun k _ h => h.elim))).trans (Hc3.out.mono (fun k _ h => .inl h))).trans (hc4.mono (fun k _ h => by cases h; exact .inr Hb.out))
  · rw [blk_set Hbk3.out]; rfl
def ReadTo (w w' : World) (Mut B : Nat → Prop) (I : WIds) (N : Nat) (wd : WD) (p b : Nat) (e : Ending) : Prop :=
  e = .returned (.bool true) ∧ Chg (fun k => WSet I k ∨ B k) w w' ∧ WorldAt w' (mutTo Mut B (fun k => k = b)) I N (consRead wd) ∧ w'.heap[b]? = some (.cells (propCells p (consDec (memRead wd.mem 0).2) true) 242 (0, 0))
set_option maxHeartbeats 4000000 in
theorem prop_read (w : World) (Mut B : Nat → Prop) (I : WIds) (N : Nat) (wd : WD) (p v b : Nat) (hw : WorldAt w Mut I N wd) (hbk : w.heap[b]? = some (.cells (propCells p v true) 242 (0, 0))) (hb : B b) (hB : ∀ b, B b → Mut b ∧ ¬ WSet I b) (hc : wd.mem.c.all + 1 < 1000000000000) :
    Calls Tryz.prog 213 #[.pointer (some ⟨b, 0, none⟩), .pointer (some ⟨I.bW, 0, none⟩)] w fun e w' => ReadTo w w' Mut B I N wd p b e := by
  obtain ⟨s1, s2, s3⟩ := memSet_sub hw
  obtain ⟨mks, hwb, _, _⟩ := hw.blk
  have x0 : w.cell? ⟨I.bW, 0, none⟩ = some (.pointer (some ⟨I.bm, 0, none⟩)) := by rw [cell_blk hwb]; exact world_mem
  have y0 : w.cell? ⟨b, 0, none⟩ = some (.int .i64 0) := by rw [cell_blk hbk]; rfl
  have y2 : w.cell? ⟨b, 2, none⟩ = some (.int .i64 1) := by rw [cell_blk hbk]; rfl
  have hblt := blk_lt hbk
  have nb : ¬ MemSet I.bm I.bw b := fun h => (hB b hb).2 (s3 b h).1
  have Rd := Lib.hid (fun (u : World) (h : Chg noB w u) => read_any I.bm I.bw wd.mem 0 u (hw.mem.chg h (fun h => h) (fun _ _ h => h)) hc)
  have hval : (memRead wd.mem 0).2 < 18446744073709551616 := by
    unfold memRead
    split
    · simp only; omega
    · simp only
      rw [List.getD_eq_getElem?_getD]
      cases h9 : wd.mem.ws[(0 : Int).toNat]? with
      | none => simp
      | some z => exact hw.mem.val z (List.mem_of_getElem? h9)
  obtain ⟨r, hr⟩ : ∃ r, r = (memRead wd.mem 0).2 := ⟨_, rfl⟩
  rw [← hr] at Rd hval
  have Hw := Lib.hid hw; have Hbk := Lib.hid hbk; have Nb := Lib.hid nb; have HB := Lib.hid hB; have Hb := Lib.hid hb; have Hr := Lib.hid hr; have S2 := Lib.hid s2
  clear hw hbk hwb s1 s2 s3 nb hB hb hr
  go_enter Tryz.func213, Tryz.ntmps213
  go_wp2_with fail
  by_cases h0 : r = 0
  · subst h0
    skip
    go_region_held3 (fun u => u.cell? ⟨I.bW, 0, none⟩ = some (.pointer (some ⟨I.bm, 0, none⟩)) ∧ u.cell? ⟨b, 0, none⟩ = some (.int .i64 0))
      (first | exact ⟨(by with_reducible refine (World.cell?_setCell_other _ _ _ _ (by simp)).trans ?_; with_reducible exact z0), (by with_reducible refine (World.cell?_setCell_other _ _ _ _ (by simp)).trans ?_; with_reducible exact zw)⟩ | exact ⟨x0, y0⟩ | exact ⟨z0, zw⟩)
      ((go_at_call 169; refine (Rd.out _ ?_).mono ?_; (exact (Chg.refl _ _).drew); rintro e w1 ⟨rfl, hm1, hc1⟩; have hc1' : Chg (MemSet I.bm I.bw) w w1 := ((Chg.refl _ w).drew).trans hc1; have z0 := box_keep hc1' S2.out x0; have hbk1 := (hc1'.block b hblt Nb.out).trans Hbk.out; have zw : w1.cell? ⟨b, 0, none⟩ = some (.int .i64 0) := (by rw [cell_blk hbk1]; rfl); have z3 : w1.cell? ⟨b, 3, none⟩ = some (.int .u64 (v : Int)) := (by rw [cell_blk hbk1]; rfl); have zf := frozen_blk hbk1 3))
    obtain ⟨hw1, hch1⟩ := Hw.out.mems hc1' hm1
    have fin : ∀ q : Nat, q = consDec 0 → ReadTo w (w1.setCell ⟨b, 3, none⟩ (.int .u64 (q : Int))) Mut B I N wd p b (.returned (.bool true)) := by
      intro q hq
      rw [hq]
      have hc4 : Chg (fun k => k = b) w1 (w1.setCell ⟨b, 3, none⟩ (.int .u64 (consDec 0 : Int))) := (Chg.refl (fun k => k = b) w1).setCell (by exact .inl rfl) _
      refine ⟨rfl, (hch1.mono (fun k _ h => .inl h)).trans (hc4.mono (fun k _ h => by cases h; exact .inr Hb.out)), world_own hw1 hc4 Hb.out HB.out, ?_⟩
      rw [blk_set hbk1, ← Hr.out]; rfl
    have Fin := Lib.hid (fin 18446744073709551615 (by unfold consDec; rfl))
    clear fin hw1 hch1 hbk1 hc1 hc1' hm1 x0 y0 y2 z0 zw z3 zf
    go_wp2
    go_ret
    exact Fin.out
  · obtain ⟨z, rfl⟩ : ∃ z, r = z + 1 := ⟨r - 1, by omega⟩
    rw [show ((z + 1 : Nat) : Int) = (z : Int) + 1 by omega] at Rd
    clear h0
    have e4 : (0 : Int) ≤ (z : Int) ∧ (z : Int) + 1 < 18446744073709551616 := by omega
    have e5 : IntKind.u64.wrap (z : Int) = (z : Int) := by rw [IntKind.wrap_u64]; omega
    go_region_held3 (fun u => u.cell? ⟨I.bW, 0, none⟩ = some (.pointer (some ⟨I.bm, 0, none⟩)) ∧ u.cell? ⟨b, 0, none⟩ = some (.int .i64 0))
      (first | exact ⟨(by with_reducible refine (World.cell?_setCell_other _ _ _ _ (by simp)).trans ?_; with_reducible exact z0), (by with_reducible refine (World.cell?_setCell_other _ _ _ _ (by simp)).trans ?_; with_reducible exact zw)⟩ | exact ⟨x0, y0⟩ | exact ⟨z0, zw⟩)
      ((go_at_call 169; refine (Rd.out _ ?_).mono ?_; (exact (Chg.refl _ _).drew); rintro e w1 ⟨rfl, hm1, hc1⟩; have hc1' : Chg (MemSet I.bm I.bw) w w1 := ((Chg.refl _ w).drew).trans hc1; have z0 := box_keep hc1' S2.out x0; have hbk1 := (hc1'.block b hblt Nb.out).trans Hbk.out; have zw : w1.cell? ⟨b, 0, none⟩ = some (.int .i64 0) := (by rw [cell_blk hbk1]; rfl); have z3 : w1.cell? ⟨b, 3, none⟩ = some (.int .u64 (v : Int)) := (by rw [cell_blk hbk1]; rfl); have zf := frozen_blk hbk1 3))
    obtain ⟨hw1, hch1⟩ := Hw.out.mems hc1' hm1
    have fin : ∀ q : Nat, q = consDec (z + 1) → ReadTo w (w1.setCell ⟨b, 3, none⟩ (.int .u64 (q : Int))) Mut B I N wd p b (.returned (.bool true)) := by
      intro q hq
      rw [hq]
      have hc4 : Chg (fun k => k = b) w1 (w1.setCell ⟨b, 3, none⟩ (.int .u64 (consDec (z + 1) : Int))) := (Chg.refl (fun k => k = b) w1).setCell (by exact .inl rfl) _
      refine ⟨rfl, (hch1.mono (fun k _ h => .inl h)).trans (hc4.mono (fun k _ h => by cases h; exact .inr Hb.out)), world_own hw1 hc4 Hb.out HB.out, ?_⟩
      rw [blk_set hbk1, ← Hr.out]; rfl
    have Fin := Lib.hid (fin z (by unfold consDec; rw [if_neg (by omega)]; omega))
    clear fin hw1 hch1 hbk1 hc1 hc1' hm1 x0 y0 y2 z0 zw z3 zf
    go_wp2
    go_ret
    exact Fin.out
theorem cons_once (w : World) (Mut : Nat → Prop) (I : WIds) (N : Nat) (wd : WD) (b bo : Nat) (hw : WorldAt w Mut I N wd) (hb : ¬ WSet I b) (hbl : b < w.heap.size) (hc : wd.mem.c.all + 1 < 1000000000000) (hbo : w.cell? ⟨bo, 0, none⟩ = some (.int .i64 0)) (hm : ¬ Mut bo) (c : CallD) :
    Calls Tryz.prog 168 #[.pointer (some ⟨I.bW, 0, none⟩), .pointer (some ⟨bo, 0, none⟩)] w (OnceIn b w (AccTo w Mut I N wd (memRead wd.mem 0).1 (consAct c wd).2.1 (consAct c wd).2.2)) := by
  obtain ⟨s1, s2, s3⟩ := memSet_sub hw
  obtain ⟨wa, hwa⟩ : ∃ wa, wa = w.alloc (.cells #[.int .i64 0, .int .u64 0, .slice none 0 0] 50) := ⟨_, rfl⟩
  have hga : Below w.heap.size w wa := by rw [hwa]; exact Gr.new _ _
  have hra : wa.heap[w.heap.size]? = some (.cells #[.int .i64 0, .int .u64 0, .slice none 0 0] 50 (0, 0)) := by rw [hwa]; exact heap_alloc_new _ _
  obtain ⟨mks, hwb, _, _⟩ := hw.blk
  have hWlt := blk_lt hwb
  have hbolt := World.block_lt_of_cell? _ _ hbo
  simp only at hbolt
  have x0 : wa.cell? ⟨I.bW, 0, none⟩ = some (.pointer (some ⟨I.bm, 0, none⟩)) := by rw [hga.cell hWlt, cell_blk hwb]; exact world_mem
  have y0 : wa.cell? ⟨bo, 0, none⟩ = some (.int .i64 0) := by rw [hga.cell hbolt]; exact hbo
  have hra' : ¬ MemSet I.bm I.bw w.heap.size := fun h => Nat.lt_irrefl _ (s3 _ h).2
  have Rd := Lib.hid (read_any I.bm I.bw wd.mem 0 wa.drew (hw.mem.gr (hga.drew)) hc)
  have hval : (memRead wd.mem 0).2 < 18446744073709551616 := by
    unfold memRead
    split
    · simp only; omega
    · simp only
      rw [List.getD_eq_getElem?_getD]
      cases h9 : wd.mem.ws[(0 : Int).toNat]? with
      | none => simp
      | some z => exact hw.mem.val z (List.mem_of_getElem? h9)
  have hact : (consAct c wd).2 = if (memRead wd.mem 0).2 = 0 then (7, 0) else (0, (memRead wd.mem 0).2 - 1) := rfl
  obtain ⟨r, hr⟩ : ∃ r, r = (memRead wd.mem 0).2 := ⟨_, rfl⟩
  rw [← hr] at Rd hval hact
  have Hw := Lib.hid hw; have Hga := Lib.hid hga; have Hra := Lib.hid hra; have Hwa := Lib.hid hwa; have S3 := Lib.hid s3; have Hra' := Lib.hid hra'; have Hb := Lib.hid hb; have Hact := Lib.hid hact
  clear hw hga hra hwb s1 s2 s3 hbo hm hra' hb hwa hr hact
  go_enter Tryz.func168, Tryz.ntmps168
  go_wp2_with fail
  rw [← Hwa.out]
  go_still_tail 6, (by kernel_rfl)
  change wpList _ _ _ _ _ wa.drew
  go_wp2_with fail
  refine Rd.out.mono ?_
  rintro e w1 ⟨rfl, hm1, hc1⟩
  have hc1' : Chg (MemSet I.bm I.bw) wa w1 := ((Chg.refl _ wa).drew).trans hc1
  have hr1 := (hc1'.block _ (blk_lt Hra.out) Hra'.out).trans Hra.out
  have g0 : w1.cell? ⟨w.heap.size, 0, none⟩ = some (.int .i64 0) := by rw [cell_blk hr1]; rfl
  have g1 : w1.cell? ⟨w.heap.size, 1, none⟩ = some (.int .u64 0) := by rw [cell_blk hr1]; rfl
  have g2 : w1.cell? ⟨w.heap.size, 2, none⟩ = some (.slice none 0 0) := by rw [cell_blk hr1]; rfl
  have gf0 := frozen_blk hr1 0; have gf1 := frozen_blk hr1 1; have gf2 := frozen_blk hr1 2
  have fin : ∀ (er : Int) (v : Nat), (consAct c wd).2 = (er, v) → OnceIn b w (AccTo w Mut I N wd (memRead wd.mem 0).1 (consAct c wd).2.1 (consAct c wd).2.2) (.returned (ansV er v (.slice none 0 0))) (((w1.setCell ⟨w.heap.size, 0, none⟩ (.int .i64 er)).setCell ⟨w.heap.size, 1, none⟩ (.int .u64 (v : Int))).setCell ⟨w.heap.size, 2, none⟩ (.slice none 0 0)) ∧
      (((w1.setCell ⟨w.heap.size, 0, none⟩ (.int .i64 er)).setCell ⟨w.heap.size, 1, none⟩ (.int .u64 (v : Int))).setCell ⟨w.heap.size, 2, none⟩ (.slice none 0 0)).heap[w.heap.size]? = some (.cells #[.int .i64 er, .int .u64 (v : Int), .slice none 0 0] 50 (0, 0)) := by
    intro er v hev
    have hcR : Chg (fun k => k = w.heap.size) w1 (((w1.setCell ⟨w.heap.size, 0, none⟩ (.int .i64 er)).setCell ⟨w.heap.size, 1, none⟩ (.int .u64 (v : Int))).setCell ⟨w.heap.size, 2, none⟩ (.slice none 0 0)) := (((Chg.refl (fun k => k = w.heap.size) w1).setCell (by exact .inl rfl) _).setCell (by exact .inl rfl) _).setCell (by exact .inl rfl) _
    have hcA : Chg (MemSet I.bm I.bw) w (((w1.setCell ⟨w.heap.size, 0, none⟩ (.int .i64 er)).setCell ⟨w.heap.size, 1, none⟩ (.int .u64 (v : Int))).setCell ⟨w.heap.size, 2, none⟩ (.slice none 0 0)) :=
      ((((Chg.of_below Hga.out).trans hc1').setCell (by exact .inr (Nat.le_refl _)) _).setCell (by exact .inr (Nat.le_refl _)) _).setCell (by exact .inr (Nat.le_refl _)) _
    have hm6 := hm1.chg hcR (fun e => Hra'.out (.inl e.symm)) (fun q hq e => Hra'.out (.inr (by rw [← e]; exact hq.symm)))
    obtain ⟨hwf, hcf⟩ := Hw.out.mems hcA hm6
    refine ⟨⟨er, v, rfl, hcA.block b hbl (fun h => Hb.out (S3.out b h).1), by rw [hev], by rw [hev], hcf, hwf⟩, ?_⟩
    rw [blk_set (blk_set (blk_set hr1 _ _) _ _)]; rfl
  have Fin := Lib.hid fin
  clear fin hr1 hc1 hc1' hm1 x0 y0
  by_cases h0 : r = 0
  · subst h0
    obtain ⟨f1, f2⟩ := Fin.out 7 0 (by rw [Hact.out]; rfl)
    obtain ⟨w6, hw6⟩ : ∃ w6, w6 = (((w1.setCell ⟨w.heap.size, 0, none⟩ (.int .i64 7)).setCell ⟨w.heap.size, 1, none⟩ (.int .u64 ((0 : Nat) : Int))).setCell ⟨w.heap.size, 2, none⟩ (.slice none 0 0)) := ⟨_, rfl⟩
    rw [← hw6] at f1 f2
    have k0 : w6.cell? ⟨w.heap.size, 0, none⟩ = some (.int .i64 7) := by rw [cell_blk f2]; rfl
    have k1 : w6.cell? ⟨w.heap.size, 1, none⟩ = some (.int .u64 0) := by rw [cell_blk f2]; rfl
    have k2 : w6.cell? ⟨w.heap.size, 2, none⟩ = some (.slice none 0 0) := by rw [cell_blk f2]; rfl
    have F1 := Lib.hid f1; have Hw6 := Lib.hid (show (((w1.setCell ⟨w.heap.size, 0, none⟩ (.int .i64 7)).setCell ⟨w.heap.size, 1, none⟩ (.int .u64 0)).setCell ⟨w.heap.size, 2, none⟩ (.slice none 0 0)) = w6 from hw6.symm)
    clear f1 f2 hw6
    go_wp2
    rw [Hw6.out]
    exact bodyPost_ret (v := ansV 7 0 (.slice none 0 0)) (by simp [results, Tryz.results168 , go_sem, ansV, k0, k1, k2]) rfl F1.out
  · obtain ⟨d, rfl⟩ : ∃ d, r = d + 1 := ⟨r - 1, by omega⟩
    obtain ⟨f1, f2⟩ := Fin.out 0 d (by rw [Hact.out, if_neg (by omega)]; rfl)
    obtain ⟨w6, hw6⟩ : ∃ w6, w6 = (((w1.setCell ⟨w.heap.size, 0, none⟩ (.int .i64 0)).setCell ⟨w.heap.size, 1, none⟩ (.int .u64 (d : Int))).setCell ⟨w.heap.size, 2, none⟩ (.slice none 0 0)) := ⟨_, rfl⟩
    rw [← hw6] at f1 f2
    have k0 : w6.cell? ⟨w.heap.size, 0, none⟩ = some (.int .i64 0) := by rw [cell_blk f2]; rfl
    have k1 : w6.cell? ⟨w.heap.size, 1, none⟩ = some (.int .u64 (d : Int)) := by rw [cell_blk f2]; rfl
    have k2 : w6.cell? ⟨w.heap.size, 2, none⟩ = some (.slice none 0 0) := by rw [cell_blk f2]; rfl
    have F1 := Lib.hid f1; have Hw6 := Lib.hid hw6.symm
    have e1 : ((d + 1 : Nat) : Int) = (d : Int) + 1 := by omega
    have e2 : ¬ ((d : Int) + 1 = 0) := by omega
    have e3 : (d : Int) + 1 - 1 = (d : Int) := by omega
    have e4 : (0 : Int) ≤ (d : Int) ∧ (d : Int) + 1 < 18446744073709551616 := by omega
    rw [e1]
    clear f1 f2 hw6 e1 h0
    go_wp2
    rw [Hw6.out]
    exact bodyPost_ret (v := ansV 0 d (.slice none 0 0)) (by simp [results, Tryz.results168 , go_sem, ansV, k0, k1, k2]) rfl F1.out
theorem cons_capgo : CapGo consCap consAct where
  keep := by
    rintro w w' Q Mut Mut' K cap c ⟨h2, b, h3, h4, h5⟩ hc hQ hm
    exact ⟨h2, b, h3, box_keep hc (fun hq => h5 (hQ _ hq)) h4, notMut_keep h4 h5 hm⟩
  go := by
    rintro w Mut I N wd b K cap c hw ⟨rfl, bo, rfl, h4, h5⟩ hb hbl hc
    refine (cons_once w Mut I N wd b bo hw hb hbl hc h4 h5 c).mono ?_
    rintro e w' ⟨er, vl, he, hbk, rfl, rfl, hch, hw'⟩
    exact ⟨_, _, he, hbk, rfl, hch, hw'⟩
theorem alloc3 (w : World) (v0 : Value) (c1 c2 : Array Value) (t0 t1 t2 : TypeId) :
    (((w.alloc (.cells #[v0] t0)).alloc (.cells c1 t1)).alloc (.cells c2 t2)).cell? ⟨w.heap.size, 0, none⟩ = some v0 ∧
    (((w.alloc (.cells #[v0] t0)).alloc (.cells c1 t1)).alloc (.cells c2 t2)).heap[w.heap.size + 2]? = some (.cells c2 t2 (0, 0)) ∧
    Below w.heap.size w (((w.alloc (.cells #[v0] t0)).alloc (.cells c1 t1)).alloc (.cells c2 t2)) := by
  refine ⟨?_, ?_, Gr.alloc (Gr.alloc (Gr.new _ _) _) _⟩
  · rw [World.cell?_alloc_lt _ _ _ (by simp; omega), World.cell?_alloc_lt _ _ _ (by simp), cell_new]; rfl
  · have := heap_alloc_new ((w.alloc (.cells #[v0] t0)).alloc (.cells c1 t1)) (.cells c2 t2 (0, 0))
    simp only [World.size_alloc] at this
    exact this
theorem cons_start (w : World) (Mut : Nat → Prop) (I : WIds) (N : Nat) (wd : WD) (p : Nat) (c : CallD) (hw : WorldAt w Mut I N wd) (hp : p < 16) (hc : CallOk c) :
    Calls Tryz.prog 167 #[.agg #[.int .i64 0], .pointer (some ⟨I.bW, 0, none⟩), .int .i64 (p : Int), callAgg c] w (StartPost consR w Mut I wd () p c) := by
  obtain ⟨th, ob, kd, ca, cb, cc⟩ := c
  have hlow := hw.low
  have hcw := hc.a
  simp only at hcw
  unfold callAgg
  simp only
  have Hlow := Lib.hid hlow
  clear hw hc hlow
  have ST : ∀ s, s = consS.start () wd p ⟨th, ob, kd, ca, cb, cc⟩ → s = (if kd = 1 then Mc.run (CoS.once ⟨th, ob, kd, ca, cb, cc⟩ (0, 0)) else if kd ≠ 0 then .refuse 9 else if 4294967296 ≤ ca then .refuse 10 else .run (.prop ca false)) := fun s h => h
  have nm : ∀ (d k : Nat), k ≠ d → ¬ (mutTo Mut noB (fun b => b = w.heap.size + d) (w.heap.size + k)) := fun d k hk => by
    rintro (⟨hx, _⟩ | hx)
    · have := Hlow.out _ hx; omega
    · omega
  have Nm := Lib.hid nm
  have STh := Lib.hid (ST _ rfl)
  clear nm ST
  have refuse_case : ∀ er : Int, consS.start () wd p ⟨th, ob, kd, ca, cb, cc⟩ = .refuse er → StartPost consR w Mut I wd () p ⟨th, ob, kd, ca, cb, cc⟩ (.returned (.iface 215 (.pointer (some ⟨w.heap.size + 3, 0, none⟩)))) ((((w.alloc (.cells #[.int .i64 0] 65)).alloc (.cells #[.int .i64 th, .int .i64 ob, .int .i64 kd, .int .u64 (ca : Int), .int .u64 (cb : Int), .int .u64 (cc : Int)] 48)).alloc (.cells #[.int .i64 er] 33)).alloc (.cells (onceCells 129 #[.pointer (some ⟨w.heap.size + 2, 0, none⟩)] 0 0) 217)) := by
    intro er her
    obtain ⟨a1, a2, a3, a4⟩ := alloc4 w (.int .i64 0) (.int .i64 er) #[.int .i64 th, .int .i64 ob, .int .i64 kd, .int .u64 (ca : Int), .int .u64 (cb : Int), .int .u64 (cc : Int)] (onceCells 129 #[.pointer (some ⟨w.heap.size + 2, 0, none⟩)] 0 0) 65 48 33 217
    refine ⟨_, _, fun b => b = w.heap.size + 3, rfl, a4, fun b hb => by subst hb; exact ⟨by omega, blk_lt a3⟩, ?_⟩
    rw [her]
    exact ⟨rfl, w.heap.size + 3, w.heap.size + 2, rfl, ⟨a3, a2, by omega⟩, rfl, Nm.out 3 2 (by omega)⟩
  have Rc := Lib.hid refuse_case
  clear refuse_case
  by_cases h1 : kd = 1
  · have Hst := Lib.hid (show consS.start () wd p ⟨th, ob, kd, ca, cb, cc⟩ = .run (.once ⟨th, ob, kd, ca, cb, cc⟩ (0, 0)) by rw [STh.out, if_pos h1]; rfl)
    subst h1
    go_enter Tryz.func167, Tryz.ntmps167
    go_wp2
    go_ret
    obtain ⟨a1, a2, a3⟩ := alloc3 w (.int .i64 0) #[.int .i64 th, .int .i64 ob, .int .i64 1, .int .u64 (ca : Int), .int .u64 (cb : Int), .int .u64 (cc : Int)] (onceCells 168 #[.pointer (some ⟨w.heap.size, 0, none⟩)] 0 0) 65 48 217
    refine ⟨_, _, fun b => b = w.heap.size + 2, rfl, a3, fun b hb => by subst hb; exact ⟨by omega, blk_lt a2⟩, ?_⟩
    rw [Hst.out]
    exact ⟨rfl, w.heap.size + 2, _, _, rfl, a2, rfl, enter_cons1, rfl, w.heap.size, rfl, a1, Nm.out 2 0 (by omega)⟩
  by_cases h0 : kd = 0
  · by_cases hbig : 4294967296 ≤ ca
    · have hr := Rc.out 10 (by rw [STh.out, if_neg h1, if_neg (by simp [h0]), if_pos hbig]; rfl)
      have hbi : (4294967296 : Int) ≤ (ca : Int) := by omega
      have Hr := Lib.hid hr
      subst h0
      clear hr h1 hbig
      go_enter Tryz.func167, Tryz.ntmps167
      go_wp2
      go_ret
      exact Hr.out
    · have hst : consS.start () wd p ⟨th, ob, kd, ca, cb, cc⟩ = .run (.prop ca false) := by rw [STh.out, if_neg h1, if_neg (by simp [h0]), if_neg hbig]; rfl
      have hbi : ¬ (4294967296 : Int) ≤ (ca : Int) := by omega
      have Hst := Lib.hid hst; have Hbig := Lib.hid hbig
      subst h0
      clear hst h1 hbig
      go_enter Tryz.func167, Tryz.ntmps167
      go_wp2
      go_ret
      obtain ⟨a1, a2, a3⟩ := alloc3 w (.int .i64 0) #[.int .i64 th, .int .i64 ob, .int .i64 0, .int .u64 (ca : Int), .int .u64 (cb : Int), .int .u64 (cc : Int)] (propCells p ca false) 65 48 242
      refine ⟨_, _, fun b => b = w.heap.size + 2, rfl, a3, fun b hb => by subst hb; exact ⟨by omega, blk_lt a2⟩, ?_⟩
      rw [Hst.out]
      exact ⟨rfl, w.heap.size + 2, rfl, a2, rfl, fun _ => by have := Hbig.out; omega⟩
  · have hr := Rc.out 9 (by rw [STh.out, if_neg h1, if_pos h0]; rfl)
    have Hr := Lib.hid hr
    clear hr
    go_enter Tryz.func167, Tryz.ntmps167
    go_wp2
    go_ret
    exact Hr.out
theorem cons_ok : RealOk consR where
  keepM := by
    intro w w' Q Mut Mut' B T x p s h hc hQ hB hm
    match s with
    | .once c r => exact OnceM.keep cons_capgo h hc hQ hB hm
    | .prop v pc =>
      obtain ⟨h1, b, h2, h3, h4, h5⟩ := h
      exact ⟨h1, b, h2, (hc.block _ (blk_lt h3) (hB b h4)).trans h3, h4, h5⟩
  keepO := fun _ _ _ _ _ _ _ _ _ _ _ => trivial
  lowO := fun _ _ _ _ b hb => hb.elim
  start := ⟨_, _, cons_start_m, fun w Mut I N wd o p c hw _ _ hp hc => cons_start w Mut I N wd p c hw hp hc⟩
  step := by
    intro w Mut B I N wd o T' x' p s hw _ hm _ hp hN hc hB _
    have hB2 : ∀ b, B b → Mut b ∧ ¬ WSet I b := fun b hb => ⟨(hB b hb).1, (hB b hb).2.1⟩
    match s with
    | .once c r =>
      obtain ⟨K, recv, h1, h2⟩ := onceM_step cons_capgo hw hm hc hB2
      refine ⟨K, recv, h1, h2.mono ?_⟩
      rintro e w' ⟨rfl, hch, B', b1, b2, b3, b4⟩
      exact ⟨rfl, hch.mono (fun b _ hb => by rcases hb with hb | hb; exact .inl hb; exact .inr (.inr hb)), B', fun b hb => .inl (b1 b hb), b2, b3, trivial, b4⟩
    | .prop v false =>
      obtain ⟨rfl, b, rfl, h3, h4, h5⟩ := hm
      refine ⟨_, _, prop_step_m _, (prop_swap w Mut B I N wd p v b hw h3 h4 hB2 hp (h5 rfl) hc).mono ?_⟩
      rintro e w' ⟨rfl, hch, hw', hbk⟩
      exact ⟨rfl, hch.mono (fun b _ hb => by rcases hb with hb | hb; exact .inl hb; exact .inr (.inr hb)), fun k => k = b, (fun k hk => by cases hk; exact .inl h4), (fun k hk => by cases hk; exact blk_lt hbk), hw', trivial, rfl, b, rfl, hbk, rfl, fun h => by cases h⟩
    | .prop v true =>
      obtain ⟨rfl, b, rfl, h3, h4, h5⟩ := hm
      refine ⟨_, _, prop_step_m _, (prop_read w Mut B I N wd p v b hw h3 h4 hB2 hc).mono ?_⟩
      rintro e w' ⟨rfl, hch, hw', hbk⟩
      exact ⟨rfl, hch.mono (fun b _ hb => by rcases hb with hb | hb; exact .inl hb; exact .inr (.inr hb)), fun k => k = b, (fun k hk => by cases hk; exact .inl h4), (fun k hk => by cases hk; exact blk_lt hbk), hw', trivial, rfl, b, rfl, hbk, rfl, fun h => by cases h⟩
  answer := by
    intro w Mut B T' x' p s hm
    match s with
    | .once c r => exact onceM_answer hm
    | .prop v pc =>
      obtain ⟨rfl, b, rfl, h3, _, _⟩ := hm
      refine ⟨_, _, prop_answer_m _, (prop_answer b p v pc w h3).mono ?_⟩
      rintro e' w' ⟨rfl, hb⟩
      exact ⟨none, 0, .slice none 0 0, rfl, LstU.nil _ _, Lst.nil _ _, hb⟩
  now := by
    intro o wd p s
    match s with
    | .once c r => rfl
    | .prop v false => rfl
    | .prop v true => rfl
  cnt := by
    intro o wd p s
    match s with
    | .once c r => exact memRead_cnt _ _
    | .prop v false => exact memSwap_cnt _ _ _ _
    | .prop v true => exact memRead_cnt _ _
  invStep := fun _ _ _ _ _ => trivial
  invTick := fun _ _ _ => trivial
  invBegin := fun _ _ _ _ => trivial
theorem cons_nolate : NoLate consR where
  late := fun _ _ _ _ => rfl
  kind := by
    intro w Mut B T' x' p s hm v u
    match s with
    | .once c r =>
      obtain ⟨rfl, _⟩ := hm
      exact once_kind v u
    | .prop v' pc =>
      obtain ⟨rfl, _⟩ := hm
      exact prop_kind v u
end Go.Proofs.YteffgpcjfnjlkaaGreat
