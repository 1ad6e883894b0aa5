/- Layer 8: the tally as the loom's object. -/
import Derived.Test.YteffgpcjfnjlkaaGreatT37
set_option maxRecDepth 100000
set_option linter.unusedVariables false
set_option linter.unusedSimpArgs false
set_option linter.unnecessarySimpa false
namespace Go.Proofs.YteffgpcjfnjlkaaGreat
open Go.RowKit
def taM (n : Nat) (w : World) (Mut B : Nat → Prop) (T : TypeId) (x : Value) (p : Nat) : TaS → Prop
 | .count seen v => T = 249 ∧ ∃ b, x = .pointer (some ⟨b, 0, none⟩) ∧ w.heap[b]? = some (.cells (taCount n p v seen) 251 (0, 0)) ∧ B b
 | .read a s k => T = 252 ∧ ∃ b kv, x = .pointer (some ⟨b, 0, none⟩) ∧ w.heap[b]? = some (.cells (taReadC n p a s kv) 254 (0, 0)) ∧ B b ∧ Lst w Mut kv k
def taLive (n : Nat) (wd : WD) (p : Nat) : TaS → Prop
 | .count false _ => True
 | .count true v => v < 1000000 ∧ (wd.traces 0).length < 1000000
 | .read a s _ => a < n ∧ s < 1000000 ∧ taGot wd a < 1000000 ∧ (wd.traces 0).length < 1000000 ∧ (∀ t ∈ wd.traces 0, 0 ≤ t ∧ t < 1000000) ∧ wd.inv.getD p 0 < 1000000
def tallyR (n : Nat) : Real (tallyS n) where
 T := 68
 x := .agg #[.int .i64 0, .int .i64 (n : Int)]
 OB := noB
 ORep := fun _ _ _ => True
 MRep := taM n
 inv := fun _ _ => True
 dN := 1
 live := fun _ wd p s => taLive n wd p s
theorem count_step_m (a : Addr) : Meth 249 (.pointer (some a)) "Step" 217 (.pointer (some a)) := ⟨fun _ _ => by kernel_rfl, fun _ _ => by kernel_rfl, fun _ _ => by kernel_rfl⟩
theorem count_answer_m (a : Addr) : Meth 249 (.pointer (some a)) "Answer" 216 (.pointer (some a)) := ⟨fun _ _ => by kernel_rfl, fun _ _ => by kernel_rfl, fun _ _ => by kernel_rfl⟩
theorem tread_step_m (a : Addr) : Meth 252 (.pointer (some a)) "Step" 221 (.pointer (some a)) := ⟨fun _ _ => by kernel_rfl, fun _ _ => by kernel_rfl, fun _ _ => by kernel_rfl⟩
theorem tread_answer_m (a : Addr) : Meth 252 (.pointer (some a)) "Answer" 220 (.pointer (some a)) := ⟨fun _ _ => by kernel_rfl, fun _ _ => by kernel_rfl, fun _ _ => by kernel_rfl⟩
theorem tally_start_m (n : Nat) : Meth 68 (.agg #[.int .i64 0, .int .i64 (n : Int)]) "Start" 173 (.agg #[.int .i64 0, .int .i64 (n : Int)]) := ⟨fun _ _ => by kernel_rfl, fun _ _ => by kernel_rfl, fun _ _ => by kernel_rfl⟩
theorem count_kind (v : Value) (u : World) : (Instr.typeAssert (.iface 249 v) 138 167 true).run Tryz.prog u = .ok (.tuple #[.nilIface, .bool false]) u := run_typeAssert_lacksB Tryz.underlying167 (by kernel_rfl) (by kernel_rfl) v _ u
theorem tread_kind (v : Value) (u : World) : (Instr.typeAssert (.iface 252 v) 138 167 true).run Tryz.prog u = .ok (.tuple #[.nilIface, .bool false]) u := run_typeAssert_lacksB Tryz.underlying167 (by kernel_rfl) (by kernel_rfl) v _ u
theorem count_answer (x : Value) (w : World) :
  Calls Tryz.prog 216 #[x] w fun e w' => e = .returned (.tuple #[ansV 0 0 (.slice none 0 0), .slice none 0 0]) ∧ Below w.heap.size w w' := by
 unfold ansV
 go_enter Tryz.func216, Tryz.ntmps216
 go_wp2
 exact bodyPost_ret (v := .tuple #[.agg #[.int .i64 0, .int .u64 0, .slice none 0 0], .slice none 0 0]) (by simp [results, Tryz.results216 , go_sem]) rfl ⟨rfl, Gr.new _ _⟩
set_option maxHeartbeats 4000000 in
theorem tread_answer (b n p a s : Nat) (ka : Option Addr) (kn kc : Nat) (w : World) (h : w.heap[b]? = some (.cells (taReadC n p a s (.slice ka kn kc)) 254 (0, 0))) :
  Calls Tryz.prog 220 #[.pointer (some ⟨b, 0, none⟩)] w fun e w' => e = .returned (.tuple #[ansV 0 s (.slice none 0 0), .slice ka kn kc]) ∧ Below w.heap.size w w' := by
 have hlt := blk_lt h
 have hb2 : (w.alloc (.cells #[.int .i64 0, .int .u64 0, .slice none 0 0] 50)).heap[b]? = some (.cells (taReadC n p a s (.slice ka kn kc)) 254 (0, 0)) := by rw [Below.heap_alloc _ _ _ hlt]; exact h
 have c4 : (w.alloc (.cells #[.int .i64 0, .int .u64 0, .slice none 0 0] 50)).cell? ⟨b, 4, none⟩ = some (.int .u64 (s : Int)) := by rw [cell_blk hb2]; rfl
 have c5 : (w.alloc (.cells #[.int .i64 0, .int .u64 0, .slice none 0 0] 50)).cell? ⟨b, 5, none⟩ = some (.slice ka kn kc) := by rw [cell_blk hb2]; rfl
 have d4 : w.cell? ⟨b, 4, none⟩ = some (.int .u64 (s : Int)) := by rw [cell_blk h]; rfl
 have d5 : w.cell? ⟨b, 5, none⟩ = some (.slice ka kn kc) := by rw [cell_blk h]; rfl
 have hne : w.heap.size ≠ b := by omega
 have hne2 : b ≠ w.heap.size := by omega
 clear h hb2
 unfold ansV
 go_enter Tryz.func220, Tryz.ntmps220
 go_wp2_with fail
 go_region_held3 (fun u => u.cell? ⟨b, 4, none⟩ = some (.int .u64 (s : Int)) ∧ u.cell? ⟨b, 5, none⟩ = some (.slice ka kn kc)) (first | exact ⟨c4, c5⟩ | exact ⟨(World.cell?_alloc_lt _ _ _ hlt).trans d4, (World.cell?_alloc_lt _ _ _ hlt).trans d5⟩ | go_keep) (fail)
 all_goals
  go_wp2
  exact bodyPost_ret (v := .tuple #[.agg #[.int .i64 0, .int .u64 (s : Int), .slice none 0 0], .slice ka kn kc]) (by simp [results, Tryz.results220 , go_sem]) rfl ⟨rfl, by first | exact (Gr.new _ _).drew | exact Gr.new _ _⟩
theorem new3 (w : World) (o0 o1 : Obj) (c : Array Value) (T : TypeId) : (((w.alloc o0).alloc o1).alloc (.cells c T)).heap[w.heap.size + 2]? = some (.cells c T (0, 0)) := by
 have := heap_alloc_new ((w.alloc o0).alloc o1) (.cells c T (0, 0))
 simp only [World.size_alloc] at this
 exact this
theorem new4 (w : World) (o0 o1 : Obj) (v2 : Value) (T2 : TypeId) (c : Array Value) (T : TypeId) :
  ((((w.alloc o0).alloc o1).alloc (.cells #[v2] T2)).alloc (.cells c T)).heap[w.heap.size + 3]? = some (.cells c T (0, 0)) ∧ ((((w.alloc o0).alloc o1).alloc (.cells #[v2] T2)).alloc (.cells c T)).cell? ⟨w.heap.size + 2, 0, none⟩ = some v2 := by
 constructor
 ·have := heap_alloc_new (((w.alloc o0).alloc o1).alloc (.cells #[v2] T2)) (.cells c T (0, 0))
  simp only [World.size_alloc] at this
  exact this
 ·rw [World.cell?_alloc_lt _ _ _ (by simp)]
  have := cell_new ((w.alloc o0).alloc o1) #[v2] T2 (0, 0) 0
  simp only [World.size_alloc] at this
  exact this
theorem tally_start (n : Nat) (w : World) (Mut : Nat → Prop) (I : WIds) (N : Nat) (wd : WD) (p : Nat) (c : CallD) (hw : WorldAt w Mut I N wd) (hp : p < 16) (hc : CallOk c) :
  Calls Tryz.prog 173 #[.agg #[.int .i64 0, .int .i64 (n : Int)], .pointer (some ⟨I.bW, 0, none⟩), .int .i64 (p : Int), callAgg c] w (StartPost (tallyR n) w Mut I wd () p c) := by
 obtain ⟨th, ob, kd, ca, cb, cc⟩ := c
 have hlow := hw.low
 unfold callAgg
 simp only
 have Hlow := Lib.hid hlow
 clear hw hc hlow
 have ST : (tallyS n).start () wd p ⟨th, ob, kd, ca, cb, cc⟩ = (if kd = 0 then Mc.run (TaS.count false 0) else if kd = 1 then .run (.read 0 0 []) else .refuse 9) := rfl
 have nm : ∀ (d k : Nat), k ≠ d → ¬ (mutTo Mut noB (fun b => b = w.heap.size + d) (w.heap.size + k)) := fun d k hk => by
  rintro (⟨hx, _⟩ | hx)
  ·have := Hlow.out _ hx; omega
  ·omega
 have Nm := Lib.hid nm
 have STh := Lib.hid ST
 clear nm ST
 by_cases h0 : kd = 0
 ·have Hst := Lib.hid (show (tallyS n).start () wd p ⟨th, ob, kd, ca, cb, cc⟩ = .run (.count false 0) by rw [STh.out, if_pos h0]; rfl)
  subst h0
  go_enter Tryz.func173, Tryz.ntmps173
  go_wp2
  go_ret
  refine ⟨_, _, fun b => b = w.heap.size + 2, rfl, Gr.alloc (Gr.alloc (Gr.new _ _) _) _, fun b hb => by subst hb; exact ⟨by omega, by simp⟩, ?_⟩
  rw [Hst.out]
  exact ⟨rfl, w.heap.size + 2, rfl, new3 _ _ _ _ _, rfl⟩
 by_cases h1 : kd = 1
 ·have Hst := Lib.hid (show (tallyS n).start () wd p ⟨th, ob, kd, ca, cb, cc⟩ = .run (.read 0 0 []) by rw [STh.out, if_neg h0, if_pos h1]; rfl)
  subst h1
  clear h0
  go_enter Tryz.func173, Tryz.ntmps173
  go_wp2
  go_ret
  refine ⟨_, _, fun b => b = w.heap.size + 2, rfl, Gr.alloc (Gr.alloc (Gr.new _ _) _) _, fun b hb => by subst hb; exact ⟨by omega, by simp⟩, ?_⟩
  rw [Hst.out]
  exact ⟨rfl, w.heap.size + 2, _, rfl, new3 _ _ _ _ _, rfl, Lst.nil _ _⟩
 ·have Hst := Lib.hid (show (tallyS n).start () wd p ⟨th, ob, kd, ca, cb, cc⟩ = .refuse 9 by rw [STh.out, if_neg h0, if_neg h1]; rfl)
  have Rf := Lib.hid (refuse_any 9)
  go_enter Tryz.func173, Tryz.ntmps173
  go_wp2
  go_ret
  refine ⟨_, _, fun b => b = w.heap.size + 3, rfl, Gr.alloc (Gr.alloc (Gr.alloc (Gr.new _ _) _) _) _, fun b hb => by subst hb; exact ⟨by omega, by simp⟩, ?_⟩
  rw [Hst.out]
  exact ⟨rfl, w.heap.size + 3, w.heap.size + 2, rfl, ⟨(new4 _ _ _ _ _ _ _).1, (new4 _ _ _ _ _ _ _).2, by omega⟩, rfl, Nm.out 3 2 (by omega)⟩
theorem tally_ok (n : Nat) (hn : n ≤ 16) : RealOk (tallyR n) where
 keepM := by
  intro w w' Q Mut Mut' B T x p s h hc hQ hB hm
  match s with
  | .count seen v =>
   obtain ⟨h1, b, h2, h3, h4⟩ := h
   exact ⟨h1, b, h2, (hc.block _ (blk_lt h3) (hB b h4)).trans h3, h4⟩
  | .read a s k =>
   obtain ⟨h1, b, kv, h2, h3, h4, h5⟩ := h
   exact ⟨h1, b, kv, h2, (hc.block _ (blk_lt h3) (hB b h4)).trans h3, h4, h5.keep hc hQ hm⟩
 keepO := fun _ _ _ _ _ _ _ _ _ _ _ => trivial
 lowO := fun _ _ _ _ b hb => hb.elim
 start := ⟨_, _, tally_start_m n, fun w Mut I N wd o p c hw _ _ hp hc => tally_start n w Mut I N wd p c hw hp hc⟩
 step := by
  intro w Mut B I N wd o T' x' p s hw _ hm _ hp hN hc hB hl
  have hB2 : ∀ b, B b → Mut b ∧ ¬ WSet I b := fun b hb => ⟨(hB b hb).1, (hB b hb).2.1⟩
  have hN2 : N + 1 < 1000000000 := hN
  match s with
  | .count false v =>
   obtain ⟨rfl, b, rfl, h3, h4⟩ := hm
   refine ⟨_, _, count_step_m _, (count_look w Mut B I N wd n p v b hw h3 h4 hB2 hp hc).mono ?_⟩
   rintro e w' ⟨rfl, hch, hw', hbk⟩
   exact ⟨rfl, hch.mono (fun b _ hb => by rcases hb with hb | hb; exact .inl hb; exact .inr (.inr hb)), fun k => k = b, (fun k hk => by cases hk; exact .inl h4), (fun k hk => by cases hk; exact blk_lt hbk), hw'.more (Nat.le_succ _) hN2, trivial, rfl, b, rfl, hbk, rfl⟩
  | .count true v =>
   obtain ⟨rfl, b, rfl, h3, h4⟩ := hm
   obtain ⟨l1, l2⟩ := hl
   refine ⟨_, _, count_step_m _, (count_write w Mut B I N wd n p v b hw h3 h4 hB2 hp hc l1 l2 hN2).mono ?_⟩
   rintro e w' ⟨rfl, hch, hw', hbk⟩
   exact ⟨rfl, hch.mono (fun b _ hb => by rcases hb with hb | hb; exact .inl hb; exact .inr (.inr hb)), fun k => k = b, (fun k hk => by cases hk; exact .inl h4), (fun k hk => by cases hk; exact blk_lt hbk), hw', trivial, rfl, b, rfl, hbk, rfl⟩
  | .read a s k =>
   obtain ⟨rfl, b, kv, rfl, h3, h4, h5⟩ := hm
   obtain ⟨l1, l2, l3, l4, l5, l6⟩ := hl
   by_cases ha : a + 1 < n
   ·have hst : (tallyS n).step o wd p (.read a s k) = ((), taRead wd a, .read (a + 1) (s + taGot wd a) k, false) := if_pos ha
    refine ⟨_, _, tread_step_m _, (read_more w Mut B I N wd n p a s kv b hw h3 h4 hB2 hp hc hn ha l2 l3).mono ?_⟩
    rintro e w' ⟨rfl, hch, hw', hbk⟩
    have hup : MutUp Mut w (mutTo Mut B (fun k => k = b)) := mutTo_up (fun k hk => by cases hk; exact .inl h4) (fun k hk => (hB k hk).1)
    unfold StepPost
    rw [hst]
    exact ⟨rfl, hch.mono (fun b _ hb => by rcases hb with hb | hb; exact .inl hb; exact .inr (.inr hb)), fun k => k = b, (fun k hk => by cases hk; exact .inl h4), (fun k hk => by cases hk; exact blk_lt hbk), hw'.more (Nat.le_succ _) hN2, trivial, rfl, b, kv, rfl, hbk, rfl, h5.keep hch (fun k hk => by rcases hk with hk | hk; exact hw.muts k hk; exact (hB k hk).1) hup⟩
   ·have hst : (tallyS n).step o wd p (.read a s k) = ((), taRead wd a, .read (a + 1) (s + taGot wd a) (taKey wd p (s + taGot wd a)), true) := if_neg ha
    refine ⟨_, _, tread_step_m _, (read_last w Mut B I N wd n p a s kv b hw h3 h4 hB2 hp hc hn (by omega) l2 l3 l4 l5 l6).mono ?_⟩
    rintro e w' ⟨kv', ⟨rfl, hch, hw', hbk⟩, hl'⟩
    unfold StepPost
    rw [hst]
    exact ⟨rfl, hch.mono (fun b _ hb => by rcases hb with hb | hb; exact .inl hb; exact .inr (.inr hb)), fun k => k = b, (fun k hk => by cases hk; exact .inl h4), (fun k hk => by cases hk; exact blk_lt hbk), hw'.more (Nat.le_succ _) hN2, trivial, rfl, b, kv', rfl, hbk, rfl, hl'⟩
 answer := by
  intro w Mut B T' x' p s hm
  match s with
  | .count seen v =>
   obtain ⟨rfl, b, rfl, h3, _⟩ := hm
   refine ⟨_, _, count_answer_m _, (count_answer _ w).mono ?_⟩
   rintro e' w' ⟨rfl, hb⟩
   exact ⟨none, 0, .slice none 0 0, rfl, LstU.nil _ _, Lst.nil _ _, hb⟩
  | .read a s k =>
   obtain ⟨rfl, b, kv, rfl, h3, _, h5⟩ := hm
   obtain ⟨ka, kc, rfl, k2, k3, k4⟩ := h5
   refine ⟨_, _, tread_answer_m _, (tread_answer b n p a s ka k.length kc w h3).mono ?_⟩
   rintro e' w' ⟨rfl, hb⟩
   exact ⟨none, 0, _, rfl, LstU.nil _ _, Lst.keep (S := noB) ⟨ka, kc, rfl, k2, k3, k4⟩ (Chg.of_below hb) (fun _ h => h.elim) (MutUp.refl _ _), hb⟩
 now := by
  intro o wd p s
  match s with
  | .count false v => rfl
  | .count true v => rfl
  | .read a s k =>
   show ((tallyS n).step o wd p (.read a s k)).2.1.now = wd.now
   by_cases ha : a + 1 < n
   ·rw [show (tallyS n).step o wd p (.read a s k) = _ from if_pos ha]; rfl
   ·rw [show (tallyS n).step o wd p (.read a s k) = _ from if_neg ha]; rfl
 cnt := by
  intro o wd p s
  match s with
  | .count false v => exact memRead_cnt _ _
  | .count true v => exact memWrite_cnt _ _ _
  | .read a s k =>
   show ((tallyS n).step o wd p (.read a s k)).2.1.mem.c.all ≤ _
   by_cases ha : a + 1 < n
   ·rw [show (tallyS n).step o wd p (.read a s k) = _ from if_pos ha]; exact memRead_cnt _ _
   ·rw [show (tallyS n).step o wd p (.read a s k) = _ from if_neg ha]; exact memRead_cnt _ _
 invStep := fun _ _ _ _ _ => trivial
 invTick := fun _ _ _ => trivial
 invBegin := fun _ _ _ _ => trivial
theorem tally_nolate (n : Nat) : NoLate (tallyR n) where
 late := fun _ _ _ _ => rfl
 kind := by
  intro w Mut B T' x' p s hm v u
  match s with
  | .count seen v' =>
   obtain ⟨rfl, _⟩ := hm
   exact count_kind v u
  | .read a s' k =>
   obtain ⟨rfl, _⟩ := hm
   exact tread_kind v u
end Go.Proofs.YteffgpcjfnjlkaaGreat
