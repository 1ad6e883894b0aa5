/- Layer 8: the tally as the loom's object. -/
import Derived.Test.YtjkgfkbanbhkgaaJ24
import Derived.Test.YtjkgfkbanbhkgaaJ21
set_option maxRecDepth 100000
set_option linter.unusedVariables false
set_option linter.unusedSimpArgs false
set_option linter.unnecessarySimpa false
namespace Go.Proofs.Ytjkgfkbanbhkgaa
section
open Go.RowKit

def taM (n : Nat) (w : World) (Mut B : Nat → Prop) (T : TypeId) (x : Value) (p : Nat) : TaS → Prop
  | .count seen v => T = 214 ∧ ∃ b, x = .pointer (some ⟨b, 0, none⟩) ∧ w.heap[b]? = some (.cells (taCount n p v seen) 216 (0, 0)) ∧ B b
  | .read a s k => T = 217 ∧ ∃ b kv, x = .pointer (some ⟨b, 0, none⟩) ∧ w.heap[b]? = some (.cells (taReadC n p a s kv) 219 (0, 0)) ∧ B b ∧ Lst w Mut kv k
def taLive (n : Nat) (wd : WD) (p : Nat) : TaS → Prop
  | .count false _ => True
  | .count true v => v < 1000000 ∧ (wd.traces 0).length < 1000000
  | .read a s _ => a < n ∧ s < 1000000 ∧ taGot wd a < 1000000 ∧ (wd.traces 0).length < 1000000 ∧ (∀ t ∈ wd.traces 0, 0 ≤ t ∧ t < 1000000) ∧ wd.inv.getD p 0 < 1000000
def tallyR (n : Nat) : Real (tallyS n) where
  T := 90
  x := .agg #[.int .i64 0, .int .i64 (n : Int)]
  OB := noB
  ORep := fun _ _ _ => True
  MRep := taM n
  inv := fun _ _ => True
  dN := 1
  live := fun _ wd p s => taLive n wd p s

theorem count_step_m (a : Addr) : Meth 214 (.pointer (some a)) "Step" 176 (.pointer (some a)) := ⟨fun _ _ => by kernel_rfl, fun _ _ => by kernel_rfl, fun _ _ => by kernel_rfl⟩
theorem count_answer_m (a : Addr) : Meth 214 (.pointer (some a)) "Answer" 175 (.pointer (some a)) := ⟨fun _ _ => by kernel_rfl, fun _ _ => by kernel_rfl, fun _ _ => by kernel_rfl⟩
theorem tread_step_m (a : Addr) : Meth 217 (.pointer (some a)) "Step" 180 (.pointer (some a)) := ⟨fun _ _ => by kernel_rfl, fun _ _ => by kernel_rfl, fun _ _ => by kernel_rfl⟩
theorem tread_answer_m (a : Addr) : Meth 217 (.pointer (some a)) "Answer" 179 (.pointer (some a)) := ⟨fun _ _ => by kernel_rfl, fun _ _ => by kernel_rfl, fun _ _ => by kernel_rfl⟩
theorem tally_start_m (n : Nat) : Meth 90 (.agg #[.int .i64 0, .int .i64 (n : Int)]) "Start" 132 (.agg #[.int .i64 0, .int .i64 (n : Int)]) := ⟨fun _ _ => by kernel_rfl, fun _ _ => by kernel_rfl, fun _ _ => by kernel_rfl⟩
theorem count_kind (v : Value) (u : World) : (Instr.typeAssert (.iface 214 v) 142 175 true).run Try.prog u = .ok (.tuple #[.nilIface, .bool false]) u := run_typeAssert_lacksB Try.underlying175 (by kernel_rfl) (by kernel_rfl) v _ u
theorem tread_kind (v : Value) (u : World) : (Instr.typeAssert (.iface 217 v) 142 175 true).run Try.prog u = .ok (.tuple #[.nilIface, .bool false]) u := run_typeAssert_lacksB Try.underlying175 (by kernel_rfl) (by kernel_rfl) v _ u

theorem count_answer (x : Value) (w : World) :
    Calls Try.prog 175 #[x] w fun e w' => e = .returned (.tuple #[ansV 0 0 (.slice none 0 0), .slice none 0 0]) ∧ Below w.heap.size w w' := by
  unfold ansV
  go_enter Try.func175, Try.ntmps175
  go_wp2
  exact bodyPost_ret (v := .tuple #[.agg #[.int .i64 0, .int .u64 0, .slice none 0 0], .slice none 0 0]) (by simp [results, Try.results175 , go_sem]) rfl ⟨rfl, Gr.new _ _⟩
set_option maxHeartbeats 4000000 in
theorem tread_answer (b n p a s : Nat) (ka : Option Addr) (kn kc : Nat) (w : World) (h : w.heap[b]? = some (.cells (taReadC n p a s (.slice ka kn kc)) 219 (0, 0))) :
    Calls Try.prog 179 #[.pointer (some ⟨b, 0, none⟩)] w fun e w' => e = .returned (.tuple #[ansV 0 s (.slice none 0 0), .slice ka kn kc]) ∧ Below w.heap.size w w' := by
  have hlt := blk_lt h
  have hb2 : (w.alloc (.cells #[.int .i64 0, .int .u64 0, .slice none 0 0] 48)).heap[b]? = some (.cells (taReadC n p a s (.slice ka kn kc)) 219 (0, 0)) := by rw [Below.heap_alloc _ _ _ hlt]; exact h
  have c4 : (w.alloc (.cells #[.int .i64 0, .int .u64 0, .slice none 0 0] 48)).cell? ⟨b, 4, none⟩ = some (.int .u64 (s : Int)) := by rw [cell_blk hb2]; rfl
  have c5 : (w.alloc (.cells #[.int .i64 0, .int .u64 0, .slice none 0 0] 48)).cell? ⟨b, 5, none⟩ = some (.slice ka kn kc) := by rw [cell_blk hb2]; rfl
  have d4 : w.cell? ⟨b, 4, none⟩ = some (.int .u64 (s : Int)) := by rw [cell_blk h]; rfl
  have d5 : w.cell? ⟨b, 5, none⟩ = some (.slice ka kn kc) := by rw [cell_blk h]; rfl
  have hne : w.heap.size ≠ b := by omega
  have hne2 : b ≠ w.heap.size := by omega
  clear h hb2
  unfold ansV
  go_enter Try.func179, Try.ntmps179
  go_wp2_with fail
  go_region_held3 (fun u => u.cell? ⟨b, 4, none⟩ = some (.int .u64 (s : Int)) ∧ u.cell? ⟨b, 5, none⟩ = some (.slice ka kn kc)) (first | exact ⟨c4, c5⟩ | exact ⟨(World.cell?_alloc_lt _ _ _ hlt).trans d4, (World.cell?_alloc_lt _ _ _ hlt).trans d5⟩ | go_keep) (fail)
  all_goals
    go_wp2
    exact bodyPost_ret (v := .tuple #[.agg #[.int .i64 0, .int .u64 (s : Int), .slice none 0 0], .slice ka kn kc]) (by simp [results, Try.results179 , go_sem]) rfl ⟨rfl, by first | exact (Gr.new _ _).drew | exact Gr.new _ _⟩

theorem new3 (w : World) (o0 o1 : Obj) (c : Array Value) (T : TypeId) : (((w.alloc o0).alloc o1).alloc (.cells c T)).heap[w.heap.size + 2]? = some (.cells c T (0, 0)) := by
  have := heap_alloc_new ((w.alloc o0).alloc o1) (.cells c T (0, 0))
  simp only [World.size_alloc] at this
  exact this
theorem new4 (w : World) (o0 o1 : Obj) (v2 : Value) (T2 : TypeId) (c : Array Value) (T : TypeId) :
    ((((w.alloc o0).alloc o1).alloc (.cells #[v2] T2)).alloc (.cells c T)).heap[w.heap.size + 3]? = some (.cells c T (0, 0)) ∧ ((((w.alloc o0).alloc o1).alloc (.cells #[v2] T2)).alloc (.cells c T)).cell? ⟨w.heap.size + 2, 0, none⟩ = some v2 := by
  constructor
  · have := heap_alloc_new (((w.alloc o0).alloc o1).alloc (.cells #[v2] T2)) (.cells c T (0, 0))
    simp only [World.size_alloc] at this
    exact this
  · rw [World.cell?_alloc_lt _ _ _ (by simp)]
    have := cell_new ((w.alloc o0).alloc o1) #[v2] T2 (0, 0) 0
    simp only [World.size_alloc] at this
    exact this
theorem tally_start (n : Nat) (w : World) (Mut : Nat → Prop) (I : WIds) (N : Nat) (wd : WD) (p : Nat) (c : CallD) (hw : WorldAt w Mut I N wd) (hp : p < 16) (hc : CallOk c) :
    Calls Try.prog 132 #[.agg #[.int .i64 0, .int .i64 (n : Int)], .pointer (some ⟨I.bW, 0, none⟩), .int .i64 (p : Int), callAgg c] w (StartPost (tallyR n) w Mut I wd () p c) := by
  obtain ⟨th, ob, kd, ca, cb, cc⟩ := c
  have hlow := hw.low
  unfold callAgg
  simp only
  have Hlow := Lib.hid hlow
  clear hw hc hlow
  have ST : (tallyS n).start () wd p ⟨th, ob, kd, ca, cb, cc⟩ = (if kd = 0 then Mc.run (TaS.count false 0) else if kd = 1 then .run (.read 0 0 []) else .refuse 9) := rfl
  have nm : ∀ (d k : Nat), k ≠ d → ¬ (mutTo Mut noB (fun b => b = w.heap.size + d) (w.heap.size + k)) := fun d k hk => by
    rintro (⟨hx, _⟩ | hx)
    · have := Hlow.out _ hx; omega
    · omega
  have Nm := Lib.hid nm
  have STh := Lib.hid ST
  clear nm ST
  by_cases h0 : kd = 0
  · have Hst := Lib.hid (show (tallyS n).start () wd p ⟨th, ob, kd, ca, cb, cc⟩ = .run (.count false 0) by rw [STh.out, if_pos h0]; rfl)
    subst h0
    go_enter Try.func132, Try.ntmps132
    go_wp2
    go_ret
    refine ⟨_, _, fun b => b = w.heap.size + 2, rfl, Gr.alloc (Gr.alloc (Gr.new _ _) _) _, fun b hb => by subst hb; exact ⟨by omega, by simp⟩, ?_⟩
    rw [Hst.out]
    exact ⟨rfl, w.heap.size + 2, rfl, new3 _ _ _ _ _, rfl⟩
  by_cases h1 : kd = 1
  · have Hst := Lib.hid (show (tallyS n).start () wd p ⟨th, ob, kd, ca, cb, cc⟩ = .run (.read 0 0 []) by rw [STh.out, if_neg h0, if_pos h1]; rfl)
    subst h1
    clear h0
    go_enter Try.func132, Try.ntmps132
    go_wp2
    go_ret
    refine ⟨_, _, fun b => b = w.heap.size + 2, rfl, Gr.alloc (Gr.alloc (Gr.new _ _) _) _, fun b hb => by subst hb; exact ⟨by omega, by simp⟩, ?_⟩
    rw [Hst.out]
    exact ⟨rfl, w.heap.size + 2, _, rfl, new3 _ _ _ _ _, rfl, Lst.nil _ _⟩
  · have Hst := Lib.hid (show (tallyS n).start () wd p ⟨th, ob, kd, ca, cb, cc⟩ = .refuse 9 by rw [STh.out, if_neg h0, if_neg h1]; rfl)
    have Rf := Lib.hid (refuse_any 9)
    go_enter Try.func132, Try.ntmps132
    go_wp2
    go_ret
    refine ⟨_, _, fun b => b = w.heap.size + 3, rfl, Gr.alloc (Gr.alloc (Gr.alloc (Gr.new _ _) _) _) _, fun b hb => by subst hb; exact ⟨by omega, by simp⟩, ?_⟩
    rw [Hst.out]
    exact ⟨rfl, w.heap.size + 3, w.heap.size + 2, rfl, ⟨(new4 _ _ _ _ _ _ _).1, (new4 _ _ _ _ _ _ _).2, by omega⟩, rfl, Nm.out 3 2 (by omega)⟩

theorem tally_ok (n : Nat) (hn : n ≤ 16) : RealOk (tallyR n) where
  keepM := by
    intro w w' Q Mut Mut' B T x p s h hc hQ hB hm
    match s with
    | .count seen v =>
      obtain ⟨h1, b, h2, h3, h4⟩ := h
      exact ⟨h1, b, h2, (hc.block _ (blk_lt h3) (hB b h4)).trans h3, h4⟩
    | .read a s k =>
      obtain ⟨h1, b, kv, h2, h3, h4, h5⟩ := h
      exact ⟨h1, b, kv, h2, (hc.block _ (blk_lt h3) (hB b h4)).trans h3, h4, h5.keep hc hQ hm⟩
  keepO := fun _ _ _ _ _ _ _ _ _ _ _ => trivial
  lowO := fun _ _ _ _ b hb => hb.elim
  start := ⟨_, _, tally_start_m n, fun w Mut I N wd o p c hw _ _ hp hc => tally_start n w Mut I N wd p c hw hp hc⟩
  step := by
    intro w Mut B I N wd o T' x' p s hw _ hm _ hp hN hc hB hl
    have hB2 : ∀ b, B b → Mut b ∧ ¬ WSet I b := fun b hb => ⟨(hB b hb).1, (hB b hb).2.1⟩
    have hN2 : N + 1 < 1000000000 := hN
    match s with
    | .count false v =>
      obtain ⟨rfl, b, rfl, h3, h4⟩ := hm
      refine ⟨_, _, count_step_m _, (count_look w Mut B I N wd n p v b hw h3 h4 hB2 hp hc).mono ?_⟩
      rintro e w' ⟨rfl, hch, hw', hbk⟩
      exact ⟨rfl, hch.mono (fun b _ hb => by rcases hb with hb | hb; exact .inl hb; exact .inr (.inr hb)), fun k => k = b, (fun k hk => by cases hk; exact .inl h4), (fun k hk => by cases hk; exact blk_lt hbk), hw'.more (Nat.le_succ _) hN2, trivial, rfl, b, rfl, hbk, rfl⟩
    | .count true v =>
      obtain ⟨rfl, b, rfl, h3, h4⟩ := hm
      obtain ⟨l1, l2⟩ := hl
      refine ⟨_, _, count_step_m _, (count_write w Mut B I N wd n p v b hw h3 h4 hB2 hp hc l1 l2 hN2).mono ?_⟩
      rintro e w' ⟨rfl, hch, hw', hbk⟩
      exact ⟨rfl, hch.mono (fun b _ hb => by rcases hb with hb | hb; exact .inl hb; exact .inr (.inr hb)), fun k => k = b, (fun k hk => by cases hk; exact .inl h4), (fun k hk => by cases hk; exact blk_lt hbk), hw', trivial, rfl, b, rfl, hbk, rfl⟩
    | .read a s k =>
      obtain ⟨rfl, b, kv, rfl, h3, h4, h5⟩ := hm
      obtain ⟨l1, l2, l3, l4, l5, l6⟩ := hl
      by_cases ha : a + 1 < n
      · have hst : (tallyS n).step o wd p (.read a s k) = ((), taRead wd a, .read (a + 1) (s + taGot wd a) k, false) := if_pos ha
        refine ⟨_, _, tread_step_m _, (read_more w Mut B I N wd n p a s kv b hw h3 h4 hB2 hp hc hn ha l2 l3).mono ?_⟩
        rintro e w' ⟨rfl, hch, hw', hbk⟩
        have hup : MutUp Mut w (mutTo Mut B (fun k => k = b)) := mutTo_up (fun k hk => by cases hk; exact .inl h4) (fun k hk => (hB k hk).1)
        unfold StepPost
        rw [hst]
        exact ⟨rfl, hch.mono (fun b _ hb => by rcases hb with hb | hb; exact .inl hb; exact .inr (.inr hb)), fun k => k = b, (fun k hk => by cases hk; exact .inl h4), (fun k hk => by cases hk; exact blk_lt hbk), hw'.more (Nat.le_succ _) hN2, trivial, rfl, b, kv, rfl, hbk, rfl, h5.keep hch (fun k hk => by rcases hk with hk | hk; exact hw.muts k hk; exact (hB k hk).1) hup⟩
      · have hst : (tallyS n).step o wd p (.read a s k) = ((), taRead wd a, .read (a + 1) (s + taGot wd a) (taKey wd p (s + taGot wd a)), true) := if_neg ha
        refine ⟨_, _, tread_step_m _, (read_last w Mut B I N wd n p a s kv b hw h3 h4 hB2 hp hc hn (by omega) l2 l3 l4 l5 l6).mono ?_⟩
        rintro e w' ⟨kv', ⟨rfl, hch, hw', hbk⟩, hl'⟩
        unfold StepPost
        rw [hst]
        exact ⟨rfl, hch.mono (fun b _ hb => by rcases hb with hb | hb; exact .inl hb; exact .inr (.inr hb)), fun k => k = b, (fun k hk => by cases hk; exact .inl h4), (fun k hk => by cases hk; exact blk_lt hbk), hw'.more (Nat.le_succ _) hN2, trivial, rfl, b, kv', rfl, hbk, rfl, hl'⟩
  answer := by
    intro w Mut B T' x' p s hm
    match s with
    | .count seen v =>
      obtain ⟨rfl, b, rfl, h3, _⟩ := hm
      refine ⟨_, _, count_answer_m _, (count_answer _ w).mono ?_⟩
      rintro e' w' ⟨rfl, hb⟩
      exact ⟨none, 0, .slice none 0 0, rfl, LstU.nil _ _, Lst.nil _ _, hb⟩
    | .read a s k =>
      obtain ⟨rfl, b, kv, rfl, h3, _, h5⟩ := hm
      obtain ⟨ka, kc, rfl, k2, k3, k4⟩ := h5
      refine ⟨_, _, tread_answer_m _, (tread_answer b n p a s ka k.length kc w h3).mono ?_⟩
      rintro e' w' ⟨rfl, hb⟩
      exact ⟨none, 0, _, rfl, LstU.nil _ _, Lst.keep (S := noB) ⟨ka, kc, rfl, k2, k3, k4⟩ (Chg.of_below hb) (fun _ h => h.elim) (MutUp.refl _ _), hb⟩
  now := by
    intro o wd p s
    match s with
    | .count false v => rfl
    | .count true v => rfl
    | .read a s k =>
      show ((tallyS n).step o wd p (.read a s k)).2.1.now = wd.now
      by_cases ha : a + 1 < n
      · rw [show (tallyS n).step o wd p (.read a s k) = _ from if_pos ha]; rfl
      · rw [show (tallyS n).step o wd p (.read a s k) = _ from if_neg ha]; rfl
  cnt := by
    intro o wd p s
    match s with
    | .count false v => exact memRead_cnt _ _
    | .count true v => exact memWrite_cnt _ _ _
    | .read a s k =>
      show ((tallyS n).step o wd p (.read a s k)).2.1.mem.c.all ≤ _
      by_cases ha : a + 1 < n
      · rw [show (tallyS n).step o wd p (.read a s k) = _ from if_pos ha]; exact memRead_cnt _ _
      · rw [show (tallyS n).step o wd p (.read a s k) = _ from if_neg ha]; exact memRead_cnt _ _
  invStep := fun _ _ _ _ _ => trivial
  invTick := fun _ _ _ => trivial
  invBegin := fun _ _ _ _ => trivial
theorem tally_nolate (n : Nat) : NoLate (tallyR n) where
  late := fun _ _ _ _ => rfl
  kind := by
    intro w Mut B T' x' p s hm v u
    match s with
    | .count seen v' =>
      obtain ⟨rfl, _⟩ := hm
      exact count_kind v u
    | .read a s' k =>
      obtain ⟨rfl, _⟩ := hm
      exact tread_kind v u
end
section

/- Counting events of a play, in plain numbers. -/
open Go.RowKit

/-- How many events are such. -/
def cnt (P : EvD → Bool) (l : List EvD) : Nat := (l.map fun e => if P e then 1 else 0).sum
theorem cnt_nil (P : EvD → Bool) : cnt P [] = 0 := rfl
theorem cnt_cons (P : EvD → Bool) (e : EvD) (l : List EvD) : cnt P (e :: l) = (if P e then 1 else 0) + cnt P l := rfl
theorem cnt_append (P : EvD → Bool) (l m : List EvD) : cnt P (l ++ m) = cnt P l + cnt P m := by unfold cnt; rw [List.map_append, List.sum_append]
theorem cnt_set (P : EvD → Bool) (l : List EvD) (k : Nat) (e : EvD) (hk : k < l.length) : cnt P (l.set k e) + (if P (evAt l k) then 1 else 0) = cnt P l + (if P e then 1 else 0) := sum_map_set _ l k e hk
theorem cnt_le (P : EvD → Bool) : ∀ l : List EvD, cnt P l ≤ l.length
  | [] => Nat.le_refl _
  | e :: l => by rw [cnt_cons, List.length_cons]; have := cnt_le P l; split <;> omega
theorem cnt_mono {P Q : EvD → Bool} : ∀ {l : List EvD}, (∀ i, i < l.length → P (evAt l i) = true → Q (evAt l i) = true) → cnt P l ≤ cnt Q l
  | [], _ => Nat.le_refl _
  | e :: l, h => by
    rw [cnt_cons, cnt_cons]
    have h1 := cnt_mono (P := P) (Q := Q) (l := l) (fun i hi hp => h (i + 1) (by simp; omega) hp)
    have h2 := h 0 (by simp)
    have h3 : evAt (e :: l) 0 = e := rfl
    rw [h3] at h2
    cases hp : P e with
    | true => rw [h2 hp]; simp; omega
    | false => simp; omega
theorem cnt_congr {P Q : EvD → Bool} {l : List EvD} (h : ∀ i, i < l.length → P (evAt l i) = Q (evAt l i)) : cnt P l = cnt Q l :=
  Nat.le_antisymm (cnt_mono fun i hi hp => by rw [← h i hi]; exact hp) (cnt_mono fun i hi hp => by rw [h i hi]; exact hp)
/-- Two kinds that exclude one another, and make up a third one. -/
theorem cnt_both {P Q R : EvD → Bool} : ∀ {l : List EvD}, (∀ i, i < l.length → (R (evAt l i) = (P (evAt l i) || Q (evAt l i))) ∧ ¬ (P (evAt l i) = true ∧ Q (evAt l i) = true)) → cnt R l = cnt P l + cnt Q l
  | [], _ => rfl
  | e :: l, h => by
    rw [cnt_cons, cnt_cons, cnt_cons]
    have h1 := cnt_both (P := P) (Q := Q) (R := R) (l := l) (fun i hi => h (i + 1) (by simp; omega))
    obtain ⟨h2, h3⟩ := h 0 (by simp)
    have h4 : evAt (e :: l) 0 = e := rfl
    rw [h4] at h2 h3
    rw [h2]
    cases hp : P e <;> cases hq : Q e <;> simp [hp, hq] at h3 ⊢ <;> omega
theorem cnt_none : ∀ l : List EvD, cnt (fun _ => false) l = 0
  | [] => rfl
  | e :: l => by rw [cnt_cons, cnt_none l]; rfl
theorem cnt_zero {P : EvD → Bool} {l : List EvD} (h : ∀ i, i < l.length → P (evAt l i) = false) : cnt P l = 0 := by
  have : cnt P l ≤ cnt (fun _ => false) l := cnt_mono fun i hi hp => by rw [h i hi] at hp; cases hp
  rw [cnt_none] at this
  omega

variable {S : Sys}
/-- The events behind a step: one more of a kind, if the step's event is of it now; kinds of events that have responded. -/
theorem From.cnt {calls : List CallD} {st : PlayD S} {q i k : Nat} {s : S.σ} {evs0 : List EvD} {wd0 : WD} (h : From calls st q i k s evs0 wd0) {P : EvD → Bool} (hP : ∀ e, e.resp = 0 → P e = false) (e : EvD) : cnt P (evs0.set k e) = cnt P st.evs + (if P e then 1 else 0) := by
  have h1 := cnt_set P evs0 k e h.len
  rw [hP _ h.open_] at h1
  have h2 : Go.Proofs.Ytjkgfkbanbhkgaa.cnt P evs0 = Go.Proofs.Ytjkgfkbanbhkgaa.cnt P st.evs := by
    cases h with
    | old k s hh hk hc hr => rfl
    | new s hh hs => rw [cnt_append, cnt_cons, hP _ rfl, cnt_nil]; simp
  rw [h2] at h1
  simpa using h1
end
end Go.Proofs.Ytjkgfkbanbhkgaa
