/- A door in the reference's play: plain numbers. -/
import Derived.Test.YteffgpcjfnjlkaaGreatM39
import Derived.Test.YteffgpcjfnjlkaaGreatM41
import Derived.Test.YteffgpcjfnjlkaaGreatM24
import Derived.Test.YteffgpcjfnjlkaaGreatM31
set_option maxRecDepth 100000
set_option linter.unusedVariables false
set_option linter.unusedSimpArgs false
set_option linter.unnecessarySimpa false
namespace Go.Proofs.YteffgpcjfnjlkaaGreat
section
open Go.RowKit
def rdrF (x : Nat × TapeP × RWD) (i : Nat) : Nat × TapeP × RWD := (max x.1 (accP 0 (i : Int) 0 0 x.2.1 x.2.2).1, (accP 0 (i : Int) 0 0 x.2.1 x.2.2).2)
def rdrL (n : Nat) (t : TapeP) (r : RWD) : Nat × TapeP × RWD := (List.range n).foldl rdrF (0, t, r)
theorem rdrL_succ (n : Nat) (t : TapeP) (r : RWD) : rdrL (n + 1) t r = rdrF (rdrL n t r) n := by
  unfold rdrL
  rw [List.range_succ, List.foldl_append]; rfl
def rdoorDo (n : Nat) (c : CallD) (t : TapeP) (r : RWD) : TapeP × RWD :=
  if c.kind = 1 then (if n ≤ c.a then ({ t with err := 10 }, r) else valP (accP 0 (c.a : Int) 0 0 t r))
  else if c.kind ≠ 0 then ({ t with err := 9 }, r)
  else ({ (accP 1 (t.thread : Int) ((rdrL n t r).1 + 1) 0 (rdrL n t r).2.1 (rdrL n t r).2.2).2.1 with val := (rdrL n t r).1 + 1 }, (accP 1 (t.thread : Int) ((rdrL n t r).1 + 1) 0 (rdrL n t r).2.1 (rdrL n t r).2.2).2.2)
theorem rdrL_runs (t : TapeP) (r : RWD) : ∀ n, Runs t r (rdrL n t r).2.1 (rdrL n t r).2.2
  | 0 => Runs.refl _ _
  | n + 1 => by
    rw [rdrL_succ]
    exact (rdrL_runs t r n).trans (Runs.acc 0 (n : Int) 0 0 _ _)
theorem rdrL_priv (t : TapeP) (r : RWD) : ∀ n, (rdrL n t r).2.1.priv = t.priv
  | 0 => rfl
  | n + 1 => by
    rw [rdrL_succ]
    exact (accP_priv _ _ _ _ _ _).trans (rdrL_priv t r n)
theorem rdrL_ticks (t : TapeP) (r : RWD) : ∀ n x, x ∈ (rdrL n t r).2.1.ticks → x ∈ t.ticks ∨ x = (r.now : Int)
  | 0, _, h => .inl h
  | n + 1, x, h => by
    rw [rdrL_succ] at h
    rcases accP_ticks _ _ _ _ _ _ _ h with h | h
    · exact rdrL_ticks t r n x h
    · right; rw [h, (rdrL_runs t r n).now]
theorem rdoor_dob (n : Nat) : DoB (rdoorDo n) where
  runs := by
    intro c t r
    unfold rdoorDo
    split
    · split
      · exact Runs.errP _ _ _
      · exact Runs.valP _ _ _ _
    · split
      · exact Runs.errP _ _ _
      · have h := (rdrL_runs t r n).trans (Runs.acc 1 (t.thread : Int) ((rdrL n t r).1 + 1) 0 _ _)
        exact ⟨h.ws, h.now, h.all, h.got, h.thread, h.inv⟩
  priv := by
    intro c t r h
    unfold rdoorDo valP
    split
    · split
      · exact h
      · simp only [accP_priv]; exact h
    · split
      · exact h
      · simp only [accP_priv, rdrL_priv]; exact h
theorem rdoor_dot (n : Nat) : DoT (rdoorDo n) := by
  intro c t r x hx
  unfold rdoorDo valP at hx
  split at hx
  · split at hx
    · exact .inl hx
    · exact accP_ticks _ _ _ _ _ _ _ hx
  · split at hx
    · exact .inl hx
    · rcases accP_ticks _ _ _ _ _ _ _ hx with h | h
      · exact rdrL_ticks t r n x h
      · right; rw [h, (rdrL_runs t r n).now]
theorem rdrL_old {t : TapeP} (h0 : t.at_ = 0) (hh : t.halt = false) (r : RWD) : ∀ k, k ≤ t.got.length → rdrL k t r = ((t.got.take k).foldl max 0, { t with at_ := k }, r)
  | 0, _ => by
    have e : ({ t with at_ := 0 } : TapeP) = t := by rw [← h0]
    rw [e]; rfl
  | k + 1, hk => by
    rw [rdrL_succ, rdrL_old h0 hh r k (by omega)]
    unfold rdrF
    rw [accP_old (t := { t with at_ := k }) hh hk]
    have e : t.got.take (k + 1) = t.got.take k ++ [t.got.getD k 0] := by
      rw [List.take_add_one, List.getD_eq_getElem?_getD, List.getElem?_eq_getElem hk]; rfl
    rw [e, List.foldl_append]; rfl
theorem rdrL_new {t : TapeP} (h0 : t.at_ = 0) (hh : t.halt = false) (hf : t.fresh = true) (r : RWD) : rdrL (t.got.length + 1) t r = (max (t.got.foldl max 0) (memRead r.mem (t.got.length : Int)).2, { t with at_ := t.got.length + 1, got := t.got ++ [(memRead r.mem (t.got.length : Int)).2], ticks := t.ticks ++ [(r.now : Int)], fresh := false }, { r with mem := (memRead r.mem (t.got.length : Int)).1 }) := by
  rw [rdrL_succ, rdrL_old h0 hh r _ (Nat.le_refl _), List.take_length]
  unfold rdrF
  rw [accP_fresh (t := { t with at_ := t.got.length }) hh (Nat.lt_irrefl _) hf]; rfl
theorem rdrL_end {t : TapeP} (h0 : t.at_ = 0) (hh : t.halt = false) (hf : t.fresh = true) (r : RWD) : ∀ j, rdrL (t.got.length + 2 + j) t r = (max (t.got.foldl max 0) (memRead r.mem (t.got.length : Int)).2, { t with at_ := t.got.length + 1, got := t.got ++ [(memRead r.mem (t.got.length : Int)).2], ticks := t.ticks ++ [(r.now : Int)], fresh := false, halt := true }, { r with mem := (memRead r.mem (t.got.length : Int)).1 })
  | 0 => by
    rw [Nat.add_zero, show t.got.length + 2 = t.got.length + 1 + 1 from rfl, rdrL_succ, rdrL_new h0 hh hf r]
    unfold rdrF
    rw [accP_end (t := { t with at_ := t.got.length + 1, got := t.got ++ [(memRead r.mem (t.got.length : Int)).2], ticks := t.ticks ++ [(r.now : Int)], fresh := false }) hh (by simp) rfl]
    simp only [Nat.max_zero]
  | j + 1 => by
    rw [show t.got.length + 2 + (j + 1) = t.got.length + 2 + j + 1 from rfl, rdrL_succ, rdrL_end h0 hh hf r j]
    unfold rdrF
    rw [accP_halt rfl]
    simp only [Nat.max_zero]
def doorSim (n : Nat) : RefSim (doorS n) where
  Rel := fun _ _ _ c h σ => match σ with
    | .once c' r0 => c' = c ∧ r0 = (0, 0) ∧ c.kind = 1 ∧ ¬ n ≤ c.a ∧ h.got = []
    | .take a v => c.kind = 0 ∧ h.got.length = a ∧ v = h.got.foldl max 0 ∧ a ≤ n
  Own := fun _ _ _ => True
theorem door_ref_ok (n : Nat) (calls : List CallD) (Good : PlayD (doorS n) → Prop) : RefOk (doorS n) (doorSim n) n (rdoorDo n) lateM calls Good where
  refuse := by
    intro st c p h e r hG hob hp hown hs hrw hgot htk
    have h9 : (if c.kind = 0 then Mc.run (DoS.take 0 0) else if c.kind ≠ 1 then .refuse 9 else if c.a < n then .run (.once c (0, 0)) else .refuse 10) = Mc.refuse e := hs
    unfold rdoorDo
    split at h9
    · cases h9
    · rename_i h0
      split at h9
      · rename_i h1
        cases h9
        rw [if_neg h1, if_pos h0]
        exact ⟨_, rfl, rfl, rfl, rfl, rfl, rfl, trivial⟩
      · rename_i h1
        split at h9
        · cases h9
        · rename_i h2
          cases h9
          rw [if_pos (by omega), if_pos (by omega)]
          exact ⟨_, rfl, rfl, rfl, rfl, rfl, rfl, trivial⟩
  start := by
    intro st c p h σ r hG hob hth hp hown hs hrw hgot htk hinv
    have h9 : (if c.kind = 0 then Mc.run (DoS.take 0 0) else if c.kind ≠ 1 then .refuse 9 else if c.a < n then .run (.once c (0, 0)) else .refuse 10) = Mc.run σ := hs
    split at h9
    · rename_i h0; cases h9; exact ⟨h0, by rw [hgot]; rfl, by rw [hgot]; rfl, Nat.zero_le _⟩
    · split at h9
      · cases h9
      · split at h9
        · rename_i h1 h2; cases h9; exact ⟨rfl, rfl, by omega, by omega, hgot⟩
        · cases h9
  step := by
    intro st c p h σ r wd k evs0 hG hf hc hp hinv hown hrel hrw hob
    have hky : ∀ m m' : MemD, rkey { r with mem := m } p [] = keyOf { wd with mem := m' } p [] := fun m m' => by
      unfold rkey keyOf tickKey
      rw [if_pos rfl, if_pos rfl]
      show (if r.marks.getD p [] = [] then [2 * (r.now : Int)] else r.marks.getD p []) = if wd.marks.getD p [] = [] then [2 * (wd.now : Int)] else wd.marks.getD p []
      rw [hrw.marks p hp, hrw.now]
    have hrs : ∀ m m' : MemD, m = m' → RwSim n { r with mem := m } { wd with mem := m' } := fun m m' e => ⟨e, hrw.now, hrw.mlen, hrw.marks, hrw.tr⟩
    match σ, hrel with
    | .once c' r0, hrel =>
      obtain ⟨rfl, rfl, h1, h2, hgot⟩ := hrel
      have ht := tape00 (h := h) p hgot
      have hz : rdoorDo n c' (h.tape p) r = valP (accP 0 (c'.a : Int) 0 0 (h.tape p) r) := by unfold rdoorDo; rw [if_pos h1, if_neg h2]
      rw [hz, accP_new ht]
      refine ⟨hrs _ _ (by show (memRead r.mem _).1 = _; rw [hrw.mem]), rfl, rfl, rfl, fun _ => ⟨?_, hky _ _, trivial⟩, fun e => by cases e⟩
      show (⟨0, (memRead r.mem (c'.a : Int)).2, []⟩ : AnsD) = ⟨0, taGot wd c'.a, []⟩
      unfold taGot; rw [hrw.mem]
    | .take a v, hrel =>
      obtain ⟨h0, hlen, hv, han⟩ := hrel
      have hz : rdoorDo n c (h.tape p) r = ({ (accP 1 (p : Int) ((rdrL n (h.tape p) r).1 + 1) 0 (rdrL n (h.tape p) r).2.1 (rdrL n (h.tape p) r).2.2).2.1 with val := (rdrL n (h.tape p) r).1 + 1 }, (accP 1 (p : Int) ((rdrL n (h.tape p) r).1 + 1) 0 (rdrL n (h.tape p) r).2.1 (rdrL n (h.tape p) r).2.2).2.2) := by unfold rdoorDo; rw [if_neg (by omega), if_neg (fun x => x h0)]; rfl
      rw [hz]
      have hgl : (h.tape p).got.length = a := hlen
      by_cases ha : a < n
      · have hst : (doorS n).step st.obj wd p (.take a v) = ((), taRead wd a, .take (a + 1) (max v (taGot wd a)), false) := if_pos ha
        obtain ⟨z, hzz⟩ : ∃ z, z = accP 1 (p : Int) ((rdrL n (h.tape p) r).1 + 1) 0 (rdrL n (h.tape p) r).2.1 (rdrL n (h.tape p) r).2.2 := ⟨_, rfl⟩
        have key : z.2.1.halt = true ∧ z.2.1.got = h.got ++ [(memRead r.mem (a : Int)).2] ∧ z.2.1.ticks = h.ticks ++ [(r.now : Int)] ∧ z.2.2 = { r with mem := (memRead r.mem (a : Int)).1 } := by
          rcases Nat.lt_or_ge n (a + 2) with h1 | h1
          · have e : n = (h.tape p).got.length + 1 := by omega
            rw [hzz, e, rdrL_new (t := h.tape p) rfl rfl rfl r, hgl, accP_end (by rfl) (by show ¬ a + 1 < ((h.tape p).got ++ [(memRead r.mem (a : Int)).2]).length; rw [List.length_append, hgl]; exact Nat.lt_irrefl _) (by rfl)]
            exact ⟨rfl, rfl, rfl, rfl⟩
          · obtain ⟨j, e⟩ : ∃ j, n = (h.tape p).got.length + 2 + j := ⟨n - a - 2, by omega⟩
            rw [hzz, e, rdrL_end (t := h.tape p) rfl rfl rfl r j, hgl, accP_halt (by rfl)]
            exact ⟨rfl, rfl, rfl, rfl⟩
        rw [← hzz]
        obtain ⟨k1, k2, k3, k4⟩ := key
        rw [k4]
        refine ⟨?_, ?_, ?_, ?_, fun e => ?_, fun _ => ⟨?_, trivial⟩⟩
        · rw [hst]; exact hrs _ _ (by show (memRead r.mem _).1 = (memRead wd.mem _).1; rw [hrw.mem])
        · rw [hst]; rfl
        · rw [hst]; rfl
        · rw [hst]; exact k1
        · have e' : z.2.1.halt = false := e
          rw [k1] at e'; cases e'
        · rw [hst]
          show c.kind = 0 ∧ z.2.1.got.length = a + 1 ∧ max v (taGot wd a) = z.2.1.got.foldl max 0 ∧ a + 1 ≤ n
          refine ⟨h0, by rw [k2]; simp [hlen], ?_, ha⟩
          rw [k2, List.foldl_append, ← hv]
          unfold taGot; rw [hrw.mem]; rfl
      · have hst : (doorS n).step st.obj wd p (.take a v) = ((), doWrite wd p (v + 1), .take a (v + 1), true) := if_neg ha
        have e : n = (h.tape p).got.length := by omega
        have eD : rdrL n (h.tape p) r = (v, { (h.tape p) with at_ := (h.tape p).got.length }, r) := by
          rw [e, rdrL_old (t := h.tape p) rfl rfl r _ (Nat.le_refl _), List.take_length]
          rw [hv]; rfl
        rw [eD]
        simp only
        rw [accP_fresh (t := { (h.tape p) with at_ := (h.tape p).got.length }) rfl (Nat.lt_irrefl _) rfl]
        refine ⟨?_, ?_, ?_, ?_, fun _ => ⟨?_, ?_, trivial⟩, fun e => by cases e⟩
        · rw [hst]; exact hrs _ _ (by show memWrite r.mem _ _ = memWrite wd.mem _ _; rw [hrw.mem])
        · rw [hst]; rfl
        · rw [hst]; rfl
        · rw [hst]; rfl
        · rw [hst]; rfl
        · rw [hst]; exact hky _ _
  ownOther := fun _ _ _ _ _ _ _ _ => trivial
  relOther := by
    intro st p σ wd k evs0 r q c h σ' r' hG hf hqp hh hrel hrw
    exact hrel
  relTick := fun _ _ _ _ _ _ h => h
  relBegin := fun _ _ _ _ _ _ _ h => h
  late := by
    intro st c p h σ r hG hh hinv hrel hrw hp
    exact hrw.marks p hp
def Bnd (t : TapeP) (r : RWD) : Prop := (∀ x, x ∈ t.got → x ≤ 1000000) ∧ ∀ x, x ∈ r.mem.ws → x ≤ 1000000
theorem memRead_ws (m : MemD) (a : Int) : (memRead m a).1.ws = m.ws := by unfold memRead MemD.fault; split <;> rfl
theorem Bnd.read {t : TapeP} {r : RWD} (h : Bnd t r) (a : Int) : (accP 0 a 0 0 t r).1 ≤ 1000000 ∧ Bnd (accP 0 a 0 0 t r).2.1 (accP 0 a 0 0 t r).2.2 := by
  have hm : (memRead r.mem a).2 ≤ 1000000 := by
    unfold memRead
    split
    · exact Nat.zero_le _
    · show r.mem.ws.getD _ 0 ≤ _
      rw [List.getD_eq_getElem?_getD]
      cases hx : r.mem.ws[a.toNat]? with
      | none => exact Nat.zero_le _
      | some x => exact h.2 x (List.mem_of_getElem? hx)
  cases hh : t.halt with
  | true => rw [accP_halt hh]; exact ⟨Nat.zero_le _, h⟩
  | false =>
    by_cases ha : t.at_ < t.got.length
    · rw [accP_old hh ha]
      refine ⟨?_, h⟩
      show t.got.getD t.at_ 0 ≤ _
      rw [List.getD_eq_getElem?_getD, List.getElem?_eq_getElem ha]
      exact h.1 _ (List.getElem_mem ha)
    · cases hf : t.fresh with
      | false => rw [accP_end hh ha hf]; exact ⟨Nat.zero_le _, h⟩
      | true =>
        rw [accP_fresh hh ha hf]
        refine ⟨hm, fun x hx => ?_, fun x hx => ?_⟩
        · have hx' : x ∈ t.got ++ [(memRead r.mem a).2] := hx
          rcases List.mem_append.1 hx' with h9 | h9
          · exact h.1 x h9
          · rw [List.mem_singleton.1 h9]; exact hm
        · have hx' : x ∈ (memRead r.mem a).1.ws := hx
          rw [memRead_ws] at hx'
          exact h.2 x hx'
theorem rdrL_bnd {t : TapeP} {r : RWD} (h : Bnd t r) : ∀ n, (rdrL n t r).1 ≤ 1000000 ∧ Bnd (rdrL n t r).2.1 (rdrL n t r).2.2
  | 0 => ⟨Nat.zero_le _, h⟩
  | n + 1 => by
    rw [rdrL_succ]
    obtain ⟨h1, h2⟩ := rdrL_bnd h n
    obtain ⟨h3, h4⟩ := h2.read (n : Int)
    exact ⟨Nat.max_le.2 ⟨h1, h3⟩, h4⟩
end
section

/- The reference's Do at each kind of object. -/
open Go.RowKit
theorem do_boxes (w : World) (kd sP sQ th kn : Int) (xa xb xc : Nat) : ∃ wb, wb = (w.alloc (.cells #[.int .i64 kd, .int .i64 sP, .int .i64 sQ] 39)).alloc (.cells #[.int .i64 th, .int .i64 0, .int .i64 kn, .int .u64 (xa : Int), .int .u64 (xb : Int), .int .u64 (xc : Int)] 48) ∧ Below w.heap.size w wb ∧
    wb.heap[w.heap.size]? = some (.cells #[.int .i64 kd, .int .i64 sP, .int .i64 sQ] 39 (0, 0)) ∧ wb.heap[w.heap.size + 1]? = some (.cells #[.int .i64 th, .int .i64 0, .int .i64 kn, .int .u64 (xa : Int), .int .u64 (xb : Int), .int .u64 (xc : Int)] 48 (0, 0)) := by
  refine ⟨_, rfl, Gr.alloc (Gr.new _ _) _, ?_, ?_⟩
  · rw [Below.heap_alloc _ _ _ (by simp)]; exact heap_alloc_new _ _
  · have := heap_alloc_new (w.alloc (.cells #[.int .i64 kd, .int .i64 sP, .int .i64 sQ] 39)) (.cells #[.int .i64 th, .int .i64 0, .int .i64 kn, .int .u64 (xa : Int), .int .u64 (xb : Int), .int .u64 (xc : Int)] 48 (0, 0))
    simp only [World.size_alloc] at this
    exact this
set_option maxHeartbeats 4000000 in
theorem do_door {B : RBase} {w : World} {t : TapeP} {r : RWD} (P : World → Prop) (n : Nat) (sP sQ th kn : Int) (xa xb xc : Nat) (h : RAt B w t r) (FC : ∀ u, RAt B u t r → Calls Tryz.prog 89 #[.pointer (some ⟨B.I.tb, B.I.pre.length, none⟩), .int .i64 (n : Int), .int .i64 0, .agg #[.int .i64 th, .int .i64 0, .int .i64 kn, .int .u64 (xa : Int), .int .u64 (xb : Int), .int .u64 (xc : Int)]] u fun e u' => e = .returned (.tuple #[]) ∧ P u') :
    Calls Tryz.prog 70 #[.pointer (some ⟨B.I.tb, B.I.pre.length, none⟩), .int .i64 (n : Int), .int .i64 0, .agg #[.int .i64 11, .int .i64 sP, .int .i64 sQ], .agg #[.int .i64 th, .int .i64 0, .int .i64 kn, .int .u64 (xa : Int), .int .u64 (xb : Int), .int .u64 (xc : Int)]] w fun e u' => e = .returned (.tuple #[]) ∧ P u' := by
  obtain ⟨wb, hwb, hg, hS, hC⟩ := do_boxes w 11 sP sQ th kn xa xb xc
  have HC := Lib.hid (FC wb (h.grown hg)); have Hwb := Lib.hid hwb
  clear FC h hg hwb
  have s0 : wb.cell? ⟨w.heap.size, 0, none⟩ = some (.int .i64 11) := by rw [cell_blk hS]; rfl
  have s1 : wb.cell? ⟨w.heap.size, 1, none⟩ = some (.int .i64 sP) := by rw [cell_blk hS]; rfl
  have s2 : wb.cell? ⟨w.heap.size, 2, none⟩ = some (.int .i64 sQ) := by rw [cell_blk hS]; rfl
  have y0 : wb.cell? ⟨w.heap.size + 1, 0, none⟩ = some (.int .i64 th) := by rw [cell_blk hC]; rfl
  have y1 : wb.cell? ⟨w.heap.size + 1, 1, none⟩ = some (.int .i64 0) := by rw [cell_blk hC]; rfl
  have y2 : wb.cell? ⟨w.heap.size + 1, 2, none⟩ = some (.int .i64 kn) := by rw [cell_blk hC]; rfl
  have y3 : wb.cell? ⟨w.heap.size + 1, 3, none⟩ = some (.int .u64 (xa : Int)) := by rw [cell_blk hC]; rfl
  have y4 : wb.cell? ⟨w.heap.size + 1, 4, none⟩ = some (.int .u64 (xb : Int)) := by rw [cell_blk hC]; rfl
  have y5 : wb.cell? ⟨w.heap.size + 1, 5, none⟩ = some (.int .u64 (xc : Int)) := by rw [cell_blk hC]; rfl
  clear hS hC
  go_enter Tryz.func70, Tryz.ntmps70
  go_upto_region 1 with fail
  rw [← Hwb.out]
  go_wp2_with (go_at_call 89; refine HC.out.mono ?_; rintro e w2 ⟨rfl, h2⟩)
  (first | go_end0 | ((try simp only [Exit.inBlock, Exit.then]); refine bodyPost_ret (results_none rfl _ _ _) rfl ?_))
  exact ⟨rfl, h2⟩
end
section

/- The key of an operation that has not responded: its mark: roundelayplain.Late, but for a max register. -/
open Go.RowKit
set_option maxHeartbeats 4000000 in
theorem late_marks (kd P Q : Int) (n : Nat) (hk : kd ≠ 4) : LateC kd P Q n (fun _ p _ r => r.marks.getD p []) := by
  intro B u c t r h hok hob hp hinv hgot htk hml hA
  obtain ⟨wb, hwb, hg, hS, hC⟩ := do_boxes u kd P Q c.thread c.kind c.a c.b c.c
  have hA2 := hA.grown hg
  obtain ⟨G, K, L, h1, h2⟩ := id hA2
  obtain ⟨PV, LV, KV, ht, _⟩ := h1.tape
  obtain ⟨ms, hM, hmn, hms⟩ := h1.marks.blk
  have hnM : B.I.nM = n := by rw [← hml]; exact h1.marks.len.symm
  have hpm : t.thread < B.I.nM := by rw [hnM]; exact hp
  have hfin : RAtL B wb t r (ms.getD t.thread undef) (r.marks.getD t.thread []) := ⟨G, K, L, h1, h2, hms _ hpm⟩
  obtain ⟨wa, cap, _, hW, _⟩ := ht.mem.blk
  have d0 : wb.cell? ⟨B.I.tb, B.I.pre.length, none⟩ = some (.pointer (some ⟨B.I.bW, 0, none⟩)) := ht.cell0
  have d1 := hA2.cThread
  have d7 : wb.cell? ⟨B.I.bW, 7, none⟩ = some (.slice (some ⟨B.I.bM, 0, none⟩) B.I.nM B.I.nM) := by
    have hW' : wb.heap[B.I.bW]? = _ := hW
    rw [cell_blk hW']; rfl
  have dm : wb.cell? ⟨B.I.bM, t.thread, none⟩ = some (ms.getD t.thread undef) := by
    rw [cell_blk hM]
    simp [List.getD_eq_getElem?_getD, show t.thread < ms.length by omega]
  obtain ⟨mv, hmv⟩ : ∃ mv, mv = ms.getD t.thread undef := ⟨_, rfl⟩
  rw [← hmv] at dm hfin
  obtain ⟨p, hpp⟩ : ∃ p, p = t.thread := ⟨_, rfl⟩
  rw [← hpp] at d1 dm hpm
  have s0 : wb.cell? ⟨u.heap.size, 0, none⟩ = some (.int .i64 kd) := by rw [cell_blk hS]; rfl
  have l1 : (p : Int) < (B.I.nM : Int) := by omega
  have l2 : ¬ (p : Int) < 0 := by omega
  have lk : (kd == 4) = false := by simpa using hk
  have D0 := grown_cell d0; have D1 := grown_cell d1; have D7 := grown_cell d7; have DM := grown_cell dm
  have HF := Lib.hid hfin; have Hwb := Lib.hid hwb
  clear hA hA2 h1 h2 ht hM hms hW hfin hmv hpp hS hC hg hwb d0 d1 d7 dm hinv hgot htk hml hnM hmn hp hok
  suffices main : Calls Tryz.prog 58 #[.pointer (some ⟨B.I.tb, B.I.pre.length, none⟩), .int .i64 (n : Int), .int .i64 0, specV kd P Q, callW c] u fun e u' => e = .returned mv ∧ RAtL B u' t r mv (r.marks.getD t.thread []) by
    refine Calls.mono main ?_
    rintro e u' ⟨h1, h2⟩
    exact ⟨mv, t, h1, h2, rfl, rfl, rfl, rfl⟩
  unfold specV callW
  rw [hob]
  clear hob
  go_enter Tryz.func58, Tryz.ntmps58
  go_upto_region 1 with fail
  rw [← Hwb.out]
  go_upto_region 3 with fail
  ((with_reducible refine wp_region_grown_lit (by kernel_rfl) (by kernel_rfl) ?_); (repeat ((with_reducible refine wpQuiet_step (fun K hK => ?_)); go_simp; first | ((with_reducible refine hK _ ?_); clear hK K) | ((with_reducible apply Exists.intro); (with_reducible refine ⟨fun _ => ?_, hK _ ?_⟩); (fail); clear hK K))); (with_reducible refine wpQuiet_nil ?_); intro _ hw'; obtain ⟨nq, hw''⟩ := hw'; subst hw'')
  have hb := nq.below
  have HG := Lib.hid (HF.out.grown hb)
  clear hb
  go_wp2
  go_ret
  exact ⟨rfl, HG.out⟩
end
section

/- A door in the reference's play: what its function does. -/
open Go.RowKit
variable {B : RBase} {w w' : World} {t : TapeP} {r : RWD}
def DoorPre (_ : CallD) (t : TapeP) (r : RWD) : Prop := Bnd t r ∧ t.thread < 16
set_option maxHeartbeats 4000000 in
theorem rdoor_r (n : Nat) (hn : n ≤ 16) (c : CallD) (hok : CallOk c) (h : RAt B w t r) (hpre : DoorPre c t r) :
    Calls Tryz.prog 89 #[.pointer (some ⟨B.I.tb, B.I.pre.length, none⟩), .int .i64 (n : Int), .int .i64 0, .agg #[.int .i64 c.thread, .int .i64 0, .int .i64 c.kind, .int .u64 (c.a : Int), .int .u64 (c.b : Int), .int .u64 (c.c : Int)]] w fun e u => e = .returned (.tuple #[]) ∧ RAt B u (rdoorDo n c t r).1 (rdoorDo n c t r).2 := by
  obtain ⟨wb, hwb⟩ : ∃ wb, wb = w.alloc (.cells #[.int .i64 c.thread, .int .i64 0, .int .i64 c.kind, .int .u64 (c.a : Int), .int .u64 (c.b : Int), .int .u64 (c.c : Int)] 48) := ⟨_, rfl⟩
  have hg : Below w.heap.size w wb := by rw [hwb]; exact Gr.new _ _
  have hC : wb.heap[w.heap.size]? = some (.cells #[.int .i64 c.thread, .int .i64 0, .int .i64 c.kind, .int .u64 (c.a : Int), .int .u64 (c.b : Int), .int .u64 (c.c : Int)] 48 (0, 0)) := by rw [hwb]; exact heap_alloc_new _ _
  have hA := h.grown hg
  have q2 : wb.cell? ⟨w.heap.size, 2, none⟩ = some (.int .i64 c.kind) := by rw [cell_blk hC]; rfl
  have q3 : wb.cell? ⟨w.heap.size, 3, none⟩ = some (.int .u64 (c.a : Int)) := by rw [cell_blk hC]; rfl
  have e9 : wb.cell? ⟨B.I.tb, B.I.pre.length + 9, none⟩ = some (.int .i64 t.err) := hA.cErr
  have f9 : wb.frozen? ⟨B.I.tb, B.I.pre.length + 9, none⟩ = false := hA.frozen _
  have Hwb := Lib.hid hwb; have HA := Lib.hid hA; have HPre := Lib.hid hpre
  have hca := hok.a
  obtain ⟨R, hR⟩ : ∃ R, R = rdoorDo n c t r := ⟨_, rfl⟩
  have HR := Lib.hid hR
  rw [← hR]
  clear hwb hg hC h hA hR hok hpre
  obtain ⟨th, ob, kd, xa, xb, xc⟩ := c
  simp only at *
  have ln : IntKind.u64.wrap (n : Int) = (n : Int) := by rw [IntKind.wrap_u64]; omega
  by_cases h1 : kd = 1
  · by_cases h2 : n ≤ xa
    · have hT : R = ({ t with err := 10 }, r) := by rw [HR.out]; unfold rdoorDo; rw [if_pos h1, if_pos h2]
      have Fin := Lib.hid (HA.out.putErr 10)
      have l3 : (n : Int) ≤ (xa : Int) := by omega
      subst hT
      subst h1
      clear HR HPre
      go_enter Tryz.func89, Tryz.ntmps89
      go_upto_region 1 with fail
      rw [← Hwb.out]
      go_wp2
      (first | go_end0 | ((try simp only [Exit.inBlock, Exit.then]); refine bodyPost_ret (results_none rfl _ _ _) rfl ?_))
      exact ⟨rfl, Fin.out⟩
    · have A1 := Lib.hid (tread_r HA.out (xa : Int))
      have hT : R = valP (accP 0 (xa : Int) 0 0 t r) := by rw [HR.out]; unfold rdoorDo; rw [if_pos h1, if_neg h2]
      obtain ⟨Z, hZ⟩ : ∃ Z, Z = accP 0 (xa : Int) 0 0 t r := ⟨_, rfl⟩
      rw [← hZ] at A1 hT
      obtain ⟨v, t', r'⟩ := Z
      have l3 : ¬ (n : Int) ≤ (xa : Int) := by omega
      have l4 : IntKind.i64.wrap (xa : Int) = (xa : Int) := by rw [IntKind.wrap_i64]; omega
      subst hT
      subst h1
      clear HR hZ HPre
      go_enter Tryz.func89, Tryz.ntmps89
      go_upto_region 1 with fail
      rw [← Hwb.out]
      clear e9 f9
      go_wp2_with (go_at_call 102; refine A1.out.mono ?_; rintro e w2 ⟨rfl, h2⟩; have z10 := h2.cVal; have zf := h2.frozen (B.I.pre.length + 10))
      (first | go_end0 | ((try simp only [Exit.inBlock, Exit.then]); refine bodyPost_ret (results_none rfl _ _ _) rfl ?_))
      exact ⟨rfl, h2.putVal v⟩
  by_cases h0 : kd = 0
  · obtain ⟨hb, hth⟩ := HPre.out
    obtain ⟨hb1, _⟩ := rdrL_bnd hb n
    have hrun := rdrL_runs t r n
    have hT : R = ({ (accP 1 (t.thread : Int) ((rdrL n t r).1 + 1) 0 (rdrL n t r).2.1 (rdrL n t r).2.2).2.1 with val := (rdrL n t r).1 + 1 }, (accP 1 (t.thread : Int) ((rdrL n t r).1 + 1) 0 (rdrL n t r).2.1 (rdrL n t r).2.2).2.2) := by rw [HR.out]; unfold rdoorDo; rw [if_neg h1, if_neg (fun x => x h0)]
    obtain ⟨D, hD⟩ : ∃ D : Nat → Nat × TapeP × RWD, D = fun k => rdrL k t r := ⟨_, rfl⟩
    have hDk : ∀ k, rdrL k t r = D k := fun k => by rw [hD]
    have hD0 : D 0 = (0, t, r) := by rw [hD]; rfl
    have hDs : ∀ k, D (k + 1) = (max (D k).1 (accP 0 (k : Int) 0 0 (D k).2.1 (D k).2.2).1, (accP 0 (k : Int) 0 0 (D k).2.1 (D k).2.2).2) := fun k => by rw [hD]; exact rdrL_succ k t r
    rw [hDk] at hT hb1 hrun
    have HD0 := Lib.hid hD0; have HDs := Lib.hid hDs; have HT := Lib.hid hT; have Hb1 := Lib.hid hb1; have Hthr := Lib.hid hrun.thread; have Hth := Lib.hid hth
    subst h0
    clear HR HPre hD hDk hD0 hDs hT hb1 hrun hth hb
    go_enter Tryz.func89, Tryz.ntmps89
    go_upto_region 1 with fail
    rw [← Hwb.out]
    clear e9 f9
    go_wp2
    go_loopw [39, 8] (fun i m wr => ∃ k : Nat, k ≤ n ∧ i = .int .i64 k ∧ m = .int .u64 ((D k).1 : Int) ∧ RAt B wr (D k).2.1 (D k).2.2) (fun i _ _ => n - (intOf i).toNat)
    case atStart => exact ⟨0, Nat.zero_le _, rfl, by rw [HD0.out]; rfl, by rw [HD0.out]; exact HA.out⟩
    case round =>
      obtain ⟨k, hk, rfl, rfl, hA⟩ := hrel
      by_cases hlt : k < n
      · have l1 : (k : Int) < (n : Int) := by omega
        have l2 : IntKind.i64.wrap (k : Int) = (k : Int) := by rw [IntKind.wrap_i64]; omega
        have A1 := tread_r hA (k : Int)
        have hs := HDs.out k
        obtain ⟨Z, hZ⟩ : ∃ Z, Z = accP 0 (k : Int) 0 0 (D k).2.1 (D k).2.2 := ⟨_, rfl⟩
        rw [← hZ] at A1 hs
        obtain ⟨v, t', r'⟩ := Z
        obtain ⟨m, hm⟩ : ∃ m, m = (D k).1 := ⟨_, rfl⟩
        rw [← hm] at hs ⊢
        have HA1 := Lib.hid A1; have Hs := Lib.hid hs
        clear A1 hs hA hZ hm
        by_cases hv : m < v
        · have l3 : (m : Int) < (v : Int) := by omega
          have e1 : max m v = v := by omega
          go_wp2_with (go_at_call 102; refine HA1.out.mono ?_; rintro e w2 ⟨rfl, h2⟩)
          go_roundw
          case rel => exact ⟨k + 1, by omega, by go_num, by rw [Hs.out]; simp only [e1], by rw [Hs.out]; exact h2⟩
          case measure => simp [intOf] <;> omega
        · have l3 : ¬ (m : Int) < (v : Int) := by omega
          have e1 : max m v = m := by omega
          go_wp2_with (go_at_call 102; refine HA1.out.mono ?_; rintro e w2 ⟨rfl, h2⟩)
          go_roundw
          case rel => exact ⟨k + 1, by omega, by go_num, by rw [Hs.out]; simp only [e1], by rw [Hs.out]; exact h2⟩
          case measure => simp [intOf] <;> omega
      · have l1 : ¬ (k : Int) < (n : Int) := by omega
        obtain rfl : n = k := by omega
        obtain ⟨Dn, hDn⟩ : ∃ Dn, Dn = D n := ⟨_, rfl⟩
        have hT := HT.out
        have hb1 := Hb1.out
        have hthr := Hthr.out
        have hth := Hth.out
        rw [← hDn] at hA hT hb1 hthr ⊢
        obtain ⟨m, t1, r1⟩ := Dn
        simp only at hA hT hb1 hthr ⊢
        have A1 := twrite_r hA (t.thread : Int) (m + 1) (by omega)
        obtain ⟨Z, hZ⟩ : ∃ Z, Z = accP 1 (t.thread : Int) (m + 1) 0 t1 r1 := ⟨_, rfl⟩
        rw [← hZ] at A1 hT
        obtain ⟨v, t2, r2⟩ := Z
        simp only at A1 hT
        subst hT
        obtain ⟨p, hp⟩ : ∃ p, p = t.thread := ⟨_, rfl⟩
        rw [← hp] at A1 hth hthr
        have x1 : wr.cell? ⟨B.I.tb, B.I.pre.length + 1, none⟩ = some (.int .i64 (p : Int)) := by rw [hA.cThread, hthr]
        have l2 : IntKind.i64.wrap (p : Int) = (p : Int) := by rw [IntKind.wrap_i64]; omega
        have l3 : IntKind.u64.wrap ((m : Int) + 1) = (m : Int) + 1 := by rw [IntKind.wrap_u64]; omega
        have A2 := Lib.hid (show Calls Tryz.prog 103 #[.pointer (some ⟨B.I.tb, B.I.pre.length, none⟩), .int .i64 (p : Int), .int .u64 ((m : Int) + 1)] wr fun e w' => e = .returned (.tuple #[]) ∧ RAt B w' t2 r2 from A1)
        clear A1 hZ hDn hA hb1 hthr hth hp HT HD0 HDs Hb1 Hthr Hth
        go_wp2_with (go_at_call 103; refine A2.out.mono ?_; rintro e w2 ⟨rfl, h2⟩; have z10 := h2.cVal; have zf := h2.frozen (B.I.pre.length + 10))
        (first | go_end0 | ((try simp only [Exit.inBlock, Exit.then]); refine bodyPost_ret (results_none rfl _ _ _) rfl ?_))
        exact ⟨rfl, h2.putVal (m + 1)⟩
  · have hT : R = ({ t with err := 9 }, r) := by rw [HR.out]; unfold rdoorDo; rw [if_neg h1, if_pos h0]
    have Fin := Lib.hid (HA.out.putErr 9)
    have l1 : (kd == 1) = false := by simp [h1]
    have l0 : (kd == 0) = false := by simp [h0]
    subst hT
    clear HR HPre
    go_enter Tryz.func89, Tryz.ntmps89
    go_upto_region 1 with fail
    rw [← Hwb.out]
    go_wp2
    (first | go_end0 | ((try simp only [Exit.inBlock, Exit.then]); refine bodyPost_ret (results_none rfl _ _ _) rfl ?_))
    exact ⟨rfl, Fin.out⟩
theorem rdoor_do (n : Nat) (hn : n ≤ 16) : DoC 11 0 0 n DoorPre (rdoorDo n) := by
  intro B u c t r hok hob hpre hA
  have C := do_door (B := B) (w := u) (t := t) (r := r) (fun u' => RAt B u' (rdoorDo n c t r).1 (rdoorDo n c t r).2) n 0 0 c.thread c.kind c.a c.b c.c hA (fun u' h' => rdoor_r n hn c hok h' hpre)
  have R := (rdoor_dob n).runs c t r
  have e1 : callW c = .agg #[.int .i64 c.thread, .int .i64 0, .int .i64 c.kind, .int .u64 (c.a : Int), .int .u64 (c.b : Int), .int .u64 (c.c : Int)] := by unfold callW; rw [hob]
  rw [e1]
  refine C.mono ?_
  rintro e u' ⟨rfl, h1⟩
  exact ⟨rfl, _, h1, R.thread, R.inv, rfl, rfl, rfl, fun _ => ⟨rfl, rfl, rfl, rfl, fun _ => rfl⟩⟩
end
end Go.Proofs.YteffgpcjfnjlkaaGreat
