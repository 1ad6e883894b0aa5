/- Layer 6: the events behind a turn, beside those ahead of it. -/
import Derived.Test.YteffgpcjfnjlkaaGreatT39
import Derived.Test.YteffgpcjfnjlkaaGreatT35
import Derived.Test.YteffgpcjfnjlkaaGreatT22
import Derived.Test.YteffgpcjfnjlkaaGreatT18
import Derived.BigQuiet
set_option maxRecDepth 100000
set_option linter.unusedVariables false
set_option linter.unusedSimpArgs false
set_option linter.unnecessarySimpa false
namespace Go.Proofs.YteffgpcjfnjlkaaGreat
section
open Go.RowKit
variable {S : Sys}
structure Next (calls : List CallD) (st : PlayD S) (q : Nat) (evs' : List EvD) (k : Nat) (e1 : EvD) : Prop where
 lt : k < evs'.length
 self : evAt evs' k = e1
 other : ∀ j, j < evs'.length → j ≠ k → j < st.evs.length ∧ evAt evs' j = evAt st.evs j
 size : st.evs.length ≤ evs'.length
 old : k < st.evs.length → (evAt st.evs k).resp = 0
 cnt : ∀ {P : EvD → Bool}, (∀ e, e.resp = 0 → P e = false) → cnt P evs' = cnt P st.evs + (if P e1 then 1 else 0)
 apart : ∀ p s2 k2, p ≠ q → st.hands.getD p (none, 0) = (some s2, k2) → k2 ≠ k ∧ k2 < st.evs.length
 thr : tn calls e1 = q
theorem From.next {calls : List CallD} {st : PlayD S} {q i k : Nat} {s : S.σ} {evs0 : List EvD} {wd0 : WD} (hg : StGood calls st) (hf : From calls st q i k s evs0 wd0) (hN : nowN calls st.fin (q : Int) = some i) (e1 : EvD) (he : e1.call = (evAt evs0 k).call) : Next calls st q (evs0.set k e1) k e1 where
 lt := by rw [List.length_set]; exact hf.len
 self := hf.self e1
 other := fun j hj hjk => hf.other e1 hj hjk
 size := hf.size e1
 old := fun hk => by have h1 := hf.obj.2 k hk; rw [← h1]; exact hf.open_
 cnt := fun hP => hf.cnt hP e1
 apart := fun p s2 k2 hp hh => hf.apart hg hN hp hh
 thr := by have h1 := hf.tn hN; unfold Go.Proofs.YteffgpcjfnjlkaaGreat.tn at h1 ⊢; rw [he]; exact h1
theorem Next.more {calls : List CallD} {st : PlayD S} {q k : Nat} {evs' : List EvD} {e1 : EvD} (h : Next calls st q evs' k e1) (h1 : isK calls 0 e1 = true) (h2 : e1.resp = st.wd.now + 1) : Go.Proofs.YteffgpcjfnjlkaaGreat.cnt (tP4 calls st.wd.now) st.evs + 1 ≤ Go.Proofs.YteffgpcjfnjlkaaGreat.cnt (tP4 calls (st.wd.now + 1)) evs' := by
 rw [h.cnt tP4_open]
 have h3 : tP4 calls (st.wd.now + 1) e1 = true := by unfold tP4; rw [h1, h2]; simp
 rw [h3, if_pos rfl]
 have : Go.Proofs.YteffgpcjfnjlkaaGreat.cnt (tP4 calls st.wd.now) st.evs ≤ Go.Proofs.YteffgpcjfnjlkaaGreat.cnt (tP4 calls (st.wd.now + 1)) st.evs := cnt_mono fun j _ hp => by
  unfold tP4 at hp ⊢
  simp only [Bool.and_eq_true, decide_eq_true_eq] at hp ⊢
  exact ⟨hp.1, by omega⟩
 omega
end
section

/- Layer 12: the door: what every play of one keeps, in plain numbers. -/
open Go.RowKit
inductive DoS where
 | take (at_ ph : Nat)
 | once (c : CallD) (r : Int × Nat)
def doWrite (wd : WD) (p v : Nat) : WD := { wd with mem := memWrite wd.mem (p : Int) v }
def doorAct (c : CallD) (wd : WD) : WD × (Int × Nat) := (taRead wd c.a, (0, taGot wd c.a))
def doorS (n : Nat) : Sys where
 σ := DoS
 ω := Unit
 start := fun _ _ _ c => if c.kind = 0 then .run (.take 0 0) else if c.kind ≠ 1 then .refuse 9 else if c.a < n then .run (.once c (0, 0)) else .refuse 10
 step := fun _ wd p s => match s with
  | .take a v => if a < n then ((), taRead wd a, .take (a + 1) (max v (taGot wd a)), false) else ((), doWrite wd p (v + 1), .take a (v + 1), true)
  | .once c _ => ((), (doorAct c wd).1, .once c (doorAct c wd).2, true)
 answer := fun s => match s with
  | .take _ v => (⟨0, v, []⟩, [])
  | .once _ r => (⟨r.1, r.2, []⟩, [])
 late := fun _ _ _ _ => none
def doSeen (calls : List CallD) (evs : List EvD) (a iv v : Nat) : Prop := ∀ i, i < evs.length → isK calls 0 (evAt evs i) = true → (evAt evs i).resp < iv → tn calls (evAt evs i) < a → (evAt evs i).ans.val ≤ v
def doHand (n : Nat) (calls : List CallD) (st : PlayD (doorS n)) (p : Nat) (e : EvD) : DoS → Prop
 | .take a v => a ≤ n ∧ v ≤ cnt (tP4 calls st.wd.now) st.evs ∧ (p < a → st.wd.mem.ws.getD p 0 ≤ v) ∧ doSeen calls st.evs a e.inv v ∧ e.steps = a ∧ kindOf calls e = 0 ∧ 1 ≤ a
 | .once _ _ => False
def doDone (n : Nat) (calls : List CallD) (evs : List EvD) (e : EvD) : Prop :=
 e.steps ≤ n + 1 ∧ (objOf calls e = 0 → kindOf calls e = 0 → e.inv < e.resp ∧ 1 ≤ e.ans.val ∧ e.ans.val ≤ cnt (tP4 calls e.resp) evs ∧
  ∀ j, j < evs.length → isK calls 0 (evAt evs j) = true → (evAt evs j).resp < e.inv → (evAt evs j).ans.val < e.ans.val)
structure DoInv (n : Nat) (calls : List CallD) (st : PlayD (doorS n)) : Prop where
 wlen : st.wd.mem.ws.length = n
 top : ∀ t, t < n → st.wd.mem.ws.getD t 0 ≤ cnt (tP4 calls st.wd.now) st.evs
 low : ∀ i, i < st.evs.length → isK calls 0 (evAt st.evs i) = true → (evAt st.evs i).ans.val ≤ st.wd.mem.ws.getD (tn calls (evAt st.evs i)) 0
 hand : ∀ p s k, st.hands.getD p (none, 0) = (some s, k) → objOf calls (evAt st.evs k) = 0 ∧ doHand n calls st p (evAt st.evs k) s
 done : ∀ i, i < st.evs.length → (evAt st.evs i).resp ≠ 0 → doDone n calls st.evs (evAt st.evs i)
end
section

/- A door in the reference's play: plain numbers. -/
open Go.RowKit
def Bnd (t : TapeP) (r : RWD) : Prop := (∀ x, x ∈ t.got → x ≤ 1000000) ∧ ∀ x, x ∈ r.mem.ws → x ≤ 1000000
theorem memRead_ws (m : MemD) (a : Int) : (memRead m a).1.ws = m.ws := by unfold memRead MemD.fault; split <;> rfl
theorem Bnd.read {t : TapeP} {r : RWD} (h : Bnd t r) (a : Int) : (accP 0 a 0 0 t r).1 ≤ 1000000 ∧ Bnd (accP 0 a 0 0 t r).2.1 (accP 0 a 0 0 t r).2.2 := by
 have hm : (memRead r.mem a).2 ≤ 1000000 := by
  unfold memRead
  split
  ·exact Nat.zero_le _
  ·show r.mem.ws.getD _ 0 ≤ _
   rw [List.getD_eq_getElem?_getD]
   cases hx : r.mem.ws[a.toNat]? with
   | none => exact Nat.zero_le _
   | some x => exact h.2 x (List.mem_of_getElem? hx)
 cases hh : t.halt with
 | true => rw [accP_halt hh]; exact ⟨Nat.zero_le _, h⟩
 | false =>
  by_cases ha : t.at_ < t.got.length
  ·rw [accP_old hh ha]
   refine ⟨?_, h⟩
   show t.got.getD t.at_ 0 ≤ _
   rw [List.getD_eq_getElem?_getD, List.getElem?_eq_getElem ha]
   exact h.1 _ (List.getElem_mem ha)
  ·cases hf : t.fresh with
   | false => rw [accP_end hh ha hf]; exact ⟨Nat.zero_le _, h⟩
   | true =>
    rw [accP_fresh hh ha hf]
    refine ⟨hm, fun x hx => ?_, fun x hx => ?_⟩
    ·have hx' : x ∈ t.got ++ [(memRead r.mem a).2] := hx
     rcases List.mem_append.1 hx' with h9 | h9
     ·exact h.1 x h9
     ·rw [List.mem_singleton.1 h9]; exact hm
    ·have hx' : x ∈ (memRead r.mem a).1.ws := hx
     rw [memRead_ws] at hx'
     exact h.2 x hx'
end
section

/- A tally in the reference's play: plain numbers. -/
open Go.RowKit
def rtaF (x : TapeP × RWD) (i : Nat) : TapeP × RWD := ({ (accP 0 (i : Int) 0 0 x.1 x.2).2.1 with val := x.1.val + (accP 0 (i : Int) 0 0 x.1 x.2).1 }, (accP 0 (i : Int) 0 0 x.1 x.2).2.2)
def rtaL (n : Nat) (t : TapeP) (r : RWD) : TapeP × RWD := (List.range n).foldl rtaF (t, r)
theorem rtaL_succ (n : Nat) (t : TapeP) (r : RWD) : rtaL (n + 1) t r = rtaF (rtaL n t r) n := by
 unfold rtaL
 rw [List.range_succ, List.foldl_append]; rfl
def rtaEnd (x : TapeP × RWD) : TapeP × RWD := if x.1.halt = true then x else ({ x.1 with key := [2 * taWhen (traceP 0 x.2) x.1.inv x.1.val, 2 * lastP x.1] }, x.2)
def rtaNote (z : TapeP × RWD) : TapeP × RWD := (z.1, noteP 0 (traceP 0 z.2 ++ [lastP z.1]) z.1 z.2)
def rtallyDo (n : Nat) (c : CallD) (t : TapeP) (r : RWD) : TapeP × RWD :=
 if c.kind = 0 then rtaNote (accP 1 (t.thread : Int) ((accP 0 (t.thread : Int) 0 0 t r).1 + 1) 0 (accP 0 (t.thread : Int) 0 0 t r).2.1 (accP 0 (t.thread : Int) 0 0 t r).2.2).2
 else if c.kind ≠ 1 then ({ t with err := 9 }, r)
 else rtaEnd (rtaL n t r)
theorem Runs.val {t t' : TapeP} {r r' : RWD} (h : Runs t r t' r') (v : Nat) : Runs t r { t' with val := v } r' := ⟨h.ws, h.now, h.all, h.got, h.thread, h.inv⟩
theorem noteP_keep (a : Int) (l : List Int) (t : TapeP) (r : RWD) : (noteP a l t r).now = r.now ∧ (noteP a l t r).mem = r.mem ∧ (noteP a l t r).marks = r.marks ∧ (noteP a l t r).traces.length = r.traces.length := by
 unfold noteP
 split
 ·exact ⟨rfl, rfl, rfl, by simp⟩
 ·exact ⟨rfl, rfl, rfl, rfl⟩
theorem Runs.note {t t' : TapeP} {r r' : RWD} (h : Runs t r t' r') (a : Int) (l : List Int) (u : TapeP) : Runs t r t' (noteP a l u r') := by
 obtain ⟨h1, h2, _⟩ := noteP_keep a l u r'
 exact ⟨by rw [h2]; exact h.ws, h1.trans h.now, by rw [h2]; exact h.all, h.got, h.thread, h.inv⟩
theorem rtaL_runs (t : TapeP) (r : RWD) : ∀ n, Runs t r (rtaL n t r).1 (rtaL n t r).2
 | 0 => Runs.refl _ _
 | n + 1 => by
  rw [rtaL_succ]
  exact ((rtaL_runs t r n).trans (Runs.acc 0 (n : Int) 0 0 _ _)).val _
theorem rtaL_priv (t : TapeP) (r : RWD) : ∀ n, (rtaL n t r).1.priv = t.priv
 | 0 => rfl
 | n + 1 => by
  rw [rtaL_succ]
  exact (accP_priv _ _ _ _ _ _).trans (rtaL_priv t r n)
theorem rtaL_ticks (t : TapeP) (r : RWD) : ∀ n x, x ∈ (rtaL n t r).1.ticks → x ∈ t.ticks ∨ x = (r.now : Int)
 | 0, _, h => .inl h
 | n + 1, x, h => by
  rw [rtaL_succ] at h
  rcases accP_ticks _ _ _ _ _ _ _ h with h | h
  ·exact rtaL_ticks t r n x h
  ·right; rw [h, (rtaL_runs t r n).now]
theorem rtaL_trace (t : TapeP) (r : RWD) : ∀ n, (rtaL n t r).2.traces = r.traces
 | 0 => rfl
 | n + 1 => by
  rw [rtaL_succ]
  exact (accP_tlen _ _ _ _ _ _).1.trans (rtaL_trace t r n)
theorem rtally_dob (n : Nat) : DoB (rtallyDo n) where
 runs := by
  intro c t r
  unfold rtallyDo
  split
  ·exact ((Runs.acc 0 (t.thread : Int) 0 0 t r).trans (Runs.acc 1 (t.thread : Int) ((accP 0 (t.thread : Int) 0 0 t r).1 + 1) 0 _ _)).note _ _ _
  ·split
   ·exact Runs.errP _ _ _
   ·have h := rtaL_runs t r n
    unfold rtaEnd
    split
    ·exact h
    ·exact ⟨h.ws, h.now, h.all, h.got, h.thread, h.inv⟩
 priv := by
  intro c t r h
  unfold rtallyDo
  split
  ·unfold rtaNote; simp only [accP_priv]; exact h
  ·split
   ·exact h
   ·unfold rtaEnd
    split <;> (simp only [rtaL_priv]; exact h)
theorem rtally_dot (n : Nat) : DoT (rtallyDo n) := by
 intro c t r x hx
 unfold rtallyDo at hx
 split at hx
 ·have hx' : x ∈ (accP 1 (t.thread : Int) ((accP 0 (t.thread : Int) 0 0 t r).1 + 1) 0 (accP 0 (t.thread : Int) 0 0 t r).2.1 (accP 0 (t.thread : Int) 0 0 t r).2.2).2.1.ticks := hx
  rcases accP_ticks _ _ _ _ _ _ _ hx' with h | h
  ·exact accP_ticks _ _ _ _ _ _ _ h
  ·right; rw [h, (Runs.acc 0 (t.thread : Int) 0 0 t r).now]
 ·split at hx
  ·exact .inl hx
  ·unfold rtaEnd at hx
   split at hx
   ·exact rtaL_ticks t r n x hx
   ·exact rtaL_ticks t r n x hx
def sumL (l : List Nat) : Nat := l.foldl (· + ·) 0
theorem sumL_snoc (l : List Nat) (x : Nat) : sumL (l ++ [x]) = sumL l + x := by unfold sumL; rw [List.foldl_append]; rfl
theorem rtaL_old {t : TapeP} (h0 : t.at_ = 0) (hv : t.val = 0) (hh : t.halt = false) (r : RWD) : ∀ k, k ≤ t.got.length → rtaL k t r = ({ t with at_ := k, val := sumL (t.got.take k) }, r)
 | 0, _ => by
  obtain ⟨a1, a2, a3, a4, a5, a6, a7, a8, a9, a10, a11, a12⟩ := t
  simp only at h0 hv
  subst h0; subst hv; rfl
 | k + 1, hk => by
  rw [rtaL_succ, rtaL_old h0 hv hh r k (by omega)]
  unfold rtaF
  rw [accP_old (t := { t with at_ := k, val := sumL (t.got.take k) }) hh hk]
  have e : t.got.take (k + 1) = t.got.take k ++ [t.got.getD k 0] := by
   rw [List.take_add_one, List.getD_eq_getElem?_getD, List.getElem?_eq_getElem hk]; rfl
  rw [e, sumL_snoc]
theorem rtaL_new {t : TapeP} (h0 : t.at_ = 0) (hv : t.val = 0) (hh : t.halt = false) (hf : t.fresh = true) (r : RWD) : rtaL (t.got.length + 1) t r = ({ t with at_ := t.got.length + 1, got := t.got ++ [(memRead r.mem (t.got.length : Int)).2], ticks := t.ticks ++ [(r.now : Int)], fresh := false, val := sumL t.got + (memRead r.mem (t.got.length : Int)).2 }, { r with mem := (memRead r.mem (t.got.length : Int)).1 }) := by
 rw [rtaL_succ, rtaL_old h0 hv hh r _ (Nat.le_refl _), List.take_length]
 unfold rtaF
 rw [accP_fresh (t := { t with at_ := t.got.length, val := sumL t.got }) hh (Nat.lt_irrefl _) hf]; rfl
theorem rtaL_end {t : TapeP} (h0 : t.at_ = 0) (hv : t.val = 0) (hh : t.halt = false) (hf : t.fresh = true) (r : RWD) : ∀ j, rtaL (t.got.length + 2 + j) t r = ({ t with at_ := t.got.length + 1, got := t.got ++ [(memRead r.mem (t.got.length : Int)).2], ticks := t.ticks ++ [(r.now : Int)], fresh := false, halt := true, val := sumL t.got + (memRead r.mem (t.got.length : Int)).2 }, { r with mem := (memRead r.mem (t.got.length : Int)).1 })
 | 0 => by
  rw [Nat.add_zero, show t.got.length + 2 = t.got.length + 1 + 1 from rfl, rtaL_succ, rtaL_new h0 hv hh hf r]
  unfold rtaF
  rw [accP_end (t := { t with at_ := t.got.length + 1, got := t.got ++ [(memRead r.mem (t.got.length : Int)).2], ticks := t.ticks ++ [(r.now : Int)], fresh := false, val := sumL t.got + (memRead r.mem (t.got.length : Int)).2 }) hh (by simp) rfl]
  simp only [Nat.add_zero]
 | j + 1 => by
  rw [show t.got.length + 2 + (j + 1) = t.got.length + 2 + j + 1 from rfl, rtaL_succ, rtaL_end h0 hv hh hf r j]
  unfold rtaF
  rw [accP_halt rfl]
  simp only [Nat.add_zero]
def tallySim (n : Nat) : RefSim (tallyS n) where
 Rel := fun _ _ _ c h σ => match σ with
  | .count false _ => c.kind = 0 ∧ h.got = [] ∧ h.ticks = []
  | .count true v => c.kind = 0 ∧ h.got = [v] ∧ h.ticks.length = 1
  | .read a s _ => c.kind = 1 ∧ h.got.length = a ∧ h.ticks.length = a ∧ s = sumL h.got ∧ a < n
 Own := fun _ _ _ => True
theorem trace_set {r : RWD} {wd : WD} (htr : ∀ a, traceP a r = wd.traces a) (tl : 0 < r.traces.length) (l : List Int) : ∀ a, traceP a { r with traces := r.traces.set 0 l } = updT wd.traces 0 l a := fun a => by
 unfold updT
 by_cases h : a = 0
 ·subst h
  rw [if_pos rfl]
  unfold traceP
  rw [if_neg (by show ¬ ((0 : Int) < 0 ∨ ((r.traces.set 0 l).length : Int) ≤ 0); rw [List.length_set]; omega)]
  exact getD_set_eq tl
 ·rw [if_neg h, ← htr a]
  unfold traceP
  rw [List.length_set]
  split
  ·rfl
  ·exact getD_set_neq (by omega)
theorem tally_ref_ok (n : Nat) (hn : 0 < n) (calls : List CallD) (Good : PlayD (tallyS n) → Prop) : RefOk (tallyS n) (tallySim n) n (rtallyDo n) lateM calls Good where
 refuse := by
  intro st c p h e r hG hob hp hown hs hrw hgot htk
  have h9 : (if c.kind = 0 then Mc.run (TaS.count false 0) else if c.kind = 1 then .run (.read 0 0 []) else .refuse 9) = Mc.refuse e := hs
  unfold rtallyDo
  split at h9
  ·cases h9
  ·rename_i h0
   split at h9
   ·cases h9
   ·rename_i h1
    cases h9
    rw [if_neg h0, if_pos h1]
    exact ⟨_, rfl, rfl, rfl, rfl, rfl, rfl, trivial⟩
 start := by
  intro st c p h σ r hG hob hth hp hown hs hrw hgot htk hinv
  have h9 : (if c.kind = 0 then Mc.run (TaS.count false 0) else if c.kind = 1 then .run (.read 0 0 []) else .refuse 9) = Mc.run σ := hs
  split at h9
  ·rename_i h0; cases h9; exact ⟨h0, hgot, htk⟩
  ·split at h9
   ·rename_i h1; cases h9; exact ⟨h1, by rw [hgot]; rfl, by rw [htk]; rfl, by rw [hgot]; rfl, hn⟩
   ·cases h9
 step := by
  intro st c p h σ r wd k evs0 hG hf hc hp hinv hown hrel hrw hob
  have hky : ∀ m m' : MemD, ∀ T T', rkey { r with mem := m, traces := T } p [] = keyOf { wd with mem := m', traces := T' } p [] := fun m m' T T' => by
   unfold rkey keyOf tickKey
   rw [if_pos rfl, if_pos rfl]
   show (if r.marks.getD p [] = [] then [2 * (r.now : Int)] else r.marks.getD p []) = if wd.marks.getD p [] = [] then [2 * (wd.now : Int)] else wd.marks.getD p []
   rw [hrw.marks p hp, hrw.now]
  have hrs : ∀ m m' : MemD, m = m' → RwSim n { r with mem := m } { wd with mem := m' } := fun m m' e => ⟨e, hrw.now, hrw.mlen, hrw.marks, hrw.tr, hrw.tl⟩
  have hth : (h.tape p).thread = p := rfl
  match σ, hrel with
  | .count false v, hrel =>
   obtain ⟨h0, hgot, htk⟩ := hrel
   have ht := tape00 (h := h) p hgot
   have hz : rtallyDo n c (h.tape p) r = rtaNote (accP 1 (p : Int) ((accP 0 (p : Int) 0 0 (h.tape p) r).1 + 1) 0 (accP 0 (p : Int) 0 0 (h.tape p) r).2.1 (accP 0 (p : Int) 0 0 (h.tape p) r).2.2).2 := by unfold rtallyDo; rw [if_pos h0]; rfl
   obtain ⟨y, hy⟩ : ∃ y, y = (memRead r.mem (p : Int)).2 := ⟨_, rfl⟩
   obtain ⟨t1, ht1⟩ : ∃ t1 : TapeP, t1 = { (h.tape p) with at_ := 1, got := [y], ticks := [(r.now : Int)], fresh := false } := ⟨_, rfl⟩
   obtain ⟨r1, hr1⟩ : ∃ r1 : RWD, r1 = { r with mem := (memRead r.mem (p : Int)).1 } := ⟨_, rfl⟩
   have e1 : accP 0 (p : Int) 0 0 (h.tape p) r = (y, t1, r1) := by
    rw [accP_new ht, ht1, hr1, hy]
    show (_, { (h.tape p) with got := h.got ++ [(memRead r.mem (p : Int)).2], ticks := h.ticks ++ [(r.now : Int)], at_ := 0 + 1, fresh := false }, _) = _
    rw [hgot, htk]; rfl
   have e2 : accP 1 (p : Int) (y + 1) 0 t1 r1 = (0, { t1 with halt := true }, r1) := accP_end (by rw [ht1]; rfl) (by rw [ht1]; exact Nat.lt_irrefl 1) (by rw [ht1]) _ _ _ _ _
   have e3 : noteP 0 (traceP 0 r1 ++ [lastP { t1 with halt := true }]) { t1 with halt := true } r1 = r1 := by
    unfold noteP
    rw [if_neg (fun x => by have := x.1; unfold justP at this; simp at this)]
   have hz' : rtallyDo n c (h.tape p) r = ({ t1 with halt := true }, r1) := by
    rw [hz, e1]
    show rtaNote (accP 1 (p : Int) (y + 1) 0 t1 r1).2 = _
    rw [e2]
    show ({ t1 with halt := true }, noteP 0 (traceP 0 r1 ++ [lastP { t1 with halt := true }]) { t1 with halt := true } r1) = _
    rw [e3]
   rw [hz']
   refine ⟨?_, rfl, rfl, rfl, (fun e => by cases e), fun _ => ⟨⟨h0, ?_, ?_⟩, trivial⟩⟩
   ·rw [hr1]; exact hrs _ _ (by show (memRead r.mem _).1 = (memRead wd.mem _).1; rw [hrw.mem])
   ·show t1.got = [taGot wd p]
    rw [ht1]; show [y] = _; rw [hy]; unfold taGot; rw [hrw.mem]
   ·show t1.ticks.length = 1
    rw [ht1]; rfl
  | .count true v, hrel =>
   obtain ⟨h0, hgot, htk⟩ := hrel
   have hz : rtallyDo n c (h.tape p) r = rtaNote (accP 1 (p : Int) ((accP 0 (p : Int) 0 0 (h.tape p) r).1 + 1) 0 (accP 0 (p : Int) 0 0 (h.tape p) r).2.1 (accP 0 (p : Int) 0 0 (h.tape p) r).2.2).2 := by unfold rtallyDo; rw [if_pos h0]; rfl
   have e1 : accP 0 (p : Int) 0 0 (h.tape p) r = (v, { (h.tape p) with at_ := 1 }, r) := by
    rw [accP_old (t := h.tape p) rfl (by show 0 < h.got.length; rw [hgot]; exact Nat.zero_lt_one)]
    show (h.got.getD 0 0, _, _) = _
    rw [hgot]; rfl
   obtain ⟨t2, ht2⟩ : ∃ t2 : TapeP, t2 = { (h.tape p) with at_ := 2, got := [v, 0], ticks := h.ticks ++ [(r.now : Int)], fresh := false } := ⟨_, rfl⟩
   obtain ⟨r2, hr2⟩ : ∃ r2 : RWD, r2 = { r with mem := memWrite r.mem (p : Int) (v + 1) } := ⟨_, rfl⟩
   have e2 : (accP 1 (p : Int) (v + 1) 0 { (h.tape p) with at_ := 1 } r).2 = (t2, r2) := by
    rw [accP_fresh (t := { (h.tape p) with at_ := 1 }) rfl (by show ¬ 1 < h.got.length; rw [hgot]; exact Nat.lt_irrefl 1) rfl, ht2, hr2]
    show ({ (h.tape p) with got := h.got ++ [0], ticks := h.ticks ++ [(r.now : Int)], at_ := 1 + 1, fresh := false }, _) = _
    rw [hgot]; rfl
   have hl : lastP t2 = (r.now : Int) := by
    rw [ht2]
    show (h.ticks ++ [(r.now : Int)]).getD 1 0 = _
    rw [List.getD_eq_getElem?_getD, List.getElem?_append_right (by omega), htk]; rfl
   have hj : justP t2 = true := by rw [ht2]; rfl
   have htr0 : traceP 0 r2 = wd.traces 0 := by rw [hr2]; exact hrw.tr 0
   have e3 : noteP 0 (traceP 0 r2 ++ [lastP t2]) t2 r2 = { r with mem := memWrite r.mem (p : Int) (v + 1), traces := r.traces.set 0 (wd.traces 0 ++ [(wd.now : Int)]) } := by
    unfold noteP
    have h8 := hrw.tl
    rw [if_pos ⟨hj, by omega, by rw [hr2]; show (0 : Int) < (r.traces.length : Int); omega⟩, htr0, hl, hr2, hrw.now]; rfl
   have hz' : rtallyDo n c (h.tape p) r = (t2, { r with mem := memWrite r.mem (p : Int) (v + 1), traces := r.traces.set 0 (wd.traces 0 ++ [(wd.now : Int)]) }) := by
    rw [hz, e1]
    show rtaNote (accP 1 (p : Int) (v + 1) 0 { (h.tape p) with at_ := 1 } r).2 = _
    rw [e2]
    show (t2, noteP 0 (traceP 0 r2 ++ [lastP t2]) t2 r2) = _
    rw [e3]
   rw [hz']
   have t2h : t2.halt = false ∧ t2.err = 0 ∧ t2.val = 0 ∧ t2.list = [] ∧ t2.key = [] := by rw [ht2]; exact ⟨rfl, rfl, rfl, rfl, rfl⟩
   refine ⟨⟨?_, hrw.now, hrw.mlen, hrw.marks, trace_set (r := { r with mem := memWrite r.mem (p : Int) (v + 1) }) (wd := wd) hrw.tr hrw.tl _, ?_⟩, rfl, rfl, t2h.1, fun _ => ⟨?_, ?_, trivial⟩, fun e => by rw [show (t2.halt) = false from t2h.1] at e; cases e⟩
   ·show memWrite r.mem _ _ = memWrite wd.mem _ _; rw [hrw.mem]
   ·show 0 < (r.traces.set 0 _).length
    rw [List.length_set]; exact hrw.tl
   ·show (⟨t2.err, t2.val, t2.list⟩ : AnsD) = ⟨0, 0, []⟩
    rw [t2h.2.1, t2h.2.2.1, t2h.2.2.2.1]
   ·show rkey _ p t2.key = _
    rw [t2h.2.2.2.2]; exact hky _ _ _ _
  | .read a s ky, hrel =>
   obtain ⟨h1, hlen, htk, hs, ha⟩ := hrel
   have hz : rtallyDo n c (h.tape p) r = rtaEnd (rtaL n (h.tape p) r) := by unfold rtallyDo; rw [if_neg (by omega), if_neg (fun x => x h1)]
   have hgl : (h.tape p).got.length = a := hlen
   have hrw1 : RwSim n { r with mem := (memRead r.mem (a : Int)).1 } (taRead wd a) := hrs _ _ (by show (memRead r.mem _).1 = (memRead wd.mem _).1; rw [hrw.mem])
   have hgot : (memRead r.mem (a : Int)).2 = taGot wd a := by unfold taGot; rw [hrw.mem]
   have hsg : sumL (h.tape p).got = s := hs.symm
   rw [hz]
   by_cases hm : a + 1 < n
   ·have hst : (tallyS n).step st.obj wd p (.read a s ky) = ((), taRead wd a, .read (a + 1) (s + taGot wd a) ky, false) := if_pos hm
    obtain ⟨j, e⟩ : ∃ j, n = (h.tape p).got.length + 2 + j := ⟨n - a - 2, by omega⟩
    obtain ⟨z, hzz⟩ : ∃ z, z = rtaL n (h.tape p) r := ⟨_, rfl⟩
    have key : z.1.halt = true ∧ z.1.got = h.got ++ [taGot wd a] ∧ z.1.ticks = h.ticks ++ [(r.now : Int)] ∧ z.2 = { r with mem := (memRead r.mem (a : Int)).1 } := by
     rw [hzz, e, rtaL_end (t := h.tape p) rfl rfl rfl rfl r j, hgl, hgot]
     exact ⟨rfl, rfl, rfl, rfl⟩
    obtain ⟨k1, k2, k3, k4⟩ := key
    rw [← hzz]
    have e9 : rtaEnd z = z := by unfold rtaEnd; rw [if_pos k1]
    rw [e9]
    refine ⟨by rw [hst, k4]; exact hrw1, by rw [hst]; rfl, by rw [hst]; rfl, by rw [hst]; exact k1, (fun e => by rw [k1] at e; cases e), fun _ => ⟨?_, trivial⟩⟩
    rw [hst]
    show c.kind = 1 ∧ z.1.got.length = a + 1 ∧ z.1.ticks.length = a + 1 ∧ s + taGot wd a = sumL z.1.got ∧ a + 1 < n
    refine ⟨h1, by rw [k2]; simp [hlen], by rw [k3]; simp [htk], ?_, hm⟩
    rw [k2, sumL_snoc, ← hs]
   ·have hst : (tallyS n).step st.obj wd p (.read a s ky) = ((), taRead wd a, .read (a + 1) (s + taGot wd a) (taKey wd p (s + taGot wd a)), true) := if_neg hm
    have e : n = (h.tape p).got.length + 1 := by omega
    obtain ⟨t1, ht1⟩ : ∃ t1 : TapeP, t1 = { (h.tape p) with at_ := a + 1, got := h.got ++ [taGot wd a], ticks := h.ticks ++ [(r.now : Int)], fresh := false, val := s + taGot wd a } := ⟨_, rfl⟩
    have e1 : rtaL n (h.tape p) r = (t1, { r with mem := (memRead r.mem (a : Int)).1 }) := by
     rw [e, rtaL_new (t := h.tape p) rfl rfl rfl rfl r, hgl, hgot, hsg, ht1]; rfl
    have t1h : t1.halt = false ∧ t1.err = 0 ∧ t1.val = s + taGot wd a ∧ t1.list = [] ∧ t1.inv = h.inv := by rw [ht1]; exact ⟨rfl, rfl, rfl, rfl, rfl⟩
    have hl : lastP t1 = (r.now : Int) := by
     rw [ht1]
     unfold lastP
     rw [if_neg (show ¬ a + 1 = 0 by omega)]
     show (h.ticks ++ [(r.now : Int)]).getD (a + 1 - 1) 0 = _
     rw [Nat.add_sub_cancel, List.getD_eq_getElem?_getD, List.getElem?_append_right (by omega), htk, Nat.sub_self]; rfl
    have e2 : rtaEnd (t1, { r with mem := (memRead r.mem (a : Int)).1 }) = ({ t1 with key := taKey wd p (s + taGot wd a) }, { r with mem := (memRead r.mem (a : Int)).1 }) := by
     unfold rtaEnd
     simp only
     rw [if_neg (by rw [t1h.1]; exact Bool.false_ne_true), t1h.2.2.1, t1h.2.2.2.2, hl, hinv]
     have : traceP 0 { r with mem := (memRead r.mem (a : Int)).1 } = wd.traces 0 := hrw.tr 0
     rw [this, hrw.now]; rfl
    rw [e1, e2]
    refine ⟨by rw [hst]; exact hrw1, by rw [hst]; rfl, by rw [hst]; rfl, by rw [hst]; exact t1h.1, fun _ => ⟨?_, ?_, trivial⟩, fun e => by rw [show (({ t1 with key := taKey wd p (s + taGot wd a) } : TapeP).halt) = false from t1h.1] at e; cases e⟩
    ·rw [hst]
     show (⟨t1.err, t1.val, t1.list⟩ : AnsD) = ⟨0, s + taGot wd a, []⟩
     rw [t1h.2.1, t1h.2.2.1, t1h.2.2.2.1]
    ·rw [hst]
     show rkey _ p (taKey wd p (s + taGot wd a)) = keyOf _ p (taKey wd p (s + taGot wd a))
     unfold rkey keyOf
     rw [if_neg (by unfold taKey; simp), if_neg (by unfold taKey; simp)]
 ownOther := fun _ _ _ _ _ _ _ _ => trivial
 relOther := by
  intro st p σ wd k evs0 r q c h σ' r' hG hf hqp hh hrel hrw
  exact hrel
 relTick := fun _ _ _ _ _ _ h => h
 relBegin := fun _ _ _ _ _ _ _ h => h
 late := by
  intro st c p h σ r hG hh hinv hrel hrw hp
  exact hrw.marks p hp
end
section

/- The reference's tape: its last tick, what it marks, and what it notes. -/
open Go.RowKit
variable {B : RBase} {w w' : World} {t : TapeP} {r : RWD}
theorem ListsAt.put {Mut : Nat → Prop} {b n p : Nat} {ls : List (List Int)} {v : Value} {l : List Int} (h : ListsAt w Mut b n ls) (hM : Mut b) (hv : Lst w Mut v l) : ListsAt (w.setCell ⟨b, p, none⟩ v) Mut b n (ls.set p l) := by
 obtain ⟨vs, hb, hn, hvs⟩ := h.blk
 have hc : Chg (fun k => k = b) w (w.setCell ⟨b, p, none⟩ v) := (Chg.refl (fun k => k = b) w).setCell (p := ⟨b, p, none⟩) (.inl rfl) _
 have hS : ∀ k, k = b → Mut k := fun k e => by rw [e]; exact hM
 refine ⟨by simpa using h.len, vs.set p v, by rw [blk_set hb]; simp, by simpa using hn, fun i hi => ?_⟩
 by_cases e : p = i
 ·subst e
  rw [getD_set_eq (by omega), getD_set_eq (by rw [h.len]; exact hi)]
  exact hv.keep hc hS (MutUp.refl _ _)
 ·rw [getD_set_neq e, getD_set_neq e]
  exact (hvs i hi).keep hc hS (MutUp.refl _ _)
theorem RAtL.putTrace {v : Value} {l : List Int} (h : RAtL B w t r v l) (p : Nat) : RAt B (w.setCell ⟨B.I.bT, p, none⟩ v) t { r with traces := r.traces.set p l } := by
 obtain ⟨G, K, L, h1, h2, h9⟩ := h
 obtain ⟨PV, LV, KV, ht, hpv, hl, hk⟩ := h1.tape
 obtain ⟨bm, bt⟩ := h1.bm
 have hc : Chg (fun k => k = B.I.bT) w (w.setCell ⟨B.I.bT, p, none⟩ v) := (Chg.refl (fun k => k = B.I.bT) w).setCell (p := ⟨B.I.bT, p, none⟩) (.inl rfl) _
 have hS : ∀ k, k = B.I.bT → RMut B.I G K L k := fun k e => .inl (.inr (.inr e))
 have rto : RTo w _ B.I G K L G K L := ⟨hc.mono (fun _ _ e => .inr (.inr e)), KeepB.refl _ _, KeepB.refl _ _, KeepB.refl _ _⟩
 exact ⟨G, K, L, ⟨⟨PV, LV, KV, ht.chg hc (fun k hk hs => by rw [hs] at hk; exact bt hk), hpv.keep hc hS (MutUp.refl _ _), hl.keep hc hS (MutUp.refl _ _), hk.keep hc hS (MutUp.refl _ _)⟩, h1.marks.keep hc hS (MutUp.refl _ _) h1.sep.1, h1.traces.put (hS _ rfl) h9, h1.sep, h1.dis, fun b hb => Nat.lt_of_lt_of_le (h1.low b hb) hc.size, h1.at_le, h1.tl, h1.room⟩, h2.trans rto⟩
theorem RAt.world (h : RAt B w t r) : (∃ bW, bW = B.I.bW ∧ w.cell? ⟨B.I.tb, B.I.pre.length, none⟩ = some (.pointer (some ⟨bW, 0, none⟩)) ∧ w.cell? ⟨bW, 7, none⟩ = some (.slice (some ⟨B.I.bM, 0, none⟩) r.marks.length r.marks.length) ∧ w.cell? ⟨bW, 8, none⟩ = some (.slice (some ⟨B.I.bT, 0, none⟩) r.traces.length r.traces.length)) ∧
  (∀ p, p < r.marks.length → (∃ v, w.cell? ⟨B.I.bM, p, none⟩ = some v ∧ RAtL B w t r v (r.marks.getD p [])) ∧ w.frozen? ⟨B.I.bM, p, none⟩ = false) ∧ (∀ p, p < r.traces.length → (∃ v, w.cell? ⟨B.I.bT, p, none⟩ = some v ∧ RAtL B w t r v (r.traces.getD p [])) ∧ w.frozen? ⟨B.I.bT, p, none⟩ = false) := by
 obtain ⟨G, K, L, h1, h2⟩ := h
 obtain ⟨PV, LV, KV, ht, _⟩ := h1.tape
 obtain ⟨ms, hM, hmn, hms⟩ := h1.marks.blk
 obtain ⟨ts, hT, htn, hts⟩ := h1.traces.blk
 obtain ⟨wa, cap, _, hW, _⟩ := ht.mem.blk
 have hW' : w.heap[B.I.bW]? = _ := hW
 have e1 := h1.marks.len
 have e2 := h1.traces.len
 refine ⟨⟨B.I.bW, rfl, ht.cell0, ?_, ?_⟩, fun p hp => ⟨⟨ms.getD p undef, ?_, G, K, L, h1, h2, hms p (by omega)⟩, frozen_blk hM _⟩, fun p hp => ⟨⟨ts.getD p undef, ?_, G, K, L, h1, h2, hts p (by omega)⟩, frozen_blk hT _⟩⟩
 ·rw [cell_blk hW', e1]; rfl
 ·rw [cell_blk hW', e2]; rfl
 ·rw [cell_blk hM]; simp [List.getD_eq_getElem?_getD, show p < ms.length by omega]
 ·rw [cell_blk hT]; simp [List.getD_eq_getElem?_getD, show p < ts.length by omega]
theorem RAt.lists (h : RAt B w t r) : (∃ gc ga, w.cell? ⟨B.I.tb, B.I.pre.length + 3, none⟩ = some (.slice ga t.got.length gc)) ∧ (∃ ka kc, w.cell? ⟨B.I.tb, B.I.pre.length + 4, none⟩ = some (.slice ka t.ticks.length kc) ∧ ∀ i, i < t.ticks.length → ∃ b o, ka = some ⟨b, o, none⟩ ∧ w.cell? ⟨b, o + i, none⟩ = some (.int .i64 (t.ticks.getD i 0))) ∧ t.at_ ≤ t.got.length ∧ t.ticks.length = t.got.length ∧ t.got.length ≤ 100000000 := by
 obtain ⟨G, K, L, h1, h2⟩ := h
 obtain ⟨PV, LV, KV, ht, _⟩ := h1.tape
 have hgl : t.got.length ≤ 100000000 := ht.glen
 obtain ⟨ga, gc, rfl⟩ := row_form ht.got
 obtain ⟨ka, kc, rfl⟩ := row_form ht.ticks
 have htl := h1.tl
 refine ⟨⟨gc, ga, ht.cell (i := 3) (by omega)⟩, ⟨ka, kc, ht.cell (i := 4) (by omega), fun i hi => ?_⟩, h1.at_le, htl, hgl⟩
 have hkr : w.ownsRow 0 3 1 (.slice ka t.ticks.length kc) t.ticks.length (t.ticks.map intV) := ht.ticks
 obtain ⟨hsl, _⟩ := row_sl hkr (by unfold maxLen; omega) (g := intG t.ticks) (fun j hj => by simp [intG, intV, List.getD_eq_getElem?_getD, hj])
 obtain ⟨b, o, rfl, _, hc⟩ := hsl.2 i hi
 have := hc 0 (by omega)
 rw [Nat.mul_one, Nat.add_zero] at this
 exact ⟨b, o, rfl, this⟩
theorem last_r (h : RAt B w t r) : Calls Tryz.prog 107 #[.pointer (some ⟨B.I.tb, B.I.pre.length, none⟩)] w fun e w' => e = .returned (.int .i64 (lastP t)) ∧ Below w.heap.size w w' := by
 have c5 := h.cAt
 have c2 := h.cInv
 obtain ⟨_, ⟨ka, kc, c4, hk⟩, h1, h2, h3⟩ := h.lists
 obtain ⟨l, hl⟩ : ∃ l, l = lastP t := ⟨_, rfl⟩
 rw [← hl]
 by_cases h0 : t.at_ = 0
 ·have hl' : l = (t.inv : Int) := by rw [hl]; unfold lastP; rw [if_pos h0]
  subst hl'
  rw [h0] at c5
  clear hl hk c4 h1 h2 h3 h h0
  go_enter Tryz.func107, Tryz.ntmps107
  go_wp2
  go_ret
  exact ⟨rfl, Gr.refl _⟩
 ·have hl' : l = t.ticks.getD (t.at_ - 1) 0 := by rw [hl]; unfold lastP; rw [if_neg h0]
  obtain ⟨b, o, rfl, hc⟩ := hk (t.at_ - 1) (by omega)
  rw [← hl'] at hc
  obtain ⟨n, hn⟩ : ∃ n, n = t.ticks.length := ⟨_, rfl⟩
  obtain ⟨a, ha⟩ : ∃ a, a = t.at_ - 1 := ⟨_, rfl⟩
  have ha1 : t.at_ = a + 1 := by omega
  rw [← hn] at c4
  rw [← ha] at hc
  rw [ha1] at c5
  have c5' : w.cell? ⟨B.I.tb, B.I.pre.length + 5, none⟩ = some (.int .i64 ((a : Int) + 1)) := c5
  have l1 : (a : Int) < (n : Int) := by omega
  have l2 : ¬ ((a : Int) + 1) = 0 := by omega
  have l3 : (((a : Int) + 1) == 0) = false := by simp; omega
  have l4 : IntKind.i64.wrap ((a : Int) + 1 - 1) = (a : Int) := by rw [IntKind.wrap_i64]; omega
  have l5 : IntKind.i64.wrap (a : Int) = (a : Int) := by rw [IntKind.wrap_i64]; omega
  have l6 : ¬ (a : Int) < 0 := by omega
  have C5 := grown_cell c5'; have C4 := grown_cell c4; have HC := grown_cell hc
  clear hl hl' hk c4 h1 h2 h3 h h0 c5 hc ha hn ha1 c2
  go_enter Tryz.func107, Tryz.ntmps107
  go_upto_region 3 with fail
  ((with_reducible refine wp_region_grown_lit (by kernel_rfl) (by kernel_rfl) ?_); (repeat ((with_reducible refine wpQuiet_step (fun K hK => ?_)); go_simp; first | ((with_reducible refine hK _ ?_); clear hK K) | ((with_reducible apply Exists.intro); (with_reducible refine ⟨fun _ => ?_, hK _ ?_⟩); (fail); clear hK K))); (with_reducible refine wpQuiet_nil ?_); intro _ hw'; obtain ⟨nq, hw''⟩ := hw'; subst hw'')
  have hb := nq.below
  go_wp2
  go_ret
  exact ⟨rfl, hb⟩
end
end Go.Proofs.YteffgpcjfnjlkaaGreat
