/- A pool in the reference's play: plain numbers. -/
import Derived.Test.YteffgpcjfnjlkaaGreatP37
import Derived.Test.YteffgpcjfnjlkaaGreatP22
import Derived.Test.YteffgpcjfnjlkaaGreatP28
set_option maxRecDepth 100000
set_option linter.unusedVariables false
set_option linter.unusedSimpArgs false
set_option linter.unnecessarySimpa false
namespace Go.Proofs.YteffgpcjfnjlkaaGreat
section
open Go.RowKit
def rpoL : Nat → Nat → TapeP → RWD → TapeP × RWD
 | _, 0, t, r => ({ t with err := 6 }, r)
 | a, m + 1, t, r =>
  if t.halt = true then ({ t with err := 6 }, r)
  else if (accP 0 (a : Int) 0 0 t r).2.1.halt = false ∧ (accP 0 (a : Int) 0 0 t r).1 % 2 = 0 then
   ({ (accP 1 (a : Int) ((accP 0 (a : Int) 0 0 t r).1 + 3) 0 (accP 0 (a : Int) 0 0 t r).2.1 (accP 0 (a : Int) 0 0 t r).2.2).2.1 with val := poRef a ((accP 0 (a : Int) 0 0 t r).1 / 2 + 1) }, (accP 1 (a : Int) ((accP 0 (a : Int) 0 0 t r).1 + 3) 0 (accP 0 (a : Int) 0 0 t r).2.1 (accP 0 (a : Int) 0 0 t r).2.2).2.2)
  else rpoL (a + 1) m (accP 0 (a : Int) 0 0 t r).2.1 (accP 0 (a : Int) 0 0 t r).2.2
def rpoolDo (n k : Nat) (c : CallD) (t : TapeP) (r : RWD) : TapeP × RWD :=
 if c.kind = 0 then rpoL (t.thread * k) k t r
 else if c.kind ≠ 1 then ({ t with err := 9 }, r)
 else if poBad n k c = true then ({ t with err := 10 }, r)
 else if (accP 2 ((c.a % 1024 - 2 : Nat) : Int) (2 * (c.a / 1024) + 1) (2 * (c.a / 1024)) t r).1 = 1 then (accP 2 ((c.a % 1024 - 2 : Nat) : Int) (2 * (c.a / 1024) + 1) (2 * (c.a / 1024)) t r).2
 else ({ (accP 2 ((c.a % 1024 - 2 : Nat) : Int) (2 * (c.a / 1024) + 1) (2 * (c.a / 1024)) t r).2.1 with err := 8 }, (accP 2 ((c.a % 1024 - 2 : Nat) : Int) (2 * (c.a / 1024) + 1) (2 * (c.a / 1024)) t r).2.2)
theorem rpoL_runs : ∀ (m a : Nat) (t : TapeP) (r : RWD), Runs t r (rpoL a m t r).1 (rpoL a m t r).2
 | 0, _, _, _ => Runs.errP _ _ _
 | m + 1, a, t, r => by
  have h := Runs.acc 0 (a : Int) 0 0 t r
  unfold rpoL
  split
  ·exact Runs.errP _ _ _
  ·split
   ·have h2 := h.trans (Runs.acc 1 (a : Int) ((accP 0 (a : Int) 0 0 t r).1 + 3) 0 _ _)
    exact ⟨h2.ws, h2.now, h2.all, h2.got, h2.thread, h2.inv⟩
   ·exact h.trans (rpoL_runs m (a + 1) _ _)
theorem rpoL_priv : ∀ (m a : Nat) (t : TapeP) (r : RWD), (rpoL a m t r).1.priv = t.priv
 | 0, _, _, _ => rfl
 | m + 1, a, t, r => by
  unfold rpoL
  split
  ·rfl
  ·split
   ·simp only [accP_priv]
   ·rw [rpoL_priv m (a + 1), accP_priv]
theorem rpoL_ticks : ∀ (m a : Nat) (t : TapeP) (r : RWD) (x : Int), x ∈ (rpoL a m t r).1.ticks → x ∈ t.ticks ∨ x = (r.now : Int)
 | 0, _, _, _, _, h => .inl h
 | m + 1, a, t, r, x, h => by
  unfold rpoL at h
  have hn := (Runs.acc 0 (a : Int) 0 0 t r).now
  split at h
  ·exact .inl h
  ·split at h
   ·rcases accP_ticks _ _ _ _ _ _ _ h with h | h
    ·exact accP_ticks _ _ _ _ _ _ _ h
    ·right; rw [h, hn]
   ·rcases rpoL_ticks m (a + 1) _ _ x h with h | h
    ·exact accP_ticks _ _ _ _ _ _ _ h
    ·right; rw [h, hn]
theorem rpool_dob (n k : Nat) : DoB (rpoolDo n k) where
 runs := by
  intro c t r
  unfold rpoolDo
  split
  ·exact rpoL_runs _ _ _ _
  ·split
   ·exact Runs.errP _ _ _
   ·split
    ·exact Runs.errP _ _ _
    ·have h := Runs.acc 2 ((c.a % 1024 - 2 : Nat) : Int) (2 * (c.a / 1024) + 1) (2 * (c.a / 1024)) t r
     split
     ·exact h
     ·exact ⟨h.ws, h.now, h.all, h.got, h.thread, h.inv⟩
 priv := by
  intro c t r h
  unfold rpoolDo
  split
  ·rw [rpoL_priv]; exact h
  ·split
   ·exact h
   ·split
    ·exact h
    ·split <;> (simp only [accP_priv]; exact h)
theorem rpool_dot (n k : Nat) : DoT (rpoolDo n k) := by
 intro c t r x hx
 unfold rpoolDo at hx
 split at hx
 ·exact rpoL_ticks _ _ _ _ _ hx
 ·split at hx
  ·exact .inl hx
  ·split at hx
   ·exact .inl hx
   ·split at hx <;> exact accP_ticks _ _ _ _ _ _ _ hx
theorem rpoL_old {t : TapeP} (hh : t.halt = false) (r : RWD) : ∀ (j i a m : Nat), i + j ≤ t.got.length → (∀ x, i ≤ x → x < i + j → t.got.getD x 0 % 2 = 1) → rpoL a (j + m) { t with at_ := i } r = rpoL (a + j) m { t with at_ := i + j } r
 | 0, i, a, m, _, _ => by rw [Nat.zero_add]; rfl
 | j + 1, i, a, m, h, ho => by
  rw [show j + 1 + m = (j + m) + 1 by omega]
  have e := accP_old (t := { t with at_ := i }) hh (show i < t.got.length by omega) 0 (a : Int) 0 0 r
  have hx := ho i (Nat.le_refl _) (by omega)
  show (if t.halt = true then _ else _) = _
  rw [if_neg (by rw [hh]; exact Bool.false_ne_true), e, if_neg (by rintro ⟨_, h9⟩; have h8 : t.got.getD i 0 % 2 = 0 := h9; omega)]
  have := rpoL_old hh r j (i + 1) (a + 1) m (by omega) (fun x h1 h2 => ho x (by omega) (by omega))
  rw [show a + (j + 1) = a + 1 + j by omega, show i + (j + 1) = i + 1 + j by omega]
  exact this
theorem rpoL_halt {t : TapeP} (hh : t.halt = true) (r : RWD) (a : Nat) : ∀ m, rpoL a m t r = ({ t with err := 6 }, r)
 | 0 => rfl
 | m + 1 => if_pos hh
def poolSim (n k : Nat) : RefSim (poolS n k) where
 Rel := fun _ _ p c h σ => match σ with
  | .once c' r0 => c' = c ∧ r0 = (0, 0) ∧ c.kind = 1 ∧ poBad n k c = false ∧ h.got = []
  | .take a e m free r0 => c.kind = 0 ∧ e = p * k + k ∧ r0 = (0, 0) ∧ (∀ x, x ∈ h.got → x ≤ 140000) ∧ ∃ j, a = p * k + j ∧ j < k ∧ (∀ x, x < j → h.got.getD x 0 % 2 = 1) ∧ h.got.length = (if free = true then j + 1 else j) ∧ (free = true → h.got.getD j 0 = m ∧ m % 2 = 0)
 Own := fun _ _ _ => True
theorem from_mem {S : Sys} {calls : List CallD} {st : PlayD S} {q i k : Nat} {s : S.σ} {evs0 : List EvD} {wd0 : WD} (h : From calls st q i k s evs0 wd0) : wd0.mem = st.wd.mem := by
 cases h <;> rfl
theorem pool_ref_ok (n k : Nat) (hk : 0 < k) (calls : List CallD) (Good : PlayD (poolS n k) → Prop) (hGood : ∀ st, Good st → ∀ x, x ∈ st.wd.mem.ws → x ≤ 140000) : RefOk (poolS n k) (poolSim n k) n (rpoolDo n k) lateM calls Good where
 refuse := by
  intro st c p h e r hG hob hp hown hs hrw hgot htk
  have h9 : (if c.kind = 0 then Mc.run (PoS.take (p * k) (p * k + k) 0 false (0, 0)) else if c.kind ≠ 1 then .refuse 9 else if poBad n k c = true then .refuse 10 else .run (.once c (0, 0))) = Mc.refuse e := hs
  unfold rpoolDo
  split at h9
  ·cases h9
  ·rename_i h0
   rw [if_neg h0]
   split at h9
   ·rename_i h1
    cases h9
    rw [if_pos h1]
    exact ⟨_, rfl, rfl, rfl, rfl, rfl, rfl, trivial⟩
   ·rename_i h1
    rw [if_neg h1]
    split at h9
    ·rename_i h2
     cases h9
     rw [if_pos h2]
     exact ⟨_, rfl, rfl, rfl, rfl, rfl, rfl, trivial⟩
    ·cases h9
 start := by
  intro st c p h σ r hG hob hth hp hown hs hrw hgot htk hinv
  have h9 : (if c.kind = 0 then Mc.run (PoS.take (p * k) (p * k + k) 0 false (0, 0)) else if c.kind ≠ 1 then .refuse 9 else if poBad n k c = true then .refuse 10 else .run (.once c (0, 0))) = Mc.run σ := hs
  split at h9
  ·rename_i h0; cases h9; exact ⟨h0, rfl, rfl, (fun x hx => by rw [hgot] at hx; cases hx), 0, rfl, hk, fun x hx => absurd hx (Nat.not_lt_zero x), by rw [hgot]; rfl, fun e => by cases e⟩
  ·split at h9
   ·cases h9
   ·split at h9
    ·cases h9
    ·rename_i h1 h2; cases h9; exact ⟨rfl, rfl, by omega, by simpa using h2, hgot⟩
 step := by
  intro st c p h σ r wd kk evs0 hG hf hc hp hinv hown hrel hrw hob
  have hky : ∀ m m' : MemD, rkey { r with mem := m } p [] = keyOf { wd with mem := m' } p [] := fun m m' => by
   unfold rkey keyOf tickKey
   rw [if_pos rfl, if_pos rfl]
   show (if r.marks.getD p [] = [] then [2 * (r.now : Int)] else r.marks.getD p []) = if wd.marks.getD p [] = [] then [2 * (wd.now : Int)] else wd.marks.getD p []
   rw [hrw.marks p hp, hrw.now]
  have hrs : ∀ m m' : MemD, m = m' → RwSim n { r with mem := m } { wd with mem := m' } := fun m m' e => ⟨e, hrw.now, hrw.mlen, hrw.marks, hrw.tr, hrw.tl⟩
  match σ, hrel with
  | .once c' r0, hrel =>
   obtain ⟨rfl, rfl, h1, h2, hgot⟩ := hrel
   have ht := tape00 (h := h) p hgot
   obtain ⟨x, hx⟩ : ∃ x, x = ((c'.a % 1024 - 2 : Nat) : Int) := ⟨_, rfl⟩
   have hz : rpoolDo n k c' (h.tape p) r = if (accP 2 x (2 * (c'.a / 1024) + 1) (2 * (c'.a / 1024)) (h.tape p) r).1 = 1 then (accP 2 x (2 * (c'.a / 1024) + 1) (2 * (c'.a / 1024)) (h.tape p) r).2 else ({ (accP 2 x (2 * (c'.a / 1024) + 1) (2 * (c'.a / 1024)) (h.tape p) r).2.1 with err := 8 }, (accP 2 x (2 * (c'.a / 1024) + 1) (2 * (c'.a / 1024)) (h.tape p) r).2.2) := by
    rw [hx]; unfold rpoolDo; rw [if_neg (by omega), if_neg (fun e => e h1), if_neg (by rw [h2]; exact Bool.false_ne_true)]
   have e1 : (memAcc r.mem 2 x (2 * (c'.a / 1024) + 1) (2 * (c'.a / 1024))).2 = b01 (poolMem c' wd).2 := by rw [hx]; unfold poolMem; rw [← hrw.mem]; rfl
   have e2 : (memAcc r.mem 2 x (2 * (c'.a / 1024) + 1) (2 * (c'.a / 1024))).1 = (poolMem c' wd).1 := by rw [hx]; unfold poolMem; rw [← hrw.mem]; rfl
   rw [hz, accP_new ht, e1, e2]
   cases hb : (poolMem c' wd).2 with
   | true =>
    split
    rotate_left
    ·rename_i hx9; exact absurd rfl hx9
    refine ⟨hrs _ _ rfl, rfl, rfl, rfl, fun _ => ⟨?_, hky _ _, trivial⟩, fun e => by cases e⟩
    show (⟨0, 0, []⟩ : AnsD) = ⟨(poolAct c' wd).2.1, (poolAct c' wd).2.2, []⟩
    unfold poolAct; rw [if_pos hb]
   | false =>
    split
    ·rename_i hx9; exact absurd hx9 (show ¬ (0 : Nat) = 1 from Nat.zero_ne_one)
    refine ⟨hrs _ _ rfl, rfl, rfl, rfl, fun _ => ⟨?_, hky _ _, trivial⟩, fun e => by cases e⟩
    show (⟨8, 0, []⟩ : AnsD) = ⟨(poolAct c' wd).2.1, (poolAct c' wd).2.2, []⟩
    unfold poolAct; rw [if_neg (by rw [hb]; exact Bool.false_ne_true)]
  | .take a e m true r0, hrel =>
   obtain ⟨h0, rfl, rfl, hbd, j, rfl, hj, hod, hlen, hm⟩ := hrel
   obtain ⟨hm1, hm2⟩ := hm rfl
   rw [if_pos rfl] at hlen
   have hst : (poolS n k).step st.obj wd p (.take (p * k + j) (p * k + k) m true (0, 0)) = ((), doWrite wd (p * k + j) (m + 3), .take (p * k + j) (p * k + k) m true (0, poRef (p * k + j) (m / 2 + 1)), true) := rfl
   have hz : rpoolDo n k c (h.tape p) r = rpoL (p * k) k (h.tape p) r := by unfold rpoolDo; rw [if_pos h0]; rfl
   obtain ⟨q, hq⟩ : ∃ q, k = j + (q + 1) := ⟨k - j - 1, by omega⟩
   have e1 : rpoL (p * k) k (h.tape p) r = rpoL (p * k + j) (q + 1) { (h.tape p) with at_ := j } r := by
    have h9 := rpoL_old (t := h.tape p) rfl r j 0 (p * k) (q + 1) (by show 0 + j ≤ h.got.length; omega) (fun x _ hx => hod x (by omega))
    rw [Nat.zero_add] at h9
    rw [← h9, ← hq]; rfl
   have e2 := accP_old (t := { (h.tape p) with at_ := j }) rfl (show j < h.got.length by omega) 0 ((p * k + j : Nat) : Int) 0 0 r
   have e3 := accP_fresh (t := { (h.tape p) with at_ := j + 1 }) rfl (show ¬ j + 1 < h.got.length by omega) rfl 1 ((p * k + j : Nat) : Int) (m + 3) 0 r
   have hg : (h.tape p).got.getD j 0 = m := hm1
   rw [hz, e1]
   unfold rpoL
   rw [if_neg (by exact Bool.false_ne_true), e2]
   simp only [hg]
   rw [if_pos ⟨rfl, hm2⟩, e3]
   refine ⟨?_, ?_, ?_, ?_, fun _ => ⟨?_, ?_, trivial⟩, fun e => by cases e⟩
   ·rw [hst]; exact hrs _ _ (by show memWrite r.mem _ _ = memWrite wd.mem _ _; rw [hrw.mem])
   ·rw [hst]; rfl
   ·rw [hst]; rfl
   ·rw [hst]; rfl
   ·rw [hst]; rfl
   ·rw [hst]; exact hky _ _
  | .take a e m false r0, hrel =>
   obtain ⟨h0, rfl, rfl, hbd, j, rfl, hj, hod, hlen, _⟩ := hrel
   rw [if_neg Bool.false_ne_true] at hlen
   have hz : rpoolDo n k c (h.tape p) r = rpoL (p * k) k (h.tape p) r := by unfold rpoolDo; rw [if_pos h0]; rfl
   obtain ⟨q, hq⟩ : ∃ q, k = j + (q + 1) := ⟨k - j - 1, by omega⟩
   have e1 : rpoL (p * k) k (h.tape p) r = rpoL (p * k + j) (q + 1) { (h.tape p) with at_ := j } r := by
    have h9 := rpoL_old (t := h.tape p) rfl r j 0 (p * k) (q + 1) (by show 0 + j ≤ h.got.length; omega) (fun x _ hx => hod x (by omega))
    rw [Nat.zero_add] at h9
    rw [← h9, ← hq]; rfl
   obtain ⟨y, hy⟩ : ∃ y, y = (memRead r.mem ((p * k + j : Nat) : Int)).2 := ⟨_, rfl⟩
   have hyw : taGot wd (p * k + j) = y := by unfold taGot; rw [← hrw.mem, hy]
   obtain ⟨t1, ht1⟩ : ∃ t1 : TapeP, t1 = { (h.tape p) with at_ := j + 1, got := h.got ++ [y], ticks := h.ticks ++ [(r.now : Int)], fresh := false } := ⟨_, rfl⟩
   obtain ⟨r1, hr1⟩ : ∃ r1 : RWD, r1 = { r with mem := (memRead r.mem ((p * k + j : Nat) : Int)).1 } := ⟨_, rfl⟩
   have e2 : accP 0 ((p * k + j : Nat) : Int) 0 0 { (h.tape p) with at_ := j } r = (y, t1, r1) := by
    rw [accP_fresh (t := { (h.tape p) with at_ := j }) rfl (show ¬ j < h.got.length by omega) rfl, ht1, hr1, hy]; rfl
   have th : t1.halt = false := by rw [ht1]; rfl
   have tf : t1.fresh = false := by rw [ht1]
   have ta : ¬ t1.at_ < t1.got.length := by rw [ht1]; show ¬ j + 1 < (h.got ++ [y]).length; rw [List.length_append, hlen]; exact Nat.lt_irrefl _
   have tg : t1.got = h.got ++ [y] := by rw [ht1]
   have hrw1 : RwSim n r1 (taRead wd (p * k + j)) := by rw [hr1]; exact hrs _ _ (by show (memRead r.mem _).1 = (memRead wd.mem _).1; rw [hrw.mem])
   have hyb : y ≤ 140000 := by
    have hm := hGood st hG
    rw [hy, hrw.mem, from_mem hf]
    unfold memRead
    split
    ·exact Nat.zero_le _
    ·show st.wd.mem.ws.getD _ 0 ≤ _
     rw [List.getD_eq_getElem?_getD]
     cases hx : st.wd.mem.ws[((p * k + j : Nat) : Int).toNat]? with
     | none => exact Nat.zero_le _
     | some x => exact hm x (List.mem_of_getElem? hx)
   have hbd' : ∀ x, x ∈ t1.got → x ≤ 140000 := fun x hx => by
    rw [tg] at hx
    rcases List.mem_append.1 hx with h9 | h9
    ·exact hbd x h9
    ·rw [List.mem_singleton.1 h9]; exact hyb
   have hgx : ∀ x, x < j → (h.got ++ [y]).getD x 0 = h.got.getD x 0 := fun x hx => by rw [List.getD_eq_getElem?_getD, List.getD_eq_getElem?_getD, List.getElem?_append_left (by omega)]
   have hgj : (h.got ++ [y]).getD j 0 = y := by rw [List.getD_eq_getElem?_getD, List.getElem?_append_right (by omega), hlen, Nat.sub_self]; rfl
   rw [hz, e1]
   by_cases hev : y % 2 = 0
   ·have hev' : taGot wd (p * k + j) % 2 = 0 := by rw [hyw]; exact hev
    have hst : (poolS n k).step st.obj wd p (.take (p * k + j) (p * k + k) m false (0, 0)) = ((), taRead wd (p * k + j), .take (p * k + j) (p * k + k) (taGot wd (p * k + j)) true (0, 0), false) := if_pos hev'
    rw [hyw] at hst
    have e3 : rpoL (p * k + j) (q + 1) { (h.tape p) with at_ := j } r = ({ t1 with halt := true, val := poRef (p * k + j) (y / 2 + 1) }, r1) := by
     unfold rpoL
     rw [if_neg (by exact Bool.false_ne_true), e2]
     simp only
     rw [if_pos ⟨th, hev⟩, accP_end th ta tf]
    rw [e3]
    refine ⟨?_, ?_, ?_, ?_, fun e => (by cases e), fun _ => ⟨?_, trivial⟩⟩
    ·rw [hst]; exact hrw1
    ·rw [hst]; rfl
    ·rw [hst]; rfl
    ·rw [hst]; rfl
    ·rw [hst]
     refine ⟨h0, rfl, rfl, hbd', j, rfl, hj, fun x hx => ?_, ?_, fun _ => ⟨?_, hev⟩⟩
     ·show t1.got.getD x 0 % 2 = 1; rw [tg, hgx x hx]; exact hod x hx
     ·show t1.got.length = j + 1; rw [tg, List.length_append, hlen]; rfl
     ·show t1.got.getD j 0 = y; rw [tg, hgj]
   ·have e3 : rpoL (p * k + j) (q + 1) { (h.tape p) with at_ := j } r = rpoL (p * k + j + 1) q t1 r1 := by
     show (if _ then _ else _) = _
     rw [if_neg (by exact Bool.false_ne_true), e2]
     simp only
     rw [if_neg (fun x => hev x.2)]
    rw [e3]
    by_cases hlast : p * k + j + 1 < p * k + k
    ·have hev' : ¬ taGot wd (p * k + j) % 2 = 0 := by rw [hyw]; exact hev
     have hst : (poolS n k).step st.obj wd p (.take (p * k + j) (p * k + k) m false (0, 0)) = ((), taRead wd (p * k + j), .take (p * k + j + 1) (p * k + k) (taGot wd (p * k + j)) false (0, 0), false) := (if_neg hev').trans (if_pos hlast)
     rw [hyw] at hst
     obtain ⟨q', hq'⟩ : ∃ q', q = q' + 1 := ⟨q - 1, by omega⟩
     have e4 : rpoL (p * k + j + 1) q t1 r1 = ({ t1 with halt := true, err := 6 }, r1) := by
      rw [hq']
      show (if _ then _ else _) = _
      rw [if_neg (by rw [th]; exact Bool.false_ne_true), accP_end th ta tf]
      simp only
      rw [if_neg (fun x => by cases x.1), rpoL_halt rfl]
     rw [e4]
     refine ⟨?_, ?_, ?_, ?_, fun e => (by cases e), fun _ => ⟨?_, trivial⟩⟩
     ·rw [hst]; exact hrw1
     ·rw [hst]; rfl
     ·rw [hst]; rfl
     ·rw [hst]; rfl
     ·rw [hst]
      refine ⟨h0, rfl, rfl, hbd', j + 1, by omega, by omega, fun x hx => ?_, ?_, fun e => by cases e⟩
      ·show t1.got.getD x 0 % 2 = 1
       rw [tg]
       by_cases e : x = j
       ·rw [e, hgj]; omega
       ·rw [hgx x (by omega)]; exact hod x (by omega)
      ·show t1.got.length = j + 1; rw [tg, List.length_append, hlen]; rfl
    ·have hev' : ¬ taGot wd (p * k + j) % 2 = 0 := by rw [hyw]; exact hev
     have hst : (poolS n k).step st.obj wd p (.take (p * k + j) (p * k + k) m false (0, 0)) = ((), taRead wd (p * k + j), .take (p * k + j + 1) (p * k + k) (taGot wd (p * k + j)) false (6, 0), true) := (if_neg hev').trans (if_neg hlast)
     rw [hyw] at hst
     obtain rfl : q = 0 := by omega
     have e4 : rpoL (p * k + j + 1) 0 t1 r1 = ({ t1 with err := 6 }, r1) := rfl
     have tv : t1.val = 0 ∧ t1.list = [] ∧ t1.key = [] := by rw [ht1]; exact ⟨rfl, rfl, rfl⟩
     rw [e4]
     refine ⟨?_, ?_, ?_, ?_, fun _ => ⟨?_, ?_, trivial⟩, fun e => by rw [show (({ t1 with err := 6 } : TapeP).halt) = false from th] at e; cases e⟩
     ·rw [hst]; exact hrw1
     ·rw [hst]; rfl
     ·rw [hst]; rfl
     ·rw [hst]; exact th
     ·rw [hst]
      show (⟨6, t1.val, t1.list⟩ : AnsD) = ⟨6, 0, []⟩
      rw [tv.1, tv.2.1]
     ·rw [hst]
      show rkey r1 p t1.key = _
      rw [tv.2.2, hr1]; exact hky _ _
 ownOther := fun _ _ _ _ _ _ _ _ => trivial
 relOther := by
  intro st p σ wd k evs0 r q c h σ' r' hG hf hqp hh hrel hrw
  exact hrel
 relTick := fun _ _ _ _ _ _ h => h
 relBegin := fun _ _ _ _ _ _ _ h => h
 late := by
  intro st c p h σ r hG hh hinv hrel hrw hp
  exact hrw.marks p hp
end
section

/- The reference's Do at each kind of object. -/
open Go.RowKit
theorem do_boxes (w : World) (kd sP sQ th kn : Int) (xa xb xc : Nat) : ∃ wb, wb = (w.alloc (.cells #[.int .i64 kd, .int .i64 sP, .int .i64 sQ] 39)).alloc (.cells #[.int .i64 th, .int .i64 0, .int .i64 kn, .int .u64 (xa : Int), .int .u64 (xb : Int), .int .u64 (xc : Int)] 48) ∧ Below w.heap.size w wb ∧
  wb.heap[w.heap.size]? = some (.cells #[.int .i64 kd, .int .i64 sP, .int .i64 sQ] 39 (0, 0)) ∧ wb.heap[w.heap.size + 1]? = some (.cells #[.int .i64 th, .int .i64 0, .int .i64 kn, .int .u64 (xa : Int), .int .u64 (xb : Int), .int .u64 (xc : Int)] 48 (0, 0)) := by
 refine ⟨_, rfl, Gr.alloc (Gr.new _ _) _, ?_, ?_⟩
 ·rw [Below.heap_alloc _ _ _ (by simp)]; exact heap_alloc_new _ _
 ·have := heap_alloc_new (w.alloc (.cells #[.int .i64 kd, .int .i64 sP, .int .i64 sQ] 39)) (.cells #[.int .i64 th, .int .i64 0, .int .i64 kn, .int .u64 (xa : Int), .int .u64 (xb : Int), .int .u64 (xc : Int)] 48 (0, 0))
  simp only [World.size_alloc] at this
  exact this
set_option maxHeartbeats 4000000 in
theorem do_pool {B : RBase} {w : World} {t : TapeP} {r : RWD} (P : World → Prop) (n : Nat) (sP sQ th kn : Int) (xa xb xc : Nat) (h : RAt B w t r) (FC : ∀ u, RAt B u t r → Calls Tryz.prog 90 #[.pointer (some ⟨B.I.tb, B.I.pre.length, none⟩), .int .i64 (n : Int), .int .i64 0, .agg #[.int .i64 12, .int .i64 sP, .int .i64 sQ], .agg #[.int .i64 th, .int .i64 0, .int .i64 kn, .int .u64 (xa : Int), .int .u64 (xb : Int), .int .u64 (xc : Int)]] u fun e u' => e = .returned (.tuple #[]) ∧ P u') :
  Calls Tryz.prog 70 #[.pointer (some ⟨B.I.tb, B.I.pre.length, none⟩), .int .i64 (n : Int), .int .i64 0, .agg #[.int .i64 12, .int .i64 sP, .int .i64 sQ], .agg #[.int .i64 th, .int .i64 0, .int .i64 kn, .int .u64 (xa : Int), .int .u64 (xb : Int), .int .u64 (xc : Int)]] w fun e u' => e = .returned (.tuple #[]) ∧ P u' := by
 obtain ⟨wb, hwb, hg, hS, hC⟩ := do_boxes w 12 sP sQ th kn xa xb xc
 have HC := Lib.hid (FC wb (h.grown hg)); have Hwb := Lib.hid hwb
 clear FC h hg hwb
 have s0 : wb.cell? ⟨w.heap.size, 0, none⟩ = some (.int .i64 12) := by rw [cell_blk hS]; rfl
 have s1 : wb.cell? ⟨w.heap.size, 1, none⟩ = some (.int .i64 sP) := by rw [cell_blk hS]; rfl
 have s2 : wb.cell? ⟨w.heap.size, 2, none⟩ = some (.int .i64 sQ) := by rw [cell_blk hS]; rfl
 have y0 : wb.cell? ⟨w.heap.size + 1, 0, none⟩ = some (.int .i64 th) := by rw [cell_blk hC]; rfl
 have y1 : wb.cell? ⟨w.heap.size + 1, 1, none⟩ = some (.int .i64 0) := by rw [cell_blk hC]; rfl
 have y2 : wb.cell? ⟨w.heap.size + 1, 2, none⟩ = some (.int .i64 kn) := by rw [cell_blk hC]; rfl
 have y3 : wb.cell? ⟨w.heap.size + 1, 3, none⟩ = some (.int .u64 (xa : Int)) := by rw [cell_blk hC]; rfl
 have y4 : wb.cell? ⟨w.heap.size + 1, 4, none⟩ = some (.int .u64 (xb : Int)) := by rw [cell_blk hC]; rfl
 have y5 : wb.cell? ⟨w.heap.size + 1, 5, none⟩ = some (.int .u64 (xc : Int)) := by rw [cell_blk hC]; rfl
 clear hS hC
 go_enter Tryz.func70, Tryz.ntmps70
 go_upto_region 1 with fail
 rw [← Hwb.out]
 go_wp2_with (go_at_call 90; refine HC.out.mono ?_; rintro e w2 ⟨rfl, h2⟩)
 (first | go_end0 | ((try simp only [Exit.inBlock, Exit.then]); refine bodyPost_ret (results_none rfl _ _ _) rfl ?_))
 exact ⟨rfl, h2⟩
end
section

/- The key of an operation that has not responded: its mark: roundelayplain.Late, but for a max register. -/
open Go.RowKit
set_option maxHeartbeats 4000000 in
theorem late_marks (kd P Q : Int) (n : Nat) (hk : kd ≠ 4) : LateC kd P Q n (fun _ p _ r => r.marks.getD p []) := by
 intro B u c t r h hok hob hp hinv hgot htk hml hA
 obtain ⟨wb, hwb, hg, hS, hC⟩ := do_boxes u kd P Q c.thread c.kind c.a c.b c.c
 have hA2 := hA.grown hg
 obtain ⟨G, K, L, h1, h2⟩ := id hA2
 obtain ⟨PV, LV, KV, ht, _⟩ := h1.tape
 obtain ⟨ms, hM, hmn, hms⟩ := h1.marks.blk
 have hnM : B.I.nM = n := by rw [← hml]; exact h1.marks.len.symm
 have hpm : t.thread < B.I.nM := by rw [hnM]; exact hp
 have hfin : RAtL B wb t r (ms.getD t.thread undef) (r.marks.getD t.thread []) := ⟨G, K, L, h1, h2, hms _ hpm⟩
 obtain ⟨wa, cap, _, hW, _⟩ := ht.mem.blk
 have d0 : wb.cell? ⟨B.I.tb, B.I.pre.length, none⟩ = some (.pointer (some ⟨B.I.bW, 0, none⟩)) := ht.cell0
 have d1 := hA2.cThread
 have d7 : wb.cell? ⟨B.I.bW, 7, none⟩ = some (.slice (some ⟨B.I.bM, 0, none⟩) B.I.nM B.I.nM) := by
  have hW' : wb.heap[B.I.bW]? = _ := hW
  rw [cell_blk hW']; rfl
 have dm : wb.cell? ⟨B.I.bM, t.thread, none⟩ = some (ms.getD t.thread undef) := by
  rw [cell_blk hM]
  simp [List.getD_eq_getElem?_getD, show t.thread < ms.length by omega]
 obtain ⟨mv, hmv⟩ : ∃ mv, mv = ms.getD t.thread undef := ⟨_, rfl⟩
 rw [← hmv] at dm hfin
 obtain ⟨p, hpp⟩ : ∃ p, p = t.thread := ⟨_, rfl⟩
 rw [← hpp] at d1 dm hpm
 have s0 : wb.cell? ⟨u.heap.size, 0, none⟩ = some (.int .i64 kd) := by rw [cell_blk hS]; rfl
 have l1 : (p : Int) < (B.I.nM : Int) := by omega
 have l2 : ¬ (p : Int) < 0 := by omega
 have lk : (kd == 4) = false := by simpa using hk
 have D0 := grown_cell d0; have D1 := grown_cell d1; have D7 := grown_cell d7; have DM := grown_cell dm
 have HF := Lib.hid hfin; have Hwb := Lib.hid hwb
 clear hA hA2 h1 h2 ht hM hms hW hfin hmv hpp hS hC hg hwb d0 d1 d7 dm hinv hgot htk hml hnM hmn hp hok
 suffices main : Calls Tryz.prog 58 #[.pointer (some ⟨B.I.tb, B.I.pre.length, none⟩), .int .i64 (n : Int), .int .i64 0, specV kd P Q, callW c] u fun e u' => e = .returned mv ∧ RAtL B u' t r mv (r.marks.getD t.thread []) by
  refine Calls.mono main ?_
  rintro e u' ⟨h1, h2⟩
  exact ⟨mv, t, h1, h2, rfl, rfl, rfl, rfl⟩
 unfold specV callW
 rw [hob]
 clear hob
 go_enter Tryz.func58, Tryz.ntmps58
 go_upto_region 1 with fail
 rw [← Hwb.out]
 go_upto_region 3 with fail
 ((with_reducible refine wp_region_grown_lit (by kernel_rfl) (by kernel_rfl) ?_); (repeat ((with_reducible refine wpQuiet_step (fun K hK => ?_)); go_simp; first | ((with_reducible refine hK _ ?_); clear hK K) | ((with_reducible apply Exists.intro); (with_reducible refine ⟨fun _ => ?_, hK _ ?_⟩); (fail); clear hK K))); (with_reducible refine wpQuiet_nil ?_); intro _ hw'; obtain ⟨nq, hw''⟩ := hw'; subst hw'')
 have hb := nq.below
 have HG := Lib.hid (HF.out.grown hb)
 clear hb
 go_wp2
 go_ret
 exact ⟨rfl, HG.out⟩
end
end Go.Proofs.YteffgpcjfnjlkaaGreat
