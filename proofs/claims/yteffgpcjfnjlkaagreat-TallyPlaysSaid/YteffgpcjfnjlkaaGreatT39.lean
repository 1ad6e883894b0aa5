/- Layer 8: what every play of a tally keeps, in plain numbers. -/
import Derived.Test.YteffgpcjfnjlkaaGreatT38
import Derived.Test.YteffgpcjfnjlkaaGreatT22
import Derived.Test.YteffgpcjfnjlkaaGreatT32
set_option maxRecDepth 100000
set_option linter.unusedVariables false
set_option linter.unusedSimpArgs false
set_option linter.unnecessarySimpa false
namespace Go.Proofs.YteffgpcjfnjlkaaGreat
open Go.RowKit
def objOf (calls : List CallD) (e : EvD) : Int := (calls.getD e.call d0).obj
def kindOf (calls : List CallD) (e : EvD) : Int := (calls.getD e.call d0).kind
def isK (calls : List CallD) (kd : Int) (e : EvD) : Bool := decide (objOf calls e = 0) && decide (kindOf calls e = kd) && decide (e.resp ≠ 0)
theorem isK_spec {calls : List CallD} {kd : Int} {e : EvD} : isK calls kd e = true ↔ objOf calls e = 0 ∧ kindOf calls e = kd ∧ e.resp ≠ 0 := by
 unfold isK; simp [and_assoc]
def tP1 (calls : List CallD) (t : Nat) (e : EvD) : Bool := isK calls 0 e && decide (tn calls e = t)
def tP2 (calls : List CallD) (a : Nat) (e : EvD) : Bool := isK calls 0 e && decide (tn calls e < a)
def tP3 (calls : List CallD) (a iv : Nat) (e : EvD) : Bool := isK calls 0 e && decide (tn calls e < a) && decide (e.resp < iv)
def tP4 (calls : List CallD) (t : Nat) (e : EvD) : Bool := isK calls 0 e && decide (e.resp ≤ t)
theorem isK_open {calls : List CallD} {kd : Int} {e : EvD} (h : e.resp = 0) : isK calls kd e = false := by unfold isK; simp [h]
theorem tP1_open {calls : List CallD} {t : Nat} (e : EvD) (h : e.resp = 0) : tP1 calls t e = false := by unfold tP1; rw [isK_open h]; rfl
theorem tP2_open {calls : List CallD} {t : Nat} (e : EvD) (h : e.resp = 0) : tP2 calls t e = false := by unfold tP2; rw [isK_open h]; rfl
theorem tP3_open {calls : List CallD} {a t : Nat} (e : EvD) (h : e.resp = 0) : tP3 calls a t e = false := by unfold tP3; rw [isK_open h]; rfl
theorem tP4_open {calls : List CallD} {t : Nat} (e : EvD) (h : e.resp = 0) : tP4 calls t e = false := by unfold tP4; rw [isK_open h]; rfl
def taHand (n : Nat) (calls : List CallD) (st : PlayD (tallyS n)) (p : Nat) (e : EvD) : TaS → Prop
 | .count seen v => seen = true ∧ v = cnt (tP1 calls p) st.evs ∧ e.steps = 1 ∧ kindOf calls e = 0
 | .read a s _ => a < n ∧ cnt (tP3 calls a e.inv) st.evs ≤ s ∧ s ≤ cnt (tP2 calls a) st.evs ∧ e.steps = a ∧ kindOf calls e = 1 ∧ (∀ i, i < st.evs.length → isK calls 0 (evAt st.evs i) = true → (evAt st.evs i).resp ≠ e.inv)
def taDone (n : Nat) (calls : List CallD) (evs : List EvD) (e : EvD) : Prop :=
 if objOf calls e ≠ 0 then e.ans = ⟨12, 0, []⟩ ∧ e.key = [2 * (e.resp : Int)] ∧ e.steps = 1
 else if kindOf calls e = 0 then e.ans = ⟨0, 0, []⟩ ∧ e.key = [2 * (e.resp : Int)] ∧ e.steps = 2 ∧ e.inv < e.resp
 else if kindOf calls e = 1 then ∃ wn v : Nat, e.ans = ⟨0, v, []⟩ ∧ e.key = [2 * (wn : Int), 2 * (e.resp : Int)] ∧ e.inv ≤ wn ∧ wn ≤ e.resp ∧ cnt (tP4 calls wn) evs = v ∧ cnt (tP3 calls n e.inv) evs ≤ v ∧ v ≤ cnt (tP4 calls e.resp) evs ∧ e.steps = n
 else e.ans = ⟨9, 0, []⟩ ∧ e.key = [2 * (e.resp : Int)] ∧ e.steps = 1
structure TaInv (n : Nat) (calls : List CallD) (st : PlayD (tallyS n)) : Prop where
 wlen : st.wd.mem.ws.length = n
 words : ∀ t, t < n → st.wd.mem.ws.getD t 0 = cnt (tP1 calls t) st.evs
 tr : ∀ t : Nat, ((st.wd.traces 0).filter fun x => decide (x ≤ (t : Int))).length = cnt (tP4 calls t) st.evs
 tinc : (st.wd.traces 0).Pairwise (· < ·)
 tpos : ∀ x ∈ st.wd.traces 0, 1 ≤ x ∧ x ≤ (st.wd.now : Int)
 hand : ∀ p s k, st.hands.getD p (none, 0) = (some s, k) → objOf calls (evAt st.evs k) = 0 ∧ taHand n calls st p (evAt st.evs k) s ∧ st.wd.inv.getD p 0 = (evAt st.evs k).inv
 done : ∀ i, i < st.evs.length → (evAt st.evs i).resp ≠ 0 → taDone n calls st.evs (evAt st.evs i)
 marks : st.wd.marks = List.replicate 16 []
 ilen : st.wd.inv.length = 16
 fault : st.wd.mem.c.fault = 0
 all : st.wd.mem.c.all ≤ st.wd.now
theorem rise_count : ∀ {l : List Int} (h : l.Pairwise (· < ·)) (j : Nat) (hj : j < l.length), (l.filter fun x => decide (x ≤ l.getD j 0)).length = j + 1
 | [], _, _, hj => by simp at hj
 | a :: l, h, 0, _ => by
  rw [List.pairwise_cons] at h
  simp only [List.getD_cons_zero]
  rw [List.filter_cons_of_pos (by simp), List.filter_eq_nil_iff.2]
  ·rfl
  ·intro x hx; have := h.1 x hx; simp; omega
 | a :: l, h, j + 1, hj => by
  rw [List.pairwise_cons] at h
  have hj' : j < l.length := by simpa using hj
  simp only [List.getD_cons_succ]
  have hm : l.getD j 0 ∈ l := by rw [List.getD_eq_getElem?_getD, List.getElem?_eq_getElem hj']; exact List.getElem_mem _
  rw [List.filter_cons_of_pos (by have := h.1 _ hm; exact decide_eq_true (by omega)), List.length_cons, rise_count h.2 j hj']
theorem filter_len_mono {l : List Int} {x y : Int} (h : x ≤ y) : (l.filter fun z => decide (z ≤ x)).length ≤ (l.filter fun z => decide (z ≤ y)).length := by
 induction l with
 | nil => exact Nat.le_refl _
 | cons a l ih =>
  by_cases h1 : a ≤ x
  ·rw [List.filter_cons_of_pos (by simpa using h1), List.filter_cons_of_pos (by simp; omega)]; simpa using ih
  ·rw [List.filter_cons_of_neg (by simpa using h1)]
   by_cases h2 : a ≤ y
   ·rw [List.filter_cons_of_pos (by simpa using h2)]; simp; omega
   ·rw [List.filter_cons_of_neg (by simpa using h2)]; exact ih
theorem when_spec {T : List Int} (hinc : T.Pairwise (· < ·)) {iv s now : Nat} (hpos : ∀ x ∈ T, 1 ≤ x ∧ x ≤ (now : Int)) (hne : ∀ x ∈ T, x ≠ (iv : Int)) (hiv : iv ≤ now) (h1 : (T.filter fun x => decide (x ≤ (iv : Int))).length ≤ s) (h2 : s ≤ T.length) :
  ∃ wn : Nat, taWhen T iv s = (wn : Int) ∧ iv ≤ wn ∧ wn ≤ now ∧ (T.filter fun x => decide (x ≤ (wn : Int))).length = s := by
 by_cases h0 : 0 < s
 ·have hw : taWhen T iv s = max (iv : Int) (T.getD (s - 1) 0) := by unfold taWhen; rw [if_pos ⟨h0, h2⟩]
  have hr := rise_count hinc (s - 1) (by omega)
  have hm : T.getD (s - 1) 0 ∈ T := by rw [List.getD_eq_getElem?_getD, List.getElem?_eq_getElem (by omega)]; exact List.getElem_mem _
  obtain ⟨p1, p2⟩ := hpos _ hm
  obtain ⟨t, ht⟩ : ∃ t : Nat, T.getD (s - 1) 0 = (t : Int) := ⟨(T.getD (s - 1) 0).toNat, by omega⟩
  rw [ht] at hr hw p2
  rw [hw]
  by_cases hc : iv ≤ t
  ·exact ⟨t, by omega, hc, by omega, by rw [hr]; omega⟩
  ·refine ⟨iv, by omega, Nat.le_refl _, hiv, ?_⟩
   have := filter_len_mono (l := T) (x := (t : Int)) (y := (iv : Int)) (by omega)
   omega
 ·have hw : taWhen T iv s = (iv : Int) := by unfold taWhen; rw [if_neg (by omega)]
  exact ⟨iv, hw, Nat.le_refl _, hiv, by omega⟩
theorem memR {m : MemD} {a : Nat} (h : a < m.ws.length) : (memRead m (a : Int)).1.ws = m.ws ∧ (memRead m (a : Int)).2 = m.ws.getD a 0 ∧ (memRead m (a : Int)).1.c.fault = m.c.fault ∧ (memRead m (a : Int)).1.c.all = m.c.all + 1 := by
 have ho : memOut m (a : Int) = false := by unfold memOut; simp; omega
 unfold memRead
 rw [if_neg (by rw [ho]; simp)]
 exact ⟨rfl, by simp, rfl, by simp [CountsD.all]; omega⟩
theorem memW {m : MemD} {a : Nat} (v : Nat) (h : a < m.ws.length) : (memWrite m (a : Int) v).ws = m.ws.set a v ∧ (memWrite m (a : Int) v).c.fault = m.c.fault ∧ (memWrite m (a : Int) v).c.all = m.c.all + 1 := by
 have ho : memOut m (a : Int) = false := by unfold memOut; simp; omega
 unfold memWrite
 rw [if_neg (by rw [ho]; simp)]
 exact ⟨by simp, rfl, by simp [CountsD.all]; omega⟩
theorem From.tn {S : Sys} {calls : List CallD} {st : PlayD S} {q i k : Nat} {s : S.σ} {evs0 : List EvD} {wd0 : WD} (h : From calls st q i k s evs0 wd0) (hN : nowN calls st.fin (q : Int) = some i) : tn calls (evAt evs0 k) = q := by
 unfold Go.Proofs.YteffgpcjfnjlkaaGreat.tn
 rw [h.call, (nowN_spec hN).2.1]; simp
theorem From.apart {S : Sys} {calls : List CallD} {st : PlayD S} {q i k : Nat} {s : S.σ} {evs0 : List EvD} {wd0 : WD} (h : From calls st q i k s evs0 wd0) (hg : StGood calls st) (hN : nowN calls st.fin (q : Int) = some i) {p k2 : Nat} {s2 : S.σ} (hp : p ≠ q) (hh : st.hands.getD p (none, 0) = (some s2, k2)) : k2 ≠ k ∧ k2 < st.evs.length := by
 obtain ⟨a1, a2, a3, a4⟩ := hg.ev.hand p k2 (by unfold hndOf; rw [hh]; rfl)
 refine ⟨?_, a1⟩
 rintro rfl
 apply hp
 rw [← a2, ← h.tn hN, h.obj.2 k2 a1]
theorem taDone_keep {n : Nat} {calls : List CallD} {evs evs' : List EvD} {e : EvD} (h : taDone n calls evs e) (h4 : ∀ t, t ≤ e.resp → cnt (tP4 calls t) evs' = cnt (tP4 calls t) evs) (h3 : ∀ a iv, iv ≤ e.resp → cnt (tP3 calls a iv) evs' = cnt (tP3 calls a iv) evs) : taDone n calls evs' e := by
 unfold taDone at h ⊢
 split
 ·rename_i h0; rw [if_pos h0] at h; exact h
 ·rename_i h0; rw [if_neg h0] at h
  split
  ·rename_i h1; rw [if_pos h1] at h; exact h
  ·rename_i h1; rw [if_neg h1] at h
   split
   ·rename_i h2; rw [if_pos h2] at h
    obtain ⟨wn, v, a1, a2, a3, a4, a5, a6, a7, a8⟩ := h
    exact ⟨wn, v, a1, a2, a3, a4, by rw [h4 _ a4]; exact a5, by rw [h3 _ _ (by omega)]; exact a6, by rw [h4 _ (Nat.le_refl _)]; exact a7, a8⟩
   ·rename_i h2; rw [if_neg h2] at h; exact h
theorem From.or {S : Sys} {calls : List CallD} {st : PlayD S} {q i k : Nat} {s : S.σ} {evs0 : List EvD} {wd0 : WD} (h : From calls st q i k s evs0 wd0) :
  (st.hands.getD q (none, 0) = (some s, k) ∧ k < st.evs.length ∧ (evAt st.evs k).call = i ∧ (evAt st.evs k).resp = 0 ∧ evs0 = st.evs ∧ wd0 = st.wd.tick) ∨
  ((st.hands.getD q (none, 0)).1 = none ∧ startD S st.obj (st.wd.tick.begin q) q (calls.getD i d0) = .run s ∧ k = st.evs.length ∧ evs0 = st.evs ++ [newEv i (st.wd.tick.begin q)] ∧ wd0 = st.wd.tick.begin q) := by
 cases h with
 | old k s hh hk hc hr => exact .inl ⟨hh, hk, hc, hr, rfl, rfl⟩
 | new s hh hs => exact .inr ⟨hh, hs, rfl, rfl, rfl⟩
theorem From.inv {S : Sys} {calls : List CallD} {st : PlayD S} {q i k : Nat} {s : S.σ} {evs0 : List EvD} {wd0 : WD} (h : From calls st q i k s evs0 wd0) {p : Nat} (hp : p ≠ q) : wd0.inv.getD p 0 = st.wd.inv.getD p 0 := by
 cases h with
 | old k s hh hk hc hr => rfl
 | new s hh hs => exact getD_set_neq (Ne.symm hp)
theorem ta_frame {n : Nat} {calls : List CallD} {st : PlayD (tallyS n)} {q i k : Nat} {s : TaS} {evs0 : List EvD} {wd0 : WD} (hg : StGood calls st) (h : TaInv n calls st) (hf : From calls st q i k s evs0 wd0) (hN : nowN calls st.fin (q : Int) = some i) {e1 : EvD} (he1 : e1.resp = 0 ∨ e1.resp = st.wd.now + 1) (htn : tn calls e1 = q) :
  (∀ p s2 k2, p ≠ q → st.hands.getD p (none, 0) = (some s2, k2) → objOf calls (evAt (evs0.set k e1) k2) = 0 ∧ (∀ st' : PlayD (tallyS n), st'.evs = evs0.set k e1 → taHand n calls st' p (evAt (evs0.set k e1) k2) s2) ∧ wd0.inv.getD p 0 = (evAt (evs0.set k e1) k2).inv) ∧
  (∀ j, j < (evs0.set k e1).length → j ≠ k → (evAt (evs0.set k e1) j).resp ≠ 0 → taDone n calls (evs0.set k e1) (evAt (evs0.set k e1) j)) := by
 have hc : ∀ {P : EvD → Bool}, (∀ e, e.resp = 0 → P e = false) → cnt P (evs0.set k e1) = cnt P st.evs + (if P e1 then 1 else 0) := fun hP => hf.cnt hP e1
 have hc4 : ∀ t, t ≤ st.wd.now → cnt (tP4 calls t) (evs0.set k e1) = cnt (tP4 calls t) st.evs := by
  intro t ht
  rw [hc tP4_open]
  have : tP4 calls t e1 = false := by
   rcases he1 with h0 | h0
   ·exact tP4_open _ h0
   ·unfold tP4; rw [h0]; simp; omega
  rw [this]; simp
 have hc3 : ∀ a t, t ≤ st.wd.now → cnt (tP3 calls a t) (evs0.set k e1) = cnt (tP3 calls a t) st.evs := by
  intro a t ht
  rw [hc tP3_open]
  have : tP3 calls a t e1 = false := by
   rcases he1 with h0 | h0
   ·exact tP3_open _ h0
   ·unfold tP3; rw [h0]; simp; omega
  rw [this]; simp
 refine ⟨fun p s2 k2 hp hh => ?_, fun j hj hjk hr => ?_⟩
 ·obtain ⟨n1, n2⟩ := hf.apart hg hN hp hh
  have hlen : k2 < (evs0.set k e1).length := Nat.lt_of_lt_of_le n2 (hf.size e1)
  obtain ⟨_, n3⟩ := hf.other e1 hlen n1
  obtain ⟨g1, g2, g3⟩ := h.hand p s2 k2 hh
  have hiv := (hg.ev.tick k2 n2).2.1
  rw [n3]
  refine ⟨g1, fun st' hst' => ?_, ?_⟩
  ·match s2, g2 with
   | .count seen v, ⟨b1, b2, b3, b4⟩ =>
    refine ⟨b1, ?_, b3, b4⟩
    rw [hst', hc tP1_open]
    have : tP1 calls p e1 = false := by unfold tP1; rw [htn]; simp; intro _; exact Ne.symm hp
    rw [this]; simpa using b2
   | .read a s' ky, ⟨b1, b2, b3, b4, b5, b6⟩ =>
    refine ⟨b1, ?_, ?_, b4, b5, fun j hj hk => ?_⟩
    ·rw [hst', hc3 _ _ hiv]; exact b2
    ·rw [hst', hc tP2_open]; omega
    ·rw [hst'] at hj hk ⊢
     by_cases hjk : j = k
     ·subst hjk
      rw [hf.self] at hk ⊢
      rcases he1 with h0 | h0
      ·rw [isK_open h0] at hk; cases hk
      ·omega
     ·obtain ⟨m1, m2⟩ := hf.other e1 hj hjk
      rw [m2] at hk ⊢; exact b6 j m1 hk
  ·rw [← g3]; exact hf.inv hp
 ·obtain ⟨m1, m2⟩ := hf.other e1 hj hjk
  rw [m2] at hr ⊢
  have := (hg.ev.tick j m1).2.2.2
  exact taDone_keep (h.done j m1 hr) (fun t ht => hc4 t (by omega)) (fun a iv hiv => hc3 a iv (by omega))
theorem keyOf_plain {wd : WD} {p : Nat} (h : wd.marks = List.replicate 16 []) : keyOf wd p [] = [2 * (wd.now : Int)] := by
 unfold keyOf
 rw [if_pos rfl, h, getD_rep', if_pos rfl]; rfl
theorem begin_marks {wd : WD} {q : Nat} (h : wd.marks = List.replicate 16 []) : (wd.tick.begin q).marks = List.replicate 16 [] := by
 show wd.marks.set q [] = _
 rw [h]
 apply List.ext_getElem?
 intro j
 rw [List.getElem?_set]
 split
 ·rename_i e
  subst e
  rw [List.length_replicate, List.getElem?_replicate]
 ·rfl
theorem From.marks {S : Sys} {calls : List CallD} {st : PlayD S} {q i k : Nat} {s : S.σ} {evs0 : List EvD} {wd0 : WD} (h : From calls st q i k s evs0 wd0) (hm : st.wd.marks = List.replicate 16 []) : wd0.marks = List.replicate 16 [] := by
 cases h with
 | old k s hh hk hc hr => exact hm
 | new s hh hs => exact begin_marks hm
theorem From.ilen {S : Sys} {calls : List CallD} {st : PlayD S} {q i k : Nat} {s : S.σ} {evs0 : List EvD} {wd0 : WD} (h : From calls st q i k s evs0 wd0) (hm : st.wd.inv.length = 16) : wd0.inv.length = 16 := by
 cases h with
 | old k s hh hk hc hr => exact hm
 | new s hh hs => show (st.wd.inv.set q _).length = 16; rw [List.length_set]; exact hm
def taPre (n : Nat) (calls : List CallD) (st : PlayD (tallyS n)) (q : Nat) (e : EvD) : TaS → Prop
 | .count false _ => kindOf calls e = 0 ∧ e.steps = 0
 | .count true v => v = cnt (tP1 calls q) st.evs ∧ kindOf calls e = 0 ∧ e.steps = 1 ∧ e.inv < st.wd.now + 1
 | .read a s _ => a < n ∧ cnt (tP3 calls a e.inv) st.evs ≤ s ∧ s ≤ cnt (tP2 calls a) st.evs ∧ e.steps = a ∧ kindOf calls e = 1 ∧ (∀ i, i < st.evs.length → isK calls 0 (evAt st.evs i) = true → (evAt st.evs i).resp ≠ e.inv)
theorem ta_pre {n : Nat} (hn : 1 ≤ n) {calls : List CallD} {st : PlayD (tallyS n)} {q i k : Nat} {s : TaS} {evs0 : List EvD} {wd0 : WD} (hq : q < 16) (hg : StGood calls st) (h : TaInv n calls st) (hf : From calls st q i k s evs0 wd0) :
  objOf calls (evAt evs0 k) = 0 ∧ taPre n calls st q (evAt evs0 k) s ∧ wd0.inv.getD q 0 = (evAt evs0 k).inv ∧ 1 ≤ (evAt evs0 k).inv ∧ (evAt evs0 k).inv ≤ st.wd.now + 1 := by
 rcases hf.or with ⟨hh, hk, hc, hr, rfl, rfl⟩ | ⟨hh, hs, rfl, rfl, rfl⟩
 ·obtain ⟨g1, g2, g3⟩ := h.hand q s k hh
  have ht := hg.ev.tick k hk
  refine ⟨g1, ?_, g3, ht.1, by omega⟩
  match s, g2 with
  | .count false v, ⟨b1, _⟩ => cases b1
  | .count true v, ⟨b1, b2, b3, b4⟩ => exact ⟨b2, b4, b3, by omega⟩
  | .read a s' ky, g => exact g
 ·have he : evAt (st.evs ++ [newEv i (st.wd.tick.begin q)]) st.evs.length = newEv i (st.wd.tick.begin q) := evAt_last
  rw [he]
  have ho : objOf calls (newEv i (st.wd.tick.begin q)) = (calls.getD i d0).obj := rfl
  have hkd : kindOf calls (newEv i (st.wd.tick.begin q)) = (calls.getD i d0).kind := rfl
  have hi : (newEv i (st.wd.tick.begin q)).inv = st.wd.now + 1 := rfl
  have hst : (newEv i (st.wd.tick.begin q)).steps = 0 := rfl
  rw [ho, hi]
  unfold startD at hs
  by_cases ho0 : (calls.getD i d0).obj = 0
  ·rw [if_pos ho0] at hs
   refine ⟨ho0, ?_, ?_, by omega, Nat.le_refl _⟩
   ·by_cases hk0 : (calls.getD i d0).kind = 0
    ·have e1 : (tallyS n).start st.obj (st.wd.tick.begin q) q (calls.getD i d0) = .run (.count false 0) := if_pos hk0
     rw [e1] at hs; cases hs
     exact ⟨by rw [hkd, hk0], hst⟩
    ·by_cases hk1 : (calls.getD i d0).kind = 1
     ·have e1 : (tallyS n).start st.obj (st.wd.tick.begin q) q (calls.getD i d0) = .run (.read 0 0 []) := (if_neg hk0).trans (if_pos hk1)
      rw [e1] at hs; cases hs
      refine ⟨by omega, ?_, Nat.zero_le _, hst, by rw [hkd, hk1], fun j hj _ => ?_⟩
      ·rw [cnt_zero (fun j _ => by unfold tP3; simp)]; exact Nat.le_refl _
      ·have := (hg.ev.tick j hj).2.2.2; omega
     ·have e1 : (tallyS n).start st.obj (st.wd.tick.begin q) q (calls.getD i d0) = .refuse 9 := (if_neg hk0).trans (if_neg hk1)
      rw [e1] at hs; cases hs
   ·exact getD_set_eq (by show q < st.wd.inv.length; rw [h.ilen]; exact hq)
  ·rw [if_neg ho0] at hs; cases hs
theorem P1_split {calls : List CallD} {a : Nat} {l : List EvD} : cnt (tP2 calls (a + 1)) l = cnt (tP2 calls a) l + cnt (tP1 calls a) l := by
 refine cnt_both fun i _ => ?_
 unfold tP2 tP1
 generalize evAt l i = e
 cases isK calls 0 e with
 | false => simp
 | true =>
  simp only [Bool.true_and, decide_eq_true_eq]
  refine ⟨?_, by omega⟩
  rw [← Bool.decide_or]
  exact decide_eq_decide.2 (by omega)
theorem P3_split {calls : List CallD} {a iv : Nat} {l : List EvD} : cnt (tP3 calls (a + 1) iv) l ≤ cnt (tP3 calls a iv) l + cnt (tP1 calls a) l := by
 have h1 : cnt (tP3 calls (a + 1) iv) l = cnt (tP3 calls a iv) l + cnt (fun e => tP1 calls a e && decide (e.resp < iv)) l := by
  refine cnt_both fun i _ => ?_
  unfold tP3 tP1
  generalize evAt l i = e
  cases isK calls 0 e with
  | false => simp
  | true =>
   by_cases h : e.resp < iv
   ·simp only [Bool.true_and, h, decide_true, Bool.and_true, decide_eq_true_eq]
    refine ⟨?_, by omega⟩
    rw [← Bool.decide_or]
    exact decide_eq_decide.2 (by omega)
   ·simp [h]
 have h2 : cnt (fun e => tP1 calls a e && decide (e.resp < iv)) l ≤ cnt (tP1 calls a) l := cnt_mono fun i _ hp => by
  simp only [Bool.and_eq_true] at hp; exact hp.1
 omega
theorem ta_turn {n : Nat} (hn : 1 ≤ n) {calls : List CallD} (hthr : ∀ c, c < calls.length → 0 ≤ (calls.getD c d0).thread ∧ (calls.getD c d0).thread < n) {st st' : PlayD (tallyS n)} (hg : StGood calls st) (h : TaInv n calls st) (ht : Turn calls st st') : TaInv n calls st' := by
 cases ht with
 | idle => exact ⟨h.wlen, h.words, h.tr, h.tinc, h.tpos, fun p s k hp => by
   obtain ⟨a1, a2, a3⟩ := h.hand p s k hp
   refine ⟨a1, ?_, a3⟩
   match s, a2 with
   | .count seen v, a2 => exact a2
   | .read a s' ky, a2 => exact a2, h.done, h.marks, h.ilen, h.fault, h.all⟩
 | refuse q i er hq hN hh hs =>
  obtain ⟨e, he⟩ : ∃ e, e = finishEv (st.wd.tick.begin q) q ⟨er, 0, []⟩ [] (newEv i (st.wd.tick.begin q)) := ⟨_, rfl⟩
  have hst : refuseTo st q i er = { wd := st.wd.tick.begin q, obj := st.obj, fin := st.fin.set i true, hands := st.hands.set q (none, st.evs.length), evs := st.evs ++ [e], idle := st.idle } := by rw [he]; rfl
  rw [hst]
  have er1 : e.resp = st.wd.now + 1 := by rw [he]; rfl
  have ek : e.key = [2 * (e.resp : Int)] := by rw [er1, he]; exact keyOf_plain (begin_marks h.marks)
  have eo : objOf calls e = (calls.getD i d0).obj := by rw [he]; rfl
  have ekd : kindOf calls e = (calls.getD i d0).kind := by rw [he]; rfl
  have ea : e.ans = ⟨er, 0, []⟩ := by rw [he]; rfl
  have est : e.steps = 1 := by rw [he]; rfl
  have hkind : (objOf calls e ≠ 0 ∧ er = 12) ∨ (objOf calls e = 0 ∧ kindOf calls e ≠ 0 ∧ kindOf calls e ≠ 1 ∧ er = 9) := by
   unfold startD at hs
   rw [eo, ekd]
   by_cases ho : (calls.getD i d0).obj = 0
   ·rw [if_pos ho] at hs
    by_cases h0 : (calls.getD i d0).kind = 0
    ·have e1 : (tallyS n).start st.obj (st.wd.tick.begin q) q (calls.getD i d0) = .run (.count false 0) := if_pos h0
     rw [e1] at hs; cases hs
    ·by_cases h1 : (calls.getD i d0).kind = 1
     ·have e1 : (tallyS n).start st.obj (st.wd.tick.begin q) q (calls.getD i d0) = .run (.read 0 0 []) := (if_neg h0).trans (if_pos h1)
      rw [e1] at hs; cases hs
     ·have e1 : (tallyS n).start st.obj (st.wd.tick.begin q) q (calls.getD i d0) = .refuse 9 := (if_neg h0).trans (if_neg h1)
      rw [e1] at hs; cases hs
      exact .inr ⟨ho, h0, h1, rfl⟩
   ·rw [if_neg ho] at hs; cases hs
    exact .inl ⟨ho, rfl⟩
  have hno : isK calls 0 e = false := by
   cases hk : isK calls 0 e with
   | false => rfl
   | true =>
    have := isK_spec.1 hk
    rcases hkind with h1 | h1
    ·exact absurd this.1 h1.1
    ·exact absurd this.2.1 h1.2.1
  have hc : ∀ {P : EvD → Bool}, (isK calls 0 e = false → P e = false) → cnt P (st.evs ++ [e]) = cnt P st.evs := by
   intro P hP
   rw [cnt_append, cnt_cons, cnt_nil, hP hno]; simp
  have c1 : ∀ t, cnt (tP1 calls t) (st.evs ++ [e]) = cnt (tP1 calls t) st.evs := fun t => hc (fun h => by unfold tP1; rw [h]; rfl)
  have c2 : ∀ t, cnt (tP2 calls t) (st.evs ++ [e]) = cnt (tP2 calls t) st.evs := fun t => hc (fun h => by unfold tP2; rw [h]; rfl)
  have c3 : ∀ a t, cnt (tP3 calls a t) (st.evs ++ [e]) = cnt (tP3 calls a t) st.evs := fun a t => hc (fun h => by unfold tP3; rw [h]; rfl)
  have c4 : ∀ t, cnt (tP4 calls t) (st.evs ++ [e]) = cnt (tP4 calls t) st.evs := fun t => hc (fun h => by unfold tP4; rw [h]; rfl)
  refine ⟨h.wlen, fun t ht => by rw [c1]; exact h.words t ht, fun t => by rw [c4]; exact h.tr t, h.tinc, fun x hx => by have := h.tpos x hx; refine ⟨this.1, ?_⟩; show x ≤ ((st.wd.now + 1 : Nat) : Int); omega, fun p s k hp => ?_, fun j hj hr => ?_, begin_marks h.marks, by show (st.wd.inv.set q _).length = 16; rw [List.length_set]; exact h.ilen, h.fault, Nat.le_succ_of_le h.all⟩
  ·simp only at hp ⊢
   rw [hands_set hg.h16 hq] at hp
   by_cases hpq : p = q
   ·rw [if_pos hpq] at hp; cases hp
   ·rw [if_neg hpq] at hp
    obtain ⟨a1, a2, a3⟩ := h.hand p s k hp
    have hk := (hg.ev.hand p k (by unfold hndOf; rw [hp]; rfl)).1
    have hiv := (hg.ev.tick k hk).2.1
    rw [evAt_old hk]
    refine ⟨a1, ?_, by rw [← a3]; exact getD_set_neq (Ne.symm hpq)⟩
    match s, a2 with
    | .count seen v, ⟨b1, b2, b3, b4⟩ => exact ⟨b1, by rw [b2]; exact (c1 p).symm, b3, b4⟩
    | .read a s' ky, ⟨b1, b2, b3, b4, b5, b6⟩ =>
     refine ⟨b1, by show cnt (tP3 calls a _) (st.evs ++ [e]) ≤ s'; rw [c3]; exact b2, by show s' ≤ cnt (tP2 calls a) (st.evs ++ [e]); rw [c2]; exact b3, b4, b5, fun j hj hk2 => ?_⟩
     simp only at hj hk2 ⊢
     rcases Nat.lt_or_ge j st.evs.length with h1 | h1
     ·rw [evAt_old h1] at hk2 ⊢; exact b6 j h1 hk2
     ·obtain rfl : j = st.evs.length := by simp at hj; omega
      rw [evAt_last, hno] at hk2; cases hk2
  ·simp only at hj hr ⊢
   rcases Nat.lt_or_ge j st.evs.length with h1 | h1
   ·rw [evAt_old h1] at hr ⊢
    exact taDone_keep (h.done j h1 hr) (fun t _ => c4 t) (fun a iv _ => c3 a iv)
   ·obtain rfl : j = st.evs.length := by simp at hj; omega
    rw [evAt_last]
    unfold taDone
    rcases hkind with ⟨k1, k2⟩ | ⟨k1, k2, k3, k4⟩
    ·rw [if_pos k1, ea, k2]; exact ⟨rfl, ek, est⟩
    ·rw [if_neg (by simpa using k1), if_neg k2, if_neg k3, ea, k4]; exact ⟨rfl, ek, est⟩
 | step q i k s evs0 wd0 hq hN hf =>
  obtain ⟨g1, g2, g3, g4, g5⟩ := ta_pre hn hq hg h hf
  obtain ⟨e0, he0⟩ : ∃ e0, e0 = evAt evs0 k := ⟨_, rfl⟩
  have htn0 : tn calls e0 = q := by rw [he0]; exact hf.tn hN
  have hqn : q < n := by
   have := hthr i (nowN_spec hN).1
   rw [(nowN_spec hN).2.1] at this; omega
  rw [← he0] at g1 g2 g3 g4 g5
  have hmem := hf.mem; have htr := hf.traces; have hnow := hf.now; have hmk := hf.marks h.marks; have hil := hf.ilen h.ilen
  have hqw : q < wd0.mem.ws.length := by rw [hmem, h.wlen]; exact hqn
  have hother : ∀ (e1 : EvD) (x : Option (tallyS n).σ × Nat) (st' : PlayD (tallyS n)), st'.evs = evs0.set k e1 → st'.hands = st.hands.set q x → st'.wd.inv = wd0.inv → (e1.resp = 0 ∨ e1.resp = st.wd.now + 1) → tn calls e1 = q →
    (∀ s1 k1, x = (some s1, k1) → objOf calls (evAt st'.evs k1) = 0 ∧ taHand n calls st' q (evAt st'.evs k1) s1 ∧ st'.wd.inv.getD q 0 = (evAt st'.evs k1).inv) →
    ∀ p s k, st'.hands.getD p (none, 0) = (some s, k) → objOf calls (evAt st'.evs k) = 0 ∧ taHand n calls st' p (evAt st'.evs k) s ∧ st'.wd.inv.getD p 0 = (evAt st'.evs k).inv := by
   intro e1 x st' h1 h2 h3 h4 h5 h6 p s2 k2 hp
   rw [h2, hands_set hg.h16 hq] at hp
   by_cases hpq : p = q
   ·rw [if_pos hpq] at hp; rw [hpq]; exact h6 s2 k2 hp
   ·rw [if_neg hpq] at hp
    obtain ⟨a1, a2, a3⟩ := (ta_frame hg h hf hN h4 h5).1 p s2 k2 hpq hp
    rw [h1]
    exact ⟨a1, a2 st' h1, by rw [h3]; exact a3⟩
  match s, g2 with
  | .count false v0, ⟨k0, s0⟩ =>
   obtain ⟨m1, m2, m3, m4⟩ := memR hqw
   have hstep : (tallyS n).step st.obj wd0 q (.count false v0) = ((), taRead wd0 q, .count true (taGot wd0 q), false) := rfl
   have hto : stepTo st ((tallyS n).step st.obj wd0 q (.count false v0)) q i k evs0 = { wd := taRead wd0 q, obj := (), fin := st.fin, hands := st.hands.set q (some (.count true (taGot wd0 q)), k), evs := evs0.set k (stepEv e0), idle := st.idle } := by rw [hstep, he0]; rfl
   rw [hto]
   have hc : ∀ {P : EvD → Bool}, (∀ e, e.resp = 0 → P e = false) → cnt P (evs0.set k (stepEv e0)) = cnt P st.evs := fun {P} hP => by
    rw [hf.cnt hP, hP (stepEv e0) (by show e0.resp = 0; rw [he0]; exact hf.open_)]; simp
   have hop : (stepEv e0).resp = 0 := by show e0.resp = 0; rw [he0]; exact hf.open_
   refine ⟨by show (taRead wd0 q).mem.ws.length = n; unfold taRead; rw [m1, hmem]; exact h.wlen, fun t ht => ?_, fun t => ?_, ?_, fun x hx => ?_, ?_, fun j hj hr => ?_, hmk, hil, by show (taRead wd0 q).mem.c.fault = 0; unfold taRead; rw [m3, hmem]; exact h.fault, by show (taRead wd0 q).mem.c.all ≤ wd0.now; unfold taRead; rw [m4, hmem, hnow]; have := h.all; omega⟩
   ·show (taRead wd0 q).mem.ws.getD t 0 = cnt _ (evs0.set k (stepEv e0))
    rw [hc tP1_open]; unfold taRead; rw [m1, hmem]; exact h.words t ht
   ·show ((taRead wd0 q).traces 0 |>.filter _).length = cnt _ (evs0.set k (stepEv e0))
    rw [hc tP4_open]; show ((wd0.traces 0).filter _).length = _; rw [htr]; exact h.tr t
   ·show (wd0.traces 0).Pairwise _; rw [htr]; exact h.tinc
   ·have hx' : x ∈ wd0.traces 0 := hx
    rw [htr] at hx'
    have := h.tpos x hx'
    refine ⟨this.1, ?_⟩
    show x ≤ (wd0.now : Int); omega
   ·refine hother (stepEv e0) _ _ rfl rfl rfl (.inl hop) htn0 (fun s1 k1 hx => ?_)
    cases hx
    simp only
    rw [hf.self]
    refine ⟨g1, ⟨rfl, ?_, by show e0.steps + 1 = 1; omega, k0⟩, g3⟩
    show taGot wd0 q = cnt _ (evs0.set k (stepEv e0))
    rw [hc tP1_open]; unfold taGot; rw [m2, hmem]; exact h.words q hqn
   ·by_cases hjk : j = k
    ·simp only at hr; rw [hjk, hf.self] at hr; exact absurd hop hr
    ·exact (ta_frame hg h hf hN (.inl hop) htn0).2 j hj hjk hr
  | .count true v, ⟨hv, k0, s0, hiv⟩ =>
   obtain ⟨m1, m3, m4⟩ := memW (v + 1) hqw
   have hstep : (tallyS n).step st.obj wd0 q (.count true v) = ((), taWrite wd0 q v, .count true v, true) := rfl
   obtain ⟨e1, he1⟩ : ∃ e1, e1 = finishEv (taWrite wd0 q v) q ⟨0, 0, []⟩ [] e0 := ⟨_, rfl⟩
   have hto : stepTo st ((tallyS n).step st.obj wd0 q (.count true v)) q i k evs0 = { wd := taWrite wd0 q v, obj := (), fin := st.fin.set i true, hands := st.hands.set q (none, k), evs := evs0.set k e1, idle := st.idle } := by rw [hstep, he1, he0]; rfl
   rw [hto]
   have r1 : e1.resp = st.wd.now + 1 := by rw [he1]; exact hnow
   have hk1 : isK calls 0 e1 = true := isK_spec.2 ⟨by rw [he1]; exact g1, by rw [he1]; exact k0, by rw [r1]; omega⟩
   have ht1 : tn calls e1 = q := by rw [he1]; exact htn0
   have hc : ∀ {P : EvD → Bool}, (∀ e, e.resp = 0 → P e = false) → cnt P (evs0.set k e1) = cnt P st.evs + (if P e1 then 1 else 0) := fun hP => hf.cnt hP e1
   have hcar : ((wd0.now : Nat) : Int) = (st.wd.now : Int) + 1 := by omega
   refine ⟨by show (taWrite wd0 q v).mem.ws.length = n; unfold taWrite; rw [m1, List.length_set, hmem]; exact h.wlen, fun t ht => ?_, fun t => ?_, ?_, fun x hx => ?_, ?_, fun j hj hr => ?_, hmk, hil, by show (taWrite wd0 q v).mem.c.fault = 0; unfold taWrite; rw [m3, hmem]; exact h.fault, by show (taWrite wd0 q v).mem.c.all ≤ wd0.now; unfold taWrite; rw [m4, hmem, hnow]; have := h.all; omega⟩
   ·show (taWrite wd0 q v).mem.ws.getD t 0 = cnt _ (evs0.set k e1)
    rw [hc tP1_open]
    unfold taWrite
    rw [m1, hmem]
    by_cases htq : t = q
    ·rw [htq, getD_set_eq (by rw [h.wlen]; exact hqn), hv]
     have : tP1 calls q e1 = true := by unfold tP1; rw [hk1, ht1]; simp
     rw [this]; rfl
    ·rw [getD_set_neq (Ne.symm htq), h.words t ht]
     have : tP1 calls t e1 = false := by unfold tP1; rw [ht1]; simp; intro _; exact Ne.symm htq
     rw [this]; simp
   ·show ((updT wd0.traces 0 (wd0.traces 0 ++ [(wd0.now : Int)]) 0).filter _).length = cnt _ (evs0.set k e1)
    rw [hc tP4_open, show updT wd0.traces 0 (wd0.traces 0 ++ [(wd0.now : Int)]) 0 = wd0.traces 0 ++ [(wd0.now : Int)] from if_pos rfl, List.filter_append, List.length_append, htr, h.tr t]
    congr 1
    unfold tP4
    rw [hk1, r1]
    by_cases hle : st.wd.now + 1 ≤ t
    ·rw [List.filter_cons_of_pos (by simp; omega)]; simp [hle]
    ·rw [List.filter_cons_of_neg (by simp; omega)]; simp [hle]
   ·show (updT wd0.traces 0 (wd0.traces 0 ++ [(wd0.now : Int)]) 0).Pairwise _
    rw [show updT wd0.traces 0 (wd0.traces 0 ++ [(wd0.now : Int)]) 0 = wd0.traces 0 ++ [(wd0.now : Int)] from if_pos rfl, htr, List.pairwise_append]
    refine ⟨h.tinc, List.pairwise_singleton _ _, fun x hx y hy => ?_⟩
    rw [List.mem_singleton.1 hy]
    have := h.tpos x hx; omega
   ·have hx' : x ∈ wd0.traces 0 ++ [(wd0.now : Int)] := hx
    rw [htr, List.mem_append, List.mem_singleton] at hx'
    show 1 ≤ x ∧ x ≤ (wd0.now : Int)
    rcases hx' with hx' | hx'
    ·have := h.tpos x hx'; omega
    ·omega
   ·exact hother e1 _ _ rfl rfl rfl (.inr r1) ht1 (fun s1 k1 hx => by cases hx)
   ·by_cases hjk : j = k
    ·simp only
     rw [hjk, hf.self]
     unfold taDone
     rw [if_neg (by rw [he1]; exact not_not_intro g1), if_pos (by rw [he1]; exact k0)]
     refine ⟨by rw [he1]; rfl, ?_, by rw [he1]; show e0.steps + 1 = 2; omega, by rw [r1, he1]; exact hiv⟩
     rw [r1, he1]
     show keyOf (taWrite wd0 q v) q [] = _
     rw [keyOf_plain (by exact hmk)]
     show [2 * (wd0.now : Int)] = _; rw [hnow]
    ·exact (ta_frame hg h hf hN (.inr r1) ht1).2 j hj hjk hr
  | .read a s' ky, ⟨b1, b2, b3, b4, b5, b6⟩ =>
   have haw : a < wd0.mem.ws.length := by rw [hmem, h.wlen]; exact b1
   obtain ⟨m1, m2, m3, m4⟩ := memR haw
   have hgot : taGot wd0 a = cnt (tP1 calls a) st.evs := by unfold taGot; rw [m2, hmem]; exact h.words a b1
   have lo : cnt (tP3 calls (a + 1) e0.inv) st.evs ≤ s' + taGot wd0 a := by have := P3_split (calls := calls) (a := a) (iv := e0.inv) (l := st.evs); omega
   have hi : s' + taGot wd0 a ≤ cnt (tP2 calls (a + 1)) st.evs := by have := P1_split (calls := calls) (a := a) (l := st.evs); omega
   have hfr : (taRead wd0 a).mem.ws = st.wd.mem.ws := by unfold taRead; rw [m1, hmem]
   have hopen : e0.resp = 0 := by rw [he0]; exact hf.open_
   by_cases hla : a + 1 < n
   ·have hstep : (tallyS n).step st.obj wd0 q (.read a s' ky) = ((), taRead wd0 a, .read (a + 1) (s' + taGot wd0 a) ky, false) := if_pos hla
    have hto : stepTo st ((tallyS n).step st.obj wd0 q (.read a s' ky)) q i k evs0 = { wd := taRead wd0 a, obj := (), fin := st.fin, hands := st.hands.set q (some (.read (a + 1) (s' + taGot wd0 a) ky), k), evs := evs0.set k (stepEv e0), idle := st.idle } := by rw [hstep, he0]; rfl
    rw [hto]
    have hop : (stepEv e0).resp = 0 := hopen
    have hc : ∀ {P : EvD → Bool}, (∀ e, e.resp = 0 → P e = false) → cnt P (evs0.set k (stepEv e0)) = cnt P st.evs := fun {P} hP => by
     rw [hf.cnt hP, hP (stepEv e0) hop]; simp
    refine ⟨by show (taRead wd0 a).mem.ws.length = n; rw [hfr]; exact h.wlen, fun t ht => ?_, fun t => ?_, ?_, fun x hx => ?_, ?_, fun j hj hr => ?_, hmk, hil, by show (taRead wd0 a).mem.c.fault = 0; unfold taRead; rw [m3, hmem]; exact h.fault, by show (taRead wd0 a).mem.c.all ≤ wd0.now; unfold taRead; rw [m4, hmem, hnow]; have := h.all; omega⟩
    ·show (taRead wd0 a).mem.ws.getD t 0 = cnt _ (evs0.set k (stepEv e0))
     rw [hc tP1_open, hfr]; exact h.words t ht
    ·show ((wd0.traces 0).filter _).length = cnt _ (evs0.set k (stepEv e0))
     rw [hc tP4_open, htr]; exact h.tr t
    ·show (wd0.traces 0).Pairwise _; rw [htr]; exact h.tinc
    ·have hx' : x ∈ wd0.traces 0 := hx
     rw [htr] at hx'
     have := h.tpos x hx'
     refine ⟨this.1, ?_⟩
     show x ≤ (wd0.now : Int); omega
    ·refine hother (stepEv e0) _ _ rfl rfl rfl (.inl hop) htn0 (fun s1 k1 hx => ?_)
     cases hx
     simp only
     rw [hf.self]
     refine ⟨g1, ⟨hla, ?_, ?_, by show e0.steps + 1 = a + 1; omega, b5, fun j hj hk2 => ?_⟩, g3⟩
     ·show cnt _ (evs0.set k (stepEv e0)) ≤ _
      rw [hc tP3_open]; exact lo
     ·show _ ≤ cnt _ (evs0.set k (stepEv e0))
      rw [hc tP2_open]; exact hi
     ·simp only at hj hk2 ⊢
      by_cases hjk : j = k
      ·rw [hjk, hf.self, isK_open hop] at hk2; cases hk2
      ·obtain ⟨q1, q2⟩ := hf.other (stepEv e0) hj hjk
       rw [q2] at hk2 ⊢; exact b6 j q1 hk2
    ·by_cases hjk : j = k
     ·simp only at hr; rw [hjk, hf.self] at hr; exact absurd hop hr
     ·exact (ta_frame hg h hf hN (.inl hop) htn0).2 j hj hjk hr
   ·have han : a + 1 = n := by omega
    have hstep : (tallyS n).step st.obj wd0 q (.read a s' ky) = ((), taRead wd0 a, .read (a + 1) (s' + taGot wd0 a) (taKey wd0 q (s' + taGot wd0 a)), true) := if_neg hla
    obtain ⟨V, hV⟩ : ∃ V, V = s' + taGot wd0 a := ⟨_, rfl⟩
    rw [← hV] at hstep lo hi
    obtain ⟨e1, he1⟩ : ∃ e1, e1 = finishEv (taRead wd0 a) q ⟨0, V, []⟩ (taKey wd0 q V) e0 := ⟨_, rfl⟩
    have hto : stepTo st ((tallyS n).step st.obj wd0 q (.read a s' ky)) q i k evs0 = { wd := taRead wd0 a, obj := (), fin := st.fin.set i true, hands := st.hands.set q (none, k), evs := evs0.set k e1, idle := st.idle } := by rw [hstep, he1, he0]; rfl
    rw [hto]
    have r1 : e1.resp = st.wd.now + 1 := by rw [he1]; exact hnow
    have hk1 : isK calls 0 e1 = false := by
     cases hb : isK calls 0 e1 with
     | false => rfl
     | true =>
      have := (isK_spec.1 hb).2.1
      have h5 : kindOf calls e1 = 1 := by rw [he1]; exact b5
      omega
    have ht1 : tn calls e1 = q := by rw [he1]; exact htn0
    have hc : ∀ {P : EvD → Bool}, (∀ e, e.resp = 0 → P e = false) → (isK calls 0 e1 = false → P e1 = false) → cnt P (evs0.set k e1) = cnt P st.evs := fun {P} hP hP1 => by
     rw [hf.cnt hP, hP1 hk1]; simp
    have c1 : ∀ t, cnt (tP1 calls t) (evs0.set k e1) = cnt (tP1 calls t) st.evs := fun t => hc tP1_open (fun h => by unfold tP1; rw [h]; rfl)
    have c3 : ∀ a t, cnt (tP3 calls a t) (evs0.set k e1) = cnt (tP3 calls a t) st.evs := fun a t => hc tP3_open (fun h => by unfold tP3; rw [h]; rfl)
    have c4 : ∀ t, cnt (tP4 calls t) (evs0.set k e1) = cnt (tP4 calls t) st.evs := fun t => hc tP4_open (fun h => by unfold tP4; rw [h]; rfl)
    have hlen : (st.wd.traces 0).length = cnt (tP4 calls st.wd.now) st.evs := by
     rw [← h.tr st.wd.now, List.filter_eq_self.2]
     intro x hx; have := (h.tpos x hx).2; simpa using this
    have h2n : cnt (tP2 calls n) st.evs = cnt (tP4 calls st.wd.now) st.evs := by
     refine cnt_congr fun j hj => ?_
     unfold tP2 tP4
     have h1 := hthr _ (hg.ev.call j hj)
     have h2 := (hg.ev.tick j hj).2.2.2
     have h3 : tn calls (evAt st.evs j) < n := by unfold tn; omega
     simp [h3, h2]
    have h3n : cnt (tP3 calls n e0.inv) st.evs = cnt (tP4 calls e0.inv) st.evs := by
     refine cnt_congr fun j hj => ?_
     unfold tP3 tP4
     have h1 := hthr _ (hg.ev.call j hj)
     have h3 : tn calls (evAt st.evs j) < n := by unfold tn; omega
     cases hb : isK calls 0 (evAt st.evs j) with
     | false => simp
     | true =>
      have h4 := b6 j hj hb
      simp only [Bool.true_and, h3, decide_true]
      exact decide_eq_decide.2 (by omega)
    rw [han] at lo hi
    obtain ⟨wn, w1, w2, w3, w4⟩ := when_spec h.tinc (iv := e0.inv) (s := V) (now := st.wd.now + 1) (fun x hx => by have := h.tpos x hx; omega) (fun x hx he => by
     have h5 := h.tr e0.inv
     have h6 : ∃ x ∈ st.wd.traces 0, x = (e0.inv : Int) := ⟨x, hx, he⟩
     obtain ⟨j, hj, hje⟩ := List.mem_iff_getElem.1 hx
     have hr := rise_count h.tinc j hj
     rw [List.getD_eq_getElem?_getD, List.getElem?_eq_getElem hj, Option.getD_some, hje, he, h5, ← h3n] at hr
     have h7 : cnt (tP3 calls n e0.inv) st.evs ≤ cnt (tP4 calls (e0.inv - 1)) st.evs := cnt_mono fun j hj hp => by
      unfold tP3 at hp; unfold tP4
      simp only [Bool.and_eq_true, decide_eq_true_eq] at hp ⊢
      exact ⟨hp.1.1, by omega⟩
     rw [← h.tr] at h7
     have h8 : ((st.wd.traces 0).filter fun x => decide (x ≤ ((e0.inv - 1 : Nat) : Int))).length ≤ j := by
      have h9 : (st.wd.traces 0).filter (fun x => decide (x ≤ ((e0.inv - 1 : Nat) : Int))) = ((st.wd.traces 0).take j).filter (fun x => decide (x ≤ ((e0.inv - 1 : Nat) : Int))) := by
       conv => lhs; rw [← List.take_append_drop j (st.wd.traces 0)]
       rw [List.filter_append, (List.filter_eq_nil_iff (l := (st.wd.traces 0).drop j)).2, List.append_nil]
       intro y hy
       obtain ⟨m, hm, hme⟩ := List.mem_iff_getElem.1 hy
       rw [List.getElem_drop] at hme
       have hlt : j + m < (st.wd.traces 0).length := by simp at hm; omega
       have hge : (st.wd.traces 0)[j] ≤ (st.wd.traces 0)[j + m] := by
        rcases Nat.eq_zero_or_pos m with h0 | h0
        ·subst h0; simp
        ·exact Int.le_of_lt (List.pairwise_iff_getElem.1 h.tinc j (j + m) hj hlt (by omega))
       simp
       omega
      rw [h9]
      exact Nat.le_trans (List.length_filter_le _ _) (by simp; omega)
     omega) (by omega) (by rw [h.tr, ← h3n]; exact lo) (by rw [hlen, ← h2n]; exact hi)
    have hkey : taKey wd0 q V = [2 * (wn : Int), 2 * (e1.resp : Int)] := by
     unfold taKey
     rw [htr, g3, w1, hnow, r1]
    refine ⟨by show (taRead wd0 a).mem.ws.length = n; rw [hfr]; exact h.wlen, fun t ht => ?_, fun t => ?_, ?_, fun x hx => ?_, ?_, fun j hj hr => ?_, hmk, hil, by show (taRead wd0 a).mem.c.fault = 0; unfold taRead; rw [m3, hmem]; exact h.fault, by show (taRead wd0 a).mem.c.all ≤ wd0.now; unfold taRead; rw [m4, hmem, hnow]; have := h.all; omega⟩
    ·show (taRead wd0 a).mem.ws.getD t 0 = cnt _ (evs0.set k e1)
     rw [c1, hfr]; exact h.words t ht
    ·show ((wd0.traces 0).filter _).length = cnt _ (evs0.set k e1)
     rw [c4, htr]; exact h.tr t
    ·show (wd0.traces 0).Pairwise _; rw [htr]; exact h.tinc
    ·have hx' : x ∈ wd0.traces 0 := hx
     rw [htr] at hx'
     have := h.tpos x hx'
     refine ⟨this.1, ?_⟩
     show x ≤ (wd0.now : Int); omega
    ·exact hother e1 _ _ rfl rfl rfl (.inr r1) ht1 (fun s1 k1 hx => by cases hx)
    ·by_cases hjk : j = k
     ·simp only
      rw [hjk, hf.self]
      unfold taDone
      have hinv : e1.inv = e0.inv := by rw [he1]; rfl
      rw [if_neg (by rw [he1]; exact not_not_intro g1), if_neg (by rw [he1]; show ¬ kindOf calls e0 = 0; omega), if_pos (by rw [he1]; exact b5)]
      refine ⟨wn, V, by rw [he1]; rfl, ?_, by rw [hinv]; exact w2, by rw [r1]; exact w3, ?_, ?_, ?_, by rw [he1]; show e0.steps + 1 = n; omega⟩
      ·rw [← hkey, he1]
       show keyOf (taRead wd0 a) q (taKey wd0 q V) = taKey wd0 q V
       unfold keyOf; rw [if_neg (by unfold taKey; simp)]
      ·rw [c4, ← h.tr]; exact w4
      ·rw [c3, hinv]; exact lo
      ·rw [c4, r1]
       have : cnt (tP4 calls st.wd.now) st.evs ≤ cnt (tP4 calls (st.wd.now + 1)) st.evs := cnt_mono fun j _ hp => by
        unfold tP4 at hp ⊢
        simp only [Bool.and_eq_true, decide_eq_true_eq] at hp ⊢
        exact ⟨hp.1, by omega⟩
       omega
     ·exact (ta_frame hg h hf hN (.inr r1) ht1).2 j hj hjk hr
theorem ta_play0 {n : Nat} (calls : List CallD) : TaInv n calls (play0 (tallyS n) () (List.replicate n 0) calls) where
 wlen := by simp [play0, wd0]
 words := fun t ht => by show (List.replicate n 0).getD t 0 = 0; exact getD_rep'
 tr := fun t => rfl
 tinc := List.Pairwise.nil
 tpos := fun x hx => by cases hx
 hand := fun p s k hp => by rw [show (play0 (tallyS n) () (List.replicate n 0) calls).hands.getD p (none, 0) = (none, 0) from getD_rep'] at hp; cases hp
 done := fun i hi => by simp [play0] at hi
 marks := rfl
 ilen := by simp [play0, wd0]
 fault := rfl
 all := Nat.le_refl _
theorem n_ok {n : Int} {calls : List CallD} {np : Nat} (hck : checkN n calls np = 0) : 1 ≤ n ∧ n ≤ 16 := by
 obtain ⟨hw0, _⟩ := checkN_zero hck
 obtain ⟨z1, z2, z3, z4⟩ := wrongN_zero hw0
 omega
theorem np_ok {n : Int} {calls : List CallD} {np : Nat} (hck : checkN n calls np = 0) : np ≤ 65536 := by
 obtain ⟨_, h⟩ := checkN_zero hck
 omega
theorem tally_now {n : Nat} (hn : n ≤ 16) : ∀ (o : (tallyS n).ω) (wd : WD) (p : Nat) (s : (tallyS n).σ), ((tallyS n).step o wd p s).2.1.now = wd.now := (tally_ok n hn).now
theorem ta_picks {n : Nat} {calls : List CallD} {np : Nat} (hck : checkN n calls np = 0) (l : List Int) : StGood calls (picksD (tallyS n) calls (play0 (tallyS n) () (List.replicate n 0) calls) l) ∧ TaInv n calls (picksD (tallyS n) calls (play0 (tallyS n) () (List.replicate n 0) calls) l) ∧
  (picksD (tallyS n) calls (play0 (tallyS n) () (List.replicate n 0) calls) l).wd.now ≤ l.length := by
 obtain ⟨h1, h2⟩ := n_ok hck
 have hthr : ∀ c, c < calls.length → 0 ≤ (calls.getD c d0).thread ∧ (calls.getD c d0).thread < n := fun c hc => by have := thr_ok hck c hc; omega
 have hnow := tally_now (n := n) (by omega)
 obtain ⟨a, b⟩ := picks_ind (S := tallyS n) hnow (thr_16 hck) (J := TaInv n calls) (fun st st' hg _ hj ht => ta_turn (by omega) hthr hg hj ht) l (play0_good (S := tallyS n) calls () (List.replicate n 0)) (ta_play0 calls)
 refine ⟨a, b, ?_⟩
 have htk := picks_ticks hnow (play0 (tallyS n) () (List.replicate n 0) calls) l (calls := calls)
 rw [show (play0 (tallyS n) () (List.replicate n 0) calls).wd.now = 0 from rfl, show (play0 (tallyS n) () (List.replicate n 0) calls).idle = 0 from rfl] at htk
 omega
theorem ta_live {n : Nat} {calls : List CallD} {st : PlayD (tallyS n)} {q i k : Nat} {s : TaS} {evs0 : List EvD} {wd0 : WD} (hn : 1 ≤ n) (hq : q < 16) (hg : StGood calls st) (h : TaInv n calls st) (hnow : st.wd.now < 100000) (hf : From calls st q i k s evs0 wd0) : taLive n wd0 q s := by
 obtain ⟨_, g2, g3, g4, g5⟩ := ta_pre hn hq hg h hf
 have hlen := hg.ev.len_le
 have hT : (wd0.traces 0).length < 1000000 := by
  have h1 : ((st.wd.traces 0).filter fun x => decide (x ≤ (st.wd.now : Int))).length = (st.wd.traces 0).length := by
   rw [List.filter_eq_self.2]
   intro x hx; have := (h.tpos x hx).2; simpa using this
  have h2 := h.tr st.wd.now
  have h3 := cnt_le (tP4 calls st.wd.now) st.evs
  rw [hf.traces]; omega
 match s, g2 with
 | .count false v, _ => trivial
 | .count true v, ⟨b1, _⟩ =>
  have h3 := cnt_le (tP1 calls q) st.evs
  exact ⟨by omega, hT⟩
 | .read a s' ky, ⟨b1, b2, b3, b4, b5, b6⟩ =>
  have h3 := cnt_le (tP2 calls a) st.evs
  have h4 := cnt_le (tP1 calls a) st.evs
  have hgot : taGot wd0 a = cnt (tP1 calls a) st.evs := by
   unfold taGot
   rw [hf.mem, (memR (by rw [h.wlen]; exact b1)).2.1]; exact h.words a b1
  exact ⟨b1, by omega, by omega, hT, fun t ht => by rw [hf.traces] at ht; have := h.tpos t ht; omega, by rw [g3]; omega⟩
theorem tally_safe (n : Nat) (calls : List CallD) (picks : List Int) (hck : checkN n calls picks.length = 0) : ∀ l p m, picks = l ++ p :: m → SafeAt (tallyR n) calls (picksD (tallyS n) calls (play0 (tallyS n) () (List.replicate n 0) calls) l) p := by
 intro l p m hl i hN
 obtain ⟨a, b, c⟩ := ta_picks hck l
 have hnp := np_ok hck
 have hll : l.length < picks.length := by rw [hl]; simp
 obtain ⟨h1, _⟩ := n_ok hck
 obtain ⟨n1, n2, n3⟩ := nowN_spec hN
 have ht := thr_16 hck i n1
 obtain ⟨q, rfl⟩ : ∃ q : Nat, p = (q : Int) := ⟨p.toNat, by omega⟩
 have hq : q < 16 := by omega
 simp only [Int.toNat_natCast]
 refine ⟨fun s k hh => ?_, fun hh s hs => ?_⟩
 ·obtain ⟨k1, k2, k3, k4⟩ := a.ev.hand q k (by unfold hndOf; rw [hh]; rfl)
  have hc : (evAt (picksD (tallyS n) calls (play0 (tallyS n) () (List.replicate n 0) calls) l).evs k).call = i := by rw [hN] at k4; exact (Option.some.inj k4).symm
  exact ta_live (by omega) hq a b (by omega) (.old k s hh k1 hc k3)
 ·exact ta_live (by omega) hq a b (by omega) (.new s hh hs)
end Go.Proofs.YteffgpcjfnjlkaaGreat
