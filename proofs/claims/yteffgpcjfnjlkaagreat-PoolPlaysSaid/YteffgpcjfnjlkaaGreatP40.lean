/- Layer 13: the pool, a turn further. -/
import Derived.Test.YteffgpcjfnjlkaaGreatP37
import Derived.Test.YteffgpcjfnjlkaaGreatP22
import Derived.Test.YteffgpcjfnjlkaaGreatP39
set_option maxRecDepth 100000
set_option linter.unusedVariables false
set_option linter.unusedSimpArgs false
set_option linter.unnecessarySimpa false
namespace Go.Proofs.YteffgpcjfnjlkaaGreat
section
open Go.RowKit
theorem pIs_kind {calls : List CallD} {e : EvD} : ¬ (pIs calls 0 e = true ∧ pIs calls 1 e = true) := fun ⟨h, g⟩ => by
 have h1 := (isK_spec.1 (pIs_spec.1 h).1).2.1
 have h2 := (isK_spec.1 (pIs_spec.1 g).1).2.1
 omega
theorem pIs_not1 {calls : List CallD} {e : EvD} (h : pIs calls 0 e = true) : pIs calls 1 e = false := by
 cases g : pIs calls 1 e with
 | false => rfl
 | true => exact absurd ⟨h, g⟩ pIs_kind
theorem pIs_not0 {calls : List CallD} {e : EvD} (h : pIs calls 1 e = true) : pIs calls 0 e = false := by
 cases g : pIs calls 0 e with
 | false => rfl
 | true => exact absurd ⟨g, h⟩ pIs_kind
theorem memSw {m : MemD} {a x y : Nat} (h : a < m.ws.length) : (memSwap m (a : Int) x y) = if m.ws.getD a 0 = x then ({ ws := m.ws.set a y, c := { m.c with swap := m.c.swap + 1 } }, true) else ({ m with c := { m.c with swap := m.c.swap + 1 } }, false) := by
 have ho : memOut m (a : Int) = false := by unfold memOut; simp; omega
 unfold memSwap
 rw [if_neg (by rw [ho]; simp)]
 simp
theorem pR_late {calls : List CallD} {S : Sys} {st : PlayD S} (hg : StGood calls st) (lo hi : Nat) {t : Nat} (ht : st.wd.now + 1 ≤ t) : cnt (pRT calls lo hi t) st.evs = cnt (pRT calls lo hi (st.wd.now + 1)) st.evs ∧ cnt (pRG calls lo hi t) st.evs = cnt (pRG calls lo hi (st.wd.now + 1)) st.evs := by
 refine ⟨cnt_congr fun i hi => ?_, cnt_congr fun i hi => ?_⟩
 ·have := (hg.ev.tick i hi).2.2.2
  unfold pRT
  rw [decide_eq_true (show (evAt st.evs i).resp < t by omega), decide_eq_true (show (evAt st.evs i).resp < st.wd.now + 1 by omega)]
 ·have := (hg.ev.tick i hi).2.2.2
  unfold pRG
  rw [decide_eq_true (show (evAt st.evs i).resp < t by omega), decide_eq_true (show (evAt st.evs i).resp < st.wd.now + 1 by omega)]
theorem pRT_at {calls : List CallD} {a t : Nat} {e : EvD} (h : pIs calls 0 e = true) (hv : e.ans.val % 1024 = a + 2) {b : Nat} : pRT calls b (b + 1) t e = (decide (b = a) && decide (e.resp < t)) := by
 unfold pRT
 rw [h, Bool.true_and]
 congr 1
 exact decide_eq_decide.2 (by omega)
theorem pRG_at {calls : List CallD} {a t : Nat} {e : EvD} (h : pIs calls 1 e = true) (hv : argOf calls e % 1024 = a + 2) {b : Nat} : pRG calls b (b + 1) t e = (decide (b = a) && decide (e.resp < t)) := by
 unfold pRG
 rw [h, Bool.true_and]
 congr 1
 exact decide_eq_decide.2 (by omega)
section
variable {n k : Nat} {calls : List CallD} {S : Sys} {st : PlayD S} {q j : Nat} {evs' : List EvD} {e1 : EvD} {ws : List Nat}
theorem took_ws {ws' : List Nat} {e : EvD} {a v : Nat} {evs : List EvD} (h : poTook k calls ws evs e a v) (h1 : 2 * v ≤ ws'.getD a 0) (h2 : ws.getD a 0 = 2 * v + 1 → ws'.getD a 0 = 2 * v + 1 ∨ ∃ j, j < evs.length ∧ pIs calls 1 (evAt evs j) = true ∧ argOf calls (evAt evs j) = e.ans.val) : poTook k calls ws' evs e a v := by
 obtain ⟨g1, g2, g3, g4, g5, g6⟩ := h
 exact ⟨g1, g2, g3, g4, h1, g6.elim h2 .inr⟩
theorem po_w_take (hk : n * k ≤ 512) (hg : StGood calls st) (h : PoW n k calls st.wd.now ws st.evs) (hx : Next calls st q evs' j e1) (h0 : pIs calls 0 e1 = true) (hr : e1.resp = st.wd.now + 1) {a m : Nat} (ha : a < n * k) (hlo : tn calls e1 * k ≤ a) (hhi : a < tn calls e1 * k + k) (hm : ws.getD a 0 = m) (hev : m % 2 = 0) (hv : e1.ans.val = poRef a (m / 2 + 1)) :
  PoW n k calls (st.wd.now + 1) (ws.set a (m + 3)) evs' := by
 have h1 := pIs_not1 h0
 have hself : (ws.set a (m + 3)).getD a 0 = m + 3 := getD_set_eq (by rw [h.wlen]; exact ha)
 have hoth : ∀ b, b ≠ a → (ws.set a (m + 3)).getD b 0 = ws.getD b 0 := fun b hb => getD_set_neq (Ne.symm hb)
 have htop := h.top a ha
 have hmod : e1.ans.val % 1024 = a + 2 := by rw [hv]; exact poRef_mod (by omega)
 have old1 : ∀ i, i < evs'.length → pIs calls 1 (evAt evs' i) = true → i < st.evs.length ∧ evAt evs' i = evAt st.evs i := fun i hi hp => hx.other i hi (by rintro rfl; rw [hx.self, h1] at hp; cases hp)
 have keepm : ∀ {e : EvD}, (∃ i, i < st.evs.length ∧ pIs calls 1 (evAt st.evs i) = true ∧ argOf calls (evAt st.evs i) = e.ans.val) → ∃ i, i < evs'.length ∧ pIs calls 1 (evAt evs' i) = true ∧ argOf calls (evAt evs' i) = e.ans.val ∧ (evAt evs' i).resp < st.wd.now + 1 := by
  rintro e ⟨i, m1, m2, m3⟩
  obtain ⟨_, n2, n3⟩ := hx.kept m1 (pIs_resp m2)
  have := (hg.ev.tick i m1).2.2.2
  exact ⟨i, n2, by rw [n3]; exact m2, by rw [n3]; exact m3, by rw [n3]; omega⟩
 have older : ∀ i, i < st.evs.length → pIs calls 0 (evAt st.evs i) = true → (evAt st.evs i).ans.val % 1024 = a + 2 → (evAt st.evs i).ans.val ≠ e1.ans.val ∧ ∃ l, l < evs'.length ∧ pIs calls 1 (evAt evs' l) = true ∧ argOf calls (evAt evs' l) = (evAt st.evs i).ans.val ∧ (evAt evs' l).resp < st.wd.now + 1 := by
  intro i hi hp hmd
  obtain ⟨a0, v0, p1, p2, p3, p4, p5, p6, p7⟩ := h.takes i hi hp
  have : a0 = a := by rw [p5, poRef_mod (by omega)] at hmd; omega
  subst this
  refine ⟨?_, keepm (p7.resolve_left (by omega))⟩
  rw [p5, hv]
  intro he
  have := (poRef_inj (by omega) (by omega) he).2
  omega
 refine ⟨by rw [List.length_set]; exact h.wlen, fun b hb => ?_, fun i hi hp => ?_, fun i hi hp => ?_, fun b hb ho => ?_, fun i l hi hl hil hp1 hp2 hmd => ?_, fun i l hi hl hil hp1 hp2 => ?_, fun b t hb => ?_, fun b hb => ?_⟩
 ·by_cases hba : b = a
  ·subst hba; rw [hself]; omega
  ·rw [hoth b hba]; have := h.top b hb; omega
 ·by_cases hij : i = j
  ·subst hij
   rw [hx.self]
   exact ⟨a, m / 2 + 1, ha, hlo, hhi, by omega, hv, by rw [hself]; omega, .inl (by rw [hself]; omega)⟩
  ·obtain ⟨o1, o2⟩ := hx.other i hi hij
   rw [o2] at hp ⊢
   obtain ⟨a0, v0, g1, g2⟩ := h.takes i o1 hp
   refine ⟨a0, v0, g1, took_ws (took_keep hx g2) ?_ (fun hodd => ?_)⟩
   ·have g5 := g2.2.2.2.2.1
    by_cases hba : a0 = a
    ·subst hba; rw [hself]; omega
    ·rw [hoth a0 hba]; exact g5
   ·by_cases hba : a0 = a
    ·subst hba; omega
    ·rw [hoth a0 hba]; exact .inl hodd
 ·obtain ⟨o1, o2⟩ := old1 i hi hp
  rw [o2] at hp ⊢
  obtain ⟨a0, v0, g1, g2⟩ := h.gives i o1 hp
  obtain ⟨g3, g4, g5, g6⟩ := gave_keep hx g2
  refine ⟨a0, v0, g1, g3, ?_, ?_, g6⟩
  ·by_cases hba : a0 = a
   ·subst hba; rw [hself]; omega
   ·rw [hoth a0 hba]; exact g4
  ·by_cases hba : a0 = a
   ·subst hba; rw [hself]; omega
   ·rw [hoth a0 hba]; exact g5
 ·by_cases hba : b = a
  ·subst hba
   refine ⟨j, hx.lt, by rw [hx.self]; exact h0, ?_⟩
   rw [hx.self, hv, hself]; congr 1; omega
  ·rw [hoth b hba] at ho ⊢
   obtain ⟨l, m1, m2, m3⟩ := h.odd b hb ho
   obtain ⟨_, n2, n3⟩ := hx.kept m1 (pIs_resp m2)
   exact ⟨l, n2, by rw [n3]; exact m2, by rw [n3]; exact m3⟩
 ·by_cases hij : i = j
  ·subst hij
   obtain ⟨o1, o2⟩ := hx.other l hl (Ne.symm hil)
   rw [hx.self] at hp1 hmd ⊢
   rw [o2] at hp2 hmd ⊢
   obtain ⟨t1, t2⟩ := older l o1 hp2 (by omega)
   refine ⟨t1, .inr ?_⟩
   rw [hr]; exact t2
  ·obtain ⟨o1, o2⟩ := hx.other i hi hij
   by_cases hlj : l = j
   ·subst hlj
    rw [hx.self] at hp2 hmd ⊢
    rw [o2] at hp1 hmd ⊢
    obtain ⟨t1, t2⟩ := older i o1 hp1 (by omega)
    have := (hg.ev.tick i o1).2.2.2
    exact ⟨Ne.symm t1, .inl (by omega)⟩
   ·obtain ⟨o3, o4⟩ := hx.other l hl hlj
    rw [o2] at hp1 hmd ⊢
    rw [o4] at hp2 hmd ⊢
    obtain ⟨t1, t2⟩ := h.tt i l o1 o3 hil hp1 hp2 hmd
    refine ⟨t1, ?_⟩
    rcases t2 with t2 | ⟨x, m1, m2, m3, m4⟩
    ·exact .inl t2
    ·obtain ⟨_, n2, n3⟩ := hx.kept m1 (pIs_resp m2)
     exact .inr ⟨x, n2, by rw [n3]; exact m2, by rw [n3]; exact m3, by rw [n3]; exact m4⟩
 ·obtain ⟨o1, o2⟩ := old1 i hi hp1
  obtain ⟨o3, o4⟩ := old1 l hl hp2
  rw [o2] at hp1 ⊢
  rw [o4] at hp2 ⊢
  exact h.gg i l o1 o3 hil hp1 hp2
 ·have hG : cnt (pRG calls b (b + 1) t) evs' = cnt (pRG calls b (b + 1) t) st.evs := hx.cnt0 pRG_open (by unfold pRG; rw [h1]; rfl)
  rw [hG, hx.cnt pRT_open, pRT_at h0 hmod]
  have hc := h.cT b t hb
  by_cases hba : b = a
  ·subst hba
   by_cases ht : e1.resp < t
   ·have hn := h.cN b hb
    obtain ⟨l1, l2⟩ := pR_late hg b (b + 1) (t := t) (by omega)
    simp only [ht, decide_true, Bool.and_self, if_true]
    omega
   ·simp only [ht, decide_true, decide_false, Bool.and_false, Bool.false_eq_true, if_false]; omega
  ·simp only [hba, decide_false, Bool.false_and, Bool.false_eq_true, if_false]; omega
 ·have hG : cnt (pRG calls b (b + 1) (st.wd.now + 1 + 1)) evs' = cnt (pRG calls b (b + 1) (st.wd.now + 1 + 1)) st.evs := hx.cnt0 pRG_open (by unfold pRG; rw [h1]; rfl)
  rw [hG, hx.cnt pRT_open, pRT_at h0 hmod]
  have hn := h.cN b hb
  obtain ⟨l1, l2⟩ := pR_late hg b (b + 1) (t := st.wd.now + 1 + 1) (by omega)
  have ht : e1.resp < st.wd.now + 1 + 1 := by omega
  by_cases hba : b = a
  ·subst hba
   rw [hself]
   simp only [ht, decide_true, Bool.and_self, if_true]
   omega
  ·rw [hoth b hba]
   simp only [hba, decide_false, Bool.false_and, Bool.false_eq_true, if_false]; omega
theorem po_w_give (hk : n * k ≤ 512) (hg : StGood calls st) (h : PoW n k calls st.wd.now ws st.evs) (hx : Next calls st q evs' j e1) (h1 : pIs calls 1 e1 = true) (hr : e1.resp = st.wd.now + 1) {a v : Nat} (ha : a < n * k) (hA : argOf calls e1 = poRef a v) (hm : ws.getD a 0 = 2 * v + 1) :
  PoW n k calls (st.wd.now + 1) (ws.set a (2 * v)) evs' := by
 have h0 := pIs_not0 h1
 have hself : (ws.set a (2 * v)).getD a 0 = 2 * v := getD_set_eq (by rw [h.wlen]; exact ha)
 have hoth : ∀ b, b ≠ a → (ws.set a (2 * v)).getD b 0 = ws.getD b 0 := fun b hb => getD_set_neq (Ne.symm hb)
 have htop := h.top a ha
 have hmod : argOf calls e1 % 1024 = a + 2 := by rw [hA]; exact poRef_mod (by omega)
 have old0 : ∀ i, i < evs'.length → pIs calls 0 (evAt evs' i) = true → i < st.evs.length ∧ evAt evs' i = evAt st.evs i := fun i hi hp => hx.other i hi (by rintro rfl; rw [hx.self, h0] at hp; cases hp)
 have fresh : ∀ i, i < st.evs.length → pIs calls 1 (evAt st.evs i) = true → argOf calls (evAt st.evs i) ≠ argOf calls e1 := by
  intro i hi hp he
  obtain ⟨a0, v0, p1, p2, p3, p4, _⟩ := h.gives i hi hp
  rw [p2, hA] at he
  obtain ⟨rfl, rfl⟩ := poRef_inj (by omega) (by omega) he
  exact p4 hm
 refine ⟨by rw [List.length_set]; exact h.wlen, fun b hb => ?_, fun i hi hp => ?_, fun i hi hp => ?_, fun b hb ho => ?_, fun i l hi hl hil hp1 hp2 hmd => ?_, fun i l hi hl hil hp1 hp2 => ?_, fun b t hb => ?_, fun b hb => ?_⟩
 ·by_cases hba : b = a
  ·subst hba; rw [hself]; omega
  ·rw [hoth b hba]; have := h.top b hb; omega
 ·obtain ⟨o1, o2⟩ := old0 i hi hp
  rw [o2] at hp ⊢
  obtain ⟨a0, v0, g1, g2⟩ := h.takes i o1 hp
  have g4 := g2.2.2.2.1
  have g5 := g2.2.2.2.2.1
  refine ⟨a0, v0, g1, took_ws (took_keep hx g2) ?_ (fun hodd => ?_)⟩
  ·by_cases hba : a0 = a
   ·subst hba; rw [hself]; omega
   ·rw [hoth a0 hba]; exact g5
  ·by_cases hba : a0 = a
   ·subst hba
    have : v0 = v := by omega
    subst this
    exact .inr ⟨j, hx.lt, by rw [hx.self]; exact h1, by rw [hx.self, hA, g4]⟩
   ·rw [hoth a0 hba]; exact .inl hodd
 ·by_cases hij : i = j
  ·subst hij
   rw [hx.self]
   obtain ⟨l, m1, m2, m3⟩ := h.odd a ha (by omega)
   obtain ⟨_, n2, n3⟩ := hx.kept m1 (pIs_resp m2)
   have := (hg.ev.tick l m1).2.2.2
   refine ⟨a, v, ha, hA, by rw [hself]; exact Nat.le_refl _, by rw [hself]; omega, l, n2, by rw [n3]; exact m2, by rw [n3]; omega, ?_⟩
   rw [n3, m3, hA]; congr 1; omega
  ·obtain ⟨o1, o2⟩ := hx.other i hi hij
   rw [o2] at hp ⊢
   obtain ⟨a0, v0, g1, g2⟩ := h.gives i o1 hp
   obtain ⟨g3, g4, g5, g6⟩ := gave_keep hx g2
   refine ⟨a0, v0, g1, g3, ?_, ?_, g6⟩
   ·by_cases hba : a0 = a
    ·subst hba; rw [hself]; omega
    ·rw [hoth a0 hba]; exact g4
   ·by_cases hba : a0 = a
    ·subst hba; rw [hself]; omega
    ·rw [hoth a0 hba]; exact g5
 ·by_cases hba : b = a
  ·subst hba; rw [hself] at ho; omega
  ·rw [hoth b hba] at ho ⊢
   obtain ⟨l, m1, m2, m3⟩ := h.odd b hb ho
   obtain ⟨_, n2, n3⟩ := hx.kept m1 (pIs_resp m2)
   exact ⟨l, n2, by rw [n3]; exact m2, by rw [n3]; exact m3⟩
 ·obtain ⟨o1, o2⟩ := old0 i hi hp1
  obtain ⟨o3, o4⟩ := old0 l hl hp2
  rw [o2] at hp1 hmd ⊢
  rw [o4] at hp2 hmd ⊢
  obtain ⟨t1, t2⟩ := h.tt i l o1 o3 hil hp1 hp2 hmd
  refine ⟨t1, ?_⟩
  rcases t2 with t2 | ⟨x, m1, m2, m3, m4⟩
  ·exact .inl t2
  ·obtain ⟨_, n2, n3⟩ := hx.kept m1 (pIs_resp m2)
   exact .inr ⟨x, n2, by rw [n3]; exact m2, by rw [n3]; exact m3, by rw [n3]; exact m4⟩
 ·by_cases hij : i = j
  ·subst hij
   obtain ⟨o1, o2⟩ := hx.other l hl (Ne.symm hil)
   rw [hx.self]
   rw [o2] at hp2 ⊢
   exact fresh l o1 hp2
  ·obtain ⟨o1, o2⟩ := hx.other i hi hij
   by_cases hlj : l = j
   ·subst hlj
    rw [hx.self]
    rw [o2] at hp1 ⊢
    exact Ne.symm (fresh i o1 hp1)
   ·obtain ⟨o3, o4⟩ := hx.other l hl hlj
    rw [o2] at hp1 ⊢
    rw [o4] at hp2 ⊢
    exact h.gg i l o1 o3 hil hp1 hp2
 ·have hT : cnt (pRT calls b (b + 1) t) evs' = cnt (pRT calls b (b + 1) t) st.evs := hx.cnt0 pRT_open (by unfold pRT; rw [h0]; rfl)
  rw [hT, hx.cnt pRG_open]
  have hc := h.cT b t hb
  omega
 ·have hT : cnt (pRT calls b (b + 1) (st.wd.now + 1 + 1)) evs' = cnt (pRT calls b (b + 1) (st.wd.now + 1 + 1)) st.evs := hx.cnt0 pRT_open (by unfold pRT; rw [h0]; rfl)
  rw [hT, hx.cnt pRG_open, pRG_at h1 hmod]
  have hn := h.cN b hb
  obtain ⟨l1, l2⟩ := pR_late hg b (b + 1) (t := st.wd.now + 1 + 1) (by omega)
  have ht : e1.resp < st.wd.now + 1 + 1 := by omega
  by_cases hba : b = a
  ·subst hba
   rw [hself]
   simp only [ht, decide_true, Bool.and_self, if_true]
   omega
  ·rw [hoth b hba]
   simp only [hba, decide_false, Bool.false_and, Bool.false_eq_true, if_false]; omega
theorem po_full (hk : n * k ≤ 512) (h : PoW n k calls st.wd.now ws st.evs) {a p iv : Nat} (ha : a < n * k) (hlo : p * k ≤ a) (hhi : a < p * k + k) (hiv : iv ≤ st.wd.now + 1) (hb : ∀ i, i < st.evs.length → tn calls (evAt st.evs i) = p → (evAt st.evs i).resp ≠ 0 → (evAt st.evs i).resp < iv) (hodd : ¬ ws.getD a 0 % 2 = 0)
  (hc : cnt (pRT calls (p * k) a iv) st.evs = cnt (pRG calls (p * k) a iv) st.evs + (a - p * k)) : cnt (pRT calls (p * k) (a + 1) iv) st.evs = cnt (pRG calls (p * k) (a + 1) iv) st.evs + (a + 1 - p * k) := by
 rw [pRT_split hlo, pRG_split hlo]
 have h1 := h.cN a ha
 have h2 := h.cT a iv ha
 have h3 : cnt (pRG calls a (a + 1) iv) st.evs ≤ cnt (pRG calls a (a + 1) (st.wd.now + 1)) st.evs := pRG_mono hiv
 have h4 : cnt (pRT calls a (a + 1) iv) st.evs = cnt (pRT calls a (a + 1) (st.wd.now + 1)) st.evs := by
  refine Nat.le_antisymm (pRT_mono hiv) (cnt_mono fun i hi hp => ?_)
  unfold pRT at hp ⊢
  simp only [Bool.and_eq_true, decide_eq_true_eq] at hp ⊢
  refine ⟨hp.1, ?_⟩
  obtain ⟨a0, v0, p1, p2, p3, p4, p5, _⟩ := h.takes i hi hp.1.1
  have : a0 = a := by have h9 := hp.1.2; rw [p5, poRef_mod (by omega)] at h9; omega
  subst this
  refine hb i hi ?_ (pIs_resp hp.1.1)
  by_cases htp : tn calls (evAt st.evs i) = p
  ·exact htp
  ·exact absurd rfl (rng_apart htp p2 p3 hlo hhi)
 omega
end
end
section

/- What Between asks of a report, in plain numbers. -/
open Go.RowKit
def bD (calls : List CallD) (iv : Nat) (y : EvD) : Bool := decide (y.ans.err = 0) && decide ((calls.getD y.call d0).obj = 0) && decide ((calls.getD y.call d0).kind = 0) && decide (y.resp ≠ 0) && decide (y.resp < iv)
def bB (calls : List CallD) (rs : Nat) (y : EvD) : Bool := decide (y.ans.err = 0) && decide ((calls.getD y.call d0).obj = 0) && decide ((calls.getD y.call d0).kind = 0) && decide (y.inv < rs)
structure BetGood (calls : List CallD) (evs : List EvD) : Prop where
 call : ∀ i, i < evs.length → (evAt evs i).call < calls.length
 reads : ∀ i, i < evs.length → (calls.getD (evAt evs i).call d0).obj = 0 → (calls.getD (evAt evs i).call d0).kind = 1 → (evAt evs i).resp ≠ 0 → (evAt evs i).ans.err = 0 →
  (∀ j, j < evs.length → (evAt evs j).ans.err = 0 → (calls.getD (evAt evs j).call d0).obj = 0 → (calls.getD (evAt evs j).call d0).kind = 1 → (evAt evs j).resp ≠ 0 → (evAt evs j).resp < (evAt evs i).inv → (evAt evs j).ans.val ≤ (evAt evs i).ans.val) ∧
  cnt (bD calls (evAt evs i).inv) evs ≤ (evAt evs i).ans.val ∧ (evAt evs i).ans.val ≤ cnt (bB calls (evAt evs i).resp) evs
end
section

/- Layer 8: what reads tell (8.4, 8.5), in plain numbers. -/
open Go.RowKit
end
section

/- Layer 12: what those that take phases get (12.3, 12.4), in plain numbers. -/
open Go.RowKit
def dB (calls : List CallD) (rs : Nat) (y : EvD) : Bool := decide ((calls.getD y.call d0).obj = 0) && decide ((calls.getD y.call d0).kind = 0) && decide (y.inv < rs)
structure DoorGood (n : Nat) (calls : List CallD) (evs : List EvD) : Prop where
 call : ∀ i, i < evs.length → (evAt evs i).call < calls.length
 steps : ∀ i, i < evs.length → (evAt evs i).steps ≤ n + 1
 takes : ∀ i, i < evs.length → (calls.getD (evAt evs i).call d0).obj = 0 → (calls.getD (evAt evs i).call d0).kind = 0 → (evAt evs i).resp ≠ 0 →
  (∀ j, j < evs.length → (calls.getD (evAt evs j).call d0).obj = 0 → (calls.getD (evAt evs j).call d0).kind = 0 → (evAt evs j).resp ≠ 0 → (evAt evs j).resp < (evAt evs i).inv → (evAt evs j).ans.val < (evAt evs i).ans.val) ∧
  1 ≤ (evAt evs i).ans.val ∧ (evAt evs i).ans.val ≤ cnt (dB calls (evAt evs i).resp) evs
end
end Go.Proofs.YteffgpcjfnjlkaaGreat
