/- Layer 13: the pool, a turn further. -/
import Derived.Test.YtjkgfkbanbhkgaaJ31
import Derived.Test.YtjkgfkbanbhkgaaJ29
import Derived.Test.YtjkgfkbanbhkgaaJ28
import Derived.Test.YtjkgfkbanbhkgaaJ25
set_option maxRecDepth 100000
set_option linter.unusedVariables false
set_option linter.unusedSimpArgs false
set_option linter.unnecessarySimpa false
namespace Go.Proofs.Ytjkgfkbanbhkgaa
section
open Go.RowKit

theorem pIs_kind {calls : List CallD} {e : EvD} : ¬ (pIs calls 0 e = true ∧ pIs calls 1 e = true) := fun ⟨h, g⟩ => by
  have h1 := (isK_spec.1 (pIs_spec.1 h).1).2.1
  have h2 := (isK_spec.1 (pIs_spec.1 g).1).2.1
  omega
theorem pIs_not1 {calls : List CallD} {e : EvD} (h : pIs calls 0 e = true) : pIs calls 1 e = false := by
  cases g : pIs calls 1 e with
  | false => rfl
  | true => exact absurd ⟨h, g⟩ pIs_kind
theorem pIs_not0 {calls : List CallD} {e : EvD} (h : pIs calls 1 e = true) : pIs calls 0 e = false := by
  cases g : pIs calls 0 e with
  | false => rfl
  | true => exact absurd ⟨g, h⟩ pIs_kind
theorem memSw {m : MemD} {a x y : Nat} (h : a < m.ws.length) : (memSwap m (a : Int) x y) = if m.ws.getD a 0 = x then ({ ws := m.ws.set a y, c := { m.c with swap := m.c.swap + 1 } }, true) else ({ m with c := { m.c with swap := m.c.swap + 1 } }, false) := by
  have ho : memOut m (a : Int) = false := by unfold memOut; simp; omega
  unfold memSwap
  rw [if_neg (by rw [ho]; simp)]
  simp
theorem pR_late {calls : List CallD} {S : Sys} {st : PlayD S} (hg : StGood calls st) (lo hi : Nat) {t : Nat} (ht : st.wd.now + 1 ≤ t) : cnt (pRT calls lo hi t) st.evs = cnt (pRT calls lo hi (st.wd.now + 1)) st.evs ∧ cnt (pRG calls lo hi t) st.evs = cnt (pRG calls lo hi (st.wd.now + 1)) st.evs := by
  refine ⟨cnt_congr fun i hi => ?_, cnt_congr fun i hi => ?_⟩
  · have := (hg.ev.tick i hi).2.2.2
    unfold pRT
    rw [decide_eq_true (show (evAt st.evs i).resp < t by omega), decide_eq_true (show (evAt st.evs i).resp < st.wd.now + 1 by omega)]
  · have := (hg.ev.tick i hi).2.2.2
    unfold pRG
    rw [decide_eq_true (show (evAt st.evs i).resp < t by omega), decide_eq_true (show (evAt st.evs i).resp < st.wd.now + 1 by omega)]
theorem pRT_at {calls : List CallD} {a t : Nat} {e : EvD} (h : pIs calls 0 e = true) (hv : e.ans.val % 1024 = a + 2) {b : Nat} : pRT calls b (b + 1) t e = (decide (b = a) && decide (e.resp < t)) := by
  unfold pRT
  rw [h, Bool.true_and]
  congr 1
  exact decide_eq_decide.2 (by omega)
theorem pRG_at {calls : List CallD} {a t : Nat} {e : EvD} (h : pIs calls 1 e = true) (hv : argOf calls e % 1024 = a + 2) {b : Nat} : pRG calls b (b + 1) t e = (decide (b = a) && decide (e.resp < t)) := by
  unfold pRG
  rw [h, Bool.true_and]
  congr 1
  exact decide_eq_decide.2 (by omega)

section
variable {n k : Nat} {calls : List CallD} {S : Sys} {st : PlayD S} {q j : Nat} {evs' : List EvD} {e1 : EvD} {ws : List Nat}
theorem took_ws {ws' : List Nat} {e : EvD} {a v : Nat} {evs : List EvD} (h : poTook k calls ws evs e a v) (h1 : 2 * v ≤ ws'.getD a 0) (h2 : ws.getD a 0 = 2 * v + 1 → ws'.getD a 0 = 2 * v + 1 ∨ ∃ j, j < evs.length ∧ pIs calls 1 (evAt evs j) = true ∧ argOf calls (evAt evs j) = e.ans.val) : poTook k calls ws' evs e a v := by
  obtain ⟨g1, g2, g3, g4, g5, g6⟩ := h
  exact ⟨g1, g2, g3, g4, h1, g6.elim h2 .inr⟩
theorem po_w_take (hk : n * k ≤ 512) (hg : StGood calls st) (h : PoW n k calls st.wd.now ws st.evs) (hx : Next calls st q evs' j e1) (h0 : pIs calls 0 e1 = true) (hr : e1.resp = st.wd.now + 1) {a m : Nat} (ha : a < n * k) (hlo : tn calls e1 * k ≤ a) (hhi : a < tn calls e1 * k + k) (hm : ws.getD a 0 = m) (hev : m % 2 = 0) (hv : e1.ans.val = poRef a (m / 2 + 1)) :
    PoW n k calls (st.wd.now + 1) (ws.set a (m + 3)) evs' := by
  have h1 := pIs_not1 h0
  have hself : (ws.set a (m + 3)).getD a 0 = m + 3 := getD_set_eq (by rw [h.wlen]; exact ha)
  have hoth : ∀ b, b ≠ a → (ws.set a (m + 3)).getD b 0 = ws.getD b 0 := fun b hb => getD_set_neq (Ne.symm hb)
  have htop := h.top a ha
  have hmod : e1.ans.val % 1024 = a + 2 := by rw [hv]; exact poRef_mod (by omega)
  have old1 : ∀ i, i < evs'.length → pIs calls 1 (evAt evs' i) = true → i < st.evs.length ∧ evAt evs' i = evAt st.evs i := fun i hi hp => hx.other i hi (by rintro rfl; rw [hx.self, h1] at hp; cases hp)
  have keepm : ∀ {e : EvD}, (∃ i, i < st.evs.length ∧ pIs calls 1 (evAt st.evs i) = true ∧ argOf calls (evAt st.evs i) = e.ans.val) → ∃ i, i < evs'.length ∧ pIs calls 1 (evAt evs' i) = true ∧ argOf calls (evAt evs' i) = e.ans.val ∧ (evAt evs' i).resp < st.wd.now + 1 := by
    rintro e ⟨i, m1, m2, m3⟩
    obtain ⟨_, n2, n3⟩ := hx.kept m1 (pIs_resp m2)
    have := (hg.ev.tick i m1).2.2.2
    exact ⟨i, n2, by rw [n3]; exact m2, by rw [n3]; exact m3, by rw [n3]; omega⟩
  -- what was taken there ahead is of an older version, and was given back
  have older : ∀ i, i < st.evs.length → pIs calls 0 (evAt st.evs i) = true → (evAt st.evs i).ans.val % 1024 = a + 2 → (evAt st.evs i).ans.val ≠ e1.ans.val ∧ ∃ l, l < evs'.length ∧ pIs calls 1 (evAt evs' l) = true ∧ argOf calls (evAt evs' l) = (evAt st.evs i).ans.val ∧ (evAt evs' l).resp < st.wd.now + 1 := by
    intro i hi hp hmd
    obtain ⟨a0, v0, p1, p2, p3, p4, p5, p6, p7⟩ := h.takes i hi hp
    have : a0 = a := by rw [p5, poRef_mod (by omega)] at hmd; omega
    subst this
    refine ⟨?_, keepm (p7.resolve_left (by omega))⟩
    rw [p5, hv]
    intro he
    have := (poRef_inj (by omega) (by omega) he).2
    omega
  refine ⟨by rw [List.length_set]; exact h.wlen, fun b hb => ?_, fun i hi hp => ?_, fun i hi hp => ?_, fun b hb ho => ?_, fun i l hi hl hil hp1 hp2 hmd => ?_, fun i l hi hl hil hp1 hp2 => ?_, fun b t hb => ?_, fun b hb => ?_⟩
  · by_cases hba : b = a
    · subst hba; rw [hself]; omega
    · rw [hoth b hba]; have := h.top b hb; omega
  · by_cases hij : i = j
    · subst hij
      rw [hx.self]
      exact ⟨a, m / 2 + 1, ha, hlo, hhi, by omega, hv, by rw [hself]; omega, .inl (by rw [hself]; omega)⟩
    · obtain ⟨o1, o2⟩ := hx.other i hi hij
      rw [o2] at hp ⊢
      obtain ⟨a0, v0, g1, g2⟩ := h.takes i o1 hp
      refine ⟨a0, v0, g1, took_ws (took_keep hx g2) ?_ (fun hodd => ?_)⟩
      · have g5 := g2.2.2.2.2.1
        by_cases hba : a0 = a
        · subst hba; rw [hself]; omega
        · rw [hoth a0 hba]; exact g5
      · by_cases hba : a0 = a
        · subst hba; omega
        · rw [hoth a0 hba]; exact .inl hodd
  · obtain ⟨o1, o2⟩ := old1 i hi hp
    rw [o2] at hp ⊢
    obtain ⟨a0, v0, g1, g2⟩ := h.gives i o1 hp
    obtain ⟨g3, g4, g5, g6⟩ := gave_keep hx g2
    refine ⟨a0, v0, g1, g3, ?_, ?_, g6⟩
    · by_cases hba : a0 = a
      · subst hba; rw [hself]; omega
      · rw [hoth a0 hba]; exact g4
    · by_cases hba : a0 = a
      · subst hba; rw [hself]; omega
      · rw [hoth a0 hba]; exact g5
  · by_cases hba : b = a
    · subst hba
      refine ⟨j, hx.lt, by rw [hx.self]; exact h0, ?_⟩
      rw [hx.self, hv, hself]; congr 1; omega
    · rw [hoth b hba] at ho ⊢
      obtain ⟨l, m1, m2, m3⟩ := h.odd b hb ho
      obtain ⟨_, n2, n3⟩ := hx.kept m1 (pIs_resp m2)
      exact ⟨l, n2, by rw [n3]; exact m2, by rw [n3]; exact m3⟩
  · by_cases hij : i = j
    · subst hij
      obtain ⟨o1, o2⟩ := hx.other l hl (Ne.symm hil)
      rw [hx.self] at hp1 hmd ⊢
      rw [o2] at hp2 hmd ⊢
      obtain ⟨t1, t2⟩ := older l o1 hp2 (by omega)
      refine ⟨t1, .inr ?_⟩
      rw [hr]; exact t2
    · obtain ⟨o1, o2⟩ := hx.other i hi hij
      by_cases hlj : l = j
      · subst hlj
        rw [hx.self] at hp2 hmd ⊢
        rw [o2] at hp1 hmd ⊢
        obtain ⟨t1, t2⟩ := older i o1 hp1 (by omega)
        have := (hg.ev.tick i o1).2.2.2
        exact ⟨Ne.symm t1, .inl (by omega)⟩
      · obtain ⟨o3, o4⟩ := hx.other l hl hlj
        rw [o2] at hp1 hmd ⊢
        rw [o4] at hp2 hmd ⊢
        obtain ⟨t1, t2⟩ := h.tt i l o1 o3 hil hp1 hp2 hmd
        refine ⟨t1, ?_⟩
        rcases t2 with t2 | ⟨x, m1, m2, m3, m4⟩
        · exact .inl t2
        · obtain ⟨_, n2, n3⟩ := hx.kept m1 (pIs_resp m2)
          exact .inr ⟨x, n2, by rw [n3]; exact m2, by rw [n3]; exact m3, by rw [n3]; exact m4⟩
  · obtain ⟨o1, o2⟩ := old1 i hi hp1
    obtain ⟨o3, o4⟩ := old1 l hl hp2
    rw [o2] at hp1 ⊢
    rw [o4] at hp2 ⊢
    exact h.gg i l o1 o3 hil hp1 hp2
  · have hG : cnt (pRG calls b (b + 1) t) evs' = cnt (pRG calls b (b + 1) t) st.evs := hx.cnt0 pRG_open (by unfold pRG; rw [h1]; rfl)
    rw [hG, hx.cnt pRT_open, pRT_at h0 hmod]
    have hc := h.cT b t hb
    by_cases hba : b = a
    · subst hba
      by_cases ht : e1.resp < t
      · have hn := h.cN b hb
        obtain ⟨l1, l2⟩ := pR_late hg b (b + 1) (t := t) (by omega)
        simp only [ht, decide_true, Bool.and_self, if_true]
        omega
      · simp only [ht, decide_true, decide_false, Bool.and_false, Bool.false_eq_true, if_false]; omega
    · simp only [hba, decide_false, Bool.false_and, Bool.false_eq_true, if_false]; omega
  · have hG : cnt (pRG calls b (b + 1) (st.wd.now + 1 + 1)) evs' = cnt (pRG calls b (b + 1) (st.wd.now + 1 + 1)) st.evs := hx.cnt0 pRG_open (by unfold pRG; rw [h1]; rfl)
    rw [hG, hx.cnt pRT_open, pRT_at h0 hmod]
    have hn := h.cN b hb
    obtain ⟨l1, l2⟩ := pR_late hg b (b + 1) (t := st.wd.now + 1 + 1) (by omega)
    have ht : e1.resp < st.wd.now + 1 + 1 := by omega
    by_cases hba : b = a
    · subst hba
      rw [hself]
      simp only [ht, decide_true, Bool.and_self, if_true]
      omega
    · rw [hoth b hba]
      simp only [hba, decide_false, Bool.false_and, Bool.false_eq_true, if_false]; omega
theorem po_w_give (hk : n * k ≤ 512) (hg : StGood calls st) (h : PoW n k calls st.wd.now ws st.evs) (hx : Next calls st q evs' j e1) (h1 : pIs calls 1 e1 = true) (hr : e1.resp = st.wd.now + 1) {a v : Nat} (ha : a < n * k) (hA : argOf calls e1 = poRef a v) (hm : ws.getD a 0 = 2 * v + 1) :
    PoW n k calls (st.wd.now + 1) (ws.set a (2 * v)) evs' := by
  have h0 := pIs_not0 h1
  have hself : (ws.set a (2 * v)).getD a 0 = 2 * v := getD_set_eq (by rw [h.wlen]; exact ha)
  have hoth : ∀ b, b ≠ a → (ws.set a (2 * v)).getD b 0 = ws.getD b 0 := fun b hb => getD_set_neq (Ne.symm hb)
  have htop := h.top a ha
  have hmod : argOf calls e1 % 1024 = a + 2 := by rw [hA]; exact poRef_mod (by omega)
  have old0 : ∀ i, i < evs'.length → pIs calls 0 (evAt evs' i) = true → i < st.evs.length ∧ evAt evs' i = evAt st.evs i := fun i hi hp => hx.other i hi (by rintro rfl; rw [hx.self, h0] at hp; cases hp)
  -- no such reference was given back
  have fresh : ∀ i, i < st.evs.length → pIs calls 1 (evAt st.evs i) = true → argOf calls (evAt st.evs i) ≠ argOf calls e1 := by
    intro i hi hp he
    obtain ⟨a0, v0, p1, p2, p3, p4, _⟩ := h.gives i hi hp
    rw [p2, hA] at he
    obtain ⟨rfl, rfl⟩ := poRef_inj (by omega) (by omega) he
    exact p4 hm
  refine ⟨by rw [List.length_set]; exact h.wlen, fun b hb => ?_, fun i hi hp => ?_, fun i hi hp => ?_, fun b hb ho => ?_, fun i l hi hl hil hp1 hp2 hmd => ?_, fun i l hi hl hil hp1 hp2 => ?_, fun b t hb => ?_, fun b hb => ?_⟩
  · by_cases hba : b = a
    · subst hba; rw [hself]; omega
    · rw [hoth b hba]; have := h.top b hb; omega
  · obtain ⟨o1, o2⟩ := old0 i hi hp
    rw [o2] at hp ⊢
    obtain ⟨a0, v0, g1, g2⟩ := h.takes i o1 hp
    have g4 := g2.2.2.2.1
    have g5 := g2.2.2.2.2.1
    refine ⟨a0, v0, g1, took_ws (took_keep hx g2) ?_ (fun hodd => ?_)⟩
    · by_cases hba : a0 = a
      · subst hba; rw [hself]; omega
      · rw [hoth a0 hba]; exact g5
    · by_cases hba : a0 = a
      · subst hba
        have : v0 = v := by omega
        subst this
        exact .inr ⟨j, hx.lt, by rw [hx.self]; exact h1, by rw [hx.self, hA, g4]⟩
      · rw [hoth a0 hba]; exact .inl hodd
  · by_cases hij : i = j
    · subst hij
      rw [hx.self]
      obtain ⟨l, m1, m2, m3⟩ := h.odd a ha (by omega)
      obtain ⟨_, n2, n3⟩ := hx.kept m1 (pIs_resp m2)
      have := (hg.ev.tick l m1).2.2.2
      refine ⟨a, v, ha, hA, by rw [hself]; exact Nat.le_refl _, by rw [hself]; omega, l, n2, by rw [n3]; exact m2, by rw [n3]; omega, ?_⟩
      rw [n3, m3, hA]; congr 1; omega
    · obtain ⟨o1, o2⟩ := hx.other i hi hij
      rw [o2] at hp ⊢
      obtain ⟨a0, v0, g1, g2⟩ := h.gives i o1 hp
      obtain ⟨g3, g4, g5, g6⟩ := gave_keep hx g2
      refine ⟨a0, v0, g1, g3, ?_, ?_, g6⟩
      · by_cases hba : a0 = a
        · subst hba; rw [hself]; omega
        · rw [hoth a0 hba]; exact g4
      · by_cases hba : a0 = a
        · subst hba; rw [hself]; omega
        · rw [hoth a0 hba]; exact g5
  · by_cases hba : b = a
    · subst hba; rw [hself] at ho; omega
    · rw [hoth b hba] at ho ⊢
      obtain ⟨l, m1, m2, m3⟩ := h.odd b hb ho
      obtain ⟨_, n2, n3⟩ := hx.kept m1 (pIs_resp m2)
      exact ⟨l, n2, by rw [n3]; exact m2, by rw [n3]; exact m3⟩
  · obtain ⟨o1, o2⟩ := old0 i hi hp1
    obtain ⟨o3, o4⟩ := old0 l hl hp2
    rw [o2] at hp1 hmd ⊢
    rw [o4] at hp2 hmd ⊢
    obtain ⟨t1, t2⟩ := h.tt i l o1 o3 hil hp1 hp2 hmd
    refine ⟨t1, ?_⟩
    rcases t2 with t2 | ⟨x, m1, m2, m3, m4⟩
    · exact .inl t2
    · obtain ⟨_, n2, n3⟩ := hx.kept m1 (pIs_resp m2)
      exact .inr ⟨x, n2, by rw [n3]; exact m2, by rw [n3]; exact m3, by rw [n3]; exact m4⟩
  · by_cases hij : i = j
    · subst hij
      obtain ⟨o1, o2⟩ := hx.other l hl (Ne.symm hil)
      rw [hx.self]
      rw [o2] at hp2 ⊢
      exact fresh l o1 hp2
    · obtain ⟨o1, o2⟩ := hx.other i hi hij
      by_cases hlj : l = j
      · subst hlj
        rw [hx.self]
        rw [o2] at hp1 ⊢
        exact Ne.symm (fresh i o1 hp1)
      · obtain ⟨o3, o4⟩ := hx.other l hl hlj
        rw [o2] at hp1 ⊢
        rw [o4] at hp2 ⊢
        exact h.gg i l o1 o3 hil hp1 hp2
  · have hT : cnt (pRT calls b (b + 1) t) evs' = cnt (pRT calls b (b + 1) t) st.evs := hx.cnt0 pRT_open (by unfold pRT; rw [h0]; rfl)
    rw [hT, hx.cnt pRG_open]
    have hc := h.cT b t hb
    omega
  · have hT : cnt (pRT calls b (b + 1) (st.wd.now + 1 + 1)) evs' = cnt (pRT calls b (b + 1) (st.wd.now + 1 + 1)) st.evs := hx.cnt0 pRT_open (by unfold pRT; rw [h0]; rfl)
    rw [hT, hx.cnt pRG_open, pRG_at h1 hmod]
    have hn := h.cN b hb
    obtain ⟨l1, l2⟩ := pR_late hg b (b + 1) (t := st.wd.now + 1 + 1) (by omega)
    have ht : e1.resp < st.wd.now + 1 + 1 := by omega
    by_cases hba : b = a
    · subst hba
      rw [hself]
      simp only [ht, decide_true, Bool.and_self, if_true]
      omega
    · rw [hoth b hba]
      simp only [hba, decide_false, Bool.false_and, Bool.false_eq_true, if_false]; omega
/-- A place that is read as taken was taken when the operation was invoked. -/
theorem po_full (hk : n * k ≤ 512) (h : PoW n k calls st.wd.now ws st.evs) {a p iv : Nat} (ha : a < n * k) (hlo : p * k ≤ a) (hhi : a < p * k + k) (hiv : iv ≤ st.wd.now + 1) (hb : ∀ i, i < st.evs.length → tn calls (evAt st.evs i) = p → (evAt st.evs i).resp ≠ 0 → (evAt st.evs i).resp < iv) (hodd : ¬ ws.getD a 0 % 2 = 0)
    (hc : cnt (pRT calls (p * k) a iv) st.evs = cnt (pRG calls (p * k) a iv) st.evs + (a - p * k)) : cnt (pRT calls (p * k) (a + 1) iv) st.evs = cnt (pRG calls (p * k) (a + 1) iv) st.evs + (a + 1 - p * k) := by
  rw [pRT_split hlo, pRG_split hlo]
  have h1 := h.cN a ha
  have h2 := h.cT a iv ha
  have h3 : cnt (pRG calls a (a + 1) iv) st.evs ≤ cnt (pRG calls a (a + 1) (st.wd.now + 1)) st.evs := pRG_mono hiv
  have h4 : cnt (pRT calls a (a + 1) iv) st.evs = cnt (pRT calls a (a + 1) (st.wd.now + 1)) st.evs := by
    refine Nat.le_antisymm (pRT_mono hiv) (cnt_mono fun i hi hp => ?_)
    unfold pRT at hp ⊢
    simp only [Bool.and_eq_true, decide_eq_true_eq] at hp ⊢
    refine ⟨hp.1, ?_⟩
    obtain ⟨a0, v0, p1, p2, p3, p4, p5, _⟩ := h.takes i hi hp.1.1
    have : a0 = a := by have h9 := hp.1.2; rw [p5, poRef_mod (by omega)] at h9; omega
    subst this
    refine hb i hi ?_ (pIs_resp hp.1.1)
    by_cases htp : tn calls (evAt st.evs i) = p
    · exact htp
    · exact absurd rfl (rng_apart htp p2 p3 hlo hhi)
  omega
end
end
section

/- Layer 8: tally.Play. -/
open Go.RowKit

theorem tally_new (m : Nat) (w : World) : Calls Try.prog 56 #[.int .i64 0, .int .i64 (m : Int)] w fun e w' => e = .returned (.agg #[.int .i64 0, .int .i64 (m : Int)]) ∧ Below w.heap.size w w' := by
  go_enter Try.func56, Try.ntmps56
  go_wp2
  exact bodyPost_ret (v := .agg #[.int .i64 0, .int .i64 (m : Int)]) (by simp [results, Try.results56 , go_sem]) rfl ⟨rfl, Gr.new _ _⟩
theorem made_blk3 {u w1 : World} {size : Nat} (hk : ∀ (b : Nat) (o : Obj), (u.alloc (.cells (madeCells #[.int .u64 0] size) 46)).heap[b]? = some o → w1.heap[b]? = some o) (o : Obj) (b : Nat) (hb : b = u.heap.size) : (w1.alloc o).heap[b]? = some (.cells (madeCells #[.int .u64 0] size) 46 (0, 0)) := by
  have h1 := hk u.heap.size _ (heap_alloc_new u (.cells (madeCells #[.int .u64 0] size) 46 (0, 0)))
  rw [hb, Below.heap_alloc _ _ _ (blk_lt h1)]; exact h1
set_option maxHeartbeats 4000000 in
theorem tallyPlay_any (X : Nat → Prop) (w : World) (n : Int) (calls : List CallD) (picks : List Int) (ca pa : Option Addr) (cc pc : Nat) (hX : ∀ b, X b → b < w.heap.size) (hc : CallsAt X w ca calls) (hp : PicksAt w pa picks) :
    Calls Try.prog 28 #[.int .i64 n, .slice ca calls.length cc, .slice pa picks.length pc] w fun e w' => PlayRet X w w' (checkN n calls picks.length) (playD (tallyS n.toNat) () (List.replicate n.toNat 0) calls picks) e := by
  obtain ⟨wa, hwa⟩ : ∃ wa, wa = w.alloc (.cells #[.slice none 0 0, .slice none 0 0, .int .i64 0, .int .i64 0, .int .i64 0, .int .i64 0, .int .i64 0, .int .i64 0, .int .i64 0] 32) := ⟨_, rfl⟩
  have hga : Below w.heap.size w wa := by rw [hwa]; exact Gr.new _ _
  have hra : wa.heap[w.heap.size]? = some (.cells #[.slice none 0 0, .slice none 0 0, .int .i64 0, .int .i64 0, .int .i64 0, .int .i64 0, .int .i64 0, .int .i64 0, .int .i64 0] 32 (0, 0)) := by rw [hwa]; exact heap_alloc_new _ _
  have hsa : w.heap.size < wa.heap.size := by rw [hwa]; simp
  have C := Lib.hid (check_any n calls picks.length ca pa cc pc wa (hc.sl.grown hga) hp.sl.1 (fun x hx => (hc.ok x hx).thread))
  have Hc := Lib.hid hc; have Hp := Lib.hid hp; have HX := Lib.hid hX
  have Hwa := Lib.hid hwa; have Hga := Lib.hid hga; have Hra := Lib.hid hra
  have hpl := hp.sl.1
  unfold maxLen at hpl
  clear hc hp hX hwa hga hra
  obtain ⟨ck, hck⟩ : ∃ ck, ck = checkN n calls picks.length := ⟨_, rfl⟩
  rw [← hck] at C
  have Hck := Lib.hid hck
  clear hck
  by_cases hc0 : ck = 0
  · obtain ⟨hn1, hn16⟩ := n_ok (hc0 ▸ Hck.out).symm
    obtain ⟨sz, rfl⟩ : ∃ sz : Nat, n = (sz : Int) := ⟨n.toNat, by omega⟩
    have hs1 : 1 ≤ sz := by omega
    have hs64 : sz ≤ 64 := by omega
    have hs16 : sz ≤ 16 := by omega
    simp only [Int.toNat_natCast]
    have P := Lib.hid (fun (w1 : World) (hb1 : Below wa.heap.size wa w1) (u : World) (bo bw : Nat) (hu : Below w1.heap.size w1 u) (h1 : u.cell? ⟨bo, 0, none⟩ = some (.iface 90 (.agg #[.int .i64 0, .int .i64 (sz : Int)]))) (h2 : u.heap[bw]? = some (.cells (madeCells #[.int .u64 0] sz) 46 (0, 0))) (hbo : w1.heap.size ≤ bo) =>
      (play_any (X := fun b => X b ∨ b = w.heap.size) (R := tallyR sz) (tally_ok sz hs16) (tally_nolate sz) (by show 1 ≤ 1000; omega) u () sz calls (List.replicate sz 0) picks (.slice (some ⟨bo, 0, none⟩) 1 1) (.slice ca calls.length cc) (.slice (some ⟨bw, 0, none⟩) (List.replicate sz 0).length sz) pa pc
        ⟨⟨ca, cc, rfl, Hc.out.sl.grown (Gr.trans Hga.out (Gr.trans hb1 hu)), fun hl b off e hx => by
          rcases hx with hx | hx
          · exact Hc.out.nx hl b off e hx
          · obtain ⟨b0, off0, e0, hb0⟩ := Hc.out.sl.lt hl
            rw [e0] at e; cases e; omega⟩, Hc.out.ok, ⟨bo, 0, 1, rfl, h1, fun hx => by have := hb1.size; rcases hx with hx | hx; have := HX.out bo hx; omega; omega⟩, ⟨_, sz, rfl, zeros_sl h2 hs64, fun e => by cases e⟩, by rw [List.length_replicate]; omega, fun x hx => by rw [(List.mem_replicate.1 hx).2]; omega, fun b hb => hb, fun _ _ => trivial, trivial, fun b hx => by have := hu.size; have := hb1.size; rcases hx with hx | hx; have := HX.out b hx; omega; omega⟩ (Hp.out.sl.grown (Gr.trans Hga.out (Gr.trans hb1 hu))) Hp.out.ok (tally_safe sz calls picks)).mono (fun e w' h => (⟨PlayTo.ret h, Gr.trans hb1 hu⟩ : PlayRet (fun b => X b ∨ b = w.heap.size) u w' (checkN sz calls picks.length) (playD (tallyS sz) () (List.replicate sz 0) calls picks) e ∧ Below wa.heap.size wa u)))
    have N := Lib.hid (fun (u w0 : World) (h : Below w0.heap.size w0 u) => (tally_new sz u).mono (fun e w' h' => (⟨h'.1, Gr.trans h h'.2, (fun b o hb => (h'.2.block b (blk_lt hb)).trans hb)⟩ : e = .returned (.agg #[.int .i64 0, .int .i64 (sz : Int)]) ∧ Below w0.heap.size w0 w' ∧ (∀ (b : Nat) (o : Obj), u.heap[b]? = some o → w'.heap[b]? = some o))))
    have hmk := make_size sz hs64
    obtain ⟨rr, hrr⟩ : ∃ rr, rr = playD (tallyS sz) () (List.replicate sz 0) calls picks := ⟨_, rfl⟩
    rw [← Hck.out, hc0, ← hrr] at P
    rw [← hrr, ← Hck.out, hc0]
    simp only [List.length_replicate] at P
    subst hc0
    clear hrr
    go_enter Try.func28, Try.ntmps28
    go_wp2_with fail
    rw [← Hwa.out]
    refine C.out.mono ?_
    rintro e w1 ⟨rfl, hb1⟩
    replace P := Lib.hid (P.out w1 hb1)
    replace N := Lib.hid (fun (u : World) (h : Below w1.heap.size w1 u) => N.out u w1 h)
    have Hb1 := Lib.hid hb1
    clear hb1
    go_wp2_with fail
    go_region_held3 (fun u => True)
      (exact True.intro)
      (first | (go_at_call 56; refine (N.out _ ?_).mono ?_; (first | exact (Gr.refl _).drew | exact Gr.alloc (Gr.refl _).drew _); rintro e w2 ⟨rfl, hb2, hk2⟩) | (go_at_call 44; refine (P.out _ _ _ ?_ ?_ ?_ ?_).mono ?_; (first | with_reducible exact Gr.alloc (Gr.alloc hb2 _) _ | with_reducible exact Gr.alloc hb2 _); (first | with_reducible exact objs_cell _ _ _ _ | exact cell_new2 _ _ _ _ _ (by simp) | with_reducible exact cell_new1 _ _ _); (first | with_reducible exact made_blk1 _ _ _ _ (by simp) | with_reducible exact made_blk2 _ _ _ | exact made_blk3 hk2 _ _ (by simp)); (have := hb2.size; simp; omega); rintro e w4 ⟨⟨ea, en, ec, va, vn, vc, rp, rfl, hrest⟩, hu⟩; have hr4 := (hrest.1.block w.heap.size (by have := hu.size; omega)).trans ((hu.block w.heap.size (by omega)).trans Hra.out); obtain ⟨cs, w7, hcs, hsz, hst, hbk7, hch7⟩ := rep_store w4 w.heap.size (.slice ea en ec) (.slice va vn vc) rp hr4 rfl rfl; rw [hcs]; have Hcs := Lib.hid hcs; have Hbk7 := Lib.hid hbk7; have Hch7 := Lib.hid hch7; have Hrest := Lib.hid hrest; have Hu := Lib.hid hu; clear hr4 hrest hu hcs hbk7 hch7 hb2 hk2))
    all_goals
      go_wp2
      have hld := rep_load w7 w.heap.size cs Hbk7.out hsz
      refine bodyPost_ret (v := .tuple #[.agg cs, .int .i64 0]) (by simp [results, Try.results28 , Sem.run_bind, Sem.run_pure, asAddr, hld]) rfl ?_
      refine ⟨ea, en, ec, va, vn, vc, rp, by rw [Hcs.out], PlayRest.chg Hrest.out Hch7.out (fun b hb => ?_) (Gr.trans Hga.out Hu.out) (fun b hb => .inl hb)⟩
      have hb' : b = w.heap.size := hb
      exact ⟨.inr hb', by omega, by have := Hu.out.size; omega⟩
  · rw [← Hck.out]
    have Her0 := Lib.hid hc0
    go_enter Try.func28, Try.ntmps28
    go_wp2_with fail
    rw [← Hwa.out]
    refine C.out.mono ?_
    rintro e w1 ⟨rfl, hb1⟩
    have hr1 := (hb1.block _ (blk_lt Hra.out)).trans Hra.out
    have Hb1 := Lib.hid hb1; have Hr1 := Lib.hid hr1
    have g0 : w1.cell? ⟨w.heap.size, 0, none⟩ = some (.slice none 0 0) := by rw [cell_blk hr1]; rfl
    have gf0 : w1.frozen? ⟨w.heap.size, 0, none⟩ = false := frozen_blk hr1 0
    have g1 : w1.cell? ⟨w.heap.size, 1, none⟩ = some (.slice none 0 0) := by rw [cell_blk hr1]; rfl
    have gf1 : w1.frozen? ⟨w.heap.size, 1, none⟩ = false := frozen_blk hr1 1
    have g2 : w1.cell? ⟨w.heap.size, 2, none⟩ = some (.int .i64 0) := by rw [cell_blk hr1]; rfl
    have gf2 : w1.frozen? ⟨w.heap.size, 2, none⟩ = false := frozen_blk hr1 2
    have g3 : w1.cell? ⟨w.heap.size, 3, none⟩ = some (.int .i64 0) := by rw [cell_blk hr1]; rfl
    have gf3 : w1.frozen? ⟨w.heap.size, 3, none⟩ = false := frozen_blk hr1 3
    have g4 : w1.cell? ⟨w.heap.size, 4, none⟩ = some (.int .i64 0) := by rw [cell_blk hr1]; rfl
    have gf4 : w1.frozen? ⟨w.heap.size, 4, none⟩ = false := frozen_blk hr1 4
    have g5 : w1.cell? ⟨w.heap.size, 5, none⟩ = some (.int .i64 0) := by rw [cell_blk hr1]; rfl
    have gf5 : w1.frozen? ⟨w.heap.size, 5, none⟩ = false := frozen_blk hr1 5
    have g6 : w1.cell? ⟨w.heap.size, 6, none⟩ = some (.int .i64 0) := by rw [cell_blk hr1]; rfl
    have gf6 : w1.frozen? ⟨w.heap.size, 6, none⟩ = false := frozen_blk hr1 6
    have g7 : w1.cell? ⟨w.heap.size, 7, none⟩ = some (.int .i64 0) := by rw [cell_blk hr1]; rfl
    have gf7 : w1.frozen? ⟨w.heap.size, 7, none⟩ = false := frozen_blk hr1 7
    have g8 : w1.cell? ⟨w.heap.size, 8, none⟩ = some (.int .i64 0) := by rw [cell_blk hr1]; rfl
    have gf8 : w1.frozen? ⟨w.heap.size, 8, none⟩ = false := frozen_blk hr1 8
    clear hr1 hb1
    go_wp2
    obtain ⟨w7, hw7⟩ : ∃ w7, w7 = (((((((((w1.setCell ⟨w.heap.size, 0, none⟩ (.slice none 0 0)).setCell ⟨w.heap.size, 1, none⟩ (.slice none 0 0)).setCell ⟨w.heap.size, 2, none⟩ (.int .i64 0)).setCell ⟨w.heap.size, 3, none⟩ (.int .i64 0)).setCell ⟨w.heap.size, 4, none⟩ (.int .i64 0)).setCell ⟨w.heap.size, 5, none⟩ (.int .i64 0)).setCell ⟨w.heap.size, 6, none⟩ (.int .i64 0)).setCell ⟨w.heap.size, 7, none⟩ (.int .i64 0)).setCell ⟨w.heap.size, 8, none⟩ (.int .i64 0)) := ⟨_, rfl⟩
    rw [← hw7]
    have hr7 : w7.heap[w.heap.size]? = some (.cells #[.slice none 0 0, .slice none 0 0, .int .i64 0, .int .i64 0, .int .i64 0, .int .i64 0, .int .i64 0, .int .i64 0, .int .i64 0] 32 (0, 0)) := by rw [hw7, (blk_set (blk_set (blk_set (blk_set (blk_set (blk_set (blk_set (blk_set (blk_set Hr1.out _ _) _ _) _ _) _ _) _ _) _ _) _ _) _ _) _ _)]; rfl
    have hch7 : Chg (fun b => b = w.heap.size) w1 w7 := by rw [hw7]; exact ((((((((((Chg.refl (fun b => b = w.heap.size) w1).setCell (by exact .inl rfl) _).setCell (by exact .inl rfl) _).setCell (by exact .inl rfl) _).setCell (by exact .inl rfl) _).setCell (by exact .inl rfl) _).setCell (by exact .inl rfl) _).setCell (by exact .inl rfl) _).setCell (by exact .inl rfl) _).setCell (by exact .inl rfl) _)
    clear hw7
    have hld := rep_load w7 w.heap.size _ hr7 rfl
    refine bodyPost_ret (v := .tuple #[.agg #[.slice none 0 0, .slice none 0 0, .int .i64 0, .int .i64 0, .int .i64 0, .int .i64 0, .int .i64 0, .int .i64 0, .int .i64 0], .int .i64 ck]) (by simp [results, Try.results28 , Sem.run_bind, Sem.run_pure, asAddr, hld]) rfl ?_
    have hall : Chg (fun b => w.heap.size ≤ b) w w7 := ((Chg.of_below Hga.out).trans (Chg.of_below Hb1.out)).trans (hch7.mono (fun b _ h => by have h9 : b = w.heap.size := h; omega))
    exact ⟨none, 0, 0, none, 0, 0, _, rfl, hall.below (fun b h => h) (Nat.le_refl _), .inl ⟨Her0.out, rfl, rfl, rfl, rfl, rfl, rfl, rfl⟩⟩
end
section

/- What Between asks of a report, in plain numbers. -/
open Go.RowKit

/-- Counted wholly ahead of x; begun ahead of its response. -/
def bD (calls : List CallD) (iv : Nat) (y : EvD) : Bool := decide (y.ans.err = 0) && decide ((calls.getD y.call d0).obj = 0) && decide ((calls.getD y.call d0).kind = 0) && decide (y.resp ≠ 0) && decide (y.resp < iv)
def bB (calls : List CallD) (rs : Nat) (y : EvD) : Bool := decide (y.ans.err = 0) && decide ((calls.getD y.call d0).obj = 0) && decide ((calls.getD y.call d0).kind = 0) && decide (y.inv < rs)
structure BetGood (calls : List CallD) (evs : List EvD) : Prop where
  call : ∀ i, i < evs.length → (evAt evs i).call < calls.length
  reads : ∀ i, i < evs.length → (calls.getD (evAt evs i).call d0).obj = 0 → (calls.getD (evAt evs i).call d0).kind = 1 → (evAt evs i).resp ≠ 0 → (evAt evs i).ans.err = 0 →
    (∀ j, j < evs.length → (evAt evs j).ans.err = 0 → (calls.getD (evAt evs j).call d0).obj = 0 → (calls.getD (evAt evs j).call d0).kind = 1 → (evAt evs j).resp ≠ 0 → (evAt evs j).resp < (evAt evs i).inv → (evAt evs j).ans.val ≤ (evAt evs i).ans.val) ∧
    cnt (bD calls (evAt evs i).inv) evs ≤ (evAt evs i).ans.val ∧ (evAt evs i).ans.val ≤ cnt (bB calls (evAt evs i).resp) evs
theorem bD0 {D js iv : Nat} {jr ob kd : Int} (h : ¬ (jr = 0 ∧ ob = 0 ∧ kd = 0 ∧ js ≠ 0 ∧ js < iv)) : D + (if (decide (jr = 0) && decide (ob = 0) && decide (kd = 0) && decide (js ≠ 0) && decide (js < iv)) = true then 1 else 0) = D := by
  rw [if_neg (by simpa [and_assoc] using h), Nat.add_zero]
theorem bD1 {D js iv : Nat} {jr ob kd : Int} (h : jr = 0 ∧ ob = 0 ∧ kd = 0 ∧ js ≠ 0 ∧ js < iv) : D + (if (decide (jr = 0) && decide (ob = 0) && decide (kd = 0) && decide (js ≠ 0) && decide (js < iv)) = true then 1 else 0) = D + 1 := by
  rw [if_pos (by simpa [and_assoc] using h)]
theorem bB0 {D jv rs : Nat} {jr ob kd : Int} (h : ¬ (jr = 0 ∧ ob = 0 ∧ kd = 0 ∧ jv < rs)) : D + (if (decide (jr = 0) && decide (ob = 0) && decide (kd = 0) && decide (jv < rs)) = true then 1 else 0) = D := by
  rw [if_neg (by simpa [and_assoc] using h), Nat.add_zero]
theorem bB1 {D jv rs : Nat} {jr ob kd : Int} (h : jr = 0 ∧ ob = 0 ∧ kd = 0 ∧ jv < rs) : D + (if (decide (jr = 0) && decide (ob = 0) && decide (kd = 0) && decide (jv < rs)) = true then 1 else 0) = D + 1 := by
  rw [if_pos (by simpa [and_assoc] using h)]
end
end Go.Proofs.Ytjkgfkbanbhkgaa
