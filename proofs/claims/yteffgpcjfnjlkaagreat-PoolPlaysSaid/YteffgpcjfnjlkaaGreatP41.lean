/- Layer 13: the pool: every play of one. -/
import Derived.Test.YteffgpcjfnjlkaaGreatP40
set_option maxRecDepth 100000
set_option linter.unusedVariables false
set_option linter.unusedSimpArgs false
set_option linter.unnecessarySimpa false
namespace Go.Proofs.YteffgpcjfnjlkaaGreat
open Go.RowKit
def poPre (n k : Nat) (calls : List CallD) (st : PlayD (poolS n k)) (q : Nat) (e : EvD) : PoS → Prop
 | .take a f m free r => poHand k calls st.wd.mem.ws st.evs q e (.take a f m free r) ∧ ∀ i, i < st.evs.length → tn calls (evAt st.evs i) = q → (evAt st.evs i).resp ≠ 0 → (evAt st.evs i).resp < e.inv
 | .once c _ => e.steps = 0 ∧ kindOf calls e = 1 ∧ poBad n k c = false ∧ c = calls.getD e.call d0
theorem po_pre {n k : Nat} (hk1 : 1 ≤ k) {calls : List CallD} {st : PlayD (poolS n k)} {q i j : Nat} {s : PoS} {evs0 : List EvD} {wd0 : WD} (hg : StGood calls st) (h : PoInv n k calls st) (hf : From calls st q i j s evs0 wd0) :
  objOf calls (evAt evs0 j) = 0 ∧ poPre n k calls st q (evAt evs0 j) s ∧ (evAt evs0 j).inv ≤ st.wd.now + 1 ∧ (evAt evs0 j).ans.err = 0 := by
 rcases hf.or with ⟨hh, hk, hc, hr, rfl, rfl⟩ | ⟨hh, hs, rfl, rfl, rfl⟩
 ·obtain ⟨g1, g2⟩ := h.hand q s j hh
  have ht := hg.ev.tick j hk
  have htn := (hg.ev.hand q j (by unfold hndOf; rw [hh]; rfl)).2.1
  refine ⟨g1, ?_, by omega, h.fresh j hk hr⟩
  match s, g2 with
  | .take a f m free r, g2 =>
   refine ⟨g2, fun l hl htl hrl => ?_⟩
   rcases Nat.lt_trichotomy l j with h1 | h1 | h1
   ·exact (hg.ev.same l j h1 hk (by rw [htl, htn])).2.1
   ·subst h1; exact absurd hr hrl
   ·exact absurd hr (hg.ev.same j l h1 hl (by rw [htl, htn])).1
 ·have he : evAt (st.evs ++ [newEv i (st.wd.tick.begin q)]) st.evs.length = newEv i (st.wd.tick.begin q) := evAt_last
  rw [he]
  have ho : objOf calls (newEv i (st.wd.tick.begin q)) = (calls.getD i d0).obj := rfl
  have hkd : kindOf calls (newEv i (st.wd.tick.begin q)) = (calls.getD i d0).kind := rfl
  have hi : (newEv i (st.wd.tick.begin q)).inv = st.wd.now + 1 := rfl
  have hst : (newEv i (st.wd.tick.begin q)).steps = 0 := rfl
  have hcl : (newEv i (st.wd.tick.begin q)).call = i := rfl
  rw [ho]
  unfold startD at hs
  by_cases ho0 : (calls.getD i d0).obj = 0
  ·rw [if_pos ho0] at hs
   refine ⟨ho0, ?_, by rw [hi]; exact Nat.le_refl _, rfl⟩
   by_cases hk0 : (calls.getD i d0).kind = 0
   ·have e1 : (poolS n k).start st.obj (st.wd.tick.begin q) q (calls.getD i d0) = .run (.take (q * k) (q * k + k) 0 false (0, 0)) := if_pos hk0
    rw [e1] at hs; cases hs
    refine ⟨⟨rfl, Nat.le_refl _, by omega, rfl, (fun h => by cases h), by rw [hkd, hk0], ?_, by rw [hst]; simp⟩, fun l hl _ _ => by rw [hi]; have := (hg.ev.tick l hl).2.2.2; omega⟩
    rw [cnt_zero (fun l _ => by unfold pRT; rw [decide_eq_false (by omega)]; simp), cnt_zero (fun l _ => by unfold pRG; rw [decide_eq_false (by omega)]; simp)]; omega
   ·by_cases hk1 : (calls.getD i d0).kind = 1
    ·cases hb : poBad n k (calls.getD i d0) with
     | false =>
      have e1 : (poolS n k).start st.obj (st.wd.tick.begin q) q (calls.getD i d0) = .run (.once (calls.getD i d0) (0, 0)) := (if_neg hk0).trans ((if_neg (by simpa using hk1)).trans (if_neg (by rw [hb]; simp)))
      rw [e1] at hs; cases hs
      exact ⟨hst, by rw [hkd, hk1], hb, by rw [hcl]⟩
     | true =>
      have e1 : (poolS n k).start st.obj (st.wd.tick.begin q) q (calls.getD i d0) = .refuse 10 := (if_neg hk0).trans ((if_neg (by simpa using hk1)).trans (if_pos hb))
      rw [e1] at hs; cases hs
    ·have e1 : (poolS n k).start st.obj (st.wd.tick.begin q) q (calls.getD i d0) = .refuse 9 := (if_neg hk0).trans (if_pos hk1)
     rw [e1] at hs; cases hs
  ·rw [if_neg ho0] at hs; cases hs
theorem poBad_ok {n k : Nat} {c : CallD} (h : poBad n k c = false) : ∃ a, c.a % 1024 = a + 2 ∧ a < n * k ∧ c.a / 1024 < 1099511627776 ∧ c.a % 1024 - 2 = a ∧ c.a = poRef a (c.a / 1024) := by
 unfold poBad at h
 simp only [Bool.or_eq_false_iff, decide_eq_false_iff_not] at h
 refine ⟨c.a % 1024 - 2, by omega, by omega, by omega, rfl, ?_⟩
 unfold poRef; omega
theorem po_turn {n k : Nat} (hk1 : 1 ≤ k) (hnk : n * k ≤ 512) {calls : List CallD} (hthr : ∀ c, c < calls.length → 0 ≤ (calls.getD c d0).thread ∧ (calls.getD c d0).thread < n) {st st' : PlayD (poolS n k)} (hg : StGood calls st) (h : PoInv n k calls st) (ht : Turn calls st st') : PoInv n k calls st' := by
 cases ht with
 | idle => exact ⟨h.w, h.hand, h.done, h.fresh⟩
 | refuse q i er hq hN hh hs =>
  obtain ⟨e, he⟩ : ∃ e, e = finishEv (st.wd.tick.begin q) q ⟨er, 0, []⟩ [] (newEv i (st.wd.tick.begin q)) := ⟨_, rfl⟩
  have hst : refuseTo st q i er = { wd := st.wd.tick.begin q, obj := st.obj, fin := st.fin.set i true, hands := st.hands.set q (none, st.evs.length), evs := st.evs ++ [e], idle := st.idle } := by rw [he]; rfl
  have er1 : e.resp = st.wd.now + 1 := by rw [he]; rfl
  have est : e.steps = 1 := by rw [he]; rfl
  have eer : e.ans.err = er := by rw [he]; rfl
  have her : er ≠ 0 ∧ er ≠ 6 := by
   unfold startD at hs
   by_cases ho : (calls.getD i d0).obj = 0
   ·rw [if_pos ho] at hs
    by_cases h0 : (calls.getD i d0).kind = 0
    ·have e1 : (poolS n k).start st.obj (st.wd.tick.begin q) q (calls.getD i d0) = .run (.take (q * k) (q * k + k) 0 false (0, 0)) := if_pos h0
     rw [e1] at hs; cases hs
    ·by_cases h1 : (calls.getD i d0).kind = 1
     ·cases hb : poBad n k (calls.getD i d0) with
      | false =>
       have e1 : (poolS n k).start st.obj (st.wd.tick.begin q) q (calls.getD i d0) = .run (.once (calls.getD i d0) (0, 0)) := (if_neg h0).trans ((if_neg (by simpa using h1)).trans (if_neg (by rw [hb]; simp)))
       rw [e1] at hs; cases hs
      | true =>
       have e1 : (poolS n k).start st.obj (st.wd.tick.begin q) q (calls.getD i d0) = .refuse 10 := (if_neg h0).trans ((if_neg (by simpa using h1)).trans (if_pos hb))
       rw [e1] at hs; cases hs
       exact ⟨by decide, by decide⟩
     ·have e1 : (poolS n k).start st.obj (st.wd.tick.begin q) q (calls.getD i d0) = .refuse 9 := (if_neg h0).trans (if_pos h1)
      rw [e1] at hs; cases hs
      exact ⟨by decide, by decide⟩
   ·rw [if_neg ho] at hs; cases hs
    exact ⟨by decide, by decide⟩
  have hno : ∀ kd, pIs calls kd e = false := fun kd => by
   cases hp : pIs calls kd e with
   | false => rfl
   | true => exact absurd ((pIs_spec.1 hp).2.symm.trans eer).symm her.1
  have hnx := refuse_next hg hN e (by rw [he]; rfl)
  rw [hst]
  exact po_rest hg h hq hnx (.inr er1) rfl (fun _ _ _ _ _ _ _ _ _ hm _ => hm) (fun s1 k1 hx => by cases hx) (fun _ => ⟨by omega, fun h6 => absurd (eer.symm.trans h6) her.2⟩) (fun h0 => by omega) (po_w_same hg h.w hnx (hno 0) (hno 1))
 | step q i j s evs0 wd0 hq hN hf =>
  obtain ⟨g1, g2, g5, g6⟩ := po_pre hk1 hg h hf
  obtain ⟨e0, he0⟩ : ∃ e0, e0 = evAt evs0 j := ⟨_, rfl⟩
  have htn0 : tn calls e0 = q := by rw [he0]; exact hf.tn hN
  have hqn : q < n := by
   have := hthr i (nowN_spec hN).1
   rw [(nowN_spec hN).2.1] at this; omega
  rw [← he0] at g1 g2 g5 g6
  have hmem := hf.mem; have hnow := hf.now
  have hopen : e0.resp = 0 := by rw [he0]; exact hf.open_
  match s, g2 with
  | .once c r, ⟨b1, b2, b3, b4⟩ =>
   obtain ⟨a, c1, c2, c3, c4, c5⟩ := poBad_ok b3
   have haw : a < wd0.mem.ws.length := by rw [hmem, h.w.wlen]; exact c2
   have hpm : poolMem c wd0 = memSwap wd0.mem (a : Int) (2 * (c.a / 1024) + 1) (2 * (c.a / 1024)) := by unfold poolMem; rw [c4]
   have hsw := memSw (x := 2 * (c.a / 1024) + 1) (y := 2 * (c.a / 1024)) haw
   obtain ⟨e1, he1⟩ : ∃ e1, e1 = finishEv (poolAct c wd0).1 q ⟨(poolAct c wd0).2.1, (poolAct c wd0).2.2, []⟩ [] e0 := ⟨_, rfl⟩
   have hto : stepTo st ((poolS n k).step st.obj wd0 q (.once c r)) q i j evs0 = { wd := (poolAct c wd0).1, obj := (), fin := st.fin.set i true, hands := st.hands.set q (none, j), evs := evs0.set j e1, idle := st.idle } := by rw [he1, he0]; rfl
   rw [hto]
   have r1 : e1.resp = st.wd.now + 1 := by rw [he1]; exact hnow
   have k1 : kindOf calls e1 = 1 := by rw [he1]; exact b2
   have hnx := hf.next hg hN e1 (by rw [he1, he0]; rfl)
   have hs1 : e1.steps = e0.steps + 1 := by rw [he1]; rfl
   have herr : e1.ans.err = (if (poolMem c wd0).2 then 0 else 8) := by rw [he1]; rfl
   have hno : pIs calls 0 e1 = false := by
    cases hp : pIs calls 0 e1 with
    | false => rfl
    | true => have := (isK_spec.1 (pIs_spec.1 hp).1).2.1; omega
   have hn2 : (poolAct c wd0).1.now = st.wd.now + 1 := hnow
   by_cases hm : st.wd.mem.ws.getD a 0 = 2 * (c.a / 1024) + 1
   ·have hsw2 : poolMem c wd0 = ({ ws := wd0.mem.ws.set a (2 * (c.a / 1024)), c := { wd0.mem.c with swap := wd0.mem.c.swap + 1 } }, true) := by rw [hpm, hsw, if_pos (by rw [hmem]; exact hm)]
    have hok : pIs calls 1 e1 = true := pIs_spec.2 ⟨isK_spec.2 ⟨by rw [he1]; exact g1, k1, by omega⟩, by rw [herr, hsw2]; rfl⟩
    have harg : argOf calls e1 = poRef a (c.a / 1024) := by
     have h9 : argOf calls e1 = (calls.getD e0.call d0).a := by rw [he1]; rfl
     rw [h9, ← b4]; exact c5
    have hws : (poolAct c wd0).1.mem.ws = st.wd.mem.ws.set a (2 * (c.a / 1024)) := by
     show (poolMem c wd0).1.ws = _
     rw [hsw2, hmem]
    refine po_rest hg h hq hnx (.inr r1) rfl (fun p a' f' m' r' hpq _ h1 h2 h3 h4 => ?_) (fun s1 k1 hx => by cases hx) (fun _ => ⟨by omega, fun h6 => ?_⟩) (fun h0 => by omega) ?_
    ·show (poolAct c wd0).1.mem.ws.getD a' 0 = m'
     rw [hws]
     have : a' ≠ a := by rintro rfl; omega
     rw [getD_set_neq (Ne.symm this)]; exact h3
    ·rw [herr, hsw2] at h6; simp at h6
    ·show PoW n k calls (poolAct c wd0).1.now (poolAct c wd0).1.mem.ws (evs0.set j e1)
     rw [hn2, hws]
     exact po_w_give hnk hg h.w hnx hok r1 c2 harg hm
   ·have hsw2 : poolMem c wd0 = ({ wd0.mem with c := { wd0.mem.c with swap := wd0.mem.c.swap + 1 } }, false) := by rw [hpm, hsw, if_neg (by rw [hmem]; exact hm)]
    have hno1 : pIs calls 1 e1 = false := by
     cases hp : pIs calls 1 e1 with
     | false => rfl
     | true =>
      have h9 := (pIs_spec.1 hp).2
      rw [herr, hsw2] at h9; simp at h9
    have hws : (poolAct c wd0).1.mem.ws = st.wd.mem.ws := by
     show (poolMem c wd0).1.ws = _
     rw [hsw2]; show wd0.mem.ws = _; rw [hmem]
    refine po_rest hg h hq hnx (.inr r1) rfl (fun p a' f' m' r' hpq _ h1 h2 h3 h4 => ?_) (fun s1 k1 hx => by cases hx) (fun _ => ⟨by omega, fun h6 => ?_⟩) (fun h0 => by omega) ?_
    ·show (poolAct c wd0).1.mem.ws.getD a' 0 = m'
     rw [hws]; exact h3
    ·rw [herr, hsw2] at h6; simp at h6
    ·show PoW n k calls (poolAct c wd0).1.now (poolAct c wd0).1.mem.ws (evs0.set j e1)
     rw [hn2, hws]
     exact po_w_same hg h.w hnx hno hno1
  | .take a f m true r, ⟨⟨b1, b2, b3, b4, b5, b6, b7, b8⟩, b9⟩ =>
   obtain ⟨m1, m2⟩ := b5 rfl
   subst b4
   have han : a < n * k := rng_in hqn (by omega)
   have haw : a < wd0.mem.ws.length := by rw [hmem, h.w.wlen]; exact han
   obtain ⟨w1, w2, w3⟩ := memW (m + 3) haw
   obtain ⟨e1, he1⟩ : ∃ e1, e1 = finishEv (doWrite wd0 a (m + 3)) q ⟨0, poRef a (m / 2 + 1), []⟩ [] e0 := ⟨_, rfl⟩
   have hto : stepTo st ((poolS n k).step st.obj wd0 q (.take a f m true (0, 0))) q i j evs0 = { wd := doWrite wd0 a (m + 3), obj := (), fin := st.fin.set i true, hands := st.hands.set q (none, j), evs := evs0.set j e1, idle := st.idle } := by rw [he1, he0]; rfl
   rw [hto]
   have r1 : e1.resp = st.wd.now + 1 := by rw [he1]; exact hnow
   have hnx := hf.next hg hN e1 (by rw [he1, he0]; rfl)
   have hok : pIs calls 0 e1 = true := pIs_spec.2 ⟨isK_spec.2 ⟨by rw [he1]; exact g1, by rw [he1]; exact b6, by omega⟩, by rw [he1]; rfl⟩
   have hv1 : e1.ans.val = poRef a (m / 2 + 1) := by rw [he1]; rfl
   have hs1 : e1.steps = e0.steps + 1 := by rw [he1]; rfl
   have htn1 : tn calls e1 = q := hnx.thr
   have hws : (doWrite wd0 a (m + 3)).mem.ws = st.wd.mem.ws.set a (m + 3) := by unfold doWrite; rw [w1, hmem]
   have hn2 : (doWrite wd0 a (m + 3)).now = st.wd.now + 1 := hnow
   refine po_rest hg h hq hnx (.inr r1) rfl (fun p a' f' m' r' hpq _ h1 h2 h3 h4 => ?_) (fun s1 k1 hx => by cases hx) (fun _ => ⟨?_, fun h6 => ?_⟩) (fun h0 => by omega) ?_
   ·show (doWrite wd0 a (m + 3)).mem.ws.getD a' 0 = m'
    rw [hws]
    have : a' ≠ a := rng_apart hpq h1 h2 b2 (by omega)
    rw [getD_set_neq (Ne.symm this)]; exact h3
   ·simp only [if_true] at b8; omega
   ·rw [he1] at h6; simp [finishEv] at h6
   ·show PoW n k calls (doWrite wd0 a (m + 3)).now (doWrite wd0 a (m + 3)).mem.ws (evs0.set j e1)
    rw [hn2, hws]
    exact po_w_take hnk hg h.w hnx hok r1 han (by rw [htn1]; exact b2) (by rw [htn1]; omega) m1 m2 hv1
  | .take a f m false r, ⟨⟨b1, b2, b3, b4, b5, b6, b7, b8⟩, b9⟩ =>
   subst b4
   have han : a < n * k := rng_in hqn (by omega)
   have haw : a < wd0.mem.ws.length := by rw [hmem, h.w.wlen]; exact han
   obtain ⟨w1, w2, w3, w4⟩ := memR haw
   have hgot : taGot wd0 a = st.wd.mem.ws.getD a 0 := by unfold taGot; rw [w2, hmem]
   have hws : (taRead wd0 a).mem.ws = st.wd.mem.ws := by unfold taRead; rw [w1, hmem]
   have hn2 : (taRead wd0 a).now = st.wd.now + 1 := hnow
   have hop : (stepEv e0).resp = 0 := hopen
   have hnx := hf.next hg hN (stepEv e0) (by rw [he0]; rfl)
   simp only [Bool.false_eq_true, if_false, Nat.add_zero] at b8
   have kept : cnt (pRT calls (q * k) a e0.inv) (evs0.set j (stepEv e0)) = cnt (pRT calls (q * k) a e0.inv) st.evs ∧ cnt (pRG calls (q * k) a e0.inv) (evs0.set j (stepEv e0)) = cnt (pRG calls (q * k) a e0.inv) st.evs := ⟨hnx.cnt0 pRT_open (pRT_open _ hop), hnx.cnt0 pRG_open (pRG_open _ hop)⟩
   by_cases hev : taGot wd0 a % 2 = 0
   ·have hstep : (poolS n k).step st.obj wd0 q (.take a f m false (0, 0)) = ((), taRead wd0 a, .take a f (taGot wd0 a) true (0, 0), false) := if_pos hev
    have hto : stepTo st ((poolS n k).step st.obj wd0 q (.take a f m false (0, 0))) q i j evs0 = { wd := taRead wd0 a, obj := (), fin := st.fin, hands := st.hands.set q (some (.take a f (taGot wd0 a) true (0, 0)), j), evs := evs0.set j (stepEv e0), idle := st.idle } := by rw [hstep, he0]; rfl
    rw [hto]
    refine po_rest hg h hq hnx (.inl hop) rfl (fun p a' f' m' r' hpq _ h1 h2 h3 h4 => ?_) (fun s1 k1 hx => ?_) (fun hne => absurd hop hne) (fun _ => g6) ?_
    ·show (taRead wd0 a).mem.ws.getD a' 0 = m'
     rw [hws]; exact h3
    ·cases hx
     simp only
     rw [hnx.self]
     refine ⟨g1, b1, b2, b3, rfl, fun _ => ⟨?_, hev⟩, b6, ?_, by show e0.steps + 1 = _; simp only [if_true]; omega⟩
     ·show (taRead wd0 a).mem.ws.getD a 0 = _
      rw [hws, hgot]
     ·show cnt (pRT calls (q * k) a e0.inv) (evs0.set j (stepEv e0)) = cnt (pRG calls (q * k) a e0.inv) (evs0.set j (stepEv e0)) + (a - q * k)
      rw [kept.1, kept.2]; exact b7
    ·show PoW n k calls (taRead wd0 a).now (taRead wd0 a).mem.ws (evs0.set j (stepEv e0))
     rw [hn2, hws]
     exact po_w_same hg h.w hnx (pIs_open hop) (pIs_open hop)
   ·have hfull := po_full hnk h.w han b2 (by omega) g5 b9 (by rw [← hgot]; exact hev) b7
    by_cases hla : a + 1 < f
    ·have hstep : (poolS n k).step st.obj wd0 q (.take a f m false (0, 0)) = ((), taRead wd0 a, .take (a + 1) f (taGot wd0 a) false (0, 0), false) := (if_neg hev).trans (if_pos hla)
     have hto : stepTo st ((poolS n k).step st.obj wd0 q (.take a f m false (0, 0))) q i j evs0 = { wd := taRead wd0 a, obj := (), fin := st.fin, hands := st.hands.set q (some (.take (a + 1) f (taGot wd0 a) false (0, 0)), j), evs := evs0.set j (stepEv e0), idle := st.idle } := by rw [hstep, he0]; rfl
     rw [hto]
     refine po_rest hg h hq hnx (.inl hop) rfl (fun p a' f' m' r' hpq _ h1 h2 h3 h4 => ?_) (fun s1 k1 hx => ?_) (fun hne => absurd hop hne) (fun _ => g6) ?_
     ·show (taRead wd0 a).mem.ws.getD a' 0 = m'
      rw [hws]; exact h3
     ·cases hx
      simp only
      rw [hnx.self]
      refine ⟨g1, b1, by omega, hla, rfl, (fun h => by cases h), b6, ?_, by show e0.steps + 1 = _; simp only [Bool.false_eq_true, if_false]; omega⟩
      show cnt (pRT calls (q * k) (a + 1) e0.inv) (evs0.set j (stepEv e0)) = cnt (pRG calls (q * k) (a + 1) e0.inv) (evs0.set j (stepEv e0)) + (a + 1 - q * k)
      rw [hnx.cnt0 pRT_open (pRT_open _ hop), hnx.cnt0 pRG_open (pRG_open _ hop)]; exact hfull
     ·show PoW n k calls (taRead wd0 a).now (taRead wd0 a).mem.ws (evs0.set j (stepEv e0))
      rw [hn2, hws]
      exact po_w_same hg h.w hnx (pIs_open hop) (pIs_open hop)
    ·have hstep : (poolS n k).step st.obj wd0 q (.take a f m false (0, 0)) = ((), taRead wd0 a, .take (a + 1) f (taGot wd0 a) false (6, 0), true) := (if_neg hev).trans (if_neg hla)
     obtain ⟨e1, he1⟩ : ∃ e1, e1 = finishEv (taRead wd0 a) q ⟨6, 0, []⟩ [] e0 := ⟨_, rfl⟩
     have hto : stepTo st ((poolS n k).step st.obj wd0 q (.take a f m false (0, 0))) q i j evs0 = { wd := taRead wd0 a, obj := (), fin := st.fin.set i true, hands := st.hands.set q (none, j), evs := evs0.set j e1, idle := st.idle } := by rw [hstep, he1, he0]; rfl
     rw [hto]
     have r1 : e1.resp = st.wd.now + 1 := by rw [he1]; exact hnow
     have hnx1 := hf.next hg hN e1 (by rw [he1, he0]; rfl)
     have he6 : e1.ans.err = 6 := by rw [he1]; rfl
     have hno : ∀ kd, pIs calls kd e1 = false := fun kd => by
      cases hp : pIs calls kd e1 with
      | false => rfl
      | true => exact absurd ((pIs_spec.1 hp).2.symm.trans he6) (by decide)
     have hs1 : e1.steps = e0.steps + 1 := by rw [he1]; rfl
     have hi1 : e1.inv = e0.inv := by rw [he1]; rfl
     refine po_rest hg h hq hnx1 (.inr r1) rfl (fun p a' f' m' r' hpq _ h1 h2 h3 h4 => ?_) (fun s1 k1 hx => by cases hx) (fun _ => ⟨by omega, fun _ => ?_⟩) (fun h0 => by omega) ?_
     ·show (taRead wd0 a).mem.ws.getD a' 0 = m'
      rw [hws]; exact h3
     ·show cnt (pRT calls (tn calls e1 * k) (tn calls e1 * k + k) e1.inv) (evs0.set j e1) = cnt (pRG calls (tn calls e1 * k) (tn calls e1 * k + k) e1.inv) (evs0.set j e1) + k
      rw [hnx1.thr, hi1, hnx1.cnt0 pRT_open (pRT_late (by omega)), hnx1.cnt0 pRG_open (pRG_late (by omega)), show q * k + k = a + 1 by omega, hfull]
      omega
     ·show PoW n k calls (taRead wd0 a).now (taRead wd0 a).mem.ws (evs0.set j e1)
      rw [hn2, hws]
      exact po_w_same hg h.w hnx1 (hno 0) (hno 1)
theorem po_play0 {n k : Nat} (calls : List CallD) : PoInv n k calls (play0 (poolS n k) () (List.replicate (n * k) 0) calls) := by
 have hz : ∀ a, (List.replicate (n * k) 0).getD a 0 = 0 := fun a => getD_rep'
 refine ⟨⟨?_, fun a ha => ?_, fun i hi => ?_, fun i hi => ?_, fun a ha ho => ?_, fun i j hi => ?_, fun i j hi => ?_, fun a t ha => ?_, fun a ha => ?_⟩, fun p s j hp => ?_, fun i hi => ?_, fun i hi => ?_⟩
 ·show (List.replicate (n * k) 0).length = n * k
  simp
 ·show (List.replicate (n * k) 0).getD a 0 ≤ _
  rw [hz]; omega
 ·simp [play0] at hi
 ·simp [play0] at hi
 ·have : (List.replicate (n * k) 0).getD a 0 % 2 = 1 := ho
  rw [hz] at this; omega
 ·simp [play0] at hi
 ·simp [play0] at hi
 ·show cnt _ [] ≤ cnt _ [] + 1
  simp [cnt_nil]
 ·show cnt _ [] = cnt _ [] + (List.replicate (n * k) 0).getD a 0 % 2
  rw [hz]; simp [cnt_nil]
 ·rw [show (play0 (poolS n k) () (List.replicate (n * k) 0) calls).hands.getD p (none, 0) = (none, 0) from getD_rep'] at hp; cases hp
 ·simp [play0] at hi
 ·simp [play0] at hi
theorem pool_now {n k : Nat} : ∀ (o : (poolS n k).ω) (wd : WD) (p : Nat) (s : (poolS n k).σ), ((poolS n k).step o wd p s).2.1.now = wd.now := by
 intro o wd p s
 match s with
 | .once c r => rfl
 | .take a f m true r => rfl
 | .take a f m false r =>
  by_cases h1 : taGot wd a % 2 = 0
  ·rw [show (poolS n k).step o wd p (.take a f m false r) = _ from if_pos h1]; rfl
  ·by_cases h2 : a + 1 < f
   ·rw [show (poolS n k).step o wd p (.take a f m false r) = _ from (if_neg h1).trans (if_pos h2)]; rfl
   ·rw [show (poolS n k).step o wd p (.take a f m false r) = _ from (if_neg h1).trans (if_neg h2)]; rfl
theorem po_picks {n k : Nat} (hk1 : 1 ≤ k) (hk2 : k ≤ 32) {calls : List CallD} {np : Nat} (hck : checkN n calls np = 0) (l : List Int) : StGood calls (picksD (poolS n k) calls (play0 (poolS n k) () (List.replicate (n * k) 0) calls) l) ∧ PoInv n k calls (picksD (poolS n k) calls (play0 (poolS n k) () (List.replicate (n * k) 0) calls) l) ∧
  (picksD (poolS n k) calls (play0 (poolS n k) () (List.replicate (n * k) 0) calls) l).wd.now ≤ l.length := by
 obtain ⟨h1, h2⟩ := n_ok hck
 have hnk : n * k ≤ 512 := by
  have : n * k ≤ 16 * 32 := Nat.mul_le_mul (by omega) hk2
  omega
 have hthr : ∀ c, c < calls.length → 0 ≤ (calls.getD c d0).thread ∧ (calls.getD c d0).thread < n := fun c hc => by have := thr_ok hck c hc; omega
 have hnow := pool_now (n := n) (k := k)
 obtain ⟨a, b⟩ := picks_ind (S := poolS n k) hnow (thr_16 hck) (J := PoInv n k calls) (fun st st' hg _ hj ht => po_turn hk1 hnk hthr hg hj ht) l (play0_good (S := poolS n k) calls () (List.replicate (n * k) 0)) (po_play0 calls)
 refine ⟨a, b, ?_⟩
 have htk := picks_ticks hnow (play0 (poolS n k) () (List.replicate (n * k) 0) calls) l (calls := calls)
 rw [show (play0 (poolS n k) () (List.replicate (n * k) 0) calls).wd.now = 0 from rfl, show (play0 (poolS n k) () (List.replicate (n * k) 0) calls).idle = 0 from rfl] at htk
 omega
def poLive (n k : Nat) : PoS → Prop
 | .take a f m free r => a < f ∧ f ≤ n * k ∧ (free = true → m < 1000000) ∧ r = (0, 0)
 | .once _ _ => True
end Go.Proofs.YteffgpcjfnjlkaaGreat
