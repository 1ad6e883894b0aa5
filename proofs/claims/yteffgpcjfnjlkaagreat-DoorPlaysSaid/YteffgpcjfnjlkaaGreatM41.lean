/- Layer 12: the door: what every play of one keeps, in plain numbers. -/
import Derived.Test.YteffgpcjfnjlkaaGreatM40
set_option maxRecDepth 100000
set_option linter.unusedVariables false
set_option linter.unusedSimpArgs false
set_option linter.unnecessarySimpa false
namespace Go.Proofs.YteffgpcjfnjlkaaGreat
open Go.RowKit
inductive DoS where
  | take (at_ ph : Nat)
  | once (c : CallD) (r : Int × Nat)
def doWrite (wd : WD) (p v : Nat) : WD := { wd with mem := memWrite wd.mem (p : Int) v }
def doorAct (c : CallD) (wd : WD) : WD × (Int × Nat) := (taRead wd c.a, (0, taGot wd c.a))
def doorS (n : Nat) : Sys where
  σ := DoS
  ω := Unit
  start := fun _ _ _ c => if c.kind = 0 then .run (.take 0 0) else if c.kind ≠ 1 then .refuse 9 else if c.a < n then .run (.once c (0, 0)) else .refuse 10
  step := fun _ wd p s => match s with
    | .take a v => if a < n then ((), taRead wd a, .take (a + 1) (max v (taGot wd a)), false) else ((), doWrite wd p (v + 1), .take a (v + 1), true)
    | .once c _ => ((), (doorAct c wd).1, .once c (doorAct c wd).2, true)
  answer := fun s => match s with
    | .take _ v => (⟨0, v, []⟩, [])
    | .once _ r => (⟨r.1, r.2, []⟩, [])
  late := fun _ _ _ _ => none
def doSeen (calls : List CallD) (evs : List EvD) (a iv v : Nat) : Prop := ∀ i, i < evs.length → isK calls 0 (evAt evs i) = true → (evAt evs i).resp < iv → tn calls (evAt evs i) < a → (evAt evs i).ans.val ≤ v
def doHand (n : Nat) (calls : List CallD) (st : PlayD (doorS n)) (p : Nat) (e : EvD) : DoS → Prop
  | .take a v => a ≤ n ∧ v ≤ cnt (tP4 calls st.wd.now) st.evs ∧ (p < a → st.wd.mem.ws.getD p 0 ≤ v) ∧ doSeen calls st.evs a e.inv v ∧ e.steps = a ∧ kindOf calls e = 0 ∧ 1 ≤ a
  | .once _ _ => False
def doDone (n : Nat) (calls : List CallD) (evs : List EvD) (e : EvD) : Prop :=
  e.steps ≤ n + 1 ∧ (objOf calls e = 0 → kindOf calls e = 0 → e.inv < e.resp ∧ 1 ≤ e.ans.val ∧ e.ans.val ≤ cnt (tP4 calls e.resp) evs ∧
    ∀ j, j < evs.length → isK calls 0 (evAt evs j) = true → (evAt evs j).resp < e.inv → (evAt evs j).ans.val < e.ans.val)
structure DoInv (n : Nat) (calls : List CallD) (st : PlayD (doorS n)) : Prop where
  wlen : st.wd.mem.ws.length = n
  top : ∀ t, t < n → st.wd.mem.ws.getD t 0 ≤ cnt (tP4 calls st.wd.now) st.evs
  low : ∀ i, i < st.evs.length → isK calls 0 (evAt st.evs i) = true → (evAt st.evs i).ans.val ≤ st.wd.mem.ws.getD (tn calls (evAt st.evs i)) 0
  hand : ∀ p s k, st.hands.getD p (none, 0) = (some s, k) → objOf calls (evAt st.evs k) = 0 ∧ doHand n calls st p (evAt st.evs k) s
  done : ∀ i, i < st.evs.length → (evAt st.evs i).resp ≠ 0 → doDone n calls st.evs (evAt st.evs i)
def doPre (n : Nat) (calls : List CallD) (st : PlayD (doorS n)) (q : Nat) (e : EvD) : DoS → Prop
  | .take a v => a ≤ n ∧ v ≤ cnt (tP4 calls st.wd.now) st.evs ∧ (q < a → st.wd.mem.ws.getD q 0 ≤ v) ∧ doSeen calls st.evs a e.inv v ∧ e.steps = a ∧ kindOf calls e = 0 ∧ (1 ≤ a → e.inv < st.wd.now + 1)
  | .once c _ => e.steps = 0 ∧ kindOf calls e = 1 ∧ c.a < n
theorem do_pre {n : Nat} {calls : List CallD} {st : PlayD (doorS n)} {q i k : Nat} {s : DoS} {evs0 : List EvD} {wd0 : WD} (hg : StGood calls st) (h : DoInv n calls st) (hf : From calls st q i k s evs0 wd0) :
    objOf calls (evAt evs0 k) = 0 ∧ doPre n calls st q (evAt evs0 k) s ∧ (evAt evs0 k).inv ≤ st.wd.now + 1 := by
  rcases hf.or with ⟨hh, hk, hc, hr, rfl, rfl⟩ | ⟨hh, hs, rfl, rfl, rfl⟩
  · obtain ⟨g1, g2⟩ := h.hand q s k hh
    have ht := hg.ev.tick k hk
    refine ⟨g1, ?_, by omega⟩
    match s, g2 with
    | .take a v, ⟨b1, b2, b3, b4, b5, b6, b7⟩ => exact ⟨b1, b2, b3, b4, b5, b6, fun _ => by omega⟩
  · have he : evAt (st.evs ++ [newEv i (st.wd.tick.begin q)]) st.evs.length = newEv i (st.wd.tick.begin q) := evAt_last
    rw [he]
    have ho : objOf calls (newEv i (st.wd.tick.begin q)) = (calls.getD i d0).obj := rfl
    have hkd : kindOf calls (newEv i (st.wd.tick.begin q)) = (calls.getD i d0).kind := rfl
    have hi : (newEv i (st.wd.tick.begin q)).inv = st.wd.now + 1 := rfl
    have hst : (newEv i (st.wd.tick.begin q)).steps = 0 := rfl
    rw [ho, hi]
    unfold startD at hs
    by_cases ho0 : (calls.getD i d0).obj = 0
    · rw [if_pos ho0] at hs
      refine ⟨ho0, ?_, Nat.le_refl _⟩
      by_cases hk0 : (calls.getD i d0).kind = 0
      · have e1 : (doorS n).start st.obj (st.wd.tick.begin q) q (calls.getD i d0) = .run (.take 0 0) := if_pos hk0
        rw [e1] at hs; cases hs
        exact ⟨Nat.zero_le _, Nat.zero_le _, fun h => absurd h (Nat.not_lt_zero _), fun j _ _ _ h => absurd h (Nat.not_lt_zero _), hst, by rw [hkd, hk0], fun h => absurd h (by decide)⟩
      · by_cases hk1 : (calls.getD i d0).kind = 1
        · by_cases ha : (calls.getD i d0).a < n
          · have e1 : (doorS n).start st.obj (st.wd.tick.begin q) q (calls.getD i d0) = .run (.once (calls.getD i d0) (0, 0)) := (if_neg hk0).trans ((if_neg (by simpa using hk1)).trans (if_pos ha))
            rw [e1] at hs; cases hs
            exact ⟨hst, by rw [hkd, hk1], ha⟩
          · have e1 : (doorS n).start st.obj (st.wd.tick.begin q) q (calls.getD i d0) = .refuse 10 := (if_neg hk0).trans ((if_neg (by simpa using hk1)).trans (if_neg ha))
            rw [e1] at hs; cases hs
        · have e1 : (doorS n).start st.obj (st.wd.tick.begin q) q (calls.getD i d0) = .refuse 9 := (if_neg hk0).trans (if_pos hk1)
          rw [e1] at hs; cases hs
    · rw [if_neg ho0] at hs; cases hs
theorem do_seen_next {calls : List CallD} {S : Sys} {st : PlayD S} {q k : Nat} {evs' : List EvD} {e1 : EvD} (hx : Next calls st q evs' k e1) (hr : e1.resp = 0 ∨ e1.resp = st.wd.now + 1) {a iv v : Nat} (hiv : iv ≤ st.wd.now + 1) (h : doSeen calls st.evs a iv v) : doSeen calls evs' a iv v := by
  intro i hi hk h1 h2
  by_cases hik : i = k
  · subst hik
    rw [hx.self] at hk h1
    rcases hr with h0 | h0
    · rw [isK_open h0] at hk; cases hk
    · omega
  · obtain ⟨m1, m2⟩ := hx.other i hi hik
    rw [m2] at hk h1 h2 ⊢
    exact h i m1 hk h1 h2
theorem do_done_next {n : Nat} {calls : List CallD} {S : Sys} {st : PlayD S} {q k : Nat} {evs' : List EvD} {e1 e : EvD} (hx : Next calls st q evs' k e1) (hr : e1.resp = 0 ∨ e1.resp = st.wd.now + 1) (he : e.resp ≤ st.wd.now) (hiv : e.inv ≤ st.wd.now) (h : doDone n calls st.evs e) : doDone n calls evs' e := by
  refine ⟨h.1, fun ho hk => ?_⟩
  obtain ⟨h1, h2, h3, h4⟩ := h.2 ho hk
  refine ⟨h1, h2, by rw [hx.past hr he]; exact h3, fun j hj hjk hjr => ?_⟩
  by_cases hjk2 : j = k
  · subst hjk2
    rw [hx.self] at hjk hjr
    rcases hr with h0 | h0
    · rw [isK_open h0] at hjk; cases hjk
    · omega
  · obtain ⟨m1, m2⟩ := hx.other j hj hjk2
    rw [m2] at hjk hjr ⊢
    exact h4 j m1 hjk hjr
theorem do_same {n : Nat} {calls : List CallD} {st st' : PlayD (doorS n)} {q k : Nat} {e1 : EvD} {x : Option (doorS n).σ × Nat} (hg : StGood calls st) (h : DoInv n calls st) (hq : q < 16) (hx : Next calls st q st'.evs k e1) (hr : e1.resp = 0 ∨ e1.resp = st.wd.now + 1) (hno : isK calls 0 e1 = false)
    (hw : st'.wd.mem.ws = st.wd.mem.ws) (hnow : st'.wd.now = st.wd.now + 1) (hh : st'.hands = st.hands.set q x) (hhand : ∀ s1 k1, x = (some s1, k1) → objOf calls (evAt st'.evs k1) = 0 ∧ doHand n calls st' q (evAt st'.evs k1) s1)
    (hdone : e1.resp ≠ 0 → doDone n calls st'.evs e1) : DoInv n calls st' := by
  have hgr := hx.grow
  refine ⟨by rw [hw]; exact h.wlen, fun t ht => ?_, fun i hi hk => ?_, fun p s k2 hp => ?_, fun i hi hri => ?_⟩
  · rw [hw, hnow]; exact Nat.le_trans (h.top t ht) hgr
  · have hik : i ≠ k := by
      rintro rfl
      rw [hx.self, hno] at hk; cases hk
    obtain ⟨m1, m2⟩ := hx.other i hi hik
    rw [m2] at hk ⊢
    rw [hw]; exact h.low i m1 hk
  · rw [hh, hands_set hg.h16 hq] at hp
    by_cases hpq : p = q
    · subst hpq
      rw [if_pos rfl] at hp
      exact hhand s k2 hp
    · rw [if_neg hpq] at hp
      obtain ⟨a1, a2⟩ := h.hand p s k2 hp
      obtain ⟨n1, n2⟩ := hx.apart p s k2 hpq hp
      obtain ⟨_, n3⟩ := hx.other k2 (Nat.lt_of_lt_of_le n2 hx.size) n1
      have hiv := (hg.ev.tick k2 n2).2.1
      rw [n3]
      refine ⟨a1, ?_⟩
      match s, a2 with
      | .take a v, ⟨b1, b2, b3, b4, b5, b6, b7⟩ =>
        exact ⟨b1, by rw [hnow]; exact Nat.le_trans b2 hgr, by rw [hw]; exact b3, do_seen_next hx hr (by omega) b4, b5, b6, b7⟩
  · by_cases hik : i = k
    · subst hik
      rw [hx.self] at hri ⊢
      exact hdone hri
    · obtain ⟨m1, m2⟩ := hx.other i hi hik
      rw [m2] at hri ⊢
      have ht := hg.ev.tick i m1
      exact do_done_next hx hr (by omega) (by omega) (h.done i m1 hri)
theorem do_turn {n : Nat} (hn : 1 ≤ n) {calls : List CallD} (hthr : ∀ c, c < calls.length → 0 ≤ (calls.getD c d0).thread ∧ (calls.getD c d0).thread < n) {st st' : PlayD (doorS n)} (hg : StGood calls st) (h : DoInv n calls st) (ht : Turn calls st st') : DoInv n calls st' := by
  cases ht with
  | idle => exact ⟨h.wlen, h.top, h.low, fun p s k hp => by
      obtain ⟨a1, a2⟩ := h.hand p s k hp
      refine ⟨a1, ?_⟩
      match s, a2 with
      | .take a v, a2 => exact a2, h.done⟩
  | refuse q i er hq hN hh hs =>
    obtain ⟨e, he⟩ : ∃ e, e = finishEv (st.wd.tick.begin q) q ⟨er, 0, []⟩ [] (newEv i (st.wd.tick.begin q)) := ⟨_, rfl⟩
    have hst : refuseTo st q i er = { wd := st.wd.tick.begin q, obj := st.obj, fin := st.fin.set i true, hands := st.hands.set q (none, st.evs.length), evs := st.evs ++ [e], idle := st.idle } := by rw [he]; rfl
    have er1 : e.resp = st.wd.now + 1 := by rw [he]; rfl
    have eo : objOf calls e = (calls.getD i d0).obj := by rw [he]; rfl
    have ekd : kindOf calls e = (calls.getD i d0).kind := by rw [he]; rfl
    have est : e.steps = 1 := by rw [he]; rfl
    have hkind : ¬ (objOf calls e = 0 ∧ kindOf calls e = 0) := by
      rintro ⟨k1, k2⟩
      rw [eo] at k1; rw [ekd] at k2
      unfold startD at hs
      rw [if_pos k1] at hs
      have e1 : (doorS n).start st.obj (st.wd.tick.begin q) q (calls.getD i d0) = .run (.take 0 0) := if_pos k2
      rw [e1] at hs; cases hs
    have hno : isK calls 0 e = false := by
      cases hk : isK calls 0 e with
      | false => rfl
      | true => have := isK_spec.1 hk; exact absurd ⟨this.1, this.2.1⟩ hkind
    rw [hst]
    exact do_same hg h hq (refuse_next hg hN e (by rw [he]; rfl)) (.inr er1) hno rfl rfl rfl (fun s1 k1 hx => by cases hx) (fun _ => ⟨by omega, fun k1 k2 => absurd ⟨k1, k2⟩ hkind⟩)
  | step q i k s evs0 wd0 hq hN hf =>
    obtain ⟨g1, g2, g5⟩ := do_pre hg h hf
    obtain ⟨e0, he0⟩ : ∃ e0, e0 = evAt evs0 k := ⟨_, rfl⟩
    have htn0 : tn calls e0 = q := by rw [he0]; exact hf.tn hN
    have hqn : q < n := by
      have := hthr i (nowN_spec hN).1
      rw [(nowN_spec hN).2.1] at this; omega
    rw [← he0] at g1 g2 g5
    have hmem := hf.mem; have hnow := hf.now
    have hopen : e0.resp = 0 := by rw [he0]; exact hf.open_
    match s, g2 with
    | .once c r, ⟨b1, b2, b3⟩ =>
      obtain ⟨e1, he1⟩ : ∃ e1, e1 = finishEv (doorAct c wd0).1 q ⟨(doorAct c wd0).2.1, (doorAct c wd0).2.2, []⟩ [] e0 := ⟨_, rfl⟩
      have hto : stepTo st ((doorS n).step st.obj wd0 q (.once c r)) q i k evs0 = { wd := (doorAct c wd0).1, obj := (), fin := st.fin.set i true, hands := st.hands.set q (none, k), evs := evs0.set k e1, idle := st.idle } := by rw [he1, he0]; rfl
      rw [hto]
      have r1 : e1.resp = st.wd.now + 1 := by rw [he1]; exact hnow
      have k1 : kindOf calls e1 = 1 := by rw [he1]; exact b2
      have hno : isK calls 0 e1 = false := by
        cases hk : isK calls 0 e1 with
        | false => rfl
        | true => have := (isK_spec.1 hk).2.1; omega
      have haw : c.a < wd0.mem.ws.length := by rw [hmem, h.wlen]; exact b3
      refine do_same hg h hq (hf.next hg hN e1 (by rw [he1, he0]; rfl)) (.inr r1) hno ?_ hnow rfl (fun s1 k1 hx => by cases hx) (fun _ => ⟨?_, fun _ k2 => by omega⟩)
      · show (taRead wd0 c.a).mem.ws = _
        unfold taRead; rw [(memR haw).1, hmem]
      · have : e1.steps = e0.steps + 1 := by rw [he1]; rfl
        omega
    | .take a v, ⟨b1, b2, b3, b4, b5, b6, b7⟩ =>
      by_cases hla : a < n
      · have haw : a < wd0.mem.ws.length := by rw [hmem, h.wlen]; exact hla
        obtain ⟨m1, m2, m3, m4⟩ := memR haw
        have hgot : taGot wd0 a = st.wd.mem.ws.getD a 0 := by unfold taGot; rw [m2, hmem]
        have hws : (taRead wd0 a).mem.ws = st.wd.mem.ws := by unfold taRead; rw [m1, hmem]
        have hstep : (doorS n).step st.obj wd0 q (.take a v) = ((), taRead wd0 a, .take (a + 1) (max v (taGot wd0 a)), false) := if_pos hla
        have hto : stepTo st ((doorS n).step st.obj wd0 q (.take a v)) q i k evs0 = { wd := taRead wd0 a, obj := (), fin := st.fin, hands := st.hands.set q (some (.take (a + 1) (max v (taGot wd0 a))), k), evs := evs0.set k (stepEv e0), idle := st.idle } := by rw [hstep, he0]; rfl
        rw [hto]
        have hop : (stepEv e0).resp = 0 := hopen
        have hnx := hf.next hg hN (stepEv e0) (by rw [he0]; rfl)
        have hgr := hnx.grow
        refine do_same hg h hq hnx (.inl hop) (isK_open hop) hws hnow rfl (fun s1 k1 hx => ?_) (fun hne => absurd hop hne)
        cases hx
        simp only
        rw [hnx.self]
        have htop := h.top a hla
        refine ⟨g1, by omega, ?_, fun hqa => ?_, do_seen_next hnx (.inl hop) g5 ?_, by show e0.steps + 1 = a + 1; omega, b6, by omega⟩
        · show max v (taGot wd0 a) ≤ cnt _ (evs0.set k (stepEv e0))
          rw [show (taRead wd0 a).now = st.wd.now + 1 from hnow]; omega
        · show (taRead wd0 a).mem.ws.getD q 0 ≤ _
          rw [hws]
          by_cases hqa' : q < a
          · have := b3 hqa'; omega
          · obtain rfl : q = a := by omega
            omega
        · intro j hj hjk hjr hjt
          by_cases hja : tn calls (evAt st.evs j) < a
          · have := b4 j hj hjk hjr hja; omega
          · have hja' : tn calls (evAt st.evs j) = a := by omega
            have := h.low j hj hjk
            rw [hja'] at this
            omega
      · obtain rfl : a = n := by omega
        have hqw : q < wd0.mem.ws.length := by rw [hmem, h.wlen]; exact hqn
        obtain ⟨m1, m2, m3⟩ := memW (v + 1) hqw
        have hstep : (doorS a).step st.obj wd0 q (.take a v) = ((), doWrite wd0 q (v + 1), .take a (v + 1), true) := if_neg hla
        obtain ⟨e1, he1⟩ : ∃ e1, e1 = finishEv (doWrite wd0 q (v + 1)) q ⟨0, v + 1, []⟩ [] e0 := ⟨_, rfl⟩
        have hto : stepTo st ((doorS a).step st.obj wd0 q (.take a v)) q i k evs0 = { wd := doWrite wd0 q (v + 1), obj := (), fin := st.fin.set i true, hands := st.hands.set q (none, k), evs := evs0.set k e1, idle := st.idle } := by rw [hstep, he1, he0]; rfl
        rw [hto]
        have r1 : e1.resp = st.wd.now + 1 := by rw [he1]; exact hnow
        have hk1 : isK calls 0 e1 = true := isK_spec.2 ⟨by rw [he1]; exact g1, by rw [he1]; exact b6, by omega⟩
        have hv1 : e1.ans.val = v + 1 := by rw [he1]; rfl
        have hi1 : e1.inv = e0.inv := by rw [he1]; rfl
        have hnx := hf.next hg hN e1 (by rw [he1, he0]; rfl)
        have hgr := hnx.grow
        have hmo := hnx.more hk1 r1
        have hws : (doWrite wd0 q (v + 1)).mem.ws = st.wd.mem.ws.set q (v + 1) := by unfold doWrite; rw [m1, hmem]
        have hself : (st.wd.mem.ws.set q (v + 1)).getD q 0 = v + 1 := getD_set_eq (by rw [h.wlen]; exact hqn)
        have hoth : ∀ t, t ≠ q → (st.wd.mem.ws.set q (v + 1)).getD t 0 = st.wd.mem.ws.getD t 0 := fun t ht => getD_set_neq (Ne.symm ht)
        refine ⟨by show (doWrite wd0 q (v + 1)).mem.ws.length = a; rw [hws, List.length_set]; exact h.wlen, fun t ht => ?_, fun j hj hjk => ?_, fun p s k2 hp => ?_, fun j hj hri => ?_⟩
        · show (doWrite wd0 q (v + 1)).mem.ws.getD t 0 ≤ cnt (tP4 calls wd0.now) (evs0.set k e1)
          rw [hws, hnow]
          by_cases htq : t = q
          · subst htq; rw [hself]; omega
          · rw [hoth t htq]; have := h.top t ht; omega
        · show _ ≤ (doWrite wd0 q (v + 1)).mem.ws.getD _ 0
          rw [hws]
          simp only at hj hjk ⊢
          by_cases hjk2 : j = k
          · subst hjk2
            rw [hnx.self, hv1, hnx.thr, hself]; exact Nat.le_refl _
          · obtain ⟨p1, p2⟩ := hnx.other j hj hjk2
            rw [p2] at hjk ⊢
            have hl := h.low j p1 hjk
            by_cases htq : tn calls (evAt st.evs j) = q
            · rw [htq, hself]; rw [htq] at hl
              have := b3 hqn; omega
            · rw [hoth _ htq]; exact hl
        · simp only at hp
          rw [hands_set hg.h16 hq] at hp
          by_cases hpq : p = q
          · rw [if_pos hpq] at hp; cases hp
          · rw [if_neg hpq] at hp
            obtain ⟨a1, a2⟩ := h.hand p s k2 hp
            obtain ⟨n1, n2⟩ := hnx.apart p s k2 hpq hp
            obtain ⟨_, n3⟩ := hnx.other k2 (Nat.lt_of_lt_of_le n2 hnx.size) n1
            have hiv := (hg.ev.tick k2 n2).2.1
            simp only
            rw [n3]
            refine ⟨a1, ?_⟩
            match s, a2 with
            | .take a' v', ⟨c1, c2, c3, c4, c5, c6, c7⟩ =>
              refine ⟨c1, ?_, ?_, do_seen_next hnx (.inr r1) (by omega) c4, c5, c6, c7⟩
              · show v' ≤ cnt (tP4 calls wd0.now) (evs0.set k e1)
                rw [hnow]; omega
              · show p < a' → (doWrite wd0 q (v + 1)).mem.ws.getD p 0 ≤ v'
                rw [hws, hoth p hpq]; exact c3
        · simp only at hj hri ⊢
          by_cases hjk2 : j = k
          · subst hjk2
            rw [hnx.self]
            have hs1 : e1.steps = e0.steps + 1 := by rw [he1]; rfl
            have h7 := b7 hn
            refine ⟨by omega, fun _ _ => ⟨by omega, by omega, by rw [hv1, r1]; omega, fun m hm hmk hmr => ?_⟩⟩
            rw [hi1] at hmr
            by_cases hmj : m = j
            · subst hmj
              rw [hnx.self] at hmr; omega
            · obtain ⟨p1, p2⟩ := hnx.other m hm hmj
              rw [p2] at hmk hmr ⊢
              have h3 := hthr _ (hg.ev.call m p1)
              have := b4 m p1 hmk hmr (by unfold tn; omega)
              omega
          · obtain ⟨p1, p2⟩ := hnx.other j hj hjk2
            rw [p2] at hri ⊢
            have ht := hg.ev.tick j p1
            exact do_done_next hnx (.inr r1) (by omega) (by omega) (h.done j p1 hri)
theorem do_play0 {n : Nat} (calls : List CallD) : DoInv n calls (play0 (doorS n) () (List.replicate n 0) calls) where
  wlen := by simp [play0, wd0]
  top := fun t ht => by
    show (List.replicate n 0).getD t 0 ≤ _
    rw [show (List.replicate n 0).getD t 0 = 0 from getD_rep']; exact Nat.zero_le _
  low := fun i hi => by simp [play0] at hi
  hand := fun p s k hp => by rw [show (play0 (doorS n) () (List.replicate n 0) calls).hands.getD p (none, 0) = (none, 0) from getD_rep'] at hp; cases hp
  done := fun i hi => by simp [play0] at hi
theorem door_now {n : Nat} : ∀ (o : (doorS n).ω) (wd : WD) (p : Nat) (s : (doorS n).σ), ((doorS n).step o wd p s).2.1.now = wd.now := by
  intro o wd p s
  match s with
  | .once c r => rfl
  | .take a v =>
    by_cases ha : a < n
    · rw [show (doorS n).step o wd p (.take a v) = _ from if_pos ha]; rfl
    · rw [show (doorS n).step o wd p (.take a v) = _ from if_neg ha]; rfl
theorem do_picks {n : Nat} {calls : List CallD} {np : Nat} (hck : checkN n calls np = 0) (l : List Int) : StGood calls (picksD (doorS n) calls (play0 (doorS n) () (List.replicate n 0) calls) l) ∧ DoInv n calls (picksD (doorS n) calls (play0 (doorS n) () (List.replicate n 0) calls) l) ∧
    (picksD (doorS n) calls (play0 (doorS n) () (List.replicate n 0) calls) l).wd.now ≤ l.length := by
  obtain ⟨h1, h2⟩ := n_ok hck
  have hthr : ∀ c, c < calls.length → 0 ≤ (calls.getD c d0).thread ∧ (calls.getD c d0).thread < n := fun c hc => by have := thr_ok hck c hc; omega
  have hnow := door_now (n := n)
  obtain ⟨a, b⟩ := picks_ind (S := doorS n) hnow (thr_16 hck) (J := DoInv n calls) (fun st st' hg _ hj ht => do_turn (by omega) hthr hg hj ht) l (play0_good (S := doorS n) calls () (List.replicate n 0)) (do_play0 calls)
  refine ⟨a, b, ?_⟩
  have htk := picks_ticks hnow (play0 (doorS n) () (List.replicate n 0) calls) l (calls := calls)
  rw [show (play0 (doorS n) () (List.replicate n 0) calls).wd.now = 0 from rfl, show (play0 (doorS n) () (List.replicate n 0) calls).idle = 0 from rfl] at htk
  omega
def doLive (n : Nat) : DoS → Prop
  | .take a v => a ≤ n ∧ v < 1000000
  | .once _ _ => True
theorem do_live {n : Nat} {calls : List CallD} {st : PlayD (doorS n)} {q i k : Nat} {s : DoS} {evs0 : List EvD} {wd0 : WD} (hg : StGood calls st) (h : DoInv n calls st) (hnow : st.wd.now < 100000) (hf : From calls st q i k s evs0 wd0) : doLive n s := by
  obtain ⟨_, g2, _⟩ := do_pre hg h hf
  have hlen := hg.ev.len_le
  match s, g2 with
  | .take a v, ⟨b1, b2, _⟩ =>
    have h3 := cnt_le (tP4 calls st.wd.now) st.evs
    exact ⟨b1, by omega⟩
  | .once c r, _ => trivial
end Go.Proofs.YteffgpcjfnjlkaaGreat
