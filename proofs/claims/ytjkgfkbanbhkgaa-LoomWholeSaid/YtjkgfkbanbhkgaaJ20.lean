/- Layer 6: what one pick does to a play, case by case, in plain numbers. -/
import Derived.Test.YtjkgfkbanbhkgaaJ19
set_option maxRecDepth 100000
set_option linter.unusedVariables false
set_option linter.unusedSimpArgs false
set_option linter.unnecessarySimpa false
namespace Go.Proofs.Ytjkgfkbanbhkgaa
section
open Go.RowKit

variable {S : Sys}
/-- The event, behind a step of its machine. -/
def ev1 (S : Sys) (r : S.ω × WD × S.σ × Bool) (q : Nat) (e : EvD) : EvD := if r.2.2.2 then finishEv r.2.1 q (S.answer r.2.2.1).1 (S.answer r.2.2.1).2 e else stepEv e
/-- The play, behind a step of a machine. -/
def stepTo (st : PlayD S) (r : S.ω × WD × S.σ × Bool) (q i k : Nat) (evs0 : List EvD) : PlayD S :=
  { wd := r.2.1, obj := r.1, fin := if r.2.2.2 then st.fin.set i true else st.fin, hands := st.hands.set q (if r.2.2.2 then none else some r.2.2.1, k), evs := evs0.set k (ev1 S r q (evAt evs0 k)), idle := st.idle }
/-- The play, behind a call that is refused. -/
def refuseTo (st : PlayD S) (q i : Nat) (er : Int) : PlayD S :=
  { wd := st.wd.tick.begin q, obj := st.obj, fin := st.fin.set i true, hands := st.hands.set q (none, st.evs.length), evs := st.evs ++ [finishEv (st.wd.tick.begin q) q ⟨er, 0, []⟩ [] (newEv i (st.wd.tick.begin q))], idle := st.idle }
/-- Where a machine's step begins: a machine that is at work, or one that begins. -/
inductive From (calls : List CallD) (st : PlayD S) (q i : Nat) : Nat → S.σ → List EvD → WD → Prop where
  | old (k : Nat) (s : S.σ) (hh : st.hands.getD q (none, 0) = (some s, k)) (hk : k < st.evs.length) (hc : (evAt st.evs k).call = i) (hr : (evAt st.evs k).resp = 0) : From calls st q i k s st.evs st.wd.tick
  | new (s : S.σ) (hh : (st.hands.getD q (none, 0)).1 = none) (hs : startD S st.obj (st.wd.tick.begin q) q (calls.getD i d0) = .run s) : From calls st q i st.evs.length s (st.evs ++ [newEv i (st.wd.tick.begin q)]) (st.wd.tick.begin q)
inductive Turn (calls : List CallD) (st : PlayD S) : PlayD S → Prop where
  | idle : Turn calls st { st with idle := st.idle + 1 }
  | refuse (q i : Nat) (er : Int) (hq : q < 16) (hN : nowN calls st.fin (q : Int) = some i) (hh : (st.hands.getD q (none, 0)).1 = none) (hs : startD S st.obj (st.wd.tick.begin q) q (calls.getD i d0) = .refuse er) : Turn calls st (refuseTo st q i er)
  | step (q i k : Nat) (s : S.σ) (evs0 : List EvD) (wd0 : WD) (hq : q < 16) (hN : nowN calls st.fin (q : Int) = some i) (hf : From calls st q i k s evs0 wd0) : Turn calls st (stepTo st (S.step st.obj wd0 q s) q i k evs0)

theorem goStep_to {st0 st : PlayD S} {q i k : Nat} {s : S.σ} {evs0 : List EvD} (ho : st0.obj = st.obj) (he : st0.evs = evs0) (hh : st0.hands.set q (none, k) = st.hands.set q (none, k)) (hh2 : ∀ x, st0.hands.set q (some x, k) = st.hands.set q (some x, k)) (hf : st0.fin = st.fin) (hi : st0.idle = st.idle) :
    (if (goStep S st0 q k s).2 then { (goStep S st0 q k s).1 with fin := (goStep S st0 q k s).1.fin.set i true } else (goStep S st0 q k s).1) = stepTo st (S.step st.obj st0.wd q s) q i k evs0 := by
  unfold goStep stepTo ev1
  simp only
  rw [ho]
  cases hd : (S.step st.obj st0.wd q s).2.2.2 with
  | true => simp only [if_true, hh, hf, hi, modEv]; rw [he]; rfl
  | false => simp only [Bool.false_eq_true, if_false, hh2, hf, hi, modEv]; rw [he]; rfl

theorem pick_turn {calls : List CallD} (hthr : ∀ c, c < calls.length → 0 ≤ (calls.getD c d0).thread ∧ (calls.getD c d0).thread < 16) {st : PlayD S} (h : StGood calls st) (p : Int) : Turn calls st (pickD S calls st p) := by
  cases hN : nowN calls st.fin p with
  | none =>
    have hp : pickD S calls st p = { st with idle := st.idle + 1 } := by unfold pickD; rw [hN]
    rw [hp]; exact .idle
  | some i =>
    obtain ⟨n1, n2, n3⟩ := nowN_spec hN
    obtain ⟨t1, t2⟩ := hthr i n1
    obtain ⟨q, rfl⟩ : ∃ q : Nat, p = (q : Int) := ⟨p.toNat, by omega⟩
    have hq : q < 16 := by omega
    have hp : pickD S calls st (q : Int) = if (stepD S calls st q i).2 then { (stepD S calls st q i).1 with fin := (stepD S calls st q i).1.fin.set i true } else (stepD S calls st q i).1 := by unfold pickD; rw [hN]; rfl
    rw [hp]
    cases hs : (st.hands.getD q (none, 0)).1 with
    | some s =>
      obtain ⟨k, hk⟩ : ∃ k, k = (st.hands.getD q (none, 0)).2 := ⟨_, rfl⟩
      have hh : hndOf st.hands q = some k := by unfold hndOf; rw [hs, hk]; rfl
      obtain ⟨k1, k2, k3, k4⟩ := h.ev.hand q k hh
      have hst : stepD S calls st q i = goStep S { st with wd := st.wd.tick } q k s := by unfold stepD; rw [hs]; simp only; rw [← hk]
      rw [hst]
      exact (congrArg (Turn calls st) (goStep_to (i := i) (st0 := { st with wd := st.wd.tick }) (st := st) (q := q) (k := k) (s := s) (evs0 := st.evs) rfl rfl rfl (fun _ => rfl) rfl rfl)).mpr
        (.step q i k s st.evs st.wd.tick hq hN (.old k s (Prod.ext hs hk.symm) k1 (by rw [hN] at k4; cases k4; rfl) k3))
    | none =>
      cases hst : startD S st.obj (st.wd.tick.begin q) q (calls.getD i d0) with
      | refuse e =>
        have hst2 : stepD S calls st q i = ({ st with wd := st.wd.tick.begin q, hands := st.hands.set q (none, st.evs.length), evs := st.evs ++ [finishEv (st.wd.tick.begin q) q ⟨e, 0, []⟩ [] (newEv i (st.wd.tick.begin q))] }, true) := by
          unfold stepD; rw [hs]; simp only; rw [hst]
        rw [hst2]
        exact .refuse q i e hq hN hs hst
      | run s =>
        have hst2 : stepD S calls st q i = goStep S { st with wd := st.wd.tick.begin q, hands := st.hands.set q (some s, st.evs.length), evs := st.evs ++ [newEv i (st.wd.tick.begin q)] } q st.evs.length s := by
          unfold stepD; rw [hs]; simp only; rw [hst]
        rw [hst2]
        exact (congrArg (Turn calls st) (goStep_to (i := i) (st0 := { st with wd := st.wd.tick.begin q, hands := st.hands.set q (some s, st.evs.length), evs := st.evs ++ [newEv i (st.wd.tick.begin q)] }) (st := st) (q := q) (k := st.evs.length) (s := s) (evs0 := st.evs ++ [newEv i (st.wd.tick.begin q)]) rfl rfl (by simp [List.set_set]) (fun _ => by simp [List.set_set]) rfl rfl)).mpr
          (.step q i st.evs.length s _ _ hq hN (.new s hs hst))

/-- What every play keeps: it holds at first, and each turn keeps it. -/
theorem picks_ind {calls : List CallD} (hnow : ∀ o wd p s, (S.step o wd p s).2.1.now = wd.now) (hthr : ∀ c, c < calls.length → 0 ≤ (calls.getD c d0).thread ∧ (calls.getD c d0).thread < 16) {J : PlayD S → Prop}
    (hJ : ∀ st st', StGood calls st → StGood calls st' → J st → Turn calls st st' → J st') : ∀ (picks : List Int) {st : PlayD S}, StGood calls st → J st → StGood calls (picksD S calls st picks) ∧ J (picksD S calls st picks)
  | [], _, hg, h => ⟨hg, h⟩
  | p :: ps, _, hg, h => picks_ind hnow hthr hJ ps (pick_good hnow hthr hg p) (hJ _ _ hg (pick_good hnow hthr hg p) h (pick_turn hthr hg p))

theorem From.len {calls : List CallD} {st : PlayD S} {q i k : Nat} {s : S.σ} {evs0 : List EvD} {wd0 : WD} (h : From calls st q i k s evs0 wd0) : k < evs0.length := by
  cases h with
  | old k s hh hk hc hr => exact hk
  | new s hh hs => simp
theorem From.call {calls : List CallD} {st : PlayD S} {q i k : Nat} {s : S.σ} {evs0 : List EvD} {wd0 : WD} (h : From calls st q i k s evs0 wd0) : (evAt evs0 k).call = i := by
  cases h with
  | old k s hh hk hc hr => exact hc
  | new s hh hs => rw [evAt_last]; rfl
theorem From.open_ {calls : List CallD} {st : PlayD S} {q i k : Nat} {s : S.σ} {evs0 : List EvD} {wd0 : WD} (h : From calls st q i k s evs0 wd0) : (evAt evs0 k).resp = 0 := by
  cases h with
  | old k s hh hk hc hr => exact hr
  | new s hh hs => rw [evAt_last]; rfl
theorem From.now {calls : List CallD} {st : PlayD S} {q i k : Nat} {s : S.σ} {evs0 : List EvD} {wd0 : WD} (h : From calls st q i k s evs0 wd0) : wd0.now = st.wd.now + 1 := by
  cases h <;> rfl
theorem From.mem {calls : List CallD} {st : PlayD S} {q i k : Nat} {s : S.σ} {evs0 : List EvD} {wd0 : WD} (h : From calls st q i k s evs0 wd0) : wd0.mem = st.wd.mem := by
  cases h <;> rfl
theorem From.traces {calls : List CallD} {st : PlayD S} {q i k : Nat} {s : S.σ} {evs0 : List EvD} {wd0 : WD} (h : From calls st q i k s evs0 wd0) : wd0.traces = st.wd.traces := by
  cases h <;> rfl
theorem From.obj {calls : List CallD} {st : PlayD S} {q i k : Nat} {s : S.σ} {evs0 : List EvD} {wd0 : WD} (h : From calls st q i k s evs0 wd0) : st.evs.length ≤ evs0.length ∧ ∀ j, j < st.evs.length → evAt evs0 j = evAt st.evs j := by
  cases h with
  | old k s hh hk hc hr => exact ⟨Nat.le_refl _, fun _ _ => rfl⟩
  | new s hh hs => exact ⟨by simp, fun j hj => evAt_old hj⟩
/-- Another event, behind the step, is as it was. -/
theorem From.other {calls : List CallD} {st : PlayD S} {q i k : Nat} {s : S.σ} {evs0 : List EvD} {wd0 : WD} (h : From calls st q i k s evs0 wd0) (e : EvD) {j : Nat} (hj : j < (evs0.set k e).length) (hjk : j ≠ k) : j < st.evs.length ∧ evAt (evs0.set k e) j = evAt st.evs j := by
  rw [List.length_set] at hj
  rw [evAt_set _ h.len, if_neg hjk]
  cases h with
  | old k s hh hk hc hr => exact ⟨hj, rfl⟩
  | new s hh hs =>
    have : j < st.evs.length := by simp at hj; omega
    exact ⟨this, evAt_old this⟩
theorem From.self {calls : List CallD} {st : PlayD S} {q i k : Nat} {s : S.σ} {evs0 : List EvD} {wd0 : WD} (h : From calls st q i k s evs0 wd0) (e : EvD) : evAt (evs0.set k e) k = e := by rw [evAt_set _ h.len, if_pos rfl]
/-- The old events are there behind the step. -/
theorem From.size {calls : List CallD} {st : PlayD S} {q i k : Nat} {s : S.σ} {evs0 : List EvD} {wd0 : WD} (h : From calls st q i k s evs0 wd0) (e : EvD) : st.evs.length ≤ (evs0.set k e).length := by rw [List.length_set]; exact h.obj.1
theorem hands_set {h16 : Nat} {hands : List (Option S.σ × Nat)} {q : Nat} (hl : hands.length = h16) (hq : q < h16) (x : Option S.σ × Nat) (p : Nat) : (hands.set q x).getD p (none, 0) = if p = q then x else hands.getD p (none, 0) := by
  by_cases h : p = q
  · subst h; rw [if_pos rfl]; exact getD_set_eq (by omega)
  · rw [if_neg h]; exact getD_set_neq (Ne.symm h)
end
section

/- Layer 6: the rows of a report (6.3), in plain numbers. -/
open Go.RowKit

/-- A key lies between two ticks. -/
def Within (k : List Int) (inv resp : Nat) : Prop := k ≠ [] ∧ 2 * (inv : Int) ≤ k.headD 0 ∧ k.headD 0 ≤ 2 * (resp : Int)
/-- What machines may do to marks: note this tick at the head, or nothing; and what keys they answer. -/
structure KeySys (S : Sys) : Prop where
  now : ∀ o wd p s, (S.step o wd p s).2.1.now = wd.now
  mlen : ∀ o wd p s, (S.step o wd p s).2.1.marks.length = wd.marks.length
  mark : ∀ o wd p s q, (S.step o wd p s).2.1.marks.getD q [] = wd.marks.getD q [] ∨ ∃ rest, (S.step o wd p s).2.1.marks.getD q [] = 2 * (wd.now : Int) :: rest
  ans : ∀ s, (S.answer s).2 = []
  late : ∀ o wd p s, S.late o wd p s = none
structure KeyInv {S : Sys} (calls : List CallD) (st : PlayD S) : Prop where
  good : StGood calls st
  m16 : st.wd.marks.length = 16
  keys : ∀ i, i < st.evs.length → (evAt st.evs i).resp ≠ 0 → Within (evAt st.evs i).key (evAt st.evs i).inv (evAt st.evs i).resp
  none_ : ∀ i, i < st.evs.length → (evAt st.evs i).resp = 0 → (evAt st.evs i).key = []
  marks : ∀ p k, hndOf st.hands p = some k → st.wd.marks.getD p [] = [] ∨ Within (st.wd.marks.getD p []) (evAt st.evs k).inv st.wd.now

variable {S : Sys}
theorem within_tick {inv now : Nat} (h : inv ≤ now) : Within [2 * (now : Int)] inv now := ⟨by simp, by simp; omega, by simp⟩
theorem keyOf_within {wd : WD} {p inv : Nat} (hi : inv ≤ wd.now) (hm : wd.marks.getD p [] = [] ∨ Within (wd.marks.getD p []) inv wd.now) : Within (keyOf wd p []) inv wd.now := by
  unfold keyOf
  rw [if_pos rfl]
  split
  · exact within_tick hi
  · rcases hm with h | h
    · rename_i hn; exact absurd h hn
    · exact h
theorem Within.more {k : List Int} {inv a b : Nat} (h : Within k inv a) (hab : a ≤ b) : Within k inv b := ⟨h.1, h.2.1, by have := h.2.2; omega⟩

/-- A machine's step keeps it. -/
theorem key_go (ks : KeySys S) {calls : List CallD} {st : PlayD S} {p k : Nat} {s : S.σ} (h16 : st.hands.length = 16) (hp : p < 16) (hk : k < st.evs.length) (hm16 : st.wd.marks.length = 16)
    (hkeys : ∀ i, i < st.evs.length → (evAt st.evs i).resp ≠ 0 → Within (evAt st.evs i).key (evAt st.evs i).inv (evAt st.evs i).resp)
    (hnone : ∀ i, i < st.evs.length → (evAt st.evs i).resp = 0 → (evAt st.evs i).key = [])
    (hinv : ∀ i, i < st.evs.length → (evAt st.evs i).inv ≤ st.wd.now)
    (hmarks : ∀ q j, (if q = p then some k else hndOf st.hands q) = some j → j < st.evs.length ∧ (st.wd.marks.getD q [] = [] ∨ Within (st.wd.marks.getD q []) (evAt st.evs j).inv st.wd.now))
    (hres : (evAt st.evs k).resp = 0) (hown : ∀ q, q ≠ p → hndOf st.hands q ≠ some k) (hpos : 0 < st.wd.now) :
    (goStep S st p k s).1.wd.marks.length = 16 ∧
    (∀ i, i < (goStep S st p k s).1.evs.length → (evAt (goStep S st p k s).1.evs i).resp ≠ 0 → Within (evAt (goStep S st p k s).1.evs i).key (evAt (goStep S st p k s).1.evs i).inv (evAt (goStep S st p k s).1.evs i).resp) ∧
    (∀ i, i < (goStep S st p k s).1.evs.length → (evAt (goStep S st p k s).1.evs i).resp = 0 → (evAt (goStep S st p k s).1.evs i).key = []) ∧
    (∀ q j, hndOf (goStep S st p k s).1.hands q = some j → (goStep S st p k s).1.wd.marks.getD q [] = [] ∨ Within ((goStep S st p k s).1.wd.marks.getD q []) (evAt (goStep S st p k s).1.evs j).inv (goStep S st p k s).1.wd.now) := by
  have hmk : ∀ q j, (if q = p then some k else hndOf st.hands q) = some j → (S.step st.obj st.wd p s).2.1.marks.getD q [] = [] ∨ Within ((S.step st.obj st.wd p s).2.1.marks.getD q []) (evAt st.evs j).inv st.wd.now := by
    intro q j hq
    obtain ⟨hj, hm⟩ := hmarks q j hq
    rcases ks.mark st.obj st.wd p s q with h | ⟨rest, h⟩
    · rw [h]; exact hm
    · rw [h]; exact .inr ⟨by simp, by have := hinv j hj; simp; omega, by simp⟩
  unfold goStep
  simp only
  cases hd : (S.step st.obj st.wd p s).2.2.2 with
  | true =>
    simp only [if_true]
    have hE : ∀ i, evAt (modEv st.evs k (finishEv (S.step st.obj st.wd p s).2.1 p (S.answer (S.step st.obj st.wd p s).2.2.1).1 (S.answer (S.step st.obj st.wd p s).2.2.1).2)) i = if i = k then finishEv (S.step st.obj st.wd p s).2.1 p (S.answer (S.step st.obj st.wd p s).2.2.1).1 (S.answer (S.step st.obj st.wd p s).2.2.1).2 (evAt st.evs k) else evAt st.evs i := fun i => evAt_set _ hk i
    refine ⟨by rw [ks.mlen]; exact hm16, fun i hi hr => ?_, fun i hi hr => ?_, fun q j hq => ?_⟩
    · rw [modEv_length] at hi
      rw [hE] at hr ⊢
      split at hr
      · rename_i e
        subst e
        rw [if_pos rfl]
        show Within (keyOf _ _ (S.answer _).2) (evAt st.evs i).inv (S.step st.obj st.wd p s).2.1.now
        rw [ks.ans]
        refine keyOf_within (by rw [ks.now]; exact hinv i hi) ?_
        rw [ks.now]
        exact hmk p i (if_pos rfl)
      · rename_i e
        rw [if_neg e]; exact hkeys i hi hr
    · rw [modEv_length] at hi
      rw [hE] at hr ⊢
      split at hr
      · exfalso
        have : (S.step st.obj st.wd p s).2.1.now = 0 := hr
        rw [ks.now] at this; omega
      · rename_i e
        rw [if_neg e]; exact hnone i hi hr
    · rw [hndOf_set (by rw [h16]; exact hp)] at hq
      simp only at hq
      by_cases hqp : q = p
      · rw [if_pos hqp] at hq; simp at hq
      · rw [if_neg hqp] at hq
        rw [hE, if_neg (fun e => hown q hqp (by rw [hq, e])), ks.now]
        exact hmk q j (by rw [if_neg hqp]; exact hq)
  | false =>
    simp only [Bool.false_eq_true, if_false]
    have hE : ∀ i, evAt (modEv st.evs k stepEv) i = if i = k then stepEv (evAt st.evs k) else evAt st.evs i := fun i => evAt_set _ hk i
    have hc : ∀ i, (evAt (modEv st.evs k stepEv) i).inv = (evAt st.evs i).inv ∧ (evAt (modEv st.evs k stepEv) i).resp = (evAt st.evs i).resp ∧ (evAt (modEv st.evs k stepEv) i).key = (evAt st.evs i).key := by
      intro i; rw [hE]; split
      · rename_i e; subst e; exact ⟨rfl, rfl, rfl⟩
      · exact ⟨rfl, rfl, rfl⟩
    refine ⟨by rw [ks.mlen]; exact hm16, fun i hi hr => ?_, fun i hi hr => ?_, fun q j hq => ?_⟩
    · rw [modEv_length] at hi
      rw [(hc i).2.1] at hr
      rw [(hc i).1, (hc i).2.1, (hc i).2.2]; exact hkeys i hi hr
    · rw [modEv_length] at hi
      rw [(hc i).2.1] at hr
      rw [(hc i).2.2]; exact hnone i hi hr
    · rw [hndOf_set (by rw [h16]; exact hp)] at hq
      simp only [Option.isSome_some, if_true] at hq
      rw [(hc j).1, ks.now]
      exact hmk q j hq

theorem KeyInv.of_eq {calls : List CallD} {st st' : PlayD S} (hg : StGood calls st') (h1 : st'.wd = st.wd) (h2 : st'.hands = st.hands) (h3 : st'.evs = st.evs)
    (a1 : st.wd.marks.length = 16) (a2 : ∀ i, i < st.evs.length → (evAt st.evs i).resp ≠ 0 → Within (evAt st.evs i).key (evAt st.evs i).inv (evAt st.evs i).resp) (a3 : ∀ i, i < st.evs.length → (evAt st.evs i).resp = 0 → (evAt st.evs i).key = [])
    (a4 : ∀ q j, hndOf st.hands q = some j → st.wd.marks.getD q [] = [] ∨ Within (st.wd.marks.getD q []) (evAt st.evs j).inv st.wd.now) : KeyInv calls st' :=
  ⟨hg, by rw [h1]; exact a1, by rw [h3]; exact a2, by rw [h3]; exact a3, by rw [h1, h2, h3]; exact a4⟩

theorem key_pick (ks : KeySys S) {calls : List CallD} (hthr : ∀ c, c < calls.length → 0 ≤ (calls.getD c d0).thread ∧ (calls.getD c d0).thread < 16) {st : PlayD S} (h : KeyInv calls st) (p : Int) : KeyInv calls (pickD S calls st p) := by
  have hg := pick_good ks.now hthr h.good p
  cases hN : nowN calls st.fin p with
  | none =>
    have hp : pickD S calls st p = { st with idle := st.idle + 1 } := by unfold pickD; rw [hN]
    rw [hp] at hg ⊢
    exact ⟨hg, h.m16, h.keys, h.none_, h.marks⟩
  | some i =>
    obtain ⟨n1, n2, n3⟩ := nowN_spec hN
    obtain ⟨t1, t2⟩ := hthr i n1
    obtain ⟨q, rfl⟩ : ∃ q : Nat, p = (q : Int) := ⟨p.toNat, by omega⟩
    have hq : q < 16 := by omega
    have hp : pickD S calls st (q : Int) = if (stepD S calls st q i).2 then { (stepD S calls st q i).1 with fin := (stepD S calls st q i).1.fin.set i true } else (stepD S calls st q i).1 := by unfold pickD; rw [hN]; rfl
    rw [hp] at hg ⊢
    have fin : ∀ st1 : PlayD S, st1 = (stepD S calls st q i).1 → st1.wd.marks.length = 16 → (∀ i, i < st1.evs.length → (evAt st1.evs i).resp ≠ 0 → Within (evAt st1.evs i).key (evAt st1.evs i).inv (evAt st1.evs i).resp) → (∀ i, i < st1.evs.length → (evAt st1.evs i).resp = 0 → (evAt st1.evs i).key = []) →
        (∀ q j, hndOf st1.hands q = some j → st1.wd.marks.getD q [] = [] ∨ Within (st1.wd.marks.getD q []) (evAt st1.evs j).inv st1.wd.now) → KeyInv calls (if (stepD S calls st q i).2 then { (stepD S calls st q i).1 with fin := (stepD S calls st q i).1.fin.set i true } else (stepD S calls st q i).1) := by
      rintro st1 rfl a1 a2 a3 a4
      refine KeyInv.of_eq hg ?_ ?_ ?_ a1 a2 a3 a4 <;> split <;> rfl
    cases hs : (st.hands.getD q (none, 0)).1 with
    | some s =>
      obtain ⟨k, hk⟩ : ∃ k, k = (st.hands.getD q (none, 0)).2 := ⟨_, rfl⟩
      have hh : hndOf st.hands q = some k := by unfold hndOf; rw [hs, hk]; rfl
      obtain ⟨k1, k2, k3, k4⟩ := h.good.ev.hand q k hh
      have hst : stepD S calls st q i = goStep S { st with wd := st.wd.tick } q k s := by unfold stepD; rw [hs]; simp only; rw [← hk]
      obtain ⟨b1, b2, b3, b4⟩ := key_go ks (calls := calls) (st := { st with wd := st.wd.tick }) (p := q) (k := k) (s := s) h.good.h16 hq k1 h.m16 h.keys h.none_
        (fun j hj => Nat.le_succ_of_le (h.good.ev.tick j hj).2.1)
        (fun r j hr => by
          have hr2 : hndOf st.hands r = some j := by
            by_cases hrq : r = q
            · rw [if_pos hrq] at hr; rw [hrq, hh]; exact hr
            · rw [if_neg hrq] at hr; exact hr
          refine ⟨(h.good.ev.hand r j hr2).1, ?_⟩
          rcases h.marks r j hr2 with h1 | h1
          · exact .inl h1
          · exact .inr (h1.more (Nat.le_succ _)))
        k3 (fun r hrq he => hrq ((h.good.ev.hand r k he).2.1.symm.trans k2)) (Nat.succ_pos _)
      exact fin _ (by rw [hst]) b1 b2 b3 b4
    | none =>
      have hm16 : (st.wd.tick.begin q).marks.length = 16 := by show (st.wd.marks.set q []).length = 16; rw [List.length_set]; exact h.m16
      have hmq : (st.wd.tick.begin q).marks.getD q [] = [] := getD_set_eq (by show q < st.wd.marks.length; rw [h.m16]; exact hq)
      have hmo : ∀ r, r ≠ q → (st.wd.tick.begin q).marks.getD r [] = st.wd.marks.getD r [] := fun r hr => getD_set_neq (Ne.symm hr)
      cases hst : startD S st.obj (st.wd.tick.begin q) q (calls.getD i d0) with
      | refuse e =>
        have hst2 : stepD S calls st q i = ({ st with wd := st.wd.tick.begin q, hands := st.hands.set q (none, st.evs.length), evs := st.evs ++ [finishEv (st.wd.tick.begin q) q ⟨e, 0, []⟩ [] (newEv i (st.wd.tick.begin q))] }, true) := by
          unfold stepD; rw [hs]; simp only; rw [hst]
        refine fin _ (by rw [hst2]) hm16 (fun j hj hr => ?_) (fun j hj hr => ?_) (fun r j hr => ?_)
        · simp only at hj hr ⊢
          rcases Nat.lt_or_ge j st.evs.length with h1 | h1
          · rw [evAt_old h1] at hr ⊢; exact h.keys j h1 hr
          · obtain rfl : j = st.evs.length := by simp at hj; omega
            rw [evAt_last]
            exact keyOf_within (Nat.le_refl _) (.inl hmq)
        · simp only at hj hr ⊢
          rcases Nat.lt_or_ge j st.evs.length with h1 | h1
          · rw [evAt_old h1] at hr ⊢; exact h.none_ j h1 hr
          · obtain rfl : j = st.evs.length := by simp at hj; omega
            rw [evAt_last] at hr
            exact absurd hr (Nat.succ_ne_zero _)
        · simp only at hr ⊢
          rw [hndOf_set (by rw [h.good.h16]; exact hq)] at hr
          simp only at hr
          by_cases hrq : r = q
          · rw [if_pos hrq] at hr; simp at hr
          · rw [if_neg hrq] at hr
            rw [hmo r hrq, evAt_old (h.good.ev.hand r j hr).1]
            rcases h.marks r j hr with h1 | h1
            · exact .inl h1
            · exact .inr (h1.more (Nat.le_succ _))
      | run s =>
        have hst2 : stepD S calls st q i = goStep S { st with wd := st.wd.tick.begin q, hands := st.hands.set q (some s, st.evs.length), evs := st.evs ++ [newEv i (st.wd.tick.begin q)] } q st.evs.length s := by
          unfold stepD; rw [hs]; simp only; rw [hst]
        obtain ⟨b1, b2, b3, b4⟩ := key_go ks (calls := calls) (st := { st with wd := st.wd.tick.begin q, hands := st.hands.set q (some s, st.evs.length), evs := st.evs ++ [newEv i (st.wd.tick.begin q)] }) (p := q) (k := st.evs.length) (s := s) (by simpa using h.good.h16) hq (by simp) hm16
          (fun j hj hr => by
            simp only at hj hr ⊢
            rcases Nat.lt_or_ge j st.evs.length with h1 | h1
            · rw [evAt_old h1] at hr ⊢; exact h.keys j h1 hr
            · obtain rfl : j = st.evs.length := by simp at hj; omega
              rw [evAt_last] at hr; exact absurd rfl hr)
          (fun j hj hr => by
            simp only at hj hr ⊢
            rcases Nat.lt_or_ge j st.evs.length with h1 | h1
            · rw [evAt_old h1] at hr ⊢; exact h.none_ j h1 hr
            · obtain rfl : j = st.evs.length := by simp at hj; omega
              rw [evAt_last]; rfl)
          (fun j hj => by
            simp only at hj ⊢
            rcases Nat.lt_or_ge j st.evs.length with h1 | h1
            · rw [evAt_old h1]; exact Nat.le_succ_of_le (h.good.ev.tick j h1).2.1
            · obtain rfl : j = st.evs.length := by simp at hj; omega
              rw [evAt_last]; exact Nat.le_refl _)
          (fun r j hr => by
            by_cases hrq : r = q
            · rw [if_pos hrq] at hr
              cases hr
              exact ⟨by simp, .inl (by rw [hrq]; exact hmq)⟩
            · rw [if_neg hrq] at hr
              simp only at hr
              rw [hndOf_set (by rw [h.good.h16]; exact hq)] at hr
              simp only [hrq, if_false] at hr
              have hj := (h.good.ev.hand r j hr).1
              refine ⟨by simp; omega, ?_⟩
              show (st.wd.tick.begin q).marks.getD r [] = [] ∨ Within ((st.wd.tick.begin q).marks.getD r []) (evAt (st.evs ++ [newEv i (st.wd.tick.begin q)]) j).inv (st.wd.now + 1)
              rw [hmo r hrq, evAt_old hj]
              rcases h.marks r j hr with h1 | h1
              · exact .inl h1
              · exact .inr (h1.more (Nat.le_succ _)))
          (by rw [evAt_last]; rfl)
          (fun r hrq he => by
            simp only at he
            rw [hndOf_set (by rw [h.good.h16]; exact hq)] at he
            simp only [hrq, if_false] at he
            have := (h.good.ev.hand r _ he).1; omega)
          (Nat.succ_pos _)
        exact fin _ (by rw [hst2]) b1 b2 b3 b4
theorem key_picks (ks : KeySys S) {calls : List CallD} (hthr : ∀ c, c < calls.length → 0 ≤ (calls.getD c d0).thread ∧ (calls.getD c d0).thread < 16) : ∀ (picks : List Int) {st : PlayD S}, KeyInv calls st → KeyInv calls (picksD S calls st picks)
  | [], _, h => h
  | p :: ps, _, h => key_picks ks hthr ps (key_pick ks hthr h p)
theorem key_play0 (calls : List CallD) (o : S.ω) (ws : List Nat) : KeyInv calls (play0 S o ws calls) :=
  ⟨play0_good calls o ws, by simp [play0, wd0], fun i hi => by simp [play0] at hi, fun i hi => by simp [play0] at hi, fun p k hk => by
    have : hndOf (play0 S o ws calls).hands p = none := by
      unfold hndOf
      rw [show (play0 S o ws calls).hands.getD p (none, 0) = (none, 0) from getD_rep']; rfl
    rw [this] at hk; cases hk⟩
end
end Go.Proofs.Ytjkgfkbanbhkgaa
