/- Layer 7: agreement, in plain numbers. -/
import Derived.Test.YtkocgeedpinplaaJ23
import Derived.Test.YtkocgeedpinplaaJ21
set_option maxRecDepth 100000
set_option linter.unusedVariables false
set_option linter.unusedSimpArgs false
set_option linter.unnecessarySimpa false
namespace Go.Proofs.Ytkocgeedpinplaa
open Go.RowKit

/-- Somebody who is among the events proposed x - 1. -/
def Proposed (calls : List CallD) (evs : List EvD) (x : Nat) : Prop := ∃ i, i < evs.length ∧ (calls.getD (evAt evs i).call d0).obj = 0 ∧ (calls.getD (evAt evs i).call d0).kind = 0 ∧ (calls.getD (evAt evs i).call d0).a + 1 = x
def EvFits (x : Nat) (e : EvD) : Prop := e.steps ≤ 2 ∧ (e.resp ≠ 0 → e.ans.err = 0 → e.ans.val + 1 = x)
structure CoInv (calls : List CallD) (st : PlayD consS) (x : Nat) : Prop where
  good : StGood calls st
  ws : st.wd.mem.ws = [x]
  prop : x ≠ 0 → Proposed calls st.evs x
  evs : ∀ i, i < st.evs.length → EvFits x (evAt st.evs i)
  hand : ∀ p s k, st.hands.getD p (none, 0) = (some s, k) → ∃ v, s = .prop v true ∧ (evAt st.evs k).steps = 1 ∧ x ≠ 0

theorem memIn {m : MemD} {x : Nat} (h : m.ws = [x]) : memOut m 0 = false ∧ (memRead m 0).2 = x ∧ (memRead m 0).1.ws = [x] := by
  have h1 : memOut m 0 = false := by unfold memOut; rw [h]; rfl
  refine ⟨h1, ?_, ?_⟩ <;> (unfold memRead; rw [if_neg (by rw [h1]; simp)]; simp [h])
theorem memSwapIn {m : MemD} {x y : Nat} (h : m.ws = [x]) : (memSwap m 0 0 y).1.ws = [if x = 0 then y else x] := by
  have h1 := (memIn h).1
  unfold memSwap
  rw [if_neg (by rw [h1]; simp)]
  by_cases hx : x = 0
  · simp [h, hx]
  · simp [h, hx]
theorem Proposed.keep {calls : List CallD} {evs evs' : List EvD} {x : Nat} (h : Proposed calls evs x) (hl : evs.length ≤ evs'.length) (hc : ∀ i, i < evs.length → (evAt evs' i).call = (evAt evs i).call) : Proposed calls evs' x := by
  obtain ⟨i, h1, h2⟩ := h
  exact ⟨i, by omega, by rw [hc i h1]; exact h2⟩
theorem evAt_old {l : List EvD} {e : EvD} {i : Nat} (h : i < l.length) : evAt (l ++ [e]) i = evAt l i := getD_snoc_lt h
theorem evAt_last {l : List EvD} {e : EvD} : evAt (l ++ [e]) l.length = e := getD_snoc_eq

theorem cons_now : ∀ (o : consS.ω) (wd : WD) (p : Nat) (s : consS.σ), (consS.step o wd p s).2.1.now = wd.now := by
  intro o wd p s
  match s with
  | .once c r => rfl
  | .prop v false => rfl
  | .prop v true => rfl

theorem cs_once {o : consS.ω} {wd : WD} {p : Nat} {c : CallD} (h : c.kind = 1) : consS.start o wd p c = .run (.once c (0, 0)) := if_pos h
theorem cs_9 {o : consS.ω} {wd : WD} {p : Nat} {c : CallD} (h : ¬ c.kind = 1) (h0 : c.kind ≠ 0) : consS.start o wd p c = .refuse 9 := (if_neg h).trans (if_pos h0)
theorem cs_10 {o : consS.ω} {wd : WD} {p : Nat} {c : CallD} (h : ¬ c.kind = 1) (h0 : ¬ c.kind ≠ 0) (ha : 4294967296 ≤ c.a) : consS.start o wd p c = .refuse 10 := (if_neg h).trans ((if_neg h0).trans (if_pos ha))
theorem cs_prop {o : consS.ω} {wd : WD} {p : Nat} {c : CallD} (h : ¬ c.kind = 1) (h0 : ¬ c.kind ≠ 0) (ha : ¬ 4294967296 ≤ c.a) : consS.start o wd p c = .run (.prop c.a false) := (if_neg h).trans ((if_neg h0).trans (if_neg ha))

/-- An event more, that has responded. -/
theorem co_done {calls : List CallD} {st : PlayD consS} {x : Nat} (h : CoInv calls st x) {st' : PlayD consS} {p : Nat} {e : EvD} (hg : StGood calls st') (hev : st'.evs = st.evs ++ [e]) (hh : st'.hands = st.hands.set p (none, st.evs.length)) (hw : st'.wd.mem.ws = [x]) (he : EvFits x e) : CoInv calls st' x := by
  refine ⟨hg, hw, fun hx => ?_, fun i hi => ?_, fun q s k hq => ?_⟩
  · rw [hev]; exact (h.prop hx).keep (by simp) (fun i hi => by rw [evAt_old hi])
  · rw [hev] at hi ⊢
    rcases Nat.lt_or_ge i st.evs.length with h1 | h1
    · rw [evAt_old h1]; exact h.evs i h1
    · obtain rfl : i = st.evs.length := by simp at hi; omega
      rw [evAt_last]; exact he
  · rw [hh] at hq
    by_cases hqp : p = q
    · subst hqp
      rcases Nat.lt_or_ge p 16 with h1 | h1
      · rw [getD_set_eq (by rw [h.good.h16]; exact h1)] at hq; cases hq
      · rw [List.getD_eq_getElem?_getD, List.getElem?_eq_none (by simp [h.good.h16]; omega)] at hq; cases hq
    · rw [getD_set_neq hqp] at hq
      obtain ⟨v, h1, h2, h3⟩ := h.hand q s k hq
      have hk : k < st.evs.length := (h.good.ev.hand q k (by unfold hndOf; rw [hq]; rfl)).1
      exact ⟨v, h1, by rw [hev, evAt_old hk]; exact h2, h3⟩

theorem co_pick {calls : List CallD} (hthr : ∀ c, c < calls.length → 0 ≤ (calls.getD c d0).thread ∧ (calls.getD c d0).thread < 16) {st : PlayD consS} {x : Nat} (h : CoInv calls st x) (p : Int) : ∃ x', CoInv calls (pickD consS calls st p) x' := by
  have hg := pick_good cons_now hthr h.good p
  cases hN : nowN calls st.fin p with
  | none =>
    have hp : pickD consS calls st p = { st with idle := st.idle + 1 } := by unfold pickD; rw [hN]
    rw [hp] at hg ⊢
    exact ⟨x, hg, h.ws, h.prop, h.evs, h.hand⟩
  | some i =>
    obtain ⟨n1, n2, n3⟩ := nowN_spec hN
    obtain ⟨t1, t2⟩ := hthr i n1
    obtain ⟨q, rfl⟩ : ∃ q : Nat, p = (q : Int) := ⟨p.toNat, by omega⟩
    have hq : q < 16 := by omega
    have hp : pickD consS calls st (q : Int) = if (stepD consS calls st q i).2 then { (stepD consS calls st q i).1 with fin := (stepD consS calls st q i).1.fin.set i true } else (stepD consS calls st q i).1 := by unfold pickD; rw [hN]; rfl
    rw [hp] at hg ⊢
    cases hs : (st.hands.getD q (none, 0)).1 with
    | some s =>
      obtain ⟨k, hk⟩ : ∃ k, k = (st.hands.getD q (none, 0)).2 := ⟨_, rfl⟩
      have hqk : st.hands.getD q (none, 0) = (some s, k) := Prod.ext hs hk.symm
      obtain ⟨v, rfl, h2, h3⟩ := h.hand q s k hqk
      have hkl := (h.good.ev.hand q k (by unfold hndOf; rw [hqk]; rfl))
      obtain ⟨m1, m2, m3⟩ := memIn h.ws
      have hst : stepD consS calls st q i = ({ st with wd := consRead st.wd.tick, hands := st.hands.set q (none, k), evs := modEv st.evs k (finishEv (consRead st.wd.tick) q ⟨0, consDec x, []⟩ []) }, true) := by
        unfold stepD
        rw [hqk]
        simp only
        unfold goStep
        have e1 : consS.step st.obj st.wd.tick q (.prop v true) = ((), consRead st.wd.tick, .prop (consDec x) true, true) := by
          show ((), consRead st.wd.tick, CoS.prop (consDec (memRead st.wd.mem 0).2) true, true) = _
          rw [m2]
          rfl
        simp only [e1, if_true]
        rfl
      rw [hst] at hg ⊢
      simp only [if_true] at hg ⊢
      refine ⟨x, hg, m3, fun hx => ?_, fun j hj => ?_, fun r s' k' hr => ?_⟩
      · refine (h.prop hx).keep (by simp [modEv]) (fun j hj => ?_)
        show (evAt (st.evs.set k _) j).call = _
        rw [evAt_set _ hkl.1]
        split
        · rename_i e; subst e; rfl
        · rfl
      · have hj' : j < st.evs.length := by simpa [modEv] using hj
        show EvFits x (evAt (st.evs.set k _) j)
        rw [evAt_set _ hkl.1]
        split
        · refine ⟨?_, fun _ _ => ?_⟩
          · show (evAt st.evs k).steps + 1 ≤ 2; omega
          · show consDec x + 1 = x
            unfold consDec; rw [if_neg h3]; omega
        · exact h.evs j hj'
      · simp only at hr
        by_cases hqr : q = r
        · subst hqr
          rw [getD_set_eq (by rw [h.good.h16]; exact hq)] at hr; cases hr
        · rw [getD_set_neq hqr] at hr
          obtain ⟨v', g1, g2, g3⟩ := h.hand r s' k' hr
          have hkr := h.good.ev.hand r k' (by unfold hndOf; rw [hr]; rfl)
          refine ⟨v', g1, ?_, g3⟩
          show (evAt (st.evs.set k _) k').steps = 1
          rw [evAt_set _ hkl.1, if_neg]
          · exact g2
          · rintro rfl
            exact hqr (hkl.2.1.symm.trans hkr.2.1)
    | none =>
      obtain ⟨c, hc⟩ : ∃ c, c = calls.getD i d0 := ⟨_, rfl⟩
      obtain ⟨m1, m2, m3⟩ := memIn h.ws
      have hrefuse : ∀ er : Int, er ≠ 0 → startD consS st.obj (st.wd.tick.begin q) q c = .refuse er → ∃ x', CoInv calls (if (stepD consS calls st q i).2 then { (stepD consS calls st q i).1 with fin := (stepD consS calls st q i).1.fin.set i true } else (stepD consS calls st q i).1) x' := by
        intro er her hst
        have hst2 : stepD consS calls st q i = ({ st with wd := st.wd.tick.begin q, hands := st.hands.set q (none, st.evs.length), evs := st.evs ++ [finishEv (st.wd.tick.begin q) q ⟨er, 0, []⟩ [] (newEv i (st.wd.tick.begin q))] }, true) := by
          unfold stepD; rw [hs]; simp only; rw [← hc, hst]
        rw [hst2] at hg ⊢
        simp only [if_true] at hg ⊢
        exact ⟨x, co_done h hg rfl rfl h.ws ⟨by show 0 + 1 ≤ 2; omega, fun _ h9 => absurd h9 her⟩⟩
      by_cases ho : c.obj = 0
      · by_cases hk1 : c.kind = 1
        · have hst : startD consS st.obj (st.wd.tick.begin q) q c = .run (.once c (0, 0)) := by
            unfold startD; rw [if_pos ho]; exact cs_once hk1
          obtain ⟨a, ha⟩ : ∃ a, a = (consAct c (st.wd.tick.begin q)).2 := ⟨_, rfl⟩
          have ha2 : a = if x = 0 then (7, 0) else (0, x - 1) := by
            rw [ha]; show (if (memRead st.wd.mem 0).2 = 0 then ((7 : Int), (0 : Nat)) else (0, (memRead st.wd.mem 0).2 - 1)) = _; rw [m2]
          have hst2 : stepD consS calls st q i = ({ st with wd := (consAct c (st.wd.tick.begin q)).1, hands := st.hands.set q (none, st.evs.length), evs := st.evs ++ [finishEv (consAct c (st.wd.tick.begin q)).1 q ⟨a.1, a.2, []⟩ [] (newEv i (st.wd.tick.begin q))] }, true) := by
            unfold stepD; rw [hs]; simp only; rw [← hc, hst]
            simp only
            unfold goStep
            have e1 : consS.step st.obj (st.wd.tick.begin q) q (.once c (0, 0)) = ((), (consAct c (st.wd.tick.begin q)).1, .once c a, true) := by rw [ha]; rfl
            simp only [e1, if_true, List.set_set]
            rw [modEv_snoc]
            rfl
          rw [hst2] at hg ⊢
          simp only [if_true] at hg ⊢
          refine ⟨x, co_done h hg rfl rfl m3 ⟨by show 0 + 1 ≤ 2; omega, fun _ h9 => ?_⟩⟩
          have h9' : a.1 = 0 := h9
          show a.2 + 1 = x
          rw [ha2] at h9' ⊢
          by_cases hx : x = 0
          · rw [if_pos hx] at h9'; simp at h9'
          · rw [if_neg hx]; simp only; omega
        · by_cases hk0 : c.kind = 0
          · by_cases hbig : 4294967296 ≤ c.a
            · refine hrefuse 10 (by decide) ?_
              unfold startD; rw [if_pos ho]; exact cs_10 hk1 (by simp [hk0]) hbig
            · have hst : startD consS st.obj (st.wd.tick.begin q) q c = .run (.prop c.a false) := by
                unfold startD; rw [if_pos ho]; exact cs_prop hk1 (by simp [hk0]) hbig
              have hst2 : stepD consS calls st q i = ({ st with wd := consSwap (st.wd.tick.begin q) q c.a, hands := st.hands.set q (some (.prop c.a true), st.evs.length), evs := st.evs ++ [stepEv (newEv i (st.wd.tick.begin q))] }, false) := by
                unfold stepD; rw [hs]; simp only; rw [← hc, hst]
                simp only
                unfold goStep
                have e1 : consS.step st.obj (st.wd.tick.begin q) q (.prop c.a false) = ((), consSwap (st.wd.tick.begin q) q c.a, .prop c.a true, false) := rfl
                simp only [e1, Bool.false_eq_true, if_false, List.set_set]
                rw [modEv_snoc]
                rfl
              rw [hst2] at hg ⊢
              simp only [Bool.false_eq_true, if_false] at hg ⊢
              have hsw : (consSwap (st.wd.tick.begin q) q c.a).mem.ws = [if x = 0 then c.a + 1 else x] := memSwapIn (m := st.wd.mem) h.ws
              have hx0 : ∀ j, j < st.evs.length → x = 0 → (evAt st.evs j).resp ≠ 0 → (evAt st.evs j).ans.err ≠ 0 := fun j hj hx hr he => by
                have := (h.evs j hj).2 hr he; omega
              refine ⟨if x = 0 then c.a + 1 else x, hg, hsw, fun _ => ?_, fun j hj => ?_, fun r s' k' hr => ?_⟩
              · by_cases hx : x = 0
                · rw [if_pos hx]
                  refine ⟨st.evs.length, by simp, ?_⟩
                  show _ ∧ _ ∧ _
                  rw [show evAt (st.evs ++ [stepEv (newEv i (st.wd.tick.begin q))]) st.evs.length = _ from evAt_last]
                  show (calls.getD i d0).obj = 0 ∧ (calls.getD i d0).kind = 0 ∧ (calls.getD i d0).a + 1 = c.a + 1
                  rw [← hc]; exact ⟨ho, hk0, rfl⟩
                · rw [if_neg hx]; exact (h.prop hx).keep (by simp) (fun j hj => by rw [evAt_old hj])
              · simp only at hj ⊢
                rcases Nat.lt_or_ge j st.evs.length with h1 | h1
                · rw [evAt_old h1]
                  have := h.evs j h1
                  refine ⟨this.1, fun hr he => ?_⟩
                  by_cases hx : x = 0
                  · exact absurd he (hx0 j h1 hx hr)
                  · rw [if_neg hx]; exact this.2 hr he
                · obtain rfl : j = st.evs.length := by simp at hj; omega
                  rw [evAt_last]
                  exact ⟨by show 0 + 1 ≤ 2; omega, fun hr => absurd rfl hr⟩
              · simp only at hr
                by_cases hqr : q = r
                · subst hqr
                  rw [getD_set_eq (by rw [h.good.h16]; exact hq)] at hr
                  cases hr
                  refine ⟨c.a, rfl, ?_, ?_⟩
                  · rw [evAt_last]; rfl
                  · split
                    · omega
                    · assumption
                · rw [getD_set_neq hqr] at hr
                  obtain ⟨v', g1, g2, g3⟩ := h.hand r s' k' hr
                  have hkr := h.good.ev.hand r k' (by unfold hndOf; rw [hr]; rfl)
                  exact ⟨v', g1, by rw [evAt_old hkr.1]; exact g2, by rw [if_neg g3]; exact g3⟩
          · refine hrefuse 9 (by decide) ?_
            unfold startD; rw [if_pos ho]; exact cs_9 hk1 hk0
      · refine hrefuse 12 (by decide) ?_
        unfold startD; rw [if_neg ho]
theorem co_picks {calls : List CallD} (hthr : ∀ c, c < calls.length → 0 ≤ (calls.getD c d0).thread ∧ (calls.getD c d0).thread < 16) : ∀ (picks : List Int) {st : PlayD consS} {x : Nat}, CoInv calls st x → ∃ x', CoInv calls (picksD consS calls st picks) x'
  | [], _, x, h => ⟨x, h⟩
  | p :: ps, _, _, h => by
    obtain ⟨x', h'⟩ := co_pick hthr h p
    exact co_picks hthr ps h'
/-- The keys that are told at the end change nothing else. -/
theorem end_same {S : Sys} (st : PlayD S) (hl : ∀ o wd p s, S.late o wd p s = none) : ∀ (l : List Nat) (evs : List EvD), (l.foldl (endEv S st) evs).length = evs.length ∧ ∀ i, (evAt (l.foldl (endEv S st) evs) i).call = (evAt evs i).call ∧ (evAt (l.foldl (endEv S st) evs) i).inv = (evAt evs i).inv ∧ (evAt (l.foldl (endEv S st) evs) i).resp = (evAt evs i).resp ∧ (evAt (l.foldl (endEv S st) evs) i).steps = (evAt evs i).steps ∧ (evAt (l.foldl (endEv S st) evs) i).ans = (evAt evs i).ans
  | [], _ => ⟨rfl, fun _ => ⟨rfl, rfl, rfl, rfl, rfl⟩⟩
  | p :: l, evs => by
    rw [List.foldl_cons]
    obtain ⟨h1, h2⟩ := end_same st hl l (endEv S st evs p)
    have h3 : (endEv S st evs p).length = evs.length ∧ ∀ i, (evAt (endEv S st evs p) i).call = (evAt evs i).call ∧ (evAt (endEv S st evs p) i).inv = (evAt evs i).inv ∧ (evAt (endEv S st evs p) i).resp = (evAt evs i).resp ∧ (evAt (endEv S st evs p) i).steps = (evAt evs i).steps ∧ (evAt (endEv S st evs p) i).ans = (evAt evs i).ans := by
      unfold endEv
      split
      · exact ⟨rfl, fun _ => ⟨rfl, rfl, rfl, rfl, rfl⟩⟩
      · rename_i s k _
        refine ⟨by simp [modEv], fun i => ?_⟩
        rcases Nat.lt_or_ge k evs.length with hk | hk
        · unfold modEv
          rw [evAt_set _ hk]
          split
          · rename_i e; subst e; exact ⟨rfl, rfl, rfl, rfl, rfl⟩
          · exact ⟨rfl, rfl, rfl, rfl, rfl⟩
        · have : modEv evs k (fun e => { e with key := (S.late st.obj st.wd p s).getD (st.wd.marks.getD p []) }) = evs := by
            unfold modEv; exact List.set_eq_of_length_le hk
          rw [this]; exact ⟨rfl, rfl, rfl, rfl, rfl⟩
    refine ⟨h1.trans h3.1, fun i => ?_⟩
    have a := h2 i; have b := h3.2 i
    exact ⟨a.1.trans b.1, a.2.1.trans b.2.1, a.2.2.1.trans b.2.2.1, a.2.2.2.1.trans b.2.2.2.1, a.2.2.2.2.trans b.2.2.2.2⟩
theorem EvGood.len_le {calls : List CallD} {now : Nat} {fin : List Bool} {hnd : Nat → Option Nat} {evs : List EvD} (h : EvGood calls now fin hnd evs) : evs.length ≤ now := by
  have hi : ∀ i, i < evs.length → i + 1 ≤ (evAt evs i).inv := by
    intro i
    induction i with
    | zero => intro hi; have := (h.tick 0 hi).1; omega
    | succ i ih => intro hi; have h1 := ih (by omega); have h2 := h.rise i (i + 1) (by omega) hi; omega
  rcases Nat.eq_zero_or_pos evs.length with h0 | h0
  · omega
  · have h1 := hi (evs.length - 1) (by omega)
    have h2 := (h.tick (evs.length - 1) (by omega)).2.1
    omega
/-- What a play of proposals tells. -/
theorem co_play {calls : List CallD} (hthr : ∀ c, c < calls.length → 0 ≤ (calls.getD c d0).thread ∧ (calls.getD c d0).thread < 16) (picks : List Int) :
    (playD consS () [0] calls picks).evs.length ≤ picks.length ∧ ∃ x, (∀ i, i < (playD consS () [0] calls picks).evs.length → (evAt (playD consS () [0] calls picks).evs i).call < calls.length ∧ EvFits x (evAt (playD consS () [0] calls picks).evs i)) ∧ (x ≠ 0 → Proposed calls (playD consS () [0] calls picks).evs x) := by
  have h0 : CoInv calls (play0 consS () [0] calls) 0 := ⟨play0_good (S := consS) calls () [0], rfl, fun h => absurd rfl h, fun i hi => by simp [play0] at hi, fun p s k hk => by
    rw [show (play0 consS () [0] calls).hands.getD p (none, 0) = (none, 0) from getD_rep'] at hk; cases hk⟩
  obtain ⟨x, h⟩ := co_picks hthr picks h0
  obtain ⟨st1, hst1⟩ : ∃ st1, st1 = picksD consS calls (play0 consS () [0] calls) picks := ⟨_, rfl⟩
  rw [← hst1] at h
  have hE : (playD consS () [0] calls picks).evs = (List.range 16).foldl (endEv consS st1) st1.evs := by rw [hst1]; rfl
  obtain ⟨e1, e2⟩ := end_same st1 (fun _ _ _ _ => rfl) (List.range 16) st1.evs
  have htk := picks_ticks cons_now (play0 consS () [0] calls) picks (calls := calls)
  rw [← hst1] at htk
  rw [show (play0 consS () [0] calls).wd.now = 0 from rfl, show (play0 consS () [0] calls).idle = 0 from rfl] at htk
  rw [hE]
  refine ⟨by rw [e1]; have := h.good.ev.len_le; omega, x, fun i hi => ?_, fun hx => (h.prop hx).keep (by rw [e1]; exact Nat.le_refl _) (fun i _ => (e2 i).1)⟩
  rw [e1] at hi
  obtain ⟨a1, a2, a3, a4, a5⟩ := e2 i
  refine ⟨by rw [a1]; exact h.good.ev.call i hi, by rw [a4]; exact (h.evs i hi).1, fun hr he => ?_⟩
  rw [a3] at hr
  rw [a5] at he ⊢
  exact (h.evs i hi).2 hr he
end Go.Proofs.Ytkocgeedpinplaa
