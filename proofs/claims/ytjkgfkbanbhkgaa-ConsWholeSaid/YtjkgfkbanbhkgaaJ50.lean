/- Layer 7: a cons's report is that of operations done one by one (7.5), in plain numbers. -/
import Derived.Test.YtjkgfkbanbhkgaaJ30
import Derived.Test.YtjkgfkbanbhkgaaJ45
import Derived.Test.YtjkgfkbanbhkgaaJ49
set_option maxRecDepth 100000
set_option linter.unusedVariables false
set_option linter.unusedSimpArgs false
set_option linter.unnecessarySimpa false
namespace Go.Proofs.Ytjkgfkbanbhkgaa
open Go.RowKit

def consAp (st : List Nat) (c : CallD) : List Nat × AnsD :=
  if ¬ (c.kind = 0 ∨ c.kind = 1) then (st, ⟨9, 0, []⟩) else if c.kind = 0 ∧ 4294967296 ≤ c.a then (st, ⟨10, 0, []⟩) else if st.getD 0 0 = 0 ∧ c.kind = 1 then (st, ⟨7, 0, []⟩) else if st.getD 0 0 = 0 then ([c.a + 1], ⟨0, c.a, []⟩) else (st, ⟨0, st.getD 0 0 - 1, []⟩)
theorem consAp_9 {st : List Nat} {c : CallD} (h : ¬ (c.kind = 0 ∨ c.kind = 1)) : consAp st c = (st, ⟨9, 0, []⟩) := if_pos h
theorem consAp_10 {st : List Nat} {c : CallD} (h0 : c.kind = 0) (h : 4294967296 ≤ c.a) : consAp st c = (st, ⟨10, 0, []⟩) := (if_neg (not_not_intro (.inl h0))).trans (if_pos ⟨h0, h⟩)
theorem consAp_7 {st : List Nat} {c : CallD} (h1 : c.kind = 1) (h : st.getD 0 0 = 0) : consAp st c = (st, ⟨7, 0, []⟩) := (if_neg (not_not_intro (.inr h1))).trans ((if_neg (fun x => by omega)).trans (if_pos ⟨h, h1⟩))
theorem consAp_set {st : List Nat} {c : CallD} (h0 : c.kind = 0) (hb : ¬ 4294967296 ≤ c.a) (h : st.getD 0 0 = 0) : consAp st c = ([c.a + 1], ⟨0, c.a, []⟩) := (if_neg (not_not_intro (.inl h0))).trans ((if_neg (fun x => hb x.2)).trans ((if_neg (fun x => by omega)).trans (if_pos h)))
theorem consAp_got {y : Nat} {c : CallD} (hk : c.kind = 0 ∨ c.kind = 1) (hb : c.kind = 0 → ¬ 4294967296 ≤ c.a) : consAp [y + 1] c = ([y + 1], ⟨0, y, []⟩) :=
  (if_neg (not_not_intro hk)).trans ((if_neg (fun x => hb x.1 x.2)).trans ((if_neg (fun x => absurd x.1 (by simp))).trans ((if_neg (by simp)).trans rfl)))

/-- What one operation makes of a state. -/
def coStep (calls : List CallD) (evs : List EvD) (st : List Nat) (i : Nat) : List Nat := if (calls.getD (evAt evs i).call d0).obj ≠ 0 then st else (consAp st (calls.getD (evAt evs i).call d0)).1
/-- The state behind so many operations. -/
def coSt (calls : List CallD) (evs : List EvD) : Nat → List Nat
  | 0 => [0]
  | k + 1 => coStep calls evs (coSt calls evs k) k
theorem coSt_fold (calls : List CallD) (evs : List EvD) : ∀ (k : Nat) (l : List Nat), foldTo consAp calls evs [0] (List.range k ++ l) = foldTo consAp calls evs (coSt calls evs k) l
  | 0, l => rfl
  | k + 1, l => by
    rw [List.range_succ, List.append_assoc, coSt_fold calls evs k]; rfl
theorem coSt_congr {calls : List CallD} {evs evs' : List EvD} : ∀ {k : Nat}, (∀ j, j < k → (evAt evs' j).call = (evAt evs j).call) → coSt calls evs' k = coSt calls evs k
  | 0, _ => rfl
  | k + 1, h => by
    have h1 := coSt_congr (calls := calls) (k := k) fun j hj => h j (by omega)
    unfold coSt coStep
    rw [h1, h k (by omega)]
theorem coStep_keep {calls : List CallD} {evs : List EvD} {y i : Nat} : coStep calls evs [y + 1] i = [y + 1] := by
  unfold coStep
  split
  · rfl
  · generalize calls.getD (evAt evs i).call d0 = c
    by_cases hk : c.kind = 0 ∨ c.kind = 1
    · by_cases hb : c.kind = 0 ∧ 4294967296 ≤ c.a
      · rw [consAp_10 hb.1 hb.2]
      · rw [consAp_got hk (fun h1 h2 => hb ⟨h1, h2⟩)]
    · rw [consAp_9 hk]
theorem coSt_one (calls : List CallD) (evs : List EvD) : ∀ k, ∃ x, coSt calls evs k = [x]
  | 0 => ⟨0, rfl⟩
  | k + 1 => by
    obtain ⟨x, hx⟩ := coSt_one calls evs k
    unfold coSt
    rw [hx]
    unfold coStep
    split
    · exact ⟨x, rfl⟩
    · unfold consAp
      split
      · exact ⟨x, rfl⟩
      · split
        · exact ⟨x, rfl⟩
        · split
          · exact ⟨x, rfl⟩
          · split
            · exact ⟨_, rfl⟩
            · exact ⟨x, rfl⟩

/-- What an operation that has responded tells. -/
def cwDone (calls : List CallD) (evs : List EvD) (i : Nat) (e : EvD) : Prop :=
  e.key = [2 * (e.inv : Int)] ∧ e.ans = if (calls.getD e.call d0).obj ≠ 0 then ⟨12, 0, []⟩ else (consAp (coSt calls evs i) (calls.getD e.call d0)).2
structure CwInv (calls : List CallD) (st : PlayD consS) : Prop where
  ws : st.wd.mem.ws = coSt calls st.evs st.evs.length
  mlen : st.wd.marks.length = 16
  hand : ∀ p s k, st.hands.getD p (none, 0) = (some s, k) → ∃ v y, s = .prop v true ∧ (calls.getD (evAt st.evs k).call d0).obj = 0 ∧ st.wd.marks.getD p [] = [2 * ((evAt st.evs k).inv : Int)] ∧ st.wd.mem.ws = [y + 1] ∧ (consAp (coSt calls st.evs k) (calls.getD (evAt st.evs k).call d0)).2 = ⟨0, y, []⟩
  done : ∀ i, i < st.evs.length → (evAt st.evs i).resp ≠ 0 → cwDone calls st.evs i (evAt st.evs i)
  fault : st.wd.mem.c.fault = 0
  all : st.wd.mem.c.all ≤ st.wd.now
theorem memIn1 {m : MemD} {x : Nat} (h : m.ws = [x]) : (memRead m 0).1.c.fault = m.c.fault ∧ (memRead m 0).1.c.all = m.c.all + 1 := by
  have h1 := (memIn h).1
  unfold memRead
  rw [if_neg (by rw [h1]; simp)]
  exact ⟨rfl, by simp [CountsD.all]; omega⟩
theorem memSw1 {m : MemD} {x y : Nat} (h : m.ws = [x]) : (memSwap m 0 0 y).1.c.fault = m.c.fault ∧ (memSwap m 0 0 y).1.c.all = m.c.all + 1 := by
  have h1 := (memIn h).1
  unfold memSwap
  rw [if_neg (by rw [h1]; simp)]
  split <;> exact ⟨rfl, by simp [CountsD.all]; omega⟩
theorem keyOf_mark {wd : WD} {p : Nat} {k : List Int} (h : wd.marks.getD p [] = k) (hk : k ≠ []) : keyOf wd p [] = k := by
  unfold keyOf
  rw [if_pos rfl, h, if_neg hk]
theorem keyOf_none {wd : WD} {p : Nat} (h : wd.marks.getD p [] = []) : keyOf wd p [] = [2 * (wd.now : Int)] := by
  unfold keyOf
  rw [if_pos rfl, h, if_pos rfl]; rfl
/-- One event more, that has responded at once, and has left the word as it was, or an event that responds. -/
theorem cw_rest {calls : List CallD} {st st' : PlayD consS} {q k : Nat} {e1 : EvD} {x : Option consS.σ × Nat} (hg : StGood calls st) (h : CwInv calls st) (hq : q < 16) (hx : Next calls st q st'.evs k e1)
    (hk : k ≤ st.evs.length) (hcall : k < st.evs.length → e1.call = (evAt st.evs k).call) (hlen : st'.evs.length = (if k < st.evs.length then st.evs.length else st.evs.length + 1))
    (hws : st'.wd.mem.ws = coSt calls st'.evs st'.evs.length) (hm : st'.wd.marks.length = 16) (hmo : ∀ p, p ≠ q → st'.wd.marks.getD p [] = st.wd.marks.getD p [])
    (hh : st'.hands = st.hands.set q x) (hhand : ∀ s1 k1, x = (some s1, k1) → k1 = k ∧ ∃ v y, s1 = .prop v true ∧ (calls.getD e1.call d0).obj = 0 ∧ st'.wd.marks.getD q [] = [2 * (e1.inv : Int)] ∧ st'.wd.mem.ws = [y + 1] ∧ (consAp (coSt calls st.evs k) (calls.getD e1.call d0)).2 = ⟨0, y, []⟩)
    (hdone : e1.resp ≠ 0 → cwDone calls st.evs k e1) (hf : st'.wd.mem.c.fault = 0) (ha : st'.wd.mem.c.all ≤ st'.wd.now) : CwInv calls st' := by
  have hc : ∀ j, j < st.evs.length → (evAt st'.evs j).call = (evAt st.evs j).call := by
    intro j hj
    by_cases hjk : j = k
    · subst hjk; rw [hx.self]; exact hcall hj
    · rw [(hx.other j (Nat.lt_of_lt_of_le hj hx.size) hjk).2]
  have hco : ∀ i, i ≤ st.evs.length → coSt calls st'.evs i = coSt calls st.evs i := fun i hi => coSt_congr fun j hj => hc j (by omega)
  refine ⟨hws, hm, fun p s k2 hp => ?_, fun i hi hri => ?_, hf, ha⟩
  · rw [hh, hands_set hg.h16 hq] at hp
    by_cases hpq : p = q
    · subst hpq
      rw [if_pos rfl] at hp
      obtain ⟨rfl, v, y, h1, h2, h3, h4, h5⟩ := hhand s k2 hp
      rw [hx.self, hco _ hk]
      exact ⟨v, y, h1, h2, h3, h4, h5⟩
    · rw [if_neg hpq] at hp
      obtain ⟨v, y, h1, h2, h3, h4, h5⟩ := h.hand p s k2 hp
      obtain ⟨n1, n2⟩ := hx.apart p s k2 hpq hp
      obtain ⟨_, n3⟩ := hx.other k2 (Nat.lt_of_lt_of_le n2 hx.size) n1
      rw [n3, hco _ (by omega), hmo p hpq]
      refine ⟨v, y, h1, h2, h3, ?_, h5⟩
      have hw := h.ws
      rw [h4] at hw
      rw [hws, hlen]
      split
      · rw [hco _ (Nat.le_refl _), ← hw]
      · show coStep calls st'.evs (coSt calls st'.evs st.evs.length) st.evs.length = _
        rw [hco _ (Nat.le_refl _), ← hw]; exact coStep_keep
  · by_cases hik : i = k
    · subst hik
      rw [hx.self] at hri ⊢
      unfold cwDone
      rw [hco _ hk]
      exact hdone hri
    · obtain ⟨m1, m2⟩ := hx.other i hi hik
      rw [m2] at hri ⊢
      unfold cwDone
      rw [hco _ (by omega)]
      exact h.done i m1 hri
theorem cw_turn {calls : List CallD} {st st' : PlayD consS} (hg : StGood calls st) (h : CwInv calls st) (ht : Turn calls st st') : CwInv calls st' := by
  obtain ⟨x0, hx0⟩ := coSt_one calls st.evs st.evs.length
  have hw0 : st.wd.mem.ws = [x0] := h.ws.trans hx0
  have hmk : ∀ q, q < 16 → (st.wd.tick.begin q).marks.getD q [] = [] := fun q hq => getD_set_eq (by show q < st.wd.marks.length; rw [h.mlen]; exact hq)
  have hmo : ∀ q p, p ≠ q → (st.wd.tick.begin q).marks.getD p [] = st.wd.marks.getD p [] := fun q p hp => getD_set_neq (Ne.symm hp)
  have hml : ∀ q, (st.wd.tick.begin q).marks.length = 16 := fun q => by show (st.wd.marks.set q []).length = 16; rw [List.length_set]; exact h.mlen
  cases ht with
  | idle => exact ⟨h.ws, h.mlen, h.hand, h.done, h.fault, h.all⟩
  | refuse q i er hq hN hh hs =>
    obtain ⟨e, he⟩ : ∃ e, e = finishEv (st.wd.tick.begin q) q ⟨er, 0, []⟩ [] (newEv i (st.wd.tick.begin q)) := ⟨_, rfl⟩
    have hst : refuseTo st q i er = { wd := st.wd.tick.begin q, obj := st.obj, fin := st.fin.set i true, hands := st.hands.set q (none, st.evs.length), evs := st.evs ++ [e], idle := st.idle } := by rw [he]; rfl
    have ec : e.call = i := by rw [he]; rfl
    have ei : e.inv = st.wd.now + 1 := by rw [he]; rfl
    have ek : e.key = [2 * (e.inv : Int)] := by rw [ei, he]; exact keyOf_none (hmk q hq)
    have ea : e.ans = ⟨er, 0, []⟩ := by rw [he]; rfl
    -- it leaves every state as it is, and answers so
    have hap : ∀ s : List Nat, ((calls.getD i d0).obj ≠ 0 ∧ er = 12) ∨ ((calls.getD i d0).obj = 0 ∧ consAp s (calls.getD i d0) = (s, ⟨er, 0, []⟩)) := by
      intro s
      unfold startD at hs
      by_cases ho : (calls.getD i d0).obj = 0
      · rw [if_pos ho] at hs
        refine .inr ⟨ho, ?_⟩
        by_cases k1 : (calls.getD i d0).kind = 1
        · rw [cs_once k1] at hs; cases hs
        · by_cases k0 : (calls.getD i d0).kind = 0
          · by_cases hb : 4294967296 ≤ (calls.getD i d0).a
            · rw [cs_10 k1 (not_not_intro k0) hb] at hs; cases hs
              exact consAp_10 k0 hb
            · rw [cs_prop k1 (not_not_intro k0) hb] at hs; cases hs
          · rw [cs_9 k1 k0] at hs; cases hs
            exact consAp_9 (by omega)
      · rw [if_neg ho] at hs; cases hs
        exact .inl ⟨ho, rfl⟩
    have hstep : ∀ evs : List EvD, (evAt evs st.evs.length).call = i → ∀ s, coStep calls evs s st.evs.length = s := by
      intro evs hev s
      unfold coStep
      rw [hev]
      rcases hap s with ⟨h1, _⟩ | ⟨h1, h2⟩
      · rw [if_pos h1]
      · rw [if_neg (not_not_intro h1), h2]
    have hnx := refuse_next hg hN e ec
    rw [hst]
    refine cw_rest hg h hq hnx (Nat.le_refl _) (fun hk => absurd hk (Nat.lt_irrefl _)) (by simp) ?_ (hml q) (hmo q) rfl (fun s1 k1 hx => by cases hx) (fun _ => ⟨ek, ?_⟩) h.fault (Nat.le_succ_of_le h.all)
    · show st.wd.mem.ws = coSt calls (st.evs ++ [e]) (st.evs ++ [e]).length
      rw [List.length_append]
      show _ = coStep calls (st.evs ++ [e]) (coSt calls (st.evs ++ [e]) st.evs.length) st.evs.length
      rw [hstep _ (by rw [evAt_last]; exact ec), coSt_congr (evs := st.evs) (fun j hj => by rw [evAt_old hj])]; exact h.ws
    · rw [ea, ec]
      rcases hap (coSt calls st.evs st.evs.length) with ⟨h1, h2⟩ | ⟨h1, h2⟩
      · rw [if_pos h1, h2]
      · rw [if_neg (not_not_intro h1), h2]
  | step q i k s evs0 wd0 hq hN hf =>
    rcases hf.or with ⟨hh, hk, hc, hr, rfl, rfl⟩ | ⟨hh, hs, rfl, rfl, rfl⟩
    · obtain ⟨v, y, rfl, h2, h3, h4, h5⟩ := h.hand q s k hh
      obtain ⟨m1, m2, m3⟩ := memIn (m := st.wd.mem) h4
      obtain ⟨m4, m5⟩ := memIn1 (m := st.wd.mem) h4
      obtain ⟨e1, he1⟩ : ∃ e1, e1 = finishEv (consRead st.wd.tick) q ⟨0, y, []⟩ [] (evAt st.evs k) := ⟨_, rfl⟩
      have hst : consS.step st.obj st.wd.tick q (.prop v true) = ((), consRead st.wd.tick, .prop (consDec (memRead st.wd.mem 0).2) true, true) := rfl
      have hdec : consDec (memRead st.wd.mem 0).2 = y := by rw [m2]; unfold consDec; rw [if_neg (by omega)]; omega
      have hto : stepTo st (consS.step st.obj st.wd.tick q (.prop v true)) q i k st.evs = { wd := consRead st.wd.tick, obj := (), fin := st.fin.set i true, hands := st.hands.set q (none, k), evs := st.evs.set k e1, idle := st.idle } := by rw [hst, hdec, he1]; rfl
      have hnx := hf.next hg hN e1 (by rw [he1]; rfl)
      have ecl : e1.call = (evAt st.evs k).call := by rw [he1]; rfl
      have ein : e1.inv = (evAt st.evs k).inv := by rw [he1]; rfl
      rw [hto]
      refine cw_rest hg h hq hnx (Nat.le_of_lt hk) (fun _ => ecl) (by rw [if_pos hk]; simp) ?_ h.mlen (fun p _ => rfl) rfl (fun s1 k1 hx => by cases hx) (fun _ => ⟨?_, ?_⟩) ?_ ?_
      · show (memRead st.wd.mem 0).1.ws = coSt calls (st.evs.set k e1) (st.evs.set k e1).length
        rw [m3, List.length_set, coSt_congr (evs := st.evs) (fun j hj => ?_), ← h4]
        · exact h.ws
        · rw [evAt_set _ hk]
          split
          · rename_i e; subst e; exact ecl
          · rfl
      · rw [ein, he1]
        exact keyOf_mark (wd := consRead st.wd.tick) h3 (by simp)
      · rw [ecl, if_neg (not_not_intro h2), h5, he1]; rfl
      · show (memRead st.wd.mem 0).1.c.fault = 0
        rw [m4]; exact h.fault
      · show (memRead st.wd.mem 0).1.c.all ≤ st.wd.now + 1
        rw [m5]; have := h.all; omega
    · unfold startD at hs
      by_cases ho : (calls.getD i d0).obj = 0
      · rw [if_pos ho] at hs
        have he0 : evAt (st.evs ++ [newEv i (st.wd.tick.begin q)]) st.evs.length = newEv i (st.wd.tick.begin q) := evAt_last
        have hset : ∀ e1 : EvD, (st.evs ++ [newEv i (st.wd.tick.begin q)]).set st.evs.length e1 = st.evs ++ [e1] := fun e1 => by rw [List.set_append_right _ _ (Nat.le_refl _)]; simp
        have hst1 : ∀ e1 : EvD, e1.call = i → coSt calls (st.evs ++ [e1]) (st.evs ++ [e1]).length = (consAp [x0] (calls.getD i d0)).1 := by
          intro e1 h1
          rw [List.length_append]
          show coStep calls (st.evs ++ [e1]) (coSt calls (st.evs ++ [e1]) st.evs.length) st.evs.length = _
          unfold coStep
          rw [evAt_last, h1, if_neg (not_not_intro ho), coSt_congr (evs := st.evs) (fun j hj => by rw [evAt_old hj]), hx0]
        by_cases k1 : (calls.getD i d0).kind = 1
        · rw [cs_once k1] at hs; cases hs
          obtain ⟨m1, m2, m3⟩ := memIn (m := st.wd.mem) hw0
          obtain ⟨m4, m5⟩ := memIn1 (m := st.wd.mem) hw0
          obtain ⟨a, ha⟩ : ∃ a, a = (consAct (calls.getD i d0) (st.wd.tick.begin q)).2 := ⟨_, rfl⟩
          have ha2 : a = if x0 = 0 then (7, 0) else (0, x0 - 1) := by
            rw [ha]; show (if (memRead st.wd.mem 0).2 = 0 then ((7 : Int), (0 : Nat)) else (0, (memRead st.wd.mem 0).2 - 1)) = _; rw [m2]
          have hap : consAp [x0] (calls.getD i d0) = ([x0], ⟨a.1, a.2, []⟩) := by
            rw [ha2]
            by_cases hx : x0 = 0
            · rw [if_pos hx, consAp_7 k1 (by rw [hx]; rfl)]
            · obtain ⟨y, rfl⟩ : ∃ y, x0 = y + 1 := ⟨x0 - 1, by omega⟩
              rw [if_neg hx, consAp_got (.inr k1) (fun h => by omega)]; rfl
          obtain ⟨e1, he1⟩ : ∃ e1, e1 = finishEv (consAct (calls.getD i d0) (st.wd.tick.begin q)).1 q ⟨a.1, a.2, []⟩ [] (newEv i (st.wd.tick.begin q)) := ⟨_, rfl⟩
          have hto : stepTo st (consS.step st.obj (st.wd.tick.begin q) q (.once (calls.getD i d0) (0, 0))) q i st.evs.length (st.evs ++ [newEv i (st.wd.tick.begin q)]) = { wd := (consAct (calls.getD i d0) (st.wd.tick.begin q)).1, obj := (), fin := st.fin.set i true, hands := st.hands.set q (none, st.evs.length), evs := st.evs ++ [e1], idle := st.idle } := by
            have e9 : consS.step st.obj (st.wd.tick.begin q) q (.once (calls.getD i d0) (0, 0)) = ((), (consAct (calls.getD i d0) (st.wd.tick.begin q)).1, .once (calls.getD i d0) a, true) := by rw [ha]; rfl
            rw [e9, ← hset e1, he1]
            unfold stepTo ev1
            simp only [if_true]
            rw [he0]; rfl
          have ecl : e1.call = i := by rw [he1]; rfl
          have hnx := hf.next hg hN e1 (by rw [he0, ecl]; rfl)
          rw [hset] at hnx
          rw [hto]
          refine cw_rest hg h hq hnx (Nat.le_refl _) (fun hk => absurd hk (Nat.lt_irrefl _)) (by simp) ?_ (hml q) (hmo q) rfl (fun s1 k1 hx => by cases hx) (fun _ => ⟨?_, ?_⟩) ?_ ?_
          · show (memRead st.wd.mem 0).1.ws = coSt calls (st.evs ++ [e1]) (st.evs ++ [e1]).length
            rw [hst1 e1 ecl, hap, m3]
          · have : e1.inv = st.wd.now + 1 := by rw [he1]; rfl
            rw [this, he1]
            exact keyOf_none (wd := (consAct (calls.getD i d0) (st.wd.tick.begin q)).1) (hmk q hq)
          · rw [ecl, if_neg (not_not_intro ho), hx0, hap, he1]; rfl
          · show (memRead st.wd.mem 0).1.c.fault = 0
            rw [m4]; exact h.fault
          · show (memRead st.wd.mem 0).1.c.all ≤ st.wd.now + 1
            rw [m5]; have := h.all; omega
        · by_cases k0 : (calls.getD i d0).kind = 0
          · by_cases hb : 4294967296 ≤ (calls.getD i d0).a
            · rw [cs_10 k1 (not_not_intro k0) hb] at hs; cases hs
            · rw [cs_prop k1 (not_not_intro k0) hb] at hs; cases hs
              obtain ⟨m4, m5⟩ := memSw1 (m := st.wd.mem) (y := (calls.getD i d0).a + 1) hw0
              have m3 := memSwapIn (m := st.wd.mem) (y := (calls.getD i d0).a + 1) hw0
              obtain ⟨y, hy1, hy2, hy3⟩ : ∃ y, (if x0 = 0 then (calls.getD i d0).a + 1 else x0) = y + 1 ∧ (consAp [x0] (calls.getD i d0)).1 = [y + 1] ∧ (consAp [x0] (calls.getD i d0)).2 = ⟨0, y, []⟩ := by
                by_cases hx : x0 = 0
                · rw [if_pos hx, consAp_set k0 hb (by rw [hx]; rfl)]; exact ⟨_, rfl, rfl, rfl⟩
                · obtain ⟨y, rfl⟩ : ∃ y, x0 = y + 1 := ⟨x0 - 1, by omega⟩
                  rw [if_neg hx, consAp_got (.inl k0) (fun _ => hb)]; exact ⟨y, rfl, rfl, rfl⟩
              obtain ⟨e1, he1⟩ : ∃ e1, e1 = stepEv (newEv i (st.wd.tick.begin q)) := ⟨_, rfl⟩
              have hto : stepTo st (consS.step st.obj (st.wd.tick.begin q) q (.prop (calls.getD i d0).a false)) q i st.evs.length (st.evs ++ [newEv i (st.wd.tick.begin q)]) = { wd := consSwap (st.wd.tick.begin q) q (calls.getD i d0).a, obj := (), fin := st.fin, hands := st.hands.set q (some (.prop (calls.getD i d0).a true), st.evs.length), evs := st.evs ++ [e1], idle := st.idle } := by
                rw [← hset e1, he1]
                show stepTo st ((), consSwap (st.wd.tick.begin q) q (calls.getD i d0).a, CoS.prop (calls.getD i d0).a true, false) q i st.evs.length _ = _
                unfold stepTo ev1
                simp only [Bool.false_eq_true, if_false]
                rw [he0]
              have ecl : e1.call = i := by rw [he1]; rfl
              have ein : e1.inv = st.wd.now + 1 := by rw [he1]; rfl
              have ers : e1.resp = 0 := by rw [he1]; rfl
              have hnx := hf.next hg hN e1 (by rw [he0, ecl]; rfl)
              rw [hset] at hnx
              rw [hto]
              have hmq : (consSwap (st.wd.tick.begin q) q (calls.getD i d0).a).marks.getD q [] = [2 * ((st.wd.now + 1 : Nat) : Int)] := by
                show ((st.wd.marks.set q []).set q _).getD q [] = _
                rw [getD_set_eq (by rw [List.length_set, h.mlen]; exact hq)]; rfl
              refine cw_rest hg h hq hnx (Nat.le_refl _) (fun hk => absurd hk (Nat.lt_irrefl _)) (by simp) ?_ ?_ (fun p hp => ?_) rfl (fun s1 k1 hx => ?_) (fun hne => absurd ers hne) ?_ ?_
              · show (memSwap st.wd.mem 0 0 ((calls.getD i d0).a + 1)).1.ws = coSt calls (st.evs ++ [e1]) (st.evs ++ [e1]).length
                rw [hst1 e1 ecl, hy2, m3, hy1]
              · show ((st.wd.marks.set q []).set q _).length = 16
                rw [List.length_set, List.length_set]; exact h.mlen
              · show ((st.wd.marks.set q []).set q _).getD p [] = _
                rw [getD_set_neq (Ne.symm hp), getD_set_neq (Ne.symm hp)]
              · cases hx
                refine ⟨rfl, _, y, rfl, by rw [ecl]; exact ho, ?_, ?_, by rw [ecl, hx0]; exact hy3⟩
                · rw [ein]; exact hmq
                · show (memSwap st.wd.mem 0 0 ((calls.getD i d0).a + 1)).1.ws = _
                  rw [m3, hy1]
              · show (memSwap st.wd.mem 0 0 ((calls.getD i d0).a + 1)).1.c.fault = 0
                rw [m4]; exact h.fault
              · show (memSwap st.wd.mem 0 0 ((calls.getD i d0).a + 1)).1.c.all ≤ st.wd.now + 1
                rw [m5]; have := h.all; omega
          · rw [cs_9 k1 k0] at hs; cases hs
      · rw [if_neg ho] at hs; cases hs
theorem cw_play0 (calls : List CallD) : CwInv calls (play0 consS () [0] calls) where
  ws := rfl
  mlen := by simp [play0, wd0]
  hand := fun p s k hp => by rw [show (play0 consS () [0] calls).hands.getD p (none, 0) = (none, 0) from getD_rep'] at hp; cases hp
  done := fun i hi => by simp [play0] at hi
  fault := rfl
  all := Nat.le_refl _
/-- Keys that rise as the events do: the order is that of the events. -/
theorem orderK_range {evs : List EvD} (hne : ∀ i, i < evs.length → kAt evs i ≠ []) (hlt : ∀ i j, i < j → j < evs.length → keyLt (kAt evs j) (kAt evs i) = false) : ∀ k, k ≤ evs.length → orderK evs k = List.range k
  | 0, _ => rfl
  | k + 1, hk => by
    have h0 : orderK evs (k + 1) = if kAt evs k = [] then orderK evs k else insK evs (orderK evs k) k := rfl
    rw [h0, if_neg (hne k (by omega)), orderK_range hne hlt k (by omega)]
    have hi : insAt evs (List.range k) k (List.range k).length = k := by
      rw [List.length_range]
      cases k with
      | zero => rfl
      | succ k =>
        unfold insAt
        have e : (List.range (k + 1)).getD k 0 = k := by simp [List.getD_eq_getElem?_getD]
        rw [e, hlt k (k + 1) (by omega) (by omega)]; rfl
    unfold insK
    rw [hi, List.range_succ, List.take_of_length_le (by simp), List.drop_of_length_le (by simp)]
theorem co_whole {n : Nat} {calls : List CallD} {np : Nat} (hck : checkN n calls np = 0) (picks : List Int) (hnp : picks.length ≤ 65536) : WholeGood consAp [0] calls n (playD consS () [0] calls picks) ∧ (playD consS () [0] calls picks).evs.length ≤ picks.length := by
  obtain ⟨h1, h2⟩ := n_ok hck
  have hthr : ∀ c, c < calls.length → 0 ≤ (calls.getD c d0).thread ∧ (calls.getD c d0).thread < n := fun c hc => by have := thr_ok hck c hc; omega
  have hthr' : ∀ c, c < calls.length → 0 ≤ (calls.getD c d0).thread ∧ (calls.getD c d0).thread < 16 := fun c hc => by have := hthr c hc; omega
  obtain ⟨hg, h⟩ := picks_ind (S := consS) cons_now hthr' (J := CwInv calls) (fun st st' hg _ hj ht => cw_turn hg hj ht) picks (play0_good (S := consS) calls () [0]) (cw_play0 calls)
  have htk := picks_ticks cons_now (play0 consS () [0] calls) picks (calls := calls)
  rw [show (play0 consS () [0] calls).wd.now = 0 from rfl, show (play0 consS () [0] calls).idle = 0 from rfl] at htk
  obtain ⟨st, hst⟩ : ∃ st, st = picksD consS calls (play0 consS () [0] calls) picks := ⟨_, rfl⟩
  rw [← hst] at hg h htk
  have hP : playD consS () [0] calls picks = reportD consS st := by rw [hst]; rfl
  rw [hP]
  have hlen := end_length (calls := calls) hg
  have hat := fun i hi => end_at hg hthr' (i := i) hi
  have hev := hg.ev.len_le
  have hopen : ∀ p s k, st.hands.getD p (none, 0) = (some s, k) → (consS.late st.obj st.wd p s).getD (st.wd.marks.getD p []) = [2 * ((evAt st.evs k).inv : Int)] := fun p s k hp => by
    obtain ⟨v, y, _, _, h3, _⟩ := h.hand p s k hp
    exact h3
  have hrows : RowsGood calls n (reportD consS st) := rows_good hg (by omega) (by omega) hthr ⟨fun i hi hr => by
      have hre := hg.ev.resp i hi hr
      rw [(h.done i hi hr).1]; exact ⟨by simp, by simp, by simp; omega⟩, fun p s k hp => .inr (by
      obtain ⟨k1, _⟩ := hg.ev.hand p k (by unfold hndOf; rw [hp]; rfl)
      have := (hg.ev.tick k k1).2.1
      rw [hopen p s k hp]; exact ⟨by simp, by simp, by simp; omega⟩)⟩ h.fault h.all (by omega)
  refine ⟨⟨hrows, ?_⟩, by show (endD consS st).length ≤ _; omega⟩
  show Fold consAp calls (endD consS st) [0] (orderD (endD consS st))
  have hpre : ∀ i, i < st.evs.length → (evAt (endD consS st) i).call = (evAt st.evs i).call ∧ (evAt (endD consS st) i).resp = (evAt st.evs i).resp ∧ kAt (endD consS st) i = [2 * ((evAt st.evs i).inv : Int)] := by
    intro i hi
    by_cases hr : (evAt st.evs i).resp = 0
    · obtain ⟨s, hs, e⟩ := (hat i hi).2 hr
      refine ⟨by rw [e], by rw [e], ?_⟩
      unfold kAt
      rw [e]
      exact hopen _ s i hs
    · rw [(hat i hi).1 hr]
      refine ⟨rfl, rfl, ?_⟩
      unfold kAt
      rw [(hat i hi).1 hr]; exact (h.done i hi hr).1
  have hord : orderD (endD consS st) = List.range st.evs.length := by
    unfold orderD
    rw [hlen]
    refine orderK_range (fun i hi => ?_) (fun i j hij hj => ?_) _ (by rw [hlen]; exact Nat.le_refl _)
    · rw [(hpre i (by omega)).2.2]; simp
    · have := hg.ev.rise i j hij (by omega)
      rw [(hpre i (by omega)).2.2, (hpre j (by omega)).2.2]
      simp only [keyLt]
      rw [if_neg (by omega)]
      apply decide_eq_false
      omega
  rw [hord]
  refine fold_of _ _ fun l i m hL hr => ?_
  have hll : l.length < st.evs.length := by
    have := congrArg List.length hL
    rw [List.length_range, List.length_append, List.length_cons] at this; omega
  have hi : i = l.length := by
    have := congrArg (fun L => L[l.length]?) hL
    simp only [List.getElem?_range hll, List.getElem?_append_right (Nat.le_refl _), Nat.sub_self, List.getElem?_cons_zero, Option.some.injEq] at this
    exact this.symm
  have hl : l = List.range l.length := by
    have h9 : (List.range st.evs.length).take l.length = l := by rw [hL]; exact List.take_left
    rw [List.take_range, Nat.min_eq_left (by omega)] at h9
    exact h9.symm
  subst hi
  obtain ⟨p1, p2, _⟩ := hpre l.length hll
  rw [p2] at hr
  have hd := (h.done l.length hll hr).2
  rw [(hat l.length hll).1 hr]
  rw [hd]
  have hf : foldTo consAp calls (endD consS st) [0] l = coSt calls st.evs l.length := by
    rw [hl]
    have h9 := coSt_fold calls (endD consS st) l.length []
    rw [List.append_nil] at h9
    rw [List.length_range, h9]
    show coSt calls (endD consS st) l.length = _
    exact coSt_congr fun j hj => (hpre j (by omega)).1
  rw [hf]
end Go.Proofs.Ytjkgfkbanbhkgaa
