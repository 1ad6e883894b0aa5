/- Layer 8: what reads tell (8.4, 8.5), in plain numbers. -/
import Derived.Test.YtjkgfkbanbhkgaaJ32
import Derived.Test.YtjkgfkbanbhkgaaJ30
set_option maxRecDepth 100000
set_option linter.unusedVariables false
set_option linter.unusedSimpArgs false
set_option linter.unnecessarySimpa false
namespace Go.Proofs.Ytjkgfkbanbhkgaa
section
open Go.RowKit

theorem cnt_same {P : EvD → Bool} : ∀ {l m : List EvD}, l.length = m.length → (∀ i, i < l.length → P (evAt l i) = P (evAt m i)) → cnt P l = cnt P m
  | [], [], _, _ => rfl
  | [], _ :: _, h, _ => by simp at h
  | _ :: _, [], h, _ => by simp at h
  | a :: l, b :: m, h, g => by
    rw [cnt_cons, cnt_cons, cnt_same (l := l) (m := m) (by simpa using h) (fun i hi => g (i + 1) (by simp; omega))]
    have h0 := g 0 (by simp)
    have e1 : evAt (a :: l) 0 = a := rfl
    have e2 : evAt (b :: m) 0 = b := rfl
    rw [e1, e2] at h0
    rw [h0]
theorem ta_steps {n : Nat} (hn : 1 ≤ n) {calls : List CallD} {st : PlayD (tallyS n)} (hg : StGood calls st) (h : TaInv n calls st) {i : Nat} (hi : i < st.evs.length) : (evAt st.evs i).steps ≤ max n 2 := by
  by_cases hr : (evAt st.evs i).resp = 0
  · have ho := (hg.ev.open_ i hi hr).2
    unfold hndOf at ho
    obtain ⟨p, hp⟩ : ∃ p, p = tn calls (evAt st.evs i) := ⟨_, rfl⟩
    rw [← hp] at ho
    cases hh : st.hands.getD p (none, 0) with
    | mk m k =>
      rw [hh] at ho
      cases m with
      | none => simp at ho
      | some s =>
        simp only [Option.isSome_some, if_true, Option.some.injEq] at ho
        subst ho
        obtain ⟨_, g2, _⟩ := h.hand p s k hh
        match s, g2 with
        | .count seen v, ⟨_, _, b3, _⟩ => omega
        | .read a s' ky, ⟨b1, _, _, b4, _⟩ => omega
  · have hd := h.done i hi hr
    unfold taDone at hd
    split at hd
    · have := hd.2.2; omega
    · split at hd
      · have := hd.2.2.1; omega
      · split at hd
        · obtain ⟨_, _, _, _, _, _, _, _, _, h8⟩ := hd; omega
        · have := hd.2.2; omega
theorem ta_report {n : Nat} {calls : List CallD} {np : Nat} (hck : checkN n calls np = 0) (picks : List Int) :
    (playD (tallyS n) () (List.replicate n 0) calls picks).evs.length ≤ picks.length ∧ BetGood calls (playD (tallyS n) () (List.replicate n 0) calls picks).evs ∧ ∀ i, i < (playD (tallyS n) () (List.replicate n 0) calls picks).evs.length → (evAt (playD (tallyS n) () (List.replicate n 0) calls picks).evs i).steps ≤ max n 2 := by
  obtain ⟨h1, h2⟩ := n_ok hck
  obtain ⟨hg, h, hnow⟩ := ta_picks hck picks
  obtain ⟨st, hst⟩ : ∃ st, st = picksD (tallyS n) calls (play0 (tallyS n) () (List.replicate n 0) calls) picks := ⟨_, rfl⟩
  rw [← hst] at hg h hnow
  have hE : (playD (tallyS n) () (List.replicate n 0) calls picks).evs = endD (tallyS n) st := by rw [hst]; rfl
  rw [hE]
  have hlen := end_length (calls := calls) hg
  obtain ⟨e1, e2⟩ := end_same st (fun _ _ _ _ => rfl) (List.range 16) st.evs
  have hev := hg.ev.len_le
  have hthr : ∀ c, c < calls.length → 0 ≤ (calls.getD c d0).thread ∧ (calls.getD c d0).thread < n := fun c hc => by have := thr_ok hck c hc; omega
  have hsame : ∀ i, (evAt (endD (tallyS n) st) i).call = (evAt st.evs i).call ∧ (evAt (endD (tallyS n) st) i).inv = (evAt st.evs i).inv ∧ (evAt (endD (tallyS n) st) i).resp = (evAt st.evs i).resp ∧ (evAt (endD (tallyS n) st) i).steps = (evAt st.evs i).steps ∧ (evAt (endD (tallyS n) st) i).ans = (evAt st.evs i).ans := e2
  -- a read that has responded
  have hread : ∀ i, i < st.evs.length → (calls.getD (evAt st.evs i).call d0).obj = 0 → (calls.getD (evAt st.evs i).call d0).kind = 1 → (evAt st.evs i).resp ≠ 0 → cnt (tP3 calls n (evAt st.evs i).inv) st.evs ≤ (evAt st.evs i).ans.val ∧ (evAt st.evs i).ans.val ≤ cnt (tP4 calls (evAt st.evs i).resp) st.evs := by
    intro i hi ho hk hr
    have hd := h.done i hi hr
    unfold taDone at hd
    rw [if_neg (by unfold objOf; simpa using ho), if_neg (by unfold kindOf; omega), if_pos (by unfold kindOf; exact hk)] at hd
    obtain ⟨wn, v, a1, a2, a3, a4, a5, a6, a7, a8⟩ := hd
    rw [a1]; exact ⟨a6, a7⟩
  have hcount : ∀ i, i < st.evs.length → isK calls 0 (evAt st.evs i) = true → (evAt st.evs i).ans.err = 0 ∧ (evAt st.evs i).inv < (evAt st.evs i).resp := by
    intro i hi hk
    obtain ⟨k1, k2, k3⟩ := isK_spec.1 hk
    have hd := h.done i hi k3
    unfold taDone at hd
    rw [if_neg (by simpa using k1), if_pos k2] at hd
    exact ⟨by rw [hd.1], hd.2.2.2⟩
  refine ⟨by omega, ⟨fun i hi => ?_, fun i hi ho hk hr he => ?_⟩, fun i hi => ?_⟩
  · rw [hlen] at hi
    rw [(hsame i).1]; exact hg.ev.call i hi
  · rw [hlen] at hi
    obtain ⟨s1, s2, s3, s4, s5⟩ := hsame i
    rw [s1] at ho hk
    rw [s3] at hr
    rw [s5] at he ⊢
    rw [s2, s3]
    obtain ⟨r1, r2⟩ := hread i hi ho hk hr
    refine ⟨fun j hj je jo jk jr jlt => ?_, ?_, ?_⟩
    · rw [hlen] at hj
      obtain ⟨t1, t2, t3, t4, t5⟩ := hsame j
      rw [t1] at jo jk
      rw [t3] at jr jlt
      rw [t5]
      obtain ⟨_, q2⟩ := hread j hj jo jk jr
      have : cnt (tP4 calls (evAt st.evs j).resp) st.evs ≤ cnt (tP3 calls n (evAt st.evs i).inv) st.evs := cnt_mono fun m hm hp => by
        unfold tP4 at hp; unfold tP3
        simp only [Bool.and_eq_true, decide_eq_true_eq] at hp ⊢
        have h3 := hthr _ (hg.ev.call m hm)
        exact ⟨⟨hp.1, by unfold tn; omega⟩, by omega⟩
      omega
    · have hs : cnt (bD calls (evAt st.evs i).inv) (endD (tallyS n) st) = cnt (bD calls (evAt st.evs i).inv) st.evs := cnt_same hlen (fun m hm => by
        obtain ⟨t1, t2, t3, t4, t5⟩ := hsame m
        unfold bD; rw [t1, t3, t5])
      rw [hs]
      refine Nat.le_trans (cnt_mono fun m hm hp => ?_) r1
      unfold bD at hp; unfold tP3
      simp only [Bool.and_eq_true, decide_eq_true_eq] at hp ⊢
      have h3 := hthr _ (hg.ev.call m hm)
      exact ⟨⟨isK_spec.2 ⟨hp.1.1.1.2, hp.1.1.2, hp.1.2⟩, by unfold tn; omega⟩, hp.2⟩
    · have hs : cnt (bB calls (evAt st.evs i).resp) (endD (tallyS n) st) = cnt (bB calls (evAt st.evs i).resp) st.evs := cnt_same hlen (fun m hm => by
        obtain ⟨t1, t2, t3, t4, t5⟩ := hsame m
        unfold bB; rw [t1, t2, t5])
      rw [hs]
      refine Nat.le_trans r2 (cnt_mono fun m hm hp => ?_)
      unfold tP4 at hp; unfold bB
      simp only [Bool.and_eq_true, decide_eq_true_eq] at hp ⊢
      obtain ⟨k1, k2, k3⟩ := isK_spec.1 hp.1
      obtain ⟨c1, c2⟩ := hcount m hm hp.1
      exact ⟨⟨⟨c1, k1⟩, k2⟩, by omega⟩
  · rw [hlen] at hi
    rw [(hsame i).2.2.2.1]; exact ta_steps (by omega) hg h hi
end
section

/- Layer 12: what those that take phases get (12.3, 12.4), in plain numbers. -/
open Go.RowKit

/-- Took, or was about to, ahead of a response. -/
def dB (calls : List CallD) (rs : Nat) (y : EvD) : Bool := decide ((calls.getD y.call d0).obj = 0) && decide ((calls.getD y.call d0).kind = 0) && decide (y.inv < rs)
theorem dB0 {D jv rs : Nat} {ob kd : Int} (h : ¬ (ob = 0 ∧ kd = 0 ∧ jv < rs)) : D + (if (decide (ob = 0) && decide (kd = 0) && decide (jv < rs)) = true then 1 else 0) = D := by
  rw [if_neg (by simpa [and_assoc] using h), Nat.add_zero]
theorem dB1 {D jv rs : Nat} {ob kd : Int} (h : ob = 0 ∧ kd = 0 ∧ jv < rs) : D + (if (decide (ob = 0) && decide (kd = 0) && decide (jv < rs)) = true then 1 else 0) = D + 1 := by
  rw [if_pos (by simpa [and_assoc] using h)]
structure DoorGood (n : Nat) (calls : List CallD) (evs : List EvD) : Prop where
  call : ∀ i, i < evs.length → (evAt evs i).call < calls.length
  steps : ∀ i, i < evs.length → (evAt evs i).steps ≤ n + 1
  takes : ∀ i, i < evs.length → (calls.getD (evAt evs i).call d0).obj = 0 → (calls.getD (evAt evs i).call d0).kind = 0 → (evAt evs i).resp ≠ 0 →
    (∀ j, j < evs.length → (calls.getD (evAt evs j).call d0).obj = 0 → (calls.getD (evAt evs j).call d0).kind = 0 → (evAt evs j).resp ≠ 0 → (evAt evs j).resp < (evAt evs i).inv → (evAt evs j).ans.val < (evAt evs i).ans.val) ∧
    1 ≤ (evAt evs i).ans.val ∧ (evAt evs i).ans.val ≤ cnt (dB calls (evAt evs i).resp) evs
theorem do_steps {n : Nat} {calls : List CallD} {st : PlayD (doorS n)} (hg : StGood calls st) (h : DoInv n calls st) {i : Nat} (hi : i < st.evs.length) : (evAt st.evs i).steps ≤ n + 1 := by
  by_cases hr : (evAt st.evs i).resp = 0
  · have ho := (hg.ev.open_ i hi hr).2
    unfold hndOf at ho
    obtain ⟨p, hp⟩ : ∃ p, p = tn calls (evAt st.evs i) := ⟨_, rfl⟩
    rw [← hp] at ho
    cases hh : st.hands.getD p (none, 0) with
    | mk m k =>
      rw [hh] at ho
      cases m with
      | none => simp at ho
      | some s =>
        simp only [Option.isSome_some, if_true, Option.some.injEq] at ho
        subst ho
        obtain ⟨_, g2⟩ := h.hand p s k hh
        match s, g2 with
        | .take a v, ⟨b1, _, _, _, b5, _⟩ => omega
  · exact (h.done i hi hr).1
theorem do_report {n : Nat} {calls : List CallD} {np : Nat} (hck : checkN n calls np = 0) (picks : List Int) :
    (playD (doorS n) () (List.replicate n 0) calls picks).evs.length ≤ picks.length ∧ DoorGood n calls (playD (doorS n) () (List.replicate n 0) calls picks).evs := by
  obtain ⟨hg, h, hnow⟩ := do_picks hck picks
  obtain ⟨st, hst⟩ : ∃ st, st = picksD (doorS n) calls (play0 (doorS n) () (List.replicate n 0) calls) picks := ⟨_, rfl⟩
  rw [← hst] at hg h hnow
  have hE : (playD (doorS n) () (List.replicate n 0) calls picks).evs = endD (doorS n) st := by rw [hst]; rfl
  rw [hE]
  have hlen := end_length (calls := calls) hg
  obtain ⟨e1, e2⟩ := end_same st (fun _ _ _ _ => rfl) (List.range 16) st.evs
  have hev := hg.ev.len_le
  have hsame : ∀ i, (evAt (endD (doorS n) st) i).call = (evAt st.evs i).call ∧ (evAt (endD (doorS n) st) i).inv = (evAt st.evs i).inv ∧ (evAt (endD (doorS n) st) i).resp = (evAt st.evs i).resp ∧ (evAt (endD (doorS n) st) i).steps = (evAt st.evs i).steps ∧ (evAt (endD (doorS n) st) i).ans = (evAt st.evs i).ans := e2
  refine ⟨by omega, ⟨fun i hi => ?_, fun i hi => ?_, fun i hi ho hk hr => ?_⟩⟩
  · rw [hlen] at hi
    rw [(hsame i).1]; exact hg.ev.call i hi
  · rw [hlen] at hi
    rw [(hsame i).2.2.2.1]; exact do_steps hg h hi
  · rw [hlen] at hi
    obtain ⟨s1, s2, s3, s4, s5⟩ := hsame i
    rw [s1] at ho hk
    rw [s3] at hr
    rw [s2, s3, s5]
    obtain ⟨d1, d2, d3, d4⟩ := (h.done i hi hr).2 ho hk
    refine ⟨fun j hj jo jk jr jlt => ?_, d2, ?_⟩
    · rw [hlen] at hj
      obtain ⟨t1, t2, t3, t4, t5⟩ := hsame j
      rw [t1] at jo jk
      rw [t3] at jr jlt
      rw [t5]
      exact d4 j hj (isK_spec.2 ⟨jo, jk, jr⟩) jlt
    · have hs : cnt (dB calls (evAt st.evs i).resp) (endD (doorS n) st) = cnt (dB calls (evAt st.evs i).resp) st.evs := cnt_same hlen (fun m hm => by
        obtain ⟨t1, t2, t3, t4, t5⟩ := hsame m
        unfold dB; rw [t1, t2])
      rw [hs]
      refine Nat.le_trans d3 (cnt_mono fun m hm hp => ?_)
      unfold tP4 at hp; unfold dB
      simp only [Bool.and_eq_true, decide_eq_true_eq] at hp ⊢
      obtain ⟨k1, k2, k3⟩ := isK_spec.1 hp.1
      obtain ⟨c1, _⟩ := (h.done m hm k3).2 k1 k2
      exact ⟨⟨k1, k2⟩, by omega⟩
def sameCalls : List CallD := [⟨0, 0, 0, 0, 0, 0⟩, ⟨1, 0, 0, 0, 0, 0⟩, ⟨0, 0, 0, 0, 0, 0⟩]
theorem same_rep12 : playD (doorS 2) () [0, 0] sameCalls [0, 1, 0, 1, 0, 1, 0, 0, 0] = ⟨[⟨0, 1, 5, 3, ⟨0, 1, []⟩, [10]⟩, ⟨1, 2, 6, 3, ⟨0, 1, []⟩, [12]⟩, ⟨2, 7, 9, 3, ⟨0, 2, []⟩, [18]⟩], [2, 1], ⟨6, 3, 0, 0, 0⟩, 9, 0⟩ := by rfl
theorem same_check12 : checkN 2 sameCalls 9 = 0 := by rfl
end
end Go.Proofs.Ytjkgfkbanbhkgaa
