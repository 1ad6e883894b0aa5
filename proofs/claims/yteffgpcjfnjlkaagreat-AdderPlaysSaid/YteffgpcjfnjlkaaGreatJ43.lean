/- A reference's play is the loom's, whatever the object is: roundelayplain.Play. -/
import Derived.Test.YteffgpcjfnjlkaaGreatJ42
import Derived.Test.YteffgpcjfnjlkaaGreatJ39
set_option maxRecDepth 100000
set_option linter.unusedVariables false
set_option linter.unusedSimpArgs false
set_option linter.unnecessarySimpa false
namespace Go.Proofs.YteffgpcjfnjlkaaGreat
open Go.RowKit
variable {S : Sys} {M : RefSim S} {n : Nat} {dO : CallD → TapeP → RWD → TapeP × RWD} {late : CallD → Nat → RHand → RWD → List Int} {calls : List CallD} {Good : PlayD S → Prop}
theorem psim0 (o : S.ω) (sz : Nat) (ho : ∀ p, p < n → M.Own o p []) : PSim M n calls (ref0 n sz calls) (play0 S o (List.replicate sz 0) calls) := by
  have h16 : ∀ p, (List.replicate 16 ((none : Option S.σ), 0)).getD p (none, 0) = (none, 0) := fun p => rep_getD9 16 p _
  have hr0 : ∀ p, (List.replicate n rh0).getD p rh0 = rh0 := fun p => rep_getD9 n p _
  refine ⟨⟨rfl, rfl, List.length_replicate .., fun p hp => ?_, fun a => ?_⟩, ⟨List.length_replicate .., List.length_replicate ..⟩, rfl, rfl, rfl, List.length_replicate .., fun p hp => ?_⟩
  · show (List.replicate n ([] : List Int)).getD p [] = (List.replicate 16 ([] : List Int)).getD p []
    rw [rep_getD9, rep_getD9]
  · unfold traceP
    split
    · rfl
    · exact rep_getD9 sz _ _
  · show HandSim M calls o (wd0 _) _ [] p ((List.replicate n rh0).getD p rh0) ((List.replicate 16 (none, 0)).getD p (none, 0))
    rw [hr0, h16]
    exact ⟨ho p hp, rfl, fun h => by (cases h), fun h => by (cases h), fun σ e => by cases e⟩
theorem psim_call {s : RefS} {st : PlayD S} (h : PSim M n calls s st) (hg : StGood calls st) : ∀ p, p < n → (s.hands.getD p rh0).opn = true → nowN calls s.fin (p : Int) = some (evAt s.evs (s.hands.getD p rh0).ev).call := fun p hp ho => by
  have H := h.hand p hp
  rw [H.opn] at ho
  have hh : hndOf st.hands p = some (st.hands.getD p (none, 0)).2 := by unfold hndOf; rw [if_pos ho]
  obtain ⟨k1, k2, k3, k4⟩ := hg.ev.hand p _ hh
  rw [h.fin, h.evs, H.ev (by rw [H.opn]; exact ho)]
  exact k4
theorem rstand (ok : RefOk S M n dO late calls Good) (D : DoB dO) (hnow : ∀ o wd p s, (S.step o wd p s).2.1.now = wd.now) (hn : n ≤ 16) (hthr : ∀ c, c < calls.length → 0 ≤ (calls.getD c d0).thread ∧ (calls.getD c d0).thread < (n : Int)) {sz : Nat} :
    ∀ (picks : List Int) {s : RefS} {st : PlayD S}, StGood calls st → (∀ k, Good (picksD S calls st (picks.take k))) → PSim M n calls s st → RGood n sz calls s → PSim M n calls (rpicks dO calls s picks) (picksD S calls st picks) ∧ StGood calls (picksD S calls st picks) ∧ RGood n sz calls (rpicks dO calls s picks) ∧ Good (picksD S calls st picks)
  | [], _, _, hg, hG, h, hr => ⟨h, hg, hr, hG 0⟩
  | p :: ps, s, st, hg, hG, h, hr => rstand ok D hnow hn hthr ps (pick_good hnow (fun c hc => ⟨(hthr c hc).1, by have := (hthr c hc).2; omega⟩) hg p) (fun k => hG (k + 1)) (rsim_pick ok hn hthr hg (hG 0) h p) (hr.pick D hthr (psim_call h hg) p)
def DoT (dO : CallD → TapeP → RWD → TapeP × RWD) : Prop := ∀ c t r x, x ∈ (dO c t r).1.ticks → x ∈ t.ticks ∨ x = (r.now : Int)
theorem accP_ticks (kd a : Int) (x y : Nat) (t : TapeP) (r : RWD) : ∀ z, z ∈ (accP kd a x y t r).2.1.ticks → z ∈ t.ticks ∨ z = (r.now : Int) := by
  intro z hz
  unfold accP at hz
  split at hz
  · exact .inl hz
  · split at hz
    · exact .inl hz
    · split at hz
      · have h9 : z ∈ t.ticks ++ [(r.now : Int)] := hz
        simpa using h9
      · exact .inl hz
def RTick (n : Nat) (s : RefS) : Prop := ∀ p, p < n → (s.hands.getD p rh0).opn = true → (s.hands.getD p rh0).inv ≤ s.rw.now ∧ ∀ x, x ∈ (s.hands.getD p rh0).ticks → 0 ≤ x ∧ x ≤ (s.rw.now : Int)
theorem RTick.open_ {s : RefS} (h : RTick n s) (hl : s.hands.length = n) (q i : Nat) (hq : q < n) : RTick n (ropen { s with rw := s.rw.tick } q i) ∧ (ropen { s with rw := s.rw.tick } q i).rw.now = s.rw.now + 1 := by
  unfold ropen
  split
  · refine ⟨fun p hp ho => ?_, rfl⟩
    obtain ⟨a, b⟩ := h p hp ho
    exact ⟨Nat.le_succ_of_le a, fun x hx => ⟨(b x hx).1, by have := (b x hx).2; show x ≤ ((s.rw.now + 1 : Nat) : Int); omega⟩⟩
  · refine ⟨fun p hp ho => ?_, rfl⟩
    have e0 : (rbegin { s with rw := s.rw.tick } q i).hands = s.hands.set q ⟨true, s.evs.length, s.rw.now + 1, [], [], (s.hands.getD q rh0).own⟩ := rfl
    have e1 : (rbegin { s with rw := s.rw.tick } q i).rw.now = s.rw.now + 1 := rfl
    rw [e0] at ho
    rw [e0, e1]
    by_cases e : q = p
    · subst e
      rw [getD_set_eq (by omega)]
      exact ⟨Nat.le_refl _, fun x hx => by cases hx⟩
    · rw [getD_set_neq e] at ho ⊢
      obtain ⟨a, b⟩ := h p hp ho
      exact ⟨Nat.le_succ_of_le a, fun x hx => ⟨(b x hx).1, by have := (b x hx).2; omega⟩⟩
theorem RTick.pick (D : DoB dO) (DT : DoT dO) {s : RefS} (h : RTick n s) (hl : s.hands.length = n) (hthr : ∀ c, c < calls.length → 0 ≤ (calls.getD c d0).thread ∧ (calls.getD c d0).thread < (n : Int)) (x : Int) : RTick n (rpick dO calls s x) := by
  unfold rpick
  split
  · exact h
  · rename_i i hN
    obtain ⟨n1, n2, n3⟩ := nowN_spec hN
    obtain ⟨t1, t2⟩ := hthr i n1
    obtain ⟨q, rfl⟩ : ∃ q : Nat, x = (q : Int) := ⟨x.toNat, by omega⟩
    simp only [Int.toNat_natCast]
    have hq : q < n := by omega
    obtain ⟨h1, h2⟩ := h.open_ hl q i hq
    obtain ⟨s1, hs1⟩ : ∃ s1, s1 = ropen { s with rw := s.rw.tick } q i := ⟨_, rfl⟩
    have hl1 : s1.hands.length = n := by
      rw [hs1]; unfold ropen
      split
      · exact hl
      · show (s.hands.set q _).length = n; rw [List.length_set]; exact hl
    have ho1 : (s1.hands.getD q rh0).opn = true := by
      rw [hs1]; unfold ropen
      split
      · assumption
      · show ((s.hands.set q _).getD q rh0).opn = true
        rw [getD_set_eq (by omega)]
    rw [← hs1] at h1 h2 ⊢
    obtain ⟨c, hc⟩ : ∃ c, c = calls.getD i d0 := ⟨_, rfl⟩
    rw [← hc]
    obtain ⟨R, hR⟩ : ∃ R, R = rdo dO c ((s1.hands.getD q rh0).tape q) s1.rw := ⟨_, rfl⟩
    have hRn : R.2.now = s1.rw.now := by
      rw [hR]; unfold rdo
      split
      · rfl
      · exact (D.runs _ _ _).now
    have hRt : ∀ z, z ∈ R.1.ticks → z ∈ (s1.hands.getD q rh0).ticks ∨ z = (s1.rw.now : Int) := fun z hz => by
      rw [hR] at hz
      unfold rdo at hz
      split at hz
      · exact .inl hz
      · exact DT _ _ _ _ hz
    obtain ⟨a9, b9⟩ := h1 q hq ho1
    unfold rgo
    rw [← hR]
    split
    · intro p hp ho
      simp only at ho ⊢
      rw [hRn]
      by_cases e : q = p
      · subst e
        rw [getD_set_eq (by omega)]
        exact ⟨a9, fun z hz => by
          rcases hRt z hz with h9 | h9
          · exact b9 z h9
          · rw [h9]; omega⟩
      · rw [getD_set_neq e] at ho ⊢
        exact h1 p hp ho
    · intro p hp ho
      simp only at ho ⊢
      rw [hRn]
      by_cases e : q = p
      · subst e
        rw [getD_set_eq (by omega)] at ho
        cases ho
      · rw [getD_set_neq e] at ho ⊢
        exact h1 p hp ho
theorem rtick_all (D : DoB dO) (DT : DoT dO) (hthr : ∀ c, c < calls.length → 0 ≤ (calls.getD c d0).thread ∧ (calls.getD c d0).thread < (n : Int)) : ∀ (picks : List Int) {s : RefS}, RTick n s → s.hands.length = n → RTick n (rpicks dO calls s picks)
  | [], _, h, _ => h
  | p :: ps, s, h, hl => rtick_all D DT hthr ps (h.pick D DT hl hthr p) (by
      unfold rpick
      split
      · exact hl
      · unfold rgo
        have e9 : ∀ q i, (ropen { s with rw := s.rw.tick } q i).hands.length = n := fun q i => by
          unfold ropen
          split
          · exact hl
          · show (s.hands.set q _).length = n; rw [List.length_set]; exact hl
        split <;> (simp only [List.length_set]; exact e9 _ _))
theorem rplay_any (X : Nat → Prop) (sz : Nat) (kd P Q : Int) (picks : List Int) (ca pa : Option Addr) (cc pc bS : Nat) (w : World) (o : S.ω) (Pre : CallD → TapeP → RWD → Prop) (hX : ∀ b, X b → b < w.heap.size) (hk : ¬ kd = 8) (hsz : sz ≤ 65536) (hs0 : 0 < sz) (hck : checkN (n : Int) calls picks.length = 0) (hS : SpecAt w bS kd P Q) (hc : CallsAt noB w ca calls) (hp : PicksAt w pa picks)
    (SC : ∀ u : World, Calls Tryz.prog 69 #[.int .i64 (n : Int), .agg #[.int .i64 kd, .int .i64 P, .int .i64 Q]] u fun e w' => e = .returned (.int .i64 (sz : Int)) ∧ Below u.heap.size u w') (D : DoB dO) (DT : DoT dO) (DC : DoC kd P Q n Pre dO) (LC : LateC kd P Q n late)
    (ok : RefOk S M n dO late calls Good) (hnow : ∀ o wd p s, (S.step o wd p s).2.1.now = wd.now) (ho : ∀ p, p < n → M.Own o p []) (hG : ∀ k, Good (picksD S calls (play0 S o (List.replicate sz 0) calls) (picks.take k)))
    (hPre : ∀ (s : RefS) (st : PlayD S) (q i : Nat), PSim M n calls s st → StGood calls st → Good st → RGood n sz calls s → RTick n s → s.rw.now ≤ 65536 → q < n → nowN calls s.fin (q : Int) = some i → (calls.getD i d0).obj = 0 → ∀ s1, s1 = ropen { s with rw := s.rw.tick } q i → Pre (calls.getD i d0) ((s1.hands.getD q rh0).tape q) s1.rw) :
    Calls Tryz.prog 14 #[.int .i64 (n : Int), .slice (some ⟨bS, 0, none⟩) 1 1, .slice ca calls.length cc, .slice pa picks.length pc] w fun e w' => RefAny X w w' 0 (playD S o (List.replicate sz 0) calls picks) true e := by
  have hthr := thr_ok hck
  obtain ⟨z1, z2, z3, _⟩ := wrongN_zero (checkN_zero hck).1
  have hn : n ≤ 16 := by omega
  have hst : ∀ k, PSim M n calls (rpicks dO calls (ref0 n sz calls) (picks.take k)) (picksD S calls (play0 S o (List.replicate sz 0) calls) (picks.take k)) ∧ StGood calls (picksD S calls (play0 S o (List.replicate sz 0) calls) (picks.take k)) ∧ RGood n sz calls (rpicks dO calls (ref0 n sz calls) (picks.take k)) ∧ Good (picksD S calls (play0 S o (List.replicate sz 0) calls) (picks.take k)) := fun k =>
    rstand ok D hnow hn hthr (picks.take k) (play0_good (S := S) calls o _) (fun j => by rw [List.take_take]; exact hG _) (psim0 o sz ho) (rgood0 n sz calls)
  refine rplay_of X (n : Int) 0 _ _ _ _ w (fun u hu hul => ?_)
  have L := rlog_r (fun b => X b ∨ b = w.heap.size) dO late Pre D n sz kd P Q calls picks ca pa cc pc bS u (fun b e => by rcases e with e | e; have := hX b e; have := hu.size; omega; omega) hk hsz hs0 hck (hS.grown hu) (hc.grown hu) (hp.grown hu) hthr SC DC LC (fun k => (hst k).2.2.1) (fun k i hk9 hN hob s1 hs1 => by
    obtain ⟨n1, n2, n3⟩ := nowN_spec hN
    obtain ⟨t1, t2⟩ := hthr i n1
    obtain ⟨q, hq⟩ : ∃ q : Nat, picks.getD k 0 = (q : Int) := ⟨(picks.getD k 0).toNat, by omega⟩
    rw [hq] at hN hs1 n2 ⊢
    simp only [Int.toNat_natCast] at hs1 ⊢
    exact hPre _ _ q i (hst k).1 (hst k).2.1 (hst k).2.2.2 (hst k).2.2.1 (rtick_all D DT hthr (picks.take k) (fun p hp ho => by (have e9 : ((ref0 n sz calls).hands.getD p rh0) = rh0 := rep_getD9 n p _); rw [e9] at ho; cases ho) (List.length_replicate ..)) (by (have h9 := rpicks_count D calls (picks.take k) (ref0 n sz calls)); rw [show (ref0 n sz calls).rw.now = 0 from rfl, show (ref0 n sz calls).idle = 0 from rfl, List.length_take] at h9; have := (checkN_zero hck).2; omega) (by omega) hN hob s1 hs1)
  refine L.mono ?_
  intro e w' h
  rw [← rsim_play ok hnow hn hthr o sz ho picks hG]
  exact h.any
theorem rend_len (late : CallD → Nat → RHand → RWD → List Int) (calls : List CallD) (s : RefS) (n : Nat) : (rend late calls s n).length = s.evs.length := (rendTo_spec late calls s n).1
theorem rlen_any (sz : Nat) (picks : List Int) (o : S.ω) (hck : checkN (n : Int) calls picks.length = 0) (D : DoB dO) (ok : RefOk S M n dO late calls Good) (hnow : ∀ o wd p s, (S.step o wd p s).2.1.now = wd.now) (ho : ∀ p, p < n → M.Own o p []) (hG : ∀ k, Good (picksD S calls (play0 S o (List.replicate sz 0) calls) (picks.take k))) :
    (playD S o (List.replicate sz 0) calls picks).evs.length ≤ 65536 ∧ (playD S o (List.replicate sz 0) calls picks).words.length = sz := by
  have hthr := thr_ok hck
  obtain ⟨z1, z2, z3, _⟩ := wrongN_zero (checkN_zero hck).1
  have hn : n ≤ 16 := by omega
  have hnp := (checkN_zero hck).2
  obtain ⟨_, _, R, _⟩ := rstand ok D hnow hn hthr picks (play0_good (S := S) calls o _) hG (psim0 o sz ho) (rgood0 n sz calls)
  rw [← rsim_play ok hnow hn hthr o sz ho picks hG]
  have hct := rpicks_count D calls picks (ref0 n sz calls)
  rw [show (ref0 n sz calls).rw.now = 0 from rfl, show (ref0 n sz calls).idle = 0 from rfl] at hct
  refine ⟨?_, R.ws⟩
  show (rend late calls _ n).length ≤ _
  rw [rend_len]
  have := R.el
  omega
end Go.Proofs.YteffgpcjfnjlkaaGreat
