/- A reference's play is the loom's, whatever the object is: roundelayplain.Play. -/
import Derived.Test.YteffgpcjfnjlkaaGreatJ42
import Derived.Test.YteffgpcjfnjlkaaGreatJ39
import Derived.Test.YteffgpcjfnjlkaaGreatJ40
import Derived.Test.YteffgpcjfnjlkaaGreatJ28
set_option maxRecDepth 100000
set_option linter.unusedVariables false
set_option linter.unusedSimpArgs false
set_option linter.unnecessarySimpa false
namespace Go.Proofs.YteffgpcjfnjlkaaGreat
section
open Go.RowKit
variable {S : Sys} {M : RefSim S} {n : Nat} {dO : CallD → TapeP → RWD → TapeP × RWD} {late : CallD → Nat → RHand → RWD → List Int} {calls : List CallD} {Good : PlayD S → Prop}
theorem psim0 (o : S.ω) (sz : Nat) (ho : ∀ p, p < n → M.Own o p []) : PSim M n calls (ref0 n sz calls) (play0 S o (List.replicate sz 0) calls) := by
  have h16 : ∀ p, (List.replicate 16 ((none : Option S.σ), 0)).getD p (none, 0) = (none, 0) := fun p => rep_getD9 16 p _
  have hr0 : ∀ p, (List.replicate n rh0).getD p rh0 = rh0 := fun p => rep_getD9 n p _
  refine ⟨⟨rfl, rfl, List.length_replicate .., fun p hp => ?_, fun a => ?_⟩, ⟨List.length_replicate .., List.length_replicate ..⟩, rfl, rfl, rfl, List.length_replicate .., fun p hp => ?_⟩
  · show (List.replicate n ([] : List Int)).getD p [] = (List.replicate 16 ([] : List Int)).getD p []
    rw [rep_getD9, rep_getD9]
  · unfold traceP
    split
    · rfl
    · exact rep_getD9 sz _ _
  · show HandSim M calls o (wd0 _) _ [] p ((List.replicate n rh0).getD p rh0) ((List.replicate 16 (none, 0)).getD p (none, 0))
    rw [hr0, h16]
    exact ⟨ho p hp, rfl, fun h => by (cases h), fun h => by (cases h), fun σ e => by cases e⟩
theorem psim_call {s : RefS} {st : PlayD S} (h : PSim M n calls s st) (hg : StGood calls st) : ∀ p, p < n → (s.hands.getD p rh0).opn = true → nowN calls s.fin (p : Int) = some (evAt s.evs (s.hands.getD p rh0).ev).call := fun p hp ho => by
  have H := h.hand p hp
  rw [H.opn] at ho
  have hh : hndOf st.hands p = some (st.hands.getD p (none, 0)).2 := by unfold hndOf; rw [if_pos ho]
  obtain ⟨k1, k2, k3, k4⟩ := hg.ev.hand p _ hh
  rw [h.fin, h.evs, H.ev (by rw [H.opn]; exact ho)]
  exact k4
theorem rstand (ok : RefOk S M n dO late calls Good) (D : DoB dO) (hnow : ∀ o wd p s, (S.step o wd p s).2.1.now = wd.now) (hn : n ≤ 16) (hthr : ∀ c, c < calls.length → 0 ≤ (calls.getD c d0).thread ∧ (calls.getD c d0).thread < (n : Int)) {sz : Nat} :
    ∀ (picks : List Int) {s : RefS} {st : PlayD S}, StGood calls st → (∀ k, Good (picksD S calls st (picks.take k))) → PSim M n calls s st → RGood n sz calls s → PSim M n calls (rpicks dO calls s picks) (picksD S calls st picks) ∧ StGood calls (picksD S calls st picks) ∧ RGood n sz calls (rpicks dO calls s picks) ∧ Good (picksD S calls st picks)
  | [], _, _, hg, hG, h, hr => ⟨h, hg, hr, hG 0⟩
  | p :: ps, s, st, hg, hG, h, hr => rstand ok D hnow hn hthr ps (pick_good hnow (fun c hc => ⟨(hthr c hc).1, by have := (hthr c hc).2; omega⟩) hg p) (fun k => hG (k + 1)) (rsim_pick ok hn hthr hg (hG 0) h p) (hr.pick D hthr (psim_call h hg) p)
def DoT (dO : CallD → TapeP → RWD → TapeP × RWD) : Prop := ∀ c t r x, x ∈ (dO c t r).1.ticks → x ∈ t.ticks ∨ x = (r.now : Int)
theorem accP_ticks (kd a : Int) (x y : Nat) (t : TapeP) (r : RWD) : ∀ z, z ∈ (accP kd a x y t r).2.1.ticks → z ∈ t.ticks ∨ z = (r.now : Int) := by
  intro z hz
  unfold accP at hz
  split at hz
  · exact .inl hz
  · split at hz
    · exact .inl hz
    · split at hz
      · have h9 : z ∈ t.ticks ++ [(r.now : Int)] := hz
        simpa using h9
      · exact .inl hz
def RTick (n : Nat) (s : RefS) : Prop := ∀ p, p < n → (s.hands.getD p rh0).opn = true → (s.hands.getD p rh0).inv ≤ s.rw.now ∧ ∀ x, x ∈ (s.hands.getD p rh0).ticks → 0 ≤ x ∧ x ≤ (s.rw.now : Int)
theorem RTick.open_ {s : RefS} (h : RTick n s) (hl : s.hands.length = n) (q i : Nat) (hq : q < n) : RTick n (ropen { s with rw := s.rw.tick } q i) ∧ (ropen { s with rw := s.rw.tick } q i).rw.now = s.rw.now + 1 := by
  unfold ropen
  split
  · refine ⟨fun p hp ho => ?_, rfl⟩
    obtain ⟨a, b⟩ := h p hp ho
    exact ⟨Nat.le_succ_of_le a, fun x hx => ⟨(b x hx).1, by have := (b x hx).2; show x ≤ ((s.rw.now + 1 : Nat) : Int); omega⟩⟩
  · refine ⟨fun p hp ho => ?_, rfl⟩
    have e0 : (rbegin { s with rw := s.rw.tick } q i).hands = s.hands.set q ⟨true, s.evs.length, s.rw.now + 1, [], [], (s.hands.getD q rh0).own⟩ := rfl
    have e1 : (rbegin { s with rw := s.rw.tick } q i).rw.now = s.rw.now + 1 := rfl
    rw [e0] at ho
    rw [e0, e1]
    by_cases e : q = p
    · subst e
      rw [getD_set_eq (by omega)]
      exact ⟨Nat.le_refl _, fun x hx => by cases hx⟩
    · rw [getD_set_neq e] at ho ⊢
      obtain ⟨a, b⟩ := h p hp ho
      exact ⟨Nat.le_succ_of_le a, fun x hx => ⟨(b x hx).1, by have := (b x hx).2; omega⟩⟩
theorem RTick.pick (D : DoB dO) (DT : DoT dO) {s : RefS} (h : RTick n s) (hl : s.hands.length = n) (hthr : ∀ c, c < calls.length → 0 ≤ (calls.getD c d0).thread ∧ (calls.getD c d0).thread < (n : Int)) (x : Int) : RTick n (rpick dO calls s x) := by
  unfold rpick
  split
  · exact h
  · rename_i i hN
    obtain ⟨n1, n2, n3⟩ := nowN_spec hN
    obtain ⟨t1, t2⟩ := hthr i n1
    obtain ⟨q, rfl⟩ : ∃ q : Nat, x = (q : Int) := ⟨x.toNat, by omega⟩
    simp only [Int.toNat_natCast]
    have hq : q < n := by omega
    obtain ⟨h1, h2⟩ := h.open_ hl q i hq
    obtain ⟨s1, hs1⟩ : ∃ s1, s1 = ropen { s with rw := s.rw.tick } q i := ⟨_, rfl⟩
    have hl1 : s1.hands.length = n := by
      rw [hs1]; unfold ropen
      split
      · exact hl
      · show (s.hands.set q _).length = n; rw [List.length_set]; exact hl
    have ho1 : (s1.hands.getD q rh0).opn = true := by
      rw [hs1]; unfold ropen
      split
      · assumption
      · show ((s.hands.set q _).getD q rh0).opn = true
        rw [getD_set_eq (by omega)]
    rw [← hs1] at h1 h2 ⊢
    obtain ⟨c, hc⟩ : ∃ c, c = calls.getD i d0 := ⟨_, rfl⟩
    rw [← hc]
    obtain ⟨R, hR⟩ : ∃ R, R = rdo dO c ((s1.hands.getD q rh0).tape q) s1.rw := ⟨_, rfl⟩
    have hRn : R.2.now = s1.rw.now := by
      rw [hR]; unfold rdo
      split
      · rfl
      · exact (D.runs _ _ _).now
    have hRt : ∀ z, z ∈ R.1.ticks → z ∈ (s1.hands.getD q rh0).ticks ∨ z = (s1.rw.now : Int) := fun z hz => by
      rw [hR] at hz
      unfold rdo at hz
      split at hz
      · exact .inl hz
      · exact DT _ _ _ _ hz
    obtain ⟨a9, b9⟩ := h1 q hq ho1
    unfold rgo
    rw [← hR]
    split
    · intro p hp ho
      simp only at ho ⊢
      rw [hRn]
      by_cases e : q = p
      · subst e
        rw [getD_set_eq (by omega)]
        exact ⟨a9, fun z hz => by
          rcases hRt z hz with h9 | h9
          · exact b9 z h9
          · rw [h9]; omega⟩
      · rw [getD_set_neq e] at ho ⊢
        exact h1 p hp ho
    · intro p hp ho
      simp only at ho ⊢
      rw [hRn]
      by_cases e : q = p
      · subst e
        rw [getD_set_eq (by omega)] at ho
        cases ho
      · rw [getD_set_neq e] at ho ⊢
        exact h1 p hp ho
theorem rtick_all (D : DoB dO) (DT : DoT dO) (hthr : ∀ c, c < calls.length → 0 ≤ (calls.getD c d0).thread ∧ (calls.getD c d0).thread < (n : Int)) : ∀ (picks : List Int) {s : RefS}, RTick n s → s.hands.length = n → RTick n (rpicks dO calls s picks)
  | [], _, h, _ => h
  | p :: ps, s, h, hl => rtick_all D DT hthr ps (h.pick D DT hl hthr p) (by
      unfold rpick
      split
      · exact hl
      · unfold rgo
        have e9 : ∀ q i, (ropen { s with rw := s.rw.tick } q i).hands.length = n := fun q i => by
          unfold ropen
          split
          · exact hl
          · show (s.hands.set q _).length = n; rw [List.length_set]; exact hl
        split <;> (simp only [List.length_set]; exact e9 _ _))
theorem rplay_any (X : Nat → Prop) (sz : Nat) (kd P Q : Int) (picks : List Int) (ca pa : Option Addr) (cc pc bS : Nat) (w : World) (o : S.ω) (Pre : CallD → TapeP → RWD → Prop) (hX : ∀ b, X b → b < w.heap.size) (hk : ¬ kd = 8) (hsz : sz ≤ 65536) (hs0 : 0 < sz) (hck : checkN (n : Int) calls picks.length = 0) (hS : SpecAt w bS kd P Q) (hc : CallsAt noB w ca calls) (hp : PicksAt w pa picks)
    (SC : ∀ u : World, Calls Tryz.prog 69 #[.int .i64 (n : Int), .agg #[.int .i64 kd, .int .i64 P, .int .i64 Q]] u fun e w' => e = .returned (.int .i64 (sz : Int)) ∧ Below u.heap.size u w') (D : DoB dO) (DT : DoT dO) (DC : DoC kd P Q n Pre dO) (LC : LateC kd P Q n late)
    (ok : RefOk S M n dO late calls Good) (hnow : ∀ o wd p s, (S.step o wd p s).2.1.now = wd.now) (ho : ∀ p, p < n → M.Own o p []) (hG : ∀ k, Good (picksD S calls (play0 S o (List.replicate sz 0) calls) (picks.take k)))
    (hPre : ∀ (s : RefS) (st : PlayD S) (q i : Nat), PSim M n calls s st → StGood calls st → Good st → RGood n sz calls s → RTick n s → s.rw.now ≤ 65536 → q < n → nowN calls s.fin (q : Int) = some i → (calls.getD i d0).obj = 0 → ∀ s1, s1 = ropen { s with rw := s.rw.tick } q i → Pre (calls.getD i d0) ((s1.hands.getD q rh0).tape q) s1.rw) :
    Calls Tryz.prog 14 #[.int .i64 (n : Int), .slice (some ⟨bS, 0, none⟩) 1 1, .slice ca calls.length cc, .slice pa picks.length pc] w fun e w' => RefAny X w w' 0 (playD S o (List.replicate sz 0) calls picks) true e := by
  have hthr := thr_ok hck
  obtain ⟨z1, z2, z3, _⟩ := wrongN_zero (checkN_zero hck).1
  have hn : n ≤ 16 := by omega
  have hst : ∀ k, PSim M n calls (rpicks dO calls (ref0 n sz calls) (picks.take k)) (picksD S calls (play0 S o (List.replicate sz 0) calls) (picks.take k)) ∧ StGood calls (picksD S calls (play0 S o (List.replicate sz 0) calls) (picks.take k)) ∧ RGood n sz calls (rpicks dO calls (ref0 n sz calls) (picks.take k)) ∧ Good (picksD S calls (play0 S o (List.replicate sz 0) calls) (picks.take k)) := fun k =>
    rstand ok D hnow hn hthr (picks.take k) (play0_good (S := S) calls o _) (fun j => by rw [List.take_take]; exact hG _) (psim0 o sz ho) (rgood0 n sz calls)
  refine rplay_of X (n : Int) 0 _ _ _ _ w (fun u hu hul => ?_)
  have L := rlog_r (fun b => X b ∨ b = w.heap.size) dO late Pre D n sz kd P Q calls picks ca pa cc pc bS u (fun b e => by rcases e with e | e; have := hX b e; have := hu.size; omega; omega) hk hsz hs0 hck (hS.grown hu) (hc.grown hu) (hp.grown hu) hthr SC DC LC (fun k => (hst k).2.2.1) (fun k i hk9 hN hob s1 hs1 => by
    obtain ⟨n1, n2, n3⟩ := nowN_spec hN
    obtain ⟨t1, t2⟩ := hthr i n1
    obtain ⟨q, hq⟩ : ∃ q : Nat, picks.getD k 0 = (q : Int) := ⟨(picks.getD k 0).toNat, by omega⟩
    rw [hq] at hN hs1 n2 ⊢
    simp only [Int.toNat_natCast] at hs1 ⊢
    exact hPre _ _ q i (hst k).1 (hst k).2.1 (hst k).2.2.2 (hst k).2.2.1 (rtick_all D DT hthr (picks.take k) (fun p hp ho => by (have e9 : ((ref0 n sz calls).hands.getD p rh0) = rh0 := rep_getD9 n p _); rw [e9] at ho; cases ho) (List.length_replicate ..)) (by (have h9 := rpicks_count D calls (picks.take k) (ref0 n sz calls)); rw [show (ref0 n sz calls).rw.now = 0 from rfl, show (ref0 n sz calls).idle = 0 from rfl, List.length_take] at h9; have := (checkN_zero hck).2; omega) (by omega) hN hob s1 hs1)
  refine L.mono ?_
  intro e w' h
  rw [← rsim_play ok hnow hn hthr o sz ho picks hG]
  exact h.any
theorem rend_len (late : CallD → Nat → RHand → RWD → List Int) (calls : List CallD) (s : RefS) (n : Nat) : (rend late calls s n).length = s.evs.length := (rendTo_spec late calls s n).1
theorem rlen_any (sz : Nat) (picks : List Int) (o : S.ω) (hck : checkN (n : Int) calls picks.length = 0) (D : DoB dO) (ok : RefOk S M n dO late calls Good) (hnow : ∀ o wd p s, (S.step o wd p s).2.1.now = wd.now) (ho : ∀ p, p < n → M.Own o p []) (hG : ∀ k, Good (picksD S calls (play0 S o (List.replicate sz 0) calls) (picks.take k))) :
    (playD S o (List.replicate sz 0) calls picks).evs.length ≤ 65536 ∧ (playD S o (List.replicate sz 0) calls picks).words.length = sz := by
  have hthr := thr_ok hck
  obtain ⟨z1, z2, z3, _⟩ := wrongN_zero (checkN_zero hck).1
  have hn : n ≤ 16 := by omega
  have hnp := (checkN_zero hck).2
  obtain ⟨_, _, R, _⟩ := rstand ok D hnow hn hthr picks (play0_good (S := S) calls o _) hG (psim0 o sz ho) (rgood0 n sz calls)
  rw [← rsim_play ok hnow hn hthr o sz ho picks hG]
  have hct := rpicks_count D calls picks (ref0 n sz calls)
  rw [show (ref0 n sz calls).rw.now = 0 from rfl, show (ref0 n sz calls).idle = 0 from rfl] at hct
  refine ⟨?_, R.ws⟩
  show (rend late calls _ n).length ≤ _
  rw [rend_len]
  have := R.el
  omega
end
section

/- Cells in the reference's play. -/
open Go.RowKit
def rcellDo (sz : Nat) (c : CallD) (t : TapeP) (r : RWD) : TapeP × RWD :=
  if c.kind < 0 ∨ 3 < c.kind then ({ t with err := 9 }, r)
  else if sz ≤ c.a then ({ t with err := 10 }, r)
  else if c.kind = 0 then valP (accP 0 (c.a : Int) 0 0 t r)
  else if c.kind = 1 then (accP 1 (c.a : Int) c.b 0 t r).2
  else if c.kind = 2 then (if (accP 2 (c.a : Int) c.b c.c t r).1 = 1 then ({ (accP 2 (c.a : Int) c.b c.c t r).2.1 with val := 1 }, (accP 2 (c.a : Int) c.b c.c t r).2.2) else (accP 2 (c.a : Int) c.b c.c t r).2)
  else valP (accP 3 (c.a : Int) c.b 0 t r)
theorem rcell_dob (sz : Nat) : DoB (rcellDo sz) where
  runs := by
    intro c t r
    unfold rcellDo
    repeat' split
    · exact Runs.errP _ _ _
    · exact Runs.errP _ _ _
    · exact Runs.valP _ _ _ _
    · exact Runs.acc _ _ _ _ _ _
    · have h := Runs.acc 2 (c.a : Int) c.b c.c t r
      exact ⟨h.ws, h.now, h.all, h.got, h.thread, h.inv⟩
    · exact Runs.acc _ _ _ _ _ _
    · exact Runs.valP _ _ _ _
  priv := by
    intro c t r h
    unfold rcellDo valP
    repeat' split
    all_goals first | exact h | (simp only [accP_priv]; exact h)
theorem rcell_dot (sz : Nat) : DoT (rcellDo sz) := by
  intro c t r x hx
  unfold rcellDo valP at hx
  repeat' split at hx
  all_goals first | exact .inl hx | exact accP_ticks _ _ _ _ _ _ _ hx
theorem rcell_one (sz : Nat) : OneDo (cellsRef sz) cellsAct sz (rcellDo sz) where
  refuse := by
    intro c t r e h ht
    unfold cellsRef at h
    unfold rcellDo
    split at h
    · rename_i hk; cases h; rw [if_pos hk]
    · rename_i hk
      split at h
      · rename_i ha; cases h; rw [if_neg hk, if_pos ha]
      · cases h
  go := by
    intro c t r wd h ht hm hl
    unfold cellsRef at h
    split at h
    · cases h
    rename_i hk
    split at h
    · cases h
    rename_i ha
    unfold rcellDo
    rw [if_neg hk, if_neg ha]
    unfold cellsAct
    by_cases h0 : c.kind = 0
    · rw [if_pos h0, if_pos h0, accP_new ht, hm]; exact ⟨rfl, ht.halt, ht.err, rfl, ht.list, ht.key⟩
    rw [if_neg h0, if_neg h0]
    by_cases h1 : c.kind = 1
    · rw [if_pos h1, if_pos h1, accP_new ht, hm]; exact ⟨rfl, ht.halt, ht.err, ht.val, ht.list, ht.key⟩
    rw [if_neg h1, if_neg h1]
    by_cases h2 : c.kind = 2
    · rw [if_pos h2, if_pos h2, accP_new ht, hm]
      have e1 : (memAcc wd.mem 2 (c.a : Int) c.b c.c).2 = b01 (memSwap wd.mem (c.a : Int) c.b c.c).2 := rfl
      rw [e1]
      cases hb : (memSwap wd.mem (c.a : Int) c.b c.c).2 with
      | true => exact ⟨rfl, ht.halt, ht.err, rfl, ht.list, ht.key⟩
      | false => exact ⟨rfl, ht.halt, ht.err, ht.val, ht.list, ht.key⟩
    rw [if_neg h2, if_neg h2, accP_new ht, hm]
    exact ⟨rfl, ht.halt, ht.err, rfl, ht.list, ht.key⟩
  keep := by
    intro c wd
    unfold cellsAct
    repeat' split
    all_goals exact ⟨rfl, rfl, rfl, rfl⟩
  len := by
    intro c wd
    unfold cellsAct
    split
    · exact memRead_len _ _
    · split
      · exact memWrite_len _ _ _
      · split
        · exact memSwap_len _ _ _ _
        · exact memAdd_len _ _ _
section
variable {B : RBase} {w : World} {t : TapeP} {r : RWD}
set_option maxHeartbeats 4000000 in
theorem rcell_r (sz : Nat) (hsz : sz ≤ 64) (c : CallD) (hok : CallOk c) (hob : c.obj = 0) (h : RAt B w t r) :
    Calls Tryz.prog 78 #[.pointer (some ⟨B.I.tb, B.I.pre.length, none⟩), .int .i64 0, .agg #[.int .i64 0, .int .i64 (sz : Int), .int .i64 0], .agg #[.int .i64 c.thread, .int .i64 0, .int .i64 c.kind, .int .u64 (c.a : Int), .int .u64 (c.b : Int), .int .u64 (c.c : Int)]] w fun e u => e = .returned (.tuple #[]) ∧ RAt B u (rcellDo sz c t r).1 (rcellDo sz c t r).2 := by
  obtain ⟨th, ob, kd, xa, xb, xc⟩ := c
  simp only at hob ⊢
  obtain ⟨wb, hwb, hg, hS, hC⟩ := do_boxes w 0 (sz : Int) 0 th kd xa xb xc
  have hA := h.grown hg
  have p1 : wb.cell? ⟨w.heap.size, 1, none⟩ = some (.int .i64 (sz : Int)) := by rw [cell_blk hS]; rfl
  have q2 : wb.cell? ⟨w.heap.size + 1, 2, none⟩ = some (.int .i64 kd) := by rw [cell_blk hC]; rfl
  have q3 : wb.cell? ⟨w.heap.size + 1, 3, none⟩ = some (.int .u64 (xa : Int)) := by rw [cell_blk hC]; rfl
  have q4 : wb.cell? ⟨w.heap.size + 1, 4, none⟩ = some (.int .u64 (xb : Int)) := by rw [cell_blk hC]; rfl
  have q5 : wb.cell? ⟨w.heap.size + 1, 5, none⟩ = some (.int .u64 (xc : Int)) := by rw [cell_blk hC]; rfl
  have e9 : wb.cell? ⟨B.I.tb, B.I.pre.length + 9, none⟩ = some (.int .i64 t.err) := hA.cErr
  have f9 : wb.frozen? ⟨B.I.tb, B.I.pre.length + 9, none⟩ = false := hA.frozen _
  have Hwb := Lib.hid hwb; have HA := Lib.hid hA
  have hca : xa < 18446744073709551616 := hok.a; have hcb : xb < 18446744073709551616 := hok.b; have hcc : xc < 18446744073709551616 := hok.c
  have ws : IntKind.u64.wrap (sz : Int) = (sz : Int) := by rw [IntKind.wrap_u64]; omega
  obtain ⟨R, hR⟩ : ∃ R, R = rcellDo sz ⟨th, ob, kd, xa, xb, xc⟩ t r := ⟨_, rfl⟩
  have HR := Lib.hid hR
  rw [← hR]
  clear hwb hg hS hC h hA hR hok
  by_cases hk0 : kd < 0
  · have hT : R = ({ t with err := 9 }, r) := by rw [HR.out]; exact if_pos (.inl hk0)
    have Fin := Lib.hid (HA.out.putErr 9)
    subst hT
    clear HR
    go_enter Tryz.func78, Tryz.ntmps78
    go_upto_region 1 with fail
    rw [← Hwb.out]
    go_wp2
    (first | go_end0 | ((try simp only [Exit.inBlock, Exit.then]); refine bodyPost_ret (results_none rfl _ _ _) rfl ?_))
    exact ⟨rfl, Fin.out⟩
  by_cases hk3 : 3 < kd
  · have hT : R = ({ t with err := 9 }, r) := by rw [HR.out]; exact if_pos (.inr hk3)
    have Fin := Lib.hid (HA.out.putErr 9)
    subst hT
    clear HR
    go_enter Tryz.func78, Tryz.ntmps78
    go_upto_region 1 with fail
    rw [← Hwb.out]
    go_wp2
    (first | go_end0 | ((try simp only [Exit.inBlock, Exit.then]); refine bodyPost_ret (results_none rfl _ _ _) rfl ?_))
    exact ⟨rfl, Fin.out⟩
  by_cases ha : sz ≤ xa
  · have hT : R = ({ t with err := 10 }, r) := by rw [HR.out]; unfold rcellDo; rw [if_neg (show ¬ (kd < 0 ∨ 3 < kd) by omega), if_pos ha]
    have Fin := Lib.hid (HA.out.putErr 10)
    have ha1 : (sz : Int) ≤ (xa : Int) := by omega
    subst hT
    clear HR
    go_enter Tryz.func78, Tryz.ntmps78
    go_upto_region 1 with fail
    rw [← Hwb.out]
    go_wp2
    (first | go_end0 | ((try simp only [Exit.inBlock, Exit.then]); refine bodyPost_ret (results_none rfl _ _ _) rfl ?_))
    exact ⟨rfl, Fin.out⟩
  have ha1 : ¬ (sz : Int) ≤ (xa : Int) := by omega
  have wa : IntKind.i64.wrap (xa : Int) = (xa : Int) := by rw [IntKind.wrap_i64]; omega
  by_cases h0 : kd = 0
  · have A1 := Lib.hid (tread_r HA.out (xa : Int))
    have hT : R = valP (accP 0 (xa : Int) 0 0 t r) := by rw [HR.out]; unfold rcellDo; rw [if_neg (show ¬ (kd < 0 ∨ 3 < kd) by omega), if_neg ha, if_pos h0]
    subst h0
    obtain ⟨Z, hZ⟩ : ∃ Z, Z = accP 0 (xa : Int) 0 0 t r := ⟨_, rfl⟩
    rw [← hZ] at A1 hT
    obtain ⟨v, t', r'⟩ := Z
    subst hT
    clear HR hZ
    go_enter Tryz.func78, Tryz.ntmps78
    go_upto_region 1 with fail
    rw [← Hwb.out]
    go_wp2_with (go_at_call 102; refine A1.out.mono ?_; rintro e w2 ⟨rfl, h2⟩; have z10 := h2.cVal; have zf := h2.frozen (B.I.pre.length + 10))
    (first | go_end0 | ((try simp only [Exit.inBlock, Exit.then]); refine bodyPost_ret (results_none rfl _ _ _) rfl ?_))
    exact ⟨rfl, h2.putVal v⟩
  by_cases h1 : kd = 1
  · have A1 := Lib.hid (twrite_r HA.out (xa : Int) xb hcb)
    have hT : R = (accP 1 (xa : Int) xb 0 t r).2 := by rw [HR.out]; unfold rcellDo; rw [if_neg (show ¬ (kd < 0 ∨ 3 < kd) by omega), if_neg ha, if_neg h0, if_pos h1]
    subst h1
    obtain ⟨Z, hZ⟩ : ∃ Z, Z = accP 1 (xa : Int) xb 0 t r := ⟨_, rfl⟩
    rw [← hZ] at A1 hT
    obtain ⟨v, t', r'⟩ := Z
    subst hT
    clear HR hZ
    go_enter Tryz.func78, Tryz.ntmps78
    go_upto_region 1 with fail
    rw [← Hwb.out]
    go_wp2_with (go_at_call 103; refine (A1.out).mono ?_; rintro e w2 ⟨rfl, h2⟩)
    (first | go_end0 | ((try simp only [Exit.inBlock, Exit.then]); refine bodyPost_ret (results_none rfl _ _ _) rfl ?_))
    exact ⟨rfl, h2⟩
  by_cases h2k : kd = 2
  · have A1 := Lib.hid (tswap_r HA.out (xa : Int) xb xc hcb hcc)
    have hT : R = (if (accP 2 (xa : Int) xb xc t r).1 = 1 then ({ (accP 2 (xa : Int) xb xc t r).2.1 with val := 1 }, (accP 2 (xa : Int) xb xc t r).2.2) else (accP 2 (xa : Int) xb xc t r).2) := by rw [HR.out]; unfold rcellDo; rw [if_neg (show ¬ (kd < 0 ∨ 3 < kd) by omega), if_neg ha, if_neg h0, if_neg h1, if_pos h2k]
    subst h2k
    obtain ⟨Z, hZ⟩ : ∃ Z, Z = accP 2 (xa : Int) xb xc t r := ⟨_, rfl⟩
    rw [← hZ] at A1 hT
    obtain ⟨v, t', r'⟩ := Z
    clear HR hZ
    by_cases hv : v = 1
    · subst hv
      have hT' : R = ({ t' with val := 1 }, r') := hT
      subst hT'
      have A2 := Lib.hid (show Calls Tryz.prog 104 #[.pointer (some ⟨B.I.tb, B.I.pre.length, none⟩), .int .i64 (xa : Int), .int .u64 (xb : Int), .int .u64 (xc : Int)] wb fun e w' => e = .returned (.bool true) ∧ RAt B w' t' r' from A1.out)
      clear A1 hT
      go_enter Tryz.func78, Tryz.ntmps78
      go_upto_region 1 with fail
      rw [← Hwb.out]
      go_wp2_with (go_at_call 104; refine A2.out.mono ?_; rintro e w2 ⟨rfl, h2⟩; have z10 := h2.cVal; have zf := h2.frozen (B.I.pre.length + 10))
      (first | go_end0 | ((try simp only [Exit.inBlock, Exit.then]); refine bodyPost_ret (results_none rfl _ _ _) rfl ?_))
      exact ⟨rfl, h2.putVal 1⟩
    · have hT' : R = (t', r') := by rw [hT]; exact if_neg hv
      subst hT'
      have A2 := Lib.hid (show Calls Tryz.prog 104 #[.pointer (some ⟨B.I.tb, B.I.pre.length, none⟩), .int .i64 (xa : Int), .int .u64 (xb : Int), .int .u64 (xc : Int)] wb fun e w' => e = .returned (.bool false) ∧ RAt B w' t' r' from by have h9 := A1.out; rw [show (v == 1) = false by simp [hv]] at h9; exact h9)
      clear A1 hT
      go_enter Tryz.func78, Tryz.ntmps78
      go_upto_region 1 with fail
      rw [← Hwb.out]
      go_wp2_with (go_at_call 104; refine (A2.out).mono ?_; rintro e w2 ⟨rfl, h2⟩)
      (first | go_end0 | ((try simp only [Exit.inBlock, Exit.then]); refine bodyPost_ret (results_none rfl _ _ _) rfl ?_))
      exact ⟨rfl, h2⟩
  · have h3 : kd = 3 := by omega
    have A1 := Lib.hid (tadd_r HA.out (xa : Int) xb hcb)
    have hT : R = valP (accP 3 (xa : Int) xb 0 t r) := by rw [HR.out]; unfold rcellDo; rw [if_neg (show ¬ (kd < 0 ∨ 3 < kd) by omega), if_neg ha, if_neg h0, if_neg h1, if_neg h2k]
    subst h3
    obtain ⟨Z, hZ⟩ : ∃ Z, Z = accP 3 (xa : Int) xb 0 t r := ⟨_, rfl⟩
    rw [← hZ] at A1 hT
    obtain ⟨v, t', r'⟩ := Z
    subst hT
    clear HR hZ
    go_enter Tryz.func78, Tryz.ntmps78
    go_upto_region 1 with fail
    rw [← Hwb.out]
    go_wp2_with (go_at_call 105; refine A1.out.mono ?_; rintro e w2 ⟨rfl, h2⟩; have z10 := h2.cVal; have zf := h2.frozen (B.I.pre.length + 10))
    (first | go_end0 | ((try simp only [Exit.inBlock, Exit.then]); refine bodyPost_ret (results_none rfl _ _ _) rfl ?_))
    exact ⟨rfl, h2.putVal v⟩
theorem rcell_do (sz n : Nat) (hsz : sz ≤ 64) : DoC 0 (sz : Int) 0 n (fun _ _ _ => True) (rcellDo sz) := by
  intro B u c t r hok hob _ hA
  have C := do_cell (B := B) (w := u) (t := t) (r := r) (fun u' => RAt B u' (rcellDo sz c t r).1 (rcellDo sz c t r).2) n (sz : Int) 0 c.thread c.kind c.a c.b c.c hA (fun u' h' => rcell_r sz hsz c hok hob h')
  have R := (rcell_dob sz).runs c t r
  have e1 : callW c = .agg #[.int .i64 c.thread, .int .i64 0, .int .i64 c.kind, .int .u64 (c.a : Int), .int .u64 (c.b : Int), .int .u64 (c.c : Int)] := by unfold callW; rw [hob]
  rw [e1]
  refine C.mono ?_
  rintro e u' ⟨rfl, h1⟩
  exact ⟨rfl, _, h1, R.thread, R.inv, rfl, rfl, rfl, fun _ => ⟨rfl, rfl, rfl, rfl, fun _ => rfl⟩⟩
end
theorem rcells_play (X : Nat → Prop) (q0 q1 : Int) (calls : List CallD) (picks : List Int) (ca pa : Option Addr) (cc pc bS : Nat) (w : World) (hX : ∀ b, X b → b < w.heap.size) (hS : SpecAt w bS 0 q1 0) (hc : CallsAt noB w ca calls) (hp : PicksAt w pa picks) :
    Calls Tryz.prog 14 #[.int .i64 q0, .slice (some ⟨bS, 0, none⟩) 1 1, .slice ca calls.length cc, .slice pa picks.length pc] w fun e w' => RefAny X w w' (cellsN q0 q1 calls picks.length) (playD (cellsS q1.toNat) () (List.replicate q1.toNat 0) calls picks) true e := by
  by_cases hck : checkN q0 calls picks.length = 0
  · obtain ⟨z1, z2, z3, _⟩ := wrongN_zero (checkN_zero hck).1
    obtain ⟨n, rfl⟩ : ∃ n : Nat, q0 = (n : Int) := ⟨q0.toNat, by omega⟩
    by_cases hsz : q1 < 1 ∨ 64 < q1
    · have he : cellsN (n : Int) q1 calls picks.length = 10 := by unfold cellsN; rw [if_neg (fun x => x hck), if_pos hsz]
      rw [he]
      refine rplay_of X (n : Int) 10 _ _ _ _ w (fun u hu hul => ?_)
      exact rlog_bad _ (n : Int) 0 q1 0 calls picks ca pa cc pc bS _ u hck (hS.grown hu) (hc.grown hu) (hp.grown hu) (fun v => size_cell (n : Int) q1 0 (-1) v (by rw [if_neg (by omega)]))
    · obtain ⟨sz, rfl⟩ : ∃ sz : Nat, q1 = (sz : Int) := ⟨q1.toNat, by omega⟩
      have he : cellsN (n : Int) (sz : Int) calls picks.length = 0 := by unfold cellsN; rw [if_neg (fun x => x hck), if_neg hsz]
      rw [he, Int.toNat_natCast]
      have hthr := thr_16 hck
      exact rplay_any (S := cellsS sz) (M := oneSim _ _) X sz 0 (sz : Int) 0 picks ca pa cc pc bS w () (fun _ _ _ => True) hX (by decide) (by omega) (by omega) hck hS hc hp (fun v => size_cell (n : Int) (sz : Int) 0 (sz : Int) v (by rw [if_pos (by omega)])) (rcell_dob sz) (rcell_dot sz) (rcell_do sz n (by omega)) (late_marks 0 (sz : Int) 0 n (by decide)) (one_ok (rcell_one sz) n calls) (fun o wd p s => ((rcell_one sz).keep _ _).2.2.1) (fun _ _ => trivial)
        (fun k => one_len (rcell_one sz) hthr () _ (List.length_replicate ..) _) (fun _ _ _ _ _ _ _ _ _ _ _ _ _ _ _ => trivial)
  · refine rplay_of X q0 _ _ _ _ _ w (fun u hu hul => ?_)
    have he : cellsN q0 q1 calls picks.length = checkN q0 calls picks.length := by unfold cellsN; rw [if_pos hck]
    rw [he]
    exact rlog_wrong _ q0 calls picks ca pa cc pc _ _ u hck (hc.grown hu) (hp.grown hu)
theorem rcells_len {q0 q1 : Int} {calls : List CallD} {picks : List Int} (h : cellsN q0 q1 calls picks.length = 0) : (playD (cellsS q1.toNat) () (List.replicate q1.toNat 0) calls picks).evs.length < 1000000 ∧ (playD (cellsS q1.toNat) () (List.replicate q1.toNat 0) calls picks).words.length < 1000000 := by
  obtain ⟨hck, s1, s2⟩ := cellsN_zero h
  obtain ⟨z1, z2, z3, _⟩ := wrongN_zero (checkN_zero hck).1
  obtain ⟨n, rfl⟩ : ∃ n : Nat, q0 = (n : Int) := ⟨q0.toNat, by omega⟩
  obtain ⟨a1, a2⟩ := rlen_any (S := cellsS q1.toNat) (M := oneSim _ _) q1.toNat picks () hck (rcell_dob q1.toNat) (one_ok (rcell_one q1.toNat) n calls) (fun o wd p s => ((rcell_one q1.toNat).keep _ _).2.2.1) (fun _ _ => trivial) (fun k => one_len (rcell_one q1.toNat) (thr_16 hck) () _ (List.length_replicate ..) _)
  omega
end
end Go.Proofs.YteffgpcjfnjlkaaGreat
