/- A reference's play is the loom's, whatever the object is: roundelayplain.Play. -/
import Derived.Test.YteffgpcjfnjlkaaGreatK39
import Derived.Test.YteffgpcjfnjlkaaGreatK36
import Derived.Test.YteffgpcjfnjlkaaGreatK31
import Derived.Test.YteffgpcjfnjlkaaGreatK15
import Derived.Test.YteffgpcjfnjlkaaGreatK20
set_option maxRecDepth 100000
set_option linter.unusedVariables false
set_option linter.unusedSimpArgs false
set_option linter.unnecessarySimpa false
namespace Go.Proofs.YteffgpcjfnjlkaaGreat
section
open Go.RowKit
variable {S : Sys} {M : RefSim S} {n : Nat} {dO : CallD → TapeP → RWD → TapeP × RWD} {late : CallD → Nat → RHand → RWD → List Int} {calls : List CallD} {Good : PlayD S → Prop}
theorem psim0 (o : S.ω) (sz : Nat) (ho : ∀ p, p < n → M.Own o p []) : PSim M n calls (ref0 n sz calls) (play0 S o (List.replicate sz 0) calls) := by
  have h16 : ∀ p, (List.replicate 16 ((none : Option S.σ), 0)).getD p (none, 0) = (none, 0) := fun p => rep_getD9 16 p _
  have hr0 : ∀ p, (List.replicate n rh0).getD p rh0 = rh0 := fun p => rep_getD9 n p _
  refine ⟨⟨rfl, rfl, List.length_replicate .., fun p hp => ?_, fun a => ?_⟩, ⟨List.length_replicate .., List.length_replicate ..⟩, rfl, rfl, rfl, List.length_replicate .., fun p hp => ?_⟩
  · show (List.replicate n ([] : List Int)).getD p [] = (List.replicate 16 ([] : List Int)).getD p []
    rw [rep_getD9, rep_getD9]
  · unfold traceP
    split
    · rfl
    · exact rep_getD9 sz _ _
  · show HandSim M calls o (wd0 _) _ [] p ((List.replicate n rh0).getD p rh0) ((List.replicate 16 (none, 0)).getD p (none, 0))
    rw [hr0, h16]
    exact ⟨ho p hp, rfl, fun h => by (cases h), fun h => by (cases h), fun σ e => by cases e⟩
theorem psim_call {s : RefS} {st : PlayD S} (h : PSim M n calls s st) (hg : StGood calls st) : ∀ p, p < n → (s.hands.getD p rh0).opn = true → nowN calls s.fin (p : Int) = some (evAt s.evs (s.hands.getD p rh0).ev).call := fun p hp ho => by
  have H := h.hand p hp
  rw [H.opn] at ho
  have hh : hndOf st.hands p = some (st.hands.getD p (none, 0)).2 := by unfold hndOf; rw [if_pos ho]
  obtain ⟨k1, k2, k3, k4⟩ := hg.ev.hand p _ hh
  rw [h.fin, h.evs, H.ev (by rw [H.opn]; exact ho)]
  exact k4
theorem rstand (ok : RefOk S M n dO late calls Good) (D : DoB dO) (hnow : ∀ o wd p s, (S.step o wd p s).2.1.now = wd.now) (hn : n ≤ 16) (hthr : ∀ c, c < calls.length → 0 ≤ (calls.getD c d0).thread ∧ (calls.getD c d0).thread < (n : Int)) {sz : Nat} :
    ∀ (picks : List Int) {s : RefS} {st : PlayD S}, StGood calls st → (∀ k, Good (picksD S calls st (picks.take k))) → PSim M n calls s st → RGood n sz calls s → PSim M n calls (rpicks dO calls s picks) (picksD S calls st picks) ∧ StGood calls (picksD S calls st picks) ∧ RGood n sz calls (rpicks dO calls s picks) ∧ Good (picksD S calls st picks)
  | [], _, _, hg, hG, h, hr => ⟨h, hg, hr, hG 0⟩
  | p :: ps, s, st, hg, hG, h, hr => rstand ok D hnow hn hthr ps (pick_good hnow (fun c hc => ⟨(hthr c hc).1, by have := (hthr c hc).2; omega⟩) hg p) (fun k => hG (k + 1)) (rsim_pick ok hn hthr hg (hG 0) h p) (hr.pick D hthr (psim_call h hg) p)
def DoT (dO : CallD → TapeP → RWD → TapeP × RWD) : Prop := ∀ c t r x, x ∈ (dO c t r).1.ticks → x ∈ t.ticks ∨ x = (r.now : Int)
theorem accP_ticks (kd a : Int) (x y : Nat) (t : TapeP) (r : RWD) : ∀ z, z ∈ (accP kd a x y t r).2.1.ticks → z ∈ t.ticks ∨ z = (r.now : Int) := by
  intro z hz
  unfold accP at hz
  split at hz
  · exact .inl hz
  · split at hz
    · exact .inl hz
    · split at hz
      · have h9 : z ∈ t.ticks ++ [(r.now : Int)] := hz
        simpa using h9
      · exact .inl hz
def RTick (n : Nat) (s : RefS) : Prop := ∀ p, p < n → (s.hands.getD p rh0).opn = true → (s.hands.getD p rh0).inv ≤ s.rw.now ∧ ∀ x, x ∈ (s.hands.getD p rh0).ticks → 0 ≤ x ∧ x ≤ (s.rw.now : Int)
theorem RTick.open_ {s : RefS} (h : RTick n s) (hl : s.hands.length = n) (q i : Nat) (hq : q < n) : RTick n (ropen { s with rw := s.rw.tick } q i) ∧ (ropen { s with rw := s.rw.tick } q i).rw.now = s.rw.now + 1 := by
  unfold ropen
  split
  · refine ⟨fun p hp ho => ?_, rfl⟩
    obtain ⟨a, b⟩ := h p hp ho
    exact ⟨Nat.le_succ_of_le a, fun x hx => ⟨(b x hx).1, by have := (b x hx).2; show x ≤ ((s.rw.now + 1 : Nat) : Int); omega⟩⟩
  · refine ⟨fun p hp ho => ?_, rfl⟩
    have e0 : (rbegin { s with rw := s.rw.tick } q i).hands = s.hands.set q ⟨true, s.evs.length, s.rw.now + 1, [], [], (s.hands.getD q rh0).own⟩ := rfl
    have e1 : (rbegin { s with rw := s.rw.tick } q i).rw.now = s.rw.now + 1 := rfl
    rw [e0] at ho
    rw [e0, e1]
    by_cases e : q = p
    · subst e
      rw [getD_set_eq (by omega)]
      exact ⟨Nat.le_refl _, fun x hx => by cases hx⟩
    · rw [getD_set_neq e] at ho ⊢
      obtain ⟨a, b⟩ := h p hp ho
      exact ⟨Nat.le_succ_of_le a, fun x hx => ⟨(b x hx).1, by have := (b x hx).2; omega⟩⟩
theorem RTick.pick (D : DoB dO) (DT : DoT dO) {s : RefS} (h : RTick n s) (hl : s.hands.length = n) (hthr : ∀ c, c < calls.length → 0 ≤ (calls.getD c d0).thread ∧ (calls.getD c d0).thread < (n : Int)) (x : Int) : RTick n (rpick dO calls s x) := by
  unfold rpick
  split
  · exact h
  · rename_i i hN
    obtain ⟨n1, n2, n3⟩ := nowN_spec hN
    obtain ⟨t1, t2⟩ := hthr i n1
    obtain ⟨q, rfl⟩ : ∃ q : Nat, x = (q : Int) := ⟨x.toNat, by omega⟩
    simp only [Int.toNat_natCast]
    have hq : q < n := by omega
    obtain ⟨h1, h2⟩ := h.open_ hl q i hq
    obtain ⟨s1, hs1⟩ : ∃ s1, s1 = ropen { s with rw := s.rw.tick } q i := ⟨_, rfl⟩
    have hl1 : s1.hands.length = n := by
      rw [hs1]; unfold ropen
      split
      · exact hl
      · show (s.hands.set q _).length = n; rw [List.length_set]; exact hl
    have ho1 : (s1.hands.getD q rh0).opn = true := by
      rw [hs1]; unfold ropen
      split
      · assumption
      · show ((s.hands.set q _).getD q rh0).opn = true
        rw [getD_set_eq (by omega)]
    rw [← hs1] at h1 h2 ⊢
    obtain ⟨c, hc⟩ : ∃ c, c = calls.getD i d0 := ⟨_, rfl⟩
    rw [← hc]
    obtain ⟨R, hR⟩ : ∃ R, R = rdo dO c ((s1.hands.getD q rh0).tape q) s1.rw := ⟨_, rfl⟩
    have hRn : R.2.now = s1.rw.now := by
      rw [hR]; unfold rdo
      split
      · rfl
      · exact (D.runs _ _ _).now
    have hRt : ∀ z, z ∈ R.1.ticks → z ∈ (s1.hands.getD q rh0).ticks ∨ z = (s1.rw.now : Int) := fun z hz => by
      rw [hR] at hz
      unfold rdo at hz
      split at hz
      · exact .inl hz
      · exact DT _ _ _ _ hz
    obtain ⟨a9, b9⟩ := h1 q hq ho1
    unfold rgo
    rw [← hR]
    split
    · intro p hp ho
      simp only at ho ⊢
      rw [hRn]
      by_cases e : q = p
      · subst e
        rw [getD_set_eq (by omega)]
        exact ⟨a9, fun z hz => by
          rcases hRt z hz with h9 | h9
          · exact b9 z h9
          · rw [h9]; omega⟩
      · rw [getD_set_neq e] at ho ⊢
        exact h1 p hp ho
    · intro p hp ho
      simp only at ho ⊢
      rw [hRn]
      by_cases e : q = p
      · subst e
        rw [getD_set_eq (by omega)] at ho
        cases ho
      · rw [getD_set_neq e] at ho ⊢
        exact h1 p hp ho
theorem rtick_all (D : DoB dO) (DT : DoT dO) (hthr : ∀ c, c < calls.length → 0 ≤ (calls.getD c d0).thread ∧ (calls.getD c d0).thread < (n : Int)) : ∀ (picks : List Int) {s : RefS}, RTick n s → s.hands.length = n → RTick n (rpicks dO calls s picks)
  | [], _, h, _ => h
  | p :: ps, s, h, hl => rtick_all D DT hthr ps (h.pick D DT hl hthr p) (by
      unfold rpick
      split
      · exact hl
      · unfold rgo
        have e9 : ∀ q i, (ropen { s with rw := s.rw.tick } q i).hands.length = n := fun q i => by
          unfold ropen
          split
          · exact hl
          · show (s.hands.set q _).length = n; rw [List.length_set]; exact hl
        split <;> (simp only [List.length_set]; exact e9 _ _))
theorem rplay_any (X : Nat → Prop) (sz : Nat) (kd P Q : Int) (picks : List Int) (ca pa : Option Addr) (cc pc bS : Nat) (w : World) (o : S.ω) (Pre : CallD → TapeP → RWD → Prop) (hX : ∀ b, X b → b < w.heap.size) (hk : ¬ kd = 8) (hsz : sz ≤ 65536) (hs0 : 0 < sz) (hck : checkN (n : Int) calls picks.length = 0) (hS : SpecAt w bS kd P Q) (hc : CallsAt noB w ca calls) (hp : PicksAt w pa picks)
    (SC : ∀ u : World, Calls Tryz.prog 69 #[.int .i64 (n : Int), .agg #[.int .i64 kd, .int .i64 P, .int .i64 Q]] u fun e w' => e = .returned (.int .i64 (sz : Int)) ∧ Below u.heap.size u w') (D : DoB dO) (DT : DoT dO) (DC : DoC kd P Q n Pre dO) (LC : LateC kd P Q n late)
    (ok : RefOk S M n dO late calls Good) (hnow : ∀ o wd p s, (S.step o wd p s).2.1.now = wd.now) (ho : ∀ p, p < n → M.Own o p []) (hG : ∀ k, Good (picksD S calls (play0 S o (List.replicate sz 0) calls) (picks.take k)))
    (hPre : ∀ (s : RefS) (st : PlayD S) (q i : Nat), PSim M n calls s st → StGood calls st → Good st → RGood n sz calls s → RTick n s → s.rw.now ≤ 65536 → q < n → nowN calls s.fin (q : Int) = some i → (calls.getD i d0).obj = 0 → ∀ s1, s1 = ropen { s with rw := s.rw.tick } q i → Pre (calls.getD i d0) ((s1.hands.getD q rh0).tape q) s1.rw) :
    Calls Tryz.prog 14 #[.int .i64 (n : Int), .slice (some ⟨bS, 0, none⟩) 1 1, .slice ca calls.length cc, .slice pa picks.length pc] w fun e w' => RefAny X w w' 0 (playD S o (List.replicate sz 0) calls picks) true e := by
  have hthr := thr_ok hck
  obtain ⟨z1, z2, z3, _⟩ := wrongN_zero (checkN_zero hck).1
  have hn : n ≤ 16 := by omega
  have hst : ∀ k, PSim M n calls (rpicks dO calls (ref0 n sz calls) (picks.take k)) (picksD S calls (play0 S o (List.replicate sz 0) calls) (picks.take k)) ∧ StGood calls (picksD S calls (play0 S o (List.replicate sz 0) calls) (picks.take k)) ∧ RGood n sz calls (rpicks dO calls (ref0 n sz calls) (picks.take k)) ∧ Good (picksD S calls (play0 S o (List.replicate sz 0) calls) (picks.take k)) := fun k =>
    rstand ok D hnow hn hthr (picks.take k) (play0_good (S := S) calls o _) (fun j => by rw [List.take_take]; exact hG _) (psim0 o sz ho) (rgood0 n sz calls)
  refine rplay_of X (n : Int) 0 _ _ _ _ w (fun u hu hul => ?_)
  have L := rlog_r (fun b => X b ∨ b = w.heap.size) dO late Pre D n sz kd P Q calls picks ca pa cc pc bS u (fun b e => by rcases e with e | e; have := hX b e; have := hu.size; omega; omega) hk hsz hs0 hck (hS.grown hu) (hc.grown hu) (hp.grown hu) hthr SC DC LC (fun k => (hst k).2.2.1) (fun k i hk9 hN hob s1 hs1 => by
    obtain ⟨n1, n2, n3⟩ := nowN_spec hN
    obtain ⟨t1, t2⟩ := hthr i n1
    obtain ⟨q, hq⟩ : ∃ q : Nat, picks.getD k 0 = (q : Int) := ⟨(picks.getD k 0).toNat, by omega⟩
    rw [hq] at hN hs1 n2 ⊢
    simp only [Int.toNat_natCast] at hs1 ⊢
    exact hPre _ _ q i (hst k).1 (hst k).2.1 (hst k).2.2.2 (hst k).2.2.1 (rtick_all D DT hthr (picks.take k) (fun p hp ho => by (have e9 : ((ref0 n sz calls).hands.getD p rh0) = rh0 := rep_getD9 n p _); rw [e9] at ho; cases ho) (List.length_replicate ..)) (by (have h9 := rpicks_count D calls (picks.take k) (ref0 n sz calls)); rw [show (ref0 n sz calls).rw.now = 0 from rfl, show (ref0 n sz calls).idle = 0 from rfl, List.length_take] at h9; have := (checkN_zero hck).2; omega) (by omega) hN hob s1 hs1)
  refine L.mono ?_
  intro e w' h
  rw [← rsim_play ok hnow hn hthr o sz ho picks hG]
  exact h.any
theorem rend_len (late : CallD → Nat → RHand → RWD → List Int) (calls : List CallD) (s : RefS) (n : Nat) : (rend late calls s n).length = s.evs.length := (rendTo_spec late calls s n).1
theorem rlen_any (sz : Nat) (picks : List Int) (o : S.ω) (hck : checkN (n : Int) calls picks.length = 0) (D : DoB dO) (ok : RefOk S M n dO late calls Good) (hnow : ∀ o wd p s, (S.step o wd p s).2.1.now = wd.now) (ho : ∀ p, p < n → M.Own o p []) (hG : ∀ k, Good (picksD S calls (play0 S o (List.replicate sz 0) calls) (picks.take k))) :
    (playD S o (List.replicate sz 0) calls picks).evs.length ≤ 65536 ∧ (playD S o (List.replicate sz 0) calls picks).words.length = sz := by
  have hthr := thr_ok hck
  obtain ⟨z1, z2, z3, _⟩ := wrongN_zero (checkN_zero hck).1
  have hn : n ≤ 16 := by omega
  have hnp := (checkN_zero hck).2
  obtain ⟨_, _, R, _⟩ := rstand ok D hnow hn hthr picks (play0_good (S := S) calls o _) hG (psim0 o sz ho) (rgood0 n sz calls)
  rw [← rsim_play ok hnow hn hthr o sz ho picks hG]
  have hct := rpicks_count D calls picks (ref0 n sz calls)
  rw [show (ref0 n sz calls).rw.now = 0 from rfl, show (ref0 n sz calls).idle = 0 from rfl] at hct
  refine ⟨?_, R.ws⟩
  show (rend late calls _ n).length ≤ _
  rw [rend_len]
  have := R.el
  omega
end
section

/- Objects whose operations have one step, in the reference's play: plain numbers. -/
open Go.RowKit
structure Tape0 (t : TapeP) : Prop where
  got : t.got = []
  at_ : t.at_ = 0
  fresh : t.fresh = true
  halt : t.halt = false
  err : t.err = 0
  val : t.val = 0
  list : t.list = []
  key : t.key = []
theorem tape00 {h : RHand} (p : Nat) (hg : h.got = []) : Tape0 (h.tape p) := ⟨hg, rfl, rfl, rfl, rfl, rfl, rfl, rfl⟩
theorem accP_new {t : TapeP} (h : Tape0 t) (kd a : Int) (x y : Nat) (r : RWD) : accP kd a x y t r = ((memAcc r.mem kd a x y).2, { t with got := t.got ++ [(memAcc r.mem kd a x y).2], ticks := t.ticks ++ [(r.now : Int)], at_ := t.at_ + 1, fresh := false }, { r with mem := (memAcc r.mem kd a x y).1 }) := by
  unfold accP
  rw [if_neg (by rw [h.halt]; exact Bool.false_ne_true), if_neg (by rw [h.at_, h.got]; exact Nat.lt_irrefl 0), if_pos h.fresh]
theorem accP_priv (kd a : Int) (x y : Nat) (t : TapeP) (r : RWD) : (accP kd a x y t r).2.1.priv = t.priv := by
  unfold accP
  split
  · rfl
  · split
    · rfl
    · split <;> rfl
structure OneDo (ref : CallD → Option Int) (act : CallD → WD → WD × (Int × Nat)) (Ln : Nat) (dO : CallD → TapeP → RWD → TapeP × RWD) : Prop where
  refuse : ∀ c t r e, ref c = some e → Tape0 t → dO c t r = ({ t with err := e }, r)
  go : ∀ c t r wd, ref c = none → Tape0 t → r.mem = wd.mem → wd.mem.ws.length = Ln → (dO c t r).2 = { r with mem := (act c wd).1.mem } ∧ (dO c t r).1.halt = false ∧ (dO c t r).1.err = (act c wd).2.1 ∧ (dO c t r).1.val = (act c wd).2.2 ∧ (dO c t r).1.list = [] ∧ (dO c t r).1.key = []
  keep : ∀ c wd, (act c wd).1.inv = wd.inv ∧ (act c wd).1.marks = wd.marks ∧ (act c wd).1.now = wd.now ∧ (act c wd).1.traces = wd.traces
  len : ∀ c wd, (act c wd).1.mem.ws.length = wd.mem.ws.length
def lateM (_ : CallD) (p : Nat) (_ : RHand) (r : RWD) : List Int := r.marks.getD p []
theorem Runs.errP (t : TapeP) (r : RWD) (e : Int) : Runs t r { t with err := e } r := ⟨rfl, rfl, Nat.le_refl _, Nat.le_refl _, rfl, rfl⟩
theorem size_one (kd P Q n : Int) (h : kd = 1 ∨ kd = 3) (w : World) : Calls Tryz.prog 69 #[.int .i64 n, .agg #[.int .i64 kd, .int .i64 P, .int .i64 Q]] w fun e w' => e = .returned (.int .i64 1) ∧ Below w.heap.size w w' := by
  rcases h with rfl | rfl
  all_goals
    go_enter Tryz.func69, Tryz.ntmps69
    go_wp2
    go_ret
    exact ⟨rfl, Gr.new _ _⟩
end
section

/- A cons in the reference's play: plain numbers. -/
open Go.RowKit
theorem accP_fresh {t : TapeP} (hh : t.halt = false) (ha : ¬ t.at_ < t.got.length) (hf : t.fresh = true) (kd a : Int) (x y : Nat) (r : RWD) : accP kd a x y t r = ((memAcc r.mem kd a x y).2, { t with got := t.got ++ [(memAcc r.mem kd a x y).2], ticks := t.ticks ++ [(r.now : Int)], at_ := t.at_ + 1, fresh := false }, { r with mem := (memAcc r.mem kd a x y).1 }) := by
  unfold accP
  rw [if_neg (by rw [hh]; exact Bool.false_ne_true), if_neg ha, if_pos hf]
theorem accP_old {t : TapeP} (hh : t.halt = false) (ha : t.at_ < t.got.length) (kd a : Int) (x y : Nat) (r : RWD) : accP kd a x y t r = (t.got.getD t.at_ 0, { t with at_ := t.at_ + 1 }, r) := by
  unfold accP
  rw [if_neg (by rw [hh]; exact Bool.false_ne_true), if_pos ha]
theorem accP_end {t : TapeP} (hh : t.halt = false) (ha : ¬ t.at_ < t.got.length) (hf : t.fresh = false) (kd a : Int) (x y : Nat) (r : RWD) : accP kd a x y t r = (0, { t with halt := true }, r) := by
  unfold accP
  rw [if_neg (by rw [hh]; exact Bool.false_ne_true), if_neg ha, if_neg (by rw [hf]; exact Bool.false_ne_true)]
theorem accP_halt {t : TapeP} (hh : t.halt = true) (kd a : Int) (x y : Nat) (r : RWD) : accP kd a x y t r = (0, t, r) := by
  unfold accP
  rw [if_pos hh]
theorem accP_mlen (kd a : Int) (x y : Nat) (t : TapeP) (r : RWD) : (accP kd a x y t r).2.2.marks.length = r.marks.length := by
  unfold accP
  split
  · rfl
  · split
    · rfl
    · split <;> rfl
theorem markP_now (p k : Int) (t : TapeP) (r : RWD) (l : List Int) : (markP p l t r).now = r.now ∧ (markP p l t r).mem = r.mem ∧ (markP p l t r).traces = r.traces ∧ (markP p l t r).marks.length = r.marks.length := by
  unfold markP
  split
  · exact ⟨rfl, rfl, rfl, by simp⟩
  · exact ⟨rfl, rfl, rfl, rfl⟩
theorem Runs.mark {t t' : TapeP} {r r' : RWD} (h : Runs t r t' r') (p : Int) (l : List Int) (u : TapeP) : Runs t r t' (markP p l u r') := by
  obtain ⟨h1, h2, h3, h4⟩ := markP_now p 0 u r' l
  exact ⟨by rw [h2]; exact h.ws, h1.trans h.now, by rw [h2]; exact h.all, h.got, h.thread, h.inv⟩
def rconsDo (c : CallD) (t : TapeP) (r : RWD) : TapeP × RWD :=
  if c.kind = 1 then (if (accP 0 0 0 0 t r).1 = 0 then ({ (accP 0 0 0 0 t r).2.1 with err := 7 }, (accP 0 0 0 0 t r).2.2) else ({ (accP 0 0 0 0 t r).2.1 with val := (accP 0 0 0 0 t r).1 - 1 }, (accP 0 0 0 0 t r).2.2))
  else if c.kind ≠ 0 then ({ t with err := 9 }, r)
  else if 4294967296 ≤ c.a then ({ t with err := 10 }, r)
  else
    ({ (accP 0 0 0 0 (accP 2 0 0 (c.a + 1) t r).2.1 (markP (t.thread : Int) [2 * lastP (accP 2 0 0 (c.a + 1) t r).2.1] (accP 2 0 0 (c.a + 1) t r).2.1 (accP 2 0 0 (c.a + 1) t r).2.2)).2.1 with val := consDec (accP 0 0 0 0 (accP 2 0 0 (c.a + 1) t r).2.1 (markP (t.thread : Int) [2 * lastP (accP 2 0 0 (c.a + 1) t r).2.1] (accP 2 0 0 (c.a + 1) t r).2.1 (accP 2 0 0 (c.a + 1) t r).2.2)).1 },
     (accP 0 0 0 0 (accP 2 0 0 (c.a + 1) t r).2.1 (markP (t.thread : Int) [2 * lastP (accP 2 0 0 (c.a + 1) t r).2.1] (accP 2 0 0 (c.a + 1) t r).2.1 (accP 2 0 0 (c.a + 1) t r).2.2)).2.2)
theorem rcons_dob : DoB rconsDo where
  runs := by
    intro c t r
    unfold rconsDo
    split
    · have h := Runs.acc 0 0 0 0 t r
      split <;> exact ⟨h.ws, h.now, h.all, h.got, h.thread, h.inv⟩
    · split
      · exact Runs.errP _ _ _
      · split
        · exact Runs.errP _ _ _
        · have h := ((Runs.acc 2 0 0 (c.a + 1) t r).mark (t.thread : Int) [2 * lastP (accP 2 0 0 (c.a + 1) t r).2.1] (accP 2 0 0 (c.a + 1) t r).2.1).trans (Runs.acc 0 0 0 0 _ _)
          exact ⟨h.ws, h.now, h.all, h.got, h.thread, h.inv⟩
  priv := by
    intro c t r h
    unfold rconsDo
    split
    · split <;> (simp only [accP_priv]; exact h)
    · split
      · exact h
      · split
        · exact h
        · simp only [accP_priv]; exact h
theorem rcons_dot : DoT rconsDo := by
  intro c t r x hx
  unfold rconsDo at hx
  split at hx
  · split at hx <;> exact accP_ticks _ _ _ _ _ _ _ hx
  · split at hx
    · exact .inl hx
    · split at hx
      · exact .inl hx
      · rcases accP_ticks _ _ _ _ _ _ _ hx with h | h
        · exact accP_ticks _ _ _ _ _ _ _ h
        · right
          rw [h, (markP_now _ 0 _ _ _).1, (Runs.acc 2 0 0 (c.a + 1) t r).now]
def consSim : RefSim consS where
  Rel := fun _ _ _ c h σ => match σ with
    | .once c' r0 => c' = c ∧ r0 = (0, 0) ∧ c.kind = 1 ∧ h.got = []
    | .prop v false => v = c.a ∧ c.kind = 0 ∧ ¬ 4294967296 ≤ c.a ∧ h.got = [] ∧ h.ticks = []
    | .prop v true => v = c.a ∧ c.kind = 0 ∧ ¬ 4294967296 ≤ c.a ∧ ∃ x, h.got = [x]
  Own := fun _ _ _ => True
theorem from_mlen {S : Sys} {calls : List CallD} {st : PlayD S} {q i k : Nat} {s : S.σ} {evs0 : List EvD} {wd0 : WD} (h : From calls st q i k s evs0 wd0) : wd0.marks.length = st.wd.marks.length := by
  cases h with
  | old => rfl
  | new => exact List.length_set ..
theorem cons_ref_ok (n : Nat) (hn : n ≤ 16) (calls : List CallD) : RefOk consS consSim n rconsDo lateM calls (fun st => st.wd.marks.length = 16) where
  refuse := by
    intro st c p h e r hG hob hp hown hs hrw hgot htk
    have h9 : (if c.kind = 1 then Mc.run (CoS.once c (0, 0)) else if c.kind ≠ 0 then .refuse 9 else if 4294967296 ≤ c.a then .refuse 10 else .run (.prop c.a false)) = Mc.refuse e := hs
    unfold rconsDo
    split at h9
    · cases h9
    · rename_i h1
      rw [if_neg h1]
      split at h9
      · rename_i h2
        cases h9
        rw [if_pos h2]
        exact ⟨_, rfl, rfl, rfl, rfl, rfl, rfl, trivial⟩
      · rename_i h2
        rw [if_neg h2]
        split at h9
        · rename_i h3
          cases h9
          rw [if_pos h3]
          exact ⟨_, rfl, rfl, rfl, rfl, rfl, rfl, trivial⟩
        · cases h9
  start := by
    intro st c p h σ r hG hob hth hp hown hs hrw hgot htk hinv
    have h9 : (if c.kind = 1 then Mc.run (CoS.once c (0, 0)) else if c.kind ≠ 0 then .refuse 9 else if 4294967296 ≤ c.a then .refuse 10 else .run (.prop c.a false)) = Mc.run σ := hs
    split at h9
    · rename_i h1; cases h9; exact ⟨rfl, rfl, h1, hgot⟩
    · split at h9
      · cases h9
      · rename_i h2
        split at h9
        · cases h9
        · rename_i h3; cases h9; exact ⟨rfl, by omega, h3, hgot, htk⟩
  step := by
    intro st c p h σ r wd k evs0 hG hf hc hp hinv hown hrel hrw hob
    match σ, hrel with
    | .once c' r0, hrel =>
      obtain ⟨rfl, rfl, h1, hgot⟩ := hrel
      have ht := tape00 (h := h) p hgot
      have hz : rconsDo c' (h.tape p) r = if (memRead r.mem 0).2 = 0 then ({ (accP 0 0 0 0 (h.tape p) r).2.1 with err := 7 }, (accP 0 0 0 0 (h.tape p) r).2.2) else ({ (accP 0 0 0 0 (h.tape p) r).2.1 with val := (memRead r.mem 0).2 - 1 }, (accP 0 0 0 0 (h.tape p) r).2.2) := by
        unfold rconsDo
        rw [if_pos h1, accP_new ht]; rfl
      rw [hz, accP_new ht]
      have hrs : RwSim n { r with mem := (memAcc r.mem 0 0 0 0).1 } { wd with mem := (memRead wd.mem 0).1 } := ⟨by show (memRead r.mem 0).1 = _; rw [hrw.mem], hrw.now, hrw.mlen, hrw.marks, hrw.tr⟩
      have hky : rkey { r with mem := (memAcc r.mem 0 0 0 0).1 } p [] = keyOf { wd with mem := (memRead wd.mem 0).1 } p [] := by
        unfold rkey keyOf tickKey
        rw [if_pos rfl, if_pos rfl]
        show (if r.marks.getD p [] = [] then [2 * (r.now : Int)] else r.marks.getD p []) = if wd.marks.getD p [] = [] then [2 * (wd.now : Int)] else wd.marks.getD p []
        rw [hrw.marks p hp, hrw.now]
      by_cases h0 : (memRead r.mem 0).2 = 0
      · rw [if_pos h0]
        refine ⟨hrs, rfl, rfl, rfl, fun _ => ⟨?_, hky, trivial⟩, fun e => by cases e⟩
        show (⟨7, 0, []⟩ : AnsD) = ⟨(consAct c' wd).2.1, (consAct c' wd).2.2, []⟩
        unfold consAct
        rw [← hrw.mem, if_pos h0]
      · rw [if_neg h0]
        refine ⟨hrs, rfl, rfl, rfl, fun _ => ⟨?_, hky, trivial⟩, fun e => by cases e⟩
        show (⟨0, (memRead r.mem 0).2 - 1, []⟩ : AnsD) = ⟨(consAct c' wd).2.1, (consAct c' wd).2.2, []⟩
        unfold consAct
        rw [← hrw.mem, if_neg h0]
    | .prop v false, hrel =>
      obtain ⟨rfl, h0, h3, hgot, htk⟩ := hrel
      have ht := tape00 (h := h) p hgot
      obtain ⟨z1, hz1⟩ : ∃ z1, z1 = accP 2 0 0 (c.a + 1) (h.tape p) r := ⟨_, rfl⟩
      have e1 := accP_new ht 2 0 0 (c.a + 1) r
      rw [← hz1] at e1
      have ea : z1.2.1.at_ = 1 := by rw [e1]; rfl
      have eg : z1.2.1.got = [(memAcc r.mem 2 0 0 (c.a + 1)).2] := by rw [e1]; show h.got ++ _ = _; rw [hgot]; rfl
      have ek : z1.2.1.ticks = [(r.now : Int)] := by rw [e1]; show h.ticks ++ _ = _; rw [htk]; rfl
      have eh : z1.2.1.halt = false := by rw [e1]; rfl
      have ef : z1.2.1.fresh = false := by rw [e1]
      have er : z1.2.2 = { r with mem := (memAcc r.mem 2 0 0 (c.a + 1)).1 } := by rw [e1]
      have el : lastP z1.2.1 = (r.now : Int) := by unfold lastP; rw [ea, ek]; rfl
      have ej : justP z1.2.1 = true := by unfold justP; rw [eh, ef, ea, eg]; rfl
      have hm : markP ((h.tape p).thread : Int) [2 * lastP z1.2.1] z1.2.1 z1.2.2 = { r with mem := (memAcc r.mem 2 0 0 (c.a + 1)).1, marks := r.marks.set p [2 * (r.now : Int)] } := by
        unfold markP
        rw [if_pos ⟨ej, by show (0 : Int) ≤ (p : Int); omega, by rw [er]; show (p : Int) < (r.marks.length : Int); rw [hrw.mlen]; omega⟩, er, el]; rfl
      have hz : rconsDo c (h.tape p) r = ({ z1.2.1 with halt := true, val := consDec 0 }, { r with mem := (memAcc r.mem 2 0 0 (c.a + 1)).1, marks := r.marks.set p [2 * (r.now : Int)] }) := by
        unfold rconsDo
        rw [if_neg (by omega), if_neg (fun x => x h0), if_neg h3, ← hz1, hm, accP_end eh (by rw [ea, eg]; exact Nat.lt_irrefl 1) ef]
      rw [hz]
      refine ⟨⟨?_, hrw.now, ?_, fun q hq => ?_, hrw.tr⟩, rfl, ?_, rfl, (fun e => by cases e), fun _ => ⟨⟨rfl, h0, h3, _, eg⟩, trivial⟩⟩
      · show (memSwap r.mem 0 0 (c.a + 1)).1 = (memSwap wd.mem 0 0 (c.a + 1)).1
        rw [hrw.mem]
      · show (r.marks.set p _).length = n
        rw [List.length_set]; exact hrw.mlen
      · show (r.marks.set p [2 * (r.now : Int)]).getD q [] = (wd.marks.set p (tickKey wd)).getD q []
        have hlw : n ≤ wd.marks.length := by
          have h9 : st.wd.marks.length = 16 := hG
          rw [from_mlen hf, h9]; exact hn
        by_cases e : p = q
        · subst e
          rw [getD_set_eq (by rw [hrw.mlen]; exact hp), getD_set_eq (by omega)]
          unfold tickKey; rw [hrw.now]
        · rw [getD_set_neq e, getD_set_neq e]; exact hrw.marks q hq
      · show (wd.marks.set p _).length = wd.marks.length
        rw [List.length_set]
    | .prop v true, hrel =>
      obtain ⟨rfl, h0, h3, x, hgot⟩ := hrel
      obtain ⟨z1, hz1⟩ : ∃ z1, z1 = accP 2 0 0 (c.a + 1) (h.tape p) r := ⟨_, rfl⟩
      have e1 := accP_old (t := h.tape p) rfl (by show 0 < h.got.length; rw [hgot]; exact Nat.zero_lt_one) 2 0 0 (c.a + 1) r
      rw [← hz1] at e1
      have ea : z1.2.1.at_ = 1 := by rw [e1]; rfl
      have eg : z1.2.1.got = [x] := by rw [e1]; exact hgot
      have eh : z1.2.1.halt = false := by rw [e1]; rfl
      have ef : z1.2.1.fresh = true := by rw [e1]; rfl
      have er : z1.2.2 = r := by rw [e1]
      have ej : justP z1.2.1 = false := by unfold justP; rw [ef]; simp
      have hm : markP ((h.tape p).thread : Int) [2 * lastP z1.2.1] z1.2.1 z1.2.2 = r := by
        unfold markP
        rw [if_neg (by rw [ej]; exact fun x => by cases x.1), er]
      have hz : rconsDo c (h.tape p) r = ({ (accP 0 0 0 0 z1.2.1 r).2.1 with val := consDec (accP 0 0 0 0 z1.2.1 r).1 }, (accP 0 0 0 0 z1.2.1 r).2.2) := by
        unfold rconsDo
        rw [if_neg (by omega), if_neg (fun x => x h0), if_neg h3, ← hz1, hm]
      have ex := accP_fresh eh (by rw [ea, eg]; exact Nat.lt_irrefl 1) ef 0 0 0 0 r
      rw [hz, ex]
      have e9 : z1.2.1.err = 0 ∧ z1.2.1.list = [] ∧ z1.2.1.key = [] := by rw [e1]; exact ⟨rfl, rfl, rfl⟩
      refine ⟨⟨?_, hrw.now, hrw.mlen, hrw.marks, hrw.tr⟩, rfl, rfl, eh, fun _ => ⟨?_, ?_, trivial⟩, fun e => by rw [show (z1.2.1.halt) = false from eh] at e; cases e⟩
      · show (memRead r.mem 0).1 = (memRead wd.mem 0).1
        rw [hrw.mem]
      · show (⟨z1.2.1.err, consDec (memRead r.mem 0).2, z1.2.1.list⟩ : AnsD) = ⟨0, consDec (memRead wd.mem 0).2, []⟩
        rw [e9.1, e9.2.1, hrw.mem]
      · show rkey _ p z1.2.1.key = keyOf _ p []
        rw [e9.2.2]
        unfold rkey keyOf tickKey
        rw [if_pos rfl, if_pos rfl]
        show (if r.marks.getD p [] = [] then [2 * (r.now : Int)] else r.marks.getD p []) = if wd.marks.getD p [] = [] then [2 * (wd.now : Int)] else wd.marks.getD p []
        rw [hrw.marks p hp, hrw.now]
  ownOther := fun _ _ _ _ _ _ _ _ => trivial
  relOther := by
    intro st p σ wd k evs0 r q c h σ' r' hG hf hqp hh hrel hrw
    exact hrel
  relTick := fun _ _ _ _ _ _ h => h
  relBegin := fun _ _ _ _ _ _ _ h => h
  late := by
    intro st c p h σ r hG hh hinv hrel hrw hp
    exact hrw.marks p hp
theorem cons_mlen {calls : List CallD} (hthr : ∀ c, c < calls.length → 0 ≤ (calls.getD c d0).thread ∧ (calls.getD c d0).thread < 16) (ws : List Nat) (picks : List Int) : (picksD consS calls (play0 consS () ws calls) picks).wd.marks.length = 16 :=
  (picks_ind (S := consS) (J := fun st => st.wd.marks.length = 16) (fun o wd p x => by match x with | .once _ _ => rfl | .prop _ false => rfl | .prop _ true => rfl) hthr (fun st st' _ _ hi ht => by
    cases ht with
    | idle => exact hi
    | refuse q i er hq hN hh hs => exact (List.length_set ..).trans hi
    | step q i k s evs0 wd0 hq hN hf =>
      have e9 : wd0.marks.length = 16 := (from_mlen hf).trans hi
      match s with
      | .once _ _ => exact e9
      | .prop _ false => exact (List.length_set ..).trans e9
      | .prop _ true => exact e9) picks (play0_good (S := consS) calls () ws) (List.length_replicate ..)).2
end
end Go.Proofs.YteffgpcjfnjlkaaGreat
