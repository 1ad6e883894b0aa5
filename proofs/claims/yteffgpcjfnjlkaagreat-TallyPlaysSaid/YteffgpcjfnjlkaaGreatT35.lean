/- A reference's play is the loom's, whatever the object is: roundelayplain.Play. -/
import Derived.Test.YteffgpcjfnjlkaaGreatT34
import Derived.Test.YteffgpcjfnjlkaaGreatT32
import Derived.Test.YteffgpcjfnjlkaaGreatT27
import Derived.Test.YteffgpcjfnjlkaaGreatT13
import Derived.Test.YteffgpcjfnjlkaaGreatT17
import Derived.Test.YteffgpcjfnjlkaaGreatT22
import Derived.Laws.CopyOwn
set_option maxRecDepth 100000
set_option linter.unusedVariables false
set_option linter.unusedSimpArgs false
set_option linter.unnecessarySimpa false
namespace Go.Proofs.YteffgpcjfnjlkaaGreat
section
open Go.RowKit
variable {S : Sys} {M : RefSim S} {n : Nat} {dO : CallD → TapeP → RWD → TapeP × RWD} {late : CallD → Nat → RHand → RWD → List Int} {calls : List CallD} {Good : PlayD S → Prop}
theorem psim0 (o : S.ω) (sz : Nat) (hs0 : 0 < sz) (ho : ∀ p, p < n → M.Own o p []) : PSim M n calls (ref0 n sz calls) (play0 S o (List.replicate sz 0) calls) := by
 have h16 : ∀ p, (List.replicate 16 ((none : Option S.σ), 0)).getD p (none, 0) = (none, 0) := fun p => rep_getD9 16 p _
 have hr0 : ∀ p, (List.replicate n rh0).getD p rh0 = rh0 := fun p => rep_getD9 n p _
 refine ⟨⟨rfl, rfl, List.length_replicate .., fun p hp => ?_, fun a => ?_, (by show 0 < (List.replicate sz ([] : List Int)).length; rw [List.length_replicate]; exact hs0)⟩, ⟨List.length_replicate .., List.length_replicate ..⟩, rfl, rfl, rfl, List.length_replicate .., fun p hp => ?_⟩
 ·show (List.replicate n ([] : List Int)).getD p [] = (List.replicate 16 ([] : List Int)).getD p []
  rw [rep_getD9, rep_getD9]
 ·unfold traceP
  split
  ·rfl
  ·exact rep_getD9 sz _ _
 ·show HandSim M calls o (wd0 _) _ [] p ((List.replicate n rh0).getD p rh0) ((List.replicate 16 (none, 0)).getD p (none, 0))
  rw [hr0, h16]
  exact ⟨ho p hp, rfl, fun h => by (cases h), fun h => by (cases h), fun σ e => by cases e⟩
theorem psim_call {s : RefS} {st : PlayD S} (h : PSim M n calls s st) (hg : StGood calls st) : ∀ p, p < n → (s.hands.getD p rh0).opn = true → nowN calls s.fin (p : Int) = some (evAt s.evs (s.hands.getD p rh0).ev).call := fun p hp ho => by
 have H := h.hand p hp
 rw [H.opn] at ho
 have hh : hndOf st.hands p = some (st.hands.getD p (none, 0)).2 := by unfold hndOf; rw [if_pos ho]
 obtain ⟨k1, k2, k3, k4⟩ := hg.ev.hand p _ hh
 rw [h.fin, h.evs, H.ev (by rw [H.opn]; exact ho)]
 exact k4
theorem rstand (ok : RefOk S M n dO late calls Good) (D : DoB dO) (hnow : ∀ o wd p s, (S.step o wd p s).2.1.now = wd.now) (hn : n ≤ 16) (hthr : ∀ c, c < calls.length → 0 ≤ (calls.getD c d0).thread ∧ (calls.getD c d0).thread < (n : Int)) {sz : Nat} :
  ∀ (picks : List Int) {s : RefS} {st : PlayD S}, StGood calls st → (∀ k, Good (picksD S calls st (picks.take k))) → PSim M n calls s st → RGood n sz calls s → PSim M n calls (rpicks dO calls s picks) (picksD S calls st picks) ∧ StGood calls (picksD S calls st picks) ∧ RGood n sz calls (rpicks dO calls s picks) ∧ Good (picksD S calls st picks)
 | [], _, _, hg, hG, h, hr => ⟨h, hg, hr, hG 0⟩
 | p :: ps, s, st, hg, hG, h, hr => rstand ok D hnow hn hthr ps (pick_good hnow (fun c hc => ⟨(hthr c hc).1, by have := (hthr c hc).2; omega⟩) hg p) (fun k => hG (k + 1)) (rsim_pick ok hn hthr hg (hG 0) h p) (hr.pick D hthr (psim_call h hg) p)
def DoT (dO : CallD → TapeP → RWD → TapeP × RWD) : Prop := ∀ c t r x, x ∈ (dO c t r).1.ticks → x ∈ t.ticks ∨ x = (r.now : Int)
theorem accP_ticks (kd a : Int) (x y : Nat) (t : TapeP) (r : RWD) : ∀ z, z ∈ (accP kd a x y t r).2.1.ticks → z ∈ t.ticks ∨ z = (r.now : Int) := by
 intro z hz
 unfold accP at hz
 split at hz
 ·exact .inl hz
 ·split at hz
  ·exact .inl hz
  ·split at hz
   ·have h9 : z ∈ t.ticks ++ [(r.now : Int)] := hz
    simpa using h9
   ·exact .inl hz
def RTick (n : Nat) (s : RefS) : Prop := ∀ p, p < n → (s.hands.getD p rh0).opn = true → (s.hands.getD p rh0).inv ≤ s.rw.now ∧ ∀ x, x ∈ (s.hands.getD p rh0).ticks → 0 ≤ x ∧ x ≤ (s.rw.now : Int)
theorem RTick.open_ {s : RefS} (h : RTick n s) (hl : s.hands.length = n) (q i : Nat) (hq : q < n) : RTick n (ropen { s with rw := s.rw.tick } q i) ∧ (ropen { s with rw := s.rw.tick } q i).rw.now = s.rw.now + 1 := by
 unfold ropen
 split
 ·refine ⟨fun p hp ho => ?_, rfl⟩
  obtain ⟨a, b⟩ := h p hp ho
  exact ⟨Nat.le_succ_of_le a, fun x hx => ⟨(b x hx).1, by have := (b x hx).2; show x ≤ ((s.rw.now + 1 : Nat) : Int); omega⟩⟩
 ·refine ⟨fun p hp ho => ?_, rfl⟩
  have e0 : (rbegin { s with rw := s.rw.tick } q i).hands = s.hands.set q ⟨true, s.evs.length, s.rw.now + 1, [], [], (s.hands.getD q rh0).own⟩ := rfl
  have e1 : (rbegin { s with rw := s.rw.tick } q i).rw.now = s.rw.now + 1 := rfl
  rw [e0] at ho
  rw [e0, e1]
  by_cases e : q = p
  ·subst e
   rw [getD_set_eq (by omega)]
   exact ⟨Nat.le_refl _, fun x hx => by cases hx⟩
  ·rw [getD_set_neq e] at ho ⊢
   obtain ⟨a, b⟩ := h p hp ho
   exact ⟨Nat.le_succ_of_le a, fun x hx => ⟨(b x hx).1, by have := (b x hx).2; omega⟩⟩
theorem RTick.pick (D : DoB dO) (DT : DoT dO) {s : RefS} (h : RTick n s) (hl : s.hands.length = n) (hthr : ∀ c, c < calls.length → 0 ≤ (calls.getD c d0).thread ∧ (calls.getD c d0).thread < (n : Int)) (x : Int) : RTick n (rpick dO calls s x) := by
 unfold rpick
 split
 ·exact h
 ·rename_i i hN
  obtain ⟨n1, n2, n3⟩ := nowN_spec hN
  obtain ⟨t1, t2⟩ := hthr i n1
  obtain ⟨q, rfl⟩ : ∃ q : Nat, x = (q : Int) := ⟨x.toNat, by omega⟩
  simp only [Int.toNat_natCast]
  have hq : q < n := by omega
  obtain ⟨h1, h2⟩ := h.open_ hl q i hq
  obtain ⟨s1, hs1⟩ : ∃ s1, s1 = ropen { s with rw := s.rw.tick } q i := ⟨_, rfl⟩
  have hl1 : s1.hands.length = n := by
   rw [hs1]; unfold ropen
   split
   ·exact hl
   ·show (s.hands.set q _).length = n; rw [List.length_set]; exact hl
  have ho1 : (s1.hands.getD q rh0).opn = true := by
   rw [hs1]; unfold ropen
   split
   ·assumption
   ·show ((s.hands.set q _).getD q rh0).opn = true
    rw [getD_set_eq (by omega)]
  rw [← hs1] at h1 h2 ⊢
  obtain ⟨c, hc⟩ : ∃ c, c = calls.getD i d0 := ⟨_, rfl⟩
  rw [← hc]
  obtain ⟨R, hR⟩ : ∃ R, R = rdo dO c ((s1.hands.getD q rh0).tape q) s1.rw := ⟨_, rfl⟩
  have hRn : R.2.now = s1.rw.now := by
   rw [hR]; unfold rdo
   split
   ·rfl
   ·exact (D.runs _ _ _).now
  have hRt : ∀ z, z ∈ R.1.ticks → z ∈ (s1.hands.getD q rh0).ticks ∨ z = (s1.rw.now : Int) := fun z hz => by
   rw [hR] at hz
   unfold rdo at hz
   split at hz
   ·exact .inl hz
   ·exact DT _ _ _ _ hz
  obtain ⟨a9, b9⟩ := h1 q hq ho1
  unfold rgo
  rw [← hR]
  split
  ·intro p hp ho
   simp only at ho ⊢
   rw [hRn]
   by_cases e : q = p
   ·subst e
    rw [getD_set_eq (by omega)]
    exact ⟨a9, fun z hz => by
     rcases hRt z hz with h9 | h9
     ·exact b9 z h9
     ·rw [h9]; omega⟩
   ·rw [getD_set_neq e] at ho ⊢
    exact h1 p hp ho
  ·intro p hp ho
   simp only at ho ⊢
   rw [hRn]
   by_cases e : q = p
   ·subst e
    rw [getD_set_eq (by omega)] at ho
    cases ho
   ·rw [getD_set_neq e] at ho ⊢
    exact h1 p hp ho
theorem rtick_all (D : DoB dO) (DT : DoT dO) (hthr : ∀ c, c < calls.length → 0 ≤ (calls.getD c d0).thread ∧ (calls.getD c d0).thread < (n : Int)) : ∀ (picks : List Int) {s : RefS}, RTick n s → s.hands.length = n → RTick n (rpicks dO calls s picks)
 | [], _, h, _ => h
 | p :: ps, s, h, hl => rtick_all D DT hthr ps (h.pick D DT hl hthr p) (by
   unfold rpick
   split
   ·exact hl
   ·unfold rgo
    have e9 : ∀ q i, (ropen { s with rw := s.rw.tick } q i).hands.length = n := fun q i => by
     unfold ropen
     split
     ·exact hl
     ·show (s.hands.set q _).length = n; rw [List.length_set]; exact hl
    split <;> (simp only [List.length_set]; exact e9 _ _))
theorem rplay_any (X : Nat → Prop) (sz : Nat) (kd P Q : Int) (picks : List Int) (ca pa : Option Addr) (cc pc bS : Nat) (w : World) (o : S.ω) (Pre : CallD → TapeP → RWD → Prop) (hX : ∀ b, X b → b < w.heap.size) (hk : ¬ kd = 8) (hsz : sz ≤ 65536) (hs0 : 0 < sz) (hck : checkN (n : Int) calls picks.length = 0) (hS : SpecAt w bS kd P Q) (hc : CallsAt noB w ca calls) (hp : PicksAt w pa picks)
  (SC : ∀ u : World, Calls Tryz.prog 69 #[.int .i64 (n : Int), .agg #[.int .i64 kd, .int .i64 P, .int .i64 Q]] u fun e w' => e = .returned (.int .i64 (sz : Int)) ∧ Below u.heap.size u w') (D : DoB dO) (DT : DoT dO) (DC : DoC kd P Q n Pre dO) (LC : LateC kd P Q n late)
  (ok : RefOk S M n dO late calls Good) (hnow : ∀ o wd p s, (S.step o wd p s).2.1.now = wd.now) (ho : ∀ p, p < n → M.Own o p []) (hG : ∀ k, Good (picksD S calls (play0 S o (List.replicate sz 0) calls) (picks.take k)))
  (hPre : ∀ (s : RefS) (st : PlayD S) (q i : Nat), PSim M n calls s st → StGood calls st → Good st → RGood n sz calls s → RTick n s → s.rw.now ≤ 65536 → q < n → nowN calls s.fin (q : Int) = some i → (calls.getD i d0).obj = 0 → ∀ s1, s1 = ropen { s with rw := s.rw.tick } q i → Pre (calls.getD i d0) ((s1.hands.getD q rh0).tape q) s1.rw) :
  Calls Tryz.prog 14 #[.int .i64 (n : Int), .slice (some ⟨bS, 0, none⟩) 1 1, .slice ca calls.length cc, .slice pa picks.length pc] w fun e w' => RefAny X w w' 0 (playD S o (List.replicate sz 0) calls picks) true e := by
 have hthr := thr_ok hck
 obtain ⟨z1, z2, z3, _⟩ := wrongN_zero (checkN_zero hck).1
 have hn : n ≤ 16 := by omega
 have hst : ∀ k, PSim M n calls (rpicks dO calls (ref0 n sz calls) (picks.take k)) (picksD S calls (play0 S o (List.replicate sz 0) calls) (picks.take k)) ∧ StGood calls (picksD S calls (play0 S o (List.replicate sz 0) calls) (picks.take k)) ∧ RGood n sz calls (rpicks dO calls (ref0 n sz calls) (picks.take k)) ∧ Good (picksD S calls (play0 S o (List.replicate sz 0) calls) (picks.take k)) := fun k =>
  rstand ok D hnow hn hthr (picks.take k) (play0_good (S := S) calls o _) (fun j => by rw [List.take_take]; exact hG _) (psim0 o sz hs0 ho) (rgood0 n sz calls)
 refine rplay_of X (n : Int) 0 _ _ _ _ w (fun u hu hul => ?_)
 have L := rlog_r (fun b => X b ∨ b = w.heap.size) dO late Pre D n sz kd P Q calls picks ca pa cc pc bS u (fun b e => by rcases e with e | e; have := hX b e; have := hu.size; omega; omega) hk hsz hs0 hck (hS.grown hu) (hc.grown hu) (hp.grown hu) hthr SC DC LC (fun k => (hst k).2.2.1) (fun k i hk9 hN hob s1 hs1 => by
  obtain ⟨n1, n2, n3⟩ := nowN_spec hN
  obtain ⟨t1, t2⟩ := hthr i n1
  obtain ⟨q, hq⟩ : ∃ q : Nat, picks.getD k 0 = (q : Int) := ⟨(picks.getD k 0).toNat, by omega⟩
  rw [hq] at hN hs1 n2 ⊢
  simp only [Int.toNat_natCast] at hs1 ⊢
  exact hPre _ _ q i (hst k).1 (hst k).2.1 (hst k).2.2.2 (hst k).2.2.1 (rtick_all D DT hthr (picks.take k) (fun p hp ho => by (have e9 : ((ref0 n sz calls).hands.getD p rh0) = rh0 := rep_getD9 n p _); rw [e9] at ho; cases ho) (List.length_replicate ..)) (by (have h9 := rpicks_count D calls (picks.take k) (ref0 n sz calls)); rw [show (ref0 n sz calls).rw.now = 0 from rfl, show (ref0 n sz calls).idle = 0 from rfl, List.length_take] at h9; have := (checkN_zero hck).2; omega) (by omega) hN hob s1 hs1)
 refine L.mono ?_
 intro e w' h
 rw [← rsim_play ok hnow hn hthr o sz hs0 ho picks hG]
 exact h.any
theorem rend_len (late : CallD → Nat → RHand → RWD → List Int) (calls : List CallD) (s : RefS) (n : Nat) : (rend late calls s n).length = s.evs.length := (rendTo_spec late calls s n).1
theorem rlen_any (sz : Nat) (picks : List Int) (o : S.ω) (hs0 : 0 < sz) (hck : checkN (n : Int) calls picks.length = 0) (D : DoB dO) (ok : RefOk S M n dO late calls Good) (hnow : ∀ o wd p s, (S.step o wd p s).2.1.now = wd.now) (ho : ∀ p, p < n → M.Own o p []) (hG : ∀ k, Good (picksD S calls (play0 S o (List.replicate sz 0) calls) (picks.take k))) :
  (playD S o (List.replicate sz 0) calls picks).evs.length ≤ 65536 ∧ (playD S o (List.replicate sz 0) calls picks).words.length = sz := by
 have hthr := thr_ok hck
 obtain ⟨z1, z2, z3, _⟩ := wrongN_zero (checkN_zero hck).1
 have hn : n ≤ 16 := by omega
 have hnp := (checkN_zero hck).2
 obtain ⟨_, _, R, _⟩ := rstand ok D hnow hn hthr picks (play0_good (S := S) calls o _) hG (psim0 o sz hs0 ho) (rgood0 n sz calls)
 rw [← rsim_play ok hnow hn hthr o sz hs0 ho picks hG]
 have hct := rpicks_count D calls picks (ref0 n sz calls)
 rw [show (ref0 n sz calls).rw.now = 0 from rfl, show (ref0 n sz calls).idle = 0 from rfl] at hct
 refine ⟨?_, R.ws⟩
 show (rend late calls _ n).length ≤ _
 rw [rend_len]
 have := R.el
 omega
end
section

/- Objects whose operations have one step, in the reference's play: plain numbers. -/
open Go.RowKit
structure Tape0 (t : TapeP) : Prop where
 got : t.got = []
 at_ : t.at_ = 0
 fresh : t.fresh = true
 halt : t.halt = false
 err : t.err = 0
 val : t.val = 0
 list : t.list = []
 key : t.key = []
theorem tape00 {h : RHand} (p : Nat) (hg : h.got = []) : Tape0 (h.tape p) := ⟨hg, rfl, rfl, rfl, rfl, rfl, rfl, rfl⟩
theorem accP_new {t : TapeP} (h : Tape0 t) (kd a : Int) (x y : Nat) (r : RWD) : accP kd a x y t r = ((memAcc r.mem kd a x y).2, { t with got := t.got ++ [(memAcc r.mem kd a x y).2], ticks := t.ticks ++ [(r.now : Int)], at_ := t.at_ + 1, fresh := false }, { r with mem := (memAcc r.mem kd a x y).1 }) := by
 unfold accP
 rw [if_neg (by rw [h.halt]; exact Bool.false_ne_true), if_neg (by rw [h.at_, h.got]; exact Nat.lt_irrefl 0), if_pos h.fresh]
theorem accP_priv (kd a : Int) (x y : Nat) (t : TapeP) (r : RWD) : (accP kd a x y t r).2.1.priv = t.priv := by
 unfold accP
 split
 ·rfl
 ·split
  ·rfl
  ·split <;> rfl
structure OneDo (ref : CallD → Option Int) (act : CallD → WD → WD × (Int × Nat)) (Ln : Nat) (dO : CallD → TapeP → RWD → TapeP × RWD) : Prop where
 refuse : ∀ c t r e, ref c = some e → Tape0 t → dO c t r = ({ t with err := e }, r)
 go : ∀ c t r wd, ref c = none → Tape0 t → r.mem = wd.mem → wd.mem.ws.length = Ln → (dO c t r).2 = { r with mem := (act c wd).1.mem } ∧ (dO c t r).1.halt = false ∧ (dO c t r).1.err = (act c wd).2.1 ∧ (dO c t r).1.val = (act c wd).2.2 ∧ (dO c t r).1.list = [] ∧ (dO c t r).1.key = []
 keep : ∀ c wd, (act c wd).1.inv = wd.inv ∧ (act c wd).1.marks = wd.marks ∧ (act c wd).1.now = wd.now ∧ (act c wd).1.traces = wd.traces
 len : ∀ c wd, (act c wd).1.mem.ws.length = wd.mem.ws.length
def lateM (_ : CallD) (p : Nat) (_ : RHand) (r : RWD) : List Int := r.marks.getD p []
theorem Runs.errP (t : TapeP) (r : RWD) (e : Int) : Runs t r { t with err := e } r := ⟨rfl, rfl, Nat.le_refl _, Nat.le_refl _, rfl, rfl⟩
end
section

/- What holds of a hand of the reference's play as its step begins. -/
open Go.RowKit
variable {S : Sys} {M : RefSim S} {n : Nat} {calls : List CallD}
structure HandPre (M : RefSim S) (n : Nat) (calls : List CallD) (s : RefS) (st : PlayD S) (q i : Nat) (h : RHand) (r : RWD) : Prop where
 inv : h.inv ≤ 65537
 now : r.now ≤ 65537
 ticks : ∀ x, x ∈ h.ticks → 0 ≤ x ∧ x ≤ 65537
 mlen : r.marks.length = n
 mem : r.mem = s.rw.mem
 traces : r.traces = s.rw.traces
 own : h.own = (s.hands.getD q rh0).own
 how : (h.got = [] ∧ h.ticks = [] ∧ (s.hands.getD q rh0).opn = false) ∨ ∃ σ, st.hands.getD q (none, 0) = (some σ, h.ev) ∧ M.Rel st.obj s.rw q (calls.getD i d0) h σ ∧ h = s.hands.getD q rh0
theorem hand_pre {sz : Nat} {s : RefS} {st : PlayD S} {q i : Nat} (hP : PSim M n calls s st) (hg : StGood calls st) (hR : RGood n sz calls s) (hT : RTick n s) (hnow : s.rw.now ≤ 65536) (hq : q < n) (hN : nowN calls s.fin (q : Int) = some i) (s1 : RefS) (hs1 : s1 = ropen { s with rw := s.rw.tick } q i) :
  HandPre M n calls s st q i (s1.hands.getD q rh0) s1.rw := by
 obtain ⟨n1, _, _⟩ := nowN_spec hN
 obtain ⟨t1, t2⟩ := hT.open_ hR.hl q i hq
 rw [← hs1] at t1 t2
 have hql : q < s.hands.length := by rw [hR.hl]; exact hq
 by_cases ho : (s.hands.getD q rh0).opn = true
 ·have e : s1 = { s with rw := s.rw.tick } := by rw [hs1]; unfold ropen; rw [if_pos ho]
  have ho1 : (s1.hands.getD q rh0).opn = true := by rw [e]; exact ho
  obtain ⟨a, b⟩ := t1 q hq ho1
  have H := hP.hand q hq
  rw [H.opn] at ho
  cases hs : (st.hands.getD q (none, 0)).1 with
  | none => rw [hs] at ho; cases ho
  | some σ =>
   have hc := psim_call hP hg q hq (by rw [H.opn, hs]; rfl)
   rw [hN] at hc
   cases hc
   have hev := H.ev (by rw [H.opn, hs]; rfl)
   refine ⟨by omega, by omega, fun x hx => ⟨(b x hx).1, by have := (b x hx).2; omega⟩, by rw [e]; exact hP.rw.mlen, by rw [e]; rfl, by rw [e]; rfl, by rw [e], .inr ⟨σ, ?_, ?_, by rw [e]⟩⟩
   ·rw [e]; exact Prod.ext hs hev.symm
   ·rw [e]
    have h9 := (H.rel σ hs).1
    rw [← hev, ← hP.evs] at h9
    exact h9
 ·have e : s1 = rbegin { s with rw := s.rw.tick } q i := by rw [hs1]; unfold ropen; rw [if_neg ho]
  have hb : s1.hands.getD q rh0 = ⟨true, s.evs.length, s.rw.now + 1, [], [], (s.hands.getD q rh0).own⟩ := by rw [e]; exact getD_set_eq hql
  rw [hb]
  refine ⟨by show s.rw.now + 1 ≤ _; omega, by omega, (fun x hx => by cases hx), ?_, by rw [e]; rfl, by rw [e]; rfl, rfl, .inl ⟨rfl, rfl, by simpa using ho⟩⟩
  rw [e]
  show (s.rw.marks.set q []).length = n
  rw [List.length_set]; exact hP.rw.mlen
end
section

/- A cons in the reference's play: plain numbers. -/
open Go.RowKit
theorem accP_fresh {t : TapeP} (hh : t.halt = false) (ha : ¬ t.at_ < t.got.length) (hf : t.fresh = true) (kd a : Int) (x y : Nat) (r : RWD) : accP kd a x y t r = ((memAcc r.mem kd a x y).2, { t with got := t.got ++ [(memAcc r.mem kd a x y).2], ticks := t.ticks ++ [(r.now : Int)], at_ := t.at_ + 1, fresh := false }, { r with mem := (memAcc r.mem kd a x y).1 }) := by
 unfold accP
 rw [if_neg (by rw [hh]; exact Bool.false_ne_true), if_neg ha, if_pos hf]
theorem accP_old {t : TapeP} (hh : t.halt = false) (ha : t.at_ < t.got.length) (kd a : Int) (x y : Nat) (r : RWD) : accP kd a x y t r = (t.got.getD t.at_ 0, { t with at_ := t.at_ + 1 }, r) := by
 unfold accP
 rw [if_neg (by rw [hh]; exact Bool.false_ne_true), if_pos ha]
theorem accP_end {t : TapeP} (hh : t.halt = false) (ha : ¬ t.at_ < t.got.length) (hf : t.fresh = false) (kd a : Int) (x y : Nat) (r : RWD) : accP kd a x y t r = (0, { t with halt := true }, r) := by
 unfold accP
 rw [if_neg (by rw [hh]; exact Bool.false_ne_true), if_neg ha, if_neg (by rw [hf]; exact Bool.false_ne_true)]
theorem accP_halt {t : TapeP} (hh : t.halt = true) (kd a : Int) (x y : Nat) (r : RWD) : accP kd a x y t r = (0, t, r) := by
 unfold accP
 rw [if_pos hh]
theorem accP_tlen (kd a : Int) (x y : Nat) (t : TapeP) (r : RWD) : (accP kd a x y t r).2.2.traces = r.traces ∧ (accP kd a x y t r).2.2.marks = r.marks := by
 unfold accP
 split
 ·exact ⟨rfl, rfl⟩
 ·split
  ·exact ⟨rfl, rfl⟩
  ·split <;> exact ⟨rfl, rfl⟩
theorem markP_now (p k : Int) (t : TapeP) (r : RWD) (l : List Int) : (markP p l t r).now = r.now ∧ (markP p l t r).mem = r.mem ∧ (markP p l t r).traces = r.traces ∧ (markP p l t r).marks.length = r.marks.length := by
 unfold markP
 split
 ·exact ⟨rfl, rfl, rfl, by simp⟩
 ·exact ⟨rfl, rfl, rfl, rfl⟩
theorem Runs.mark {t t' : TapeP} {r r' : RWD} (h : Runs t r t' r') (p : Int) (l : List Int) (u : TapeP) : Runs t r t' (markP p l u r') := by
 obtain ⟨h1, h2, h3, h4⟩ := markP_now p 0 u r' l
 exact ⟨by rw [h2]; exact h.ws, h1.trans h.now, by rw [h2]; exact h.all, h.got, h.thread, h.inv⟩
end
section

/- Layer 8: the tally as the loom's object: the walks of its machines. -/
open Go.RowKit
inductive TaS where
 | count (seen : Bool) (v : Nat)
 | read (at_ sum : Nat) (key : List Int)
def taWhen (ticks : List Int) (inv s : Nat) : Int := if 0 < s ∧ s ≤ ticks.length then max (inv : Int) (ticks.getD (s - 1) 0) else (inv : Int)
def taRead (wd : WD) (a : Nat) : WD := { wd with mem := (memRead wd.mem (a : Int)).1 }
def taWrite (wd : WD) (p v : Nat) : WD := { wd with mem := memWrite wd.mem (p : Int) (v + 1), traces := updT wd.traces 0 (wd.traces 0 ++ [(wd.now : Int)]) }
def taGot (wd : WD) (a : Nat) : Nat := (memRead wd.mem (a : Int)).2
def taKey (wd : WD) (p s : Nat) : List Int := [2 * taWhen (wd.traces 0) (wd.inv.getD p 0) s, 2 * (wd.now : Int)]
def tallyS (n : Nat) : Sys where
 σ := TaS
 ω := Unit
 start := fun _ _ _ c => if c.kind = 0 then .run (.count false 0) else if c.kind = 1 then .run (.read 0 0 []) else .refuse 9
 step := fun _ wd p s => match s with
  | .count false _ => ((), taRead wd p, .count true (taGot wd p), false)
  | .count true v => ((), taWrite wd p v, .count true v, true)
  | .read a s k => if a + 1 < n then ((), taRead wd a, .read (a + 1) (s + taGot wd a) k, false) else ((), taRead wd a, .read (a + 1) (s + taGot wd a) (taKey wd p (s + taGot wd a)), true)
 answer := fun s => match s with
  | .count _ _ => (⟨0, 0, []⟩, [])
  | .read _ s k => (⟨0, s, []⟩, k)
 late := fun _ _ _ _ => none
def taCount (n p v : Nat) (seen : Bool) : Array Value := #[.int .i64 0, .int .i64 (n : Int), .int .i64 (p : Int), .int .u64 (v : Int), .bool seen]
def taReadC (n p a s : Nat) (kv : Value) : Array Value := #[.int .i64 0, .int .i64 (n : Int), .int .i64 (p : Int), .int .i64 (a : Int), .int .u64 (s : Int), kv]
def OwnTo (w w' : World) (Mut B : Nat → Prop) (I : WIds) (N : Nat) (wd : WD) (b : Nat) (cells : Array Value) (T : TypeId) (done : Bool) (e : Ending) : Prop :=
 e = .returned (.bool done) ∧ Chg (fun k => WSet I k ∨ B k) w w' ∧ WorldAt w' (mutTo Mut B (fun k => k = b)) I N wd ∧ w'.heap[b]? = some (.cells cells T (0, 0))
theorem own_fin {w w1 w2 : World} {Mut B : Nat → Prop} {I : WIds} {N : Nat} {wd : WD} {b : Nat} {cells : Array Value} {T : TypeId} {done : Bool} (hw1 : WorldAt w1 Mut I N wd) (hch1 : Chg (WSet I) w w1) (hb : B b) (hB : ∀ b, B b → Mut b ∧ ¬ WSet I b)
  (hc : Chg (fun k => k = b) w1 w2) (hbk : w2.heap[b]? = some (.cells cells T (0, 0))) : OwnTo w w2 Mut B I N wd b cells T done (.returned (.bool done)) :=
 ⟨rfl, (hch1.mono (fun k _ h => .inl h)).trans (hc.mono (fun k _ h => by cases h; exact .inr hb)), world_own hw1 hc hb hB, hbk⟩
theorem OwnTo.drewN {w w' : World} {Mut B : Nat → Prop} {I : WIds} {N : Nat} {wd : WD} {b : Nat} {cells : Array Value} {T : TypeId} {done : Bool} {e : Ending} (h : OwnTo w w' Mut B I N wd b cells T done e) (n : Nat) : OwnTo w (w'.drewN n) Mut B I N wd b cells T done e :=
 ⟨h.1, h.2.1.drewN n, h.2.2.1.keep (S := noB) ((Chg.refl _ _).drewN n) (fun _ h => h.elim) (fun _ h => h.elim) (MutUp.refl _ _) (fun k hk => h.2.2.1.low k hk) h.2.2.1.muts, h.2.2.2⟩
set_option maxHeartbeats 4000000 in
theorem count_look (w : World) (Mut B : Nat → Prop) (I : WIds) (N : Nat) (wd : WD) (n p v0 b : Nat) (hw : WorldAt w Mut I N wd) (hbk : w.heap[b]? = some (.cells (taCount n p v0 false) 251 (0, 0))) (hb : B b) (hB : ∀ b, B b → Mut b ∧ ¬ WSet I b) (hp : p < 16) (hc : wd.mem.c.all + 1 < 1000000000000) :
  Calls Tryz.prog 217 #[.pointer (some ⟨b, 0, none⟩), .pointer (some ⟨I.bW, 0, none⟩)] w fun e w' => OwnTo w w' Mut B I N (taRead wd p) b (taCount n p (taGot wd p) true) 251 false e := by
 obtain ⟨s1, s2, s3⟩ := memSet_sub hw
 obtain ⟨mks, hwb, _, _⟩ := hw.blk
 have x0 : w.cell? ⟨I.bW, 0, none⟩ = some (.pointer (some ⟨I.bm, 0, none⟩)) := by rw [cell_blk hwb]; exact world_mem
 have y0 : w.cell? ⟨b, 0, none⟩ = some (.int .i64 0) := by rw [cell_blk hbk]; rfl
 have y2 : w.cell? ⟨b, 2, none⟩ = some (.int .i64 (p : Int)) := by rw [cell_blk hbk]; rfl
 have y3 : w.cell? ⟨b, 3, none⟩ = some (.int .u64 (v0 : Int)) := by rw [cell_blk hbk]; rfl
 have y4 : w.cell? ⟨b, 4, none⟩ = some (.bool false) := by rw [cell_blk hbk]; rfl
 have hblt := blk_lt hbk
 have nb : ¬ MemSet I.bm I.bw b := fun h => (hB b hb).2 (s3 b h).1
 have Rd := Lib.hid (fun (u : World) (h : Chg noB w u) => read_any I.bm I.bw wd.mem (p : Int) u (hw.mem.chg h (fun h => h) (fun _ _ h => h)) hc)
 obtain ⟨r, hr⟩ : ∃ r, r = (memRead wd.mem (p : Int)).2 := ⟨_, rfl⟩
 rw [← hr] at Rd
 have Hw := Lib.hid hw; have Hbk := Lib.hid hbk; have Nb := Lib.hid nb; have HB := Lib.hid hB; have Hb := Lib.hid hb; have Hr := Lib.hid hr; have S2 := Lib.hid s2
 have hpi : (p : Int) < 16 := by omega
 have wp : IntKind.i64.wrap (p : Int) = (p : Int) := by rw [IntKind.wrap_i64]; omega
 clear hw hbk hwb s1 s2 s3 nb hB hb hr
 go_enter Tryz.func217, Tryz.ntmps217
 go_wp2_with fail
 go_region_held3 (fun u => u.cell? ⟨I.bW, 0, none⟩ = some (.pointer (some ⟨I.bm, 0, none⟩)) ∧ u.cell? ⟨b, 0, none⟩ = some (.int .i64 0) ∧ u.cell? ⟨b, 2, none⟩ = some (.int .i64 (p : Int)))
  (first | exact ⟨(by with_reducible refine (World.cell?_setCell_other _ _ _ _ (by simp)).trans ?_; with_reducible exact z0), (by with_reducible refine (World.cell?_setCell_other _ _ _ _ (by simp)).trans ?_; with_reducible exact zw), (by with_reducible refine (World.cell?_setCell_other _ _ _ _ (by simp)).trans ?_; with_reducible exact z2)⟩ | exact ⟨x0, y0, y2⟩ | exact ⟨z0, zw, z2⟩)
  ((go_at_call 169; refine (Rd.out _ ?_).mono ?_; (exact (Chg.refl _ _).drew); rintro e w1 ⟨rfl, hm1, hc1⟩; have hc1' : Chg (MemSet I.bm I.bw) w w1 := ((Chg.refl _ w).drew).trans hc1; have z0 := box_keep hc1' S2.out x0; have hbk1 := (hc1'.block b hblt Nb.out).trans Hbk.out; have zw : w1.cell? ⟨b, 0, none⟩ = some (.int .i64 0) := (by rw [cell_blk hbk1]; rfl); have z2 : w1.cell? ⟨b, 2, none⟩ = some (.int .i64 (p : Int)) := (by rw [cell_blk hbk1]; rfl); have z3 : w1.cell? ⟨b, 3, none⟩ = some (.int .u64 (v0 : Int)) := (by rw [cell_blk hbk1]; rfl); have z4 : w1.cell? ⟨b, 4, none⟩ = some (.bool false) := (by rw [cell_blk hbk1]; rfl); have zf := frozen_blk hbk1 3; have zf4 := frozen_blk hbk1 4))
 obtain ⟨hw1, hch1⟩ := Hw.out.mems hc1' hm1
 have fin : OwnTo w ((w1.setCell ⟨b, 3, none⟩ (.int .u64 (r : Int))).setCell ⟨b, 4, none⟩ (.bool true)) Mut B I N (taRead wd p) b (taCount n p (taGot wd p) true) 251 false (.returned (.bool false)) := by
  refine own_fin hw1 hch1 Hb.out HB.out (((Chg.refl (fun k => k = b) w1).setCell (by exact .inl rfl) _).setCell (by exact .inl rfl) _) ?_
  rw [blk_set (blk_set hbk1 _ _)]
  unfold taGot
  rw [← Hr.out]; rfl
 have Fin := Lib.hid fin
 clear fin hw1 hch1 hbk1 hc1 hc1' hm1 x0 y0 y2 y3 y4 z0 zw z2
 go_wp2
 go_ret
 exact Fin.out
end
end Go.Proofs.YteffgpcjfnjlkaaGreat
