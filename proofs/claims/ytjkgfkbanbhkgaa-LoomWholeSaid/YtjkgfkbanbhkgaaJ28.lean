/- Layer 6: what has responded stays, in plain numbers. -/
import Derived.Test.YtjkgfkbanbhkgaaJ19
import Derived.Test.YtjkgfkbanbhkgaaJ22
import Derived.Test.YtjkgfkbanbhkgaaJ27
import Derived.Deep.DeepCutAuto
set_option maxRecDepth 100000
set_option linter.unusedVariables false
set_option linter.unusedSimpArgs false
set_option linter.unnecessarySimpa false
namespace Go.Proofs.Ytjkgfkbanbhkgaa
section
open Go.RowKit

variable {S : Sys}
structure Stay (st st' : PlayD S) : Prop where
  len : st.evs.length ≤ st'.evs.length
  now : st.wd.now ≤ st'.wd.now
  idle : st.idle ≤ st'.idle
  inv : ∀ i, i < st.evs.length → (evAt st'.evs i).inv = (evAt st.evs i).inv
  ev : ∀ i, i < st.evs.length → (evAt st.evs i).resp ≠ 0 → evAt st'.evs i = evAt st.evs i
theorem Stay.refl (st : PlayD S) : Stay st st := ⟨Nat.le_refl _, Nat.le_refl _, Nat.le_refl _, fun _ _ => rfl, fun _ _ _ => rfl⟩
theorem Stay.trans {a b c : PlayD S} (h : Stay a b) (k : Stay b c) : Stay a c :=
  ⟨Nat.le_trans h.len k.len, Nat.le_trans h.now k.now, Nat.le_trans h.idle k.idle, fun i hi => (k.inv i (Nat.lt_of_lt_of_le hi h.len)).trans (h.inv i hi), fun i hi hr => (k.ev i (Nat.lt_of_lt_of_le hi h.len) (by rw [h.ev i hi hr]; exact hr)).trans (h.ev i hi hr)⟩

/-- A machine's step changes its own event alone. -/
theorem goStep_ev (hnow : ∀ o wd p s, (S.step o wd p s).2.1.now = wd.now) (st : PlayD S) (p k : Nat) (s : S.σ) (hk : k < st.evs.length) :
    (goStep S st p k s).1.evs.length = st.evs.length ∧ (goStep S st p k s).1.wd.now = st.wd.now ∧ (goStep S st p k s).1.idle = st.idle ∧ (∀ i, (evAt (goStep S st p k s).1.evs i).inv = (evAt st.evs i).inv) ∧ (∀ i, i ≠ k → evAt (goStep S st p k s).1.evs i = evAt st.evs i) := by
  unfold goStep
  simp only
  cases hd : (S.step st.obj st.wd p s).2.2.2 with
  | true =>
    simp only [if_true]
    refine ⟨modEv_length _ _ _, hnow _ _ _ _, (by first | exact trivial | rfl), fun i => ?_, fun i hi => ?_⟩
    · unfold modEv; rw [evAt_set _ hk]; split
      · rename_i e; subst e; rfl
      · rfl
    · unfold modEv; rw [evAt_set _ hk, if_neg hi]
  | false =>
    simp only [Bool.false_eq_true, if_false]
    refine ⟨modEv_length _ _ _, hnow _ _ _ _, (by first | exact trivial | rfl), fun i => ?_, fun i hi => ?_⟩
    · unfold modEv; rw [evAt_set _ hk]; split
      · rename_i e; subst e; rfl
      · rfl
    · unfold modEv; rw [evAt_set _ hk, if_neg hi]

theorem pick_stay (hnow : ∀ o wd p s, (S.step o wd p s).2.1.now = wd.now) {calls : List CallD} {st : PlayD S} (h : StGood calls st) (p : Int) : Stay st (pickD S calls st p) := by
  cases hN : nowN calls st.fin p with
  | none =>
    have hp : pickD S calls st p = { st with idle := st.idle + 1 } := by unfold pickD; rw [hN]
    rw [hp]
    exact ⟨Nat.le_refl _, Nat.le_refl _, Nat.le_succ _, fun _ _ => rfl, fun _ _ _ => rfl⟩
  | some i =>
    have hp : pickD S calls st p = if (stepD S calls st p.toNat i).2 then { (stepD S calls st p.toNat i).1 with fin := (stepD S calls st p.toNat i).1.fin.set i true } else (stepD S calls st p.toNat i).1 := by unfold pickD; rw [hN]
    obtain ⟨q, hq⟩ : ∃ q, q = p.toNat := ⟨_, rfl⟩
    rw [hp, ← hq]
    have key : Stay st (stepD S calls st q i).1 := by
      cases hs : (st.hands.getD q (none, 0)).1 with
      | some s =>
        obtain ⟨k, hk⟩ : ∃ k, k = (st.hands.getD q (none, 0)).2 := ⟨_, rfl⟩
        have hh : hndOf st.hands q = some k := by unfold hndOf; rw [hs, hk]; rfl
        obtain ⟨k1, k2, k3, k4⟩ := h.ev.hand q k hh
        have hst : stepD S calls st q i = goStep S { st with wd := st.wd.tick } q k s := by unfold stepD; rw [hs]; simp only; rw [← hk]
        obtain ⟨a1, a2, a3, a4, a5⟩ := goStep_ev hnow { st with wd := st.wd.tick } q k s k1
        rw [hst]
        exact ⟨by rw [a1]; exact Nat.le_refl _, by rw [a2]; exact Nat.le_succ _, by rw [a3]; exact Nat.le_refl _, fun j _ => a4 j, fun j hj hr => a5 j (fun e => by subst e; exact hr k3)⟩
      | none =>
        cases hst : startD S st.obj (st.wd.tick.begin q) q (calls.getD i d0) with
        | refuse e =>
          have hst2 : stepD S calls st q i = ({ st with wd := st.wd.tick.begin q, hands := st.hands.set q (none, st.evs.length), evs := st.evs ++ [finishEv (st.wd.tick.begin q) q ⟨e, 0, []⟩ [] (newEv i (st.wd.tick.begin q))] }, true) := by
            unfold stepD; rw [hs]; simp only; rw [hst]
          rw [hst2]
          exact ⟨by simp, Nat.le_succ _, Nat.le_refl _, fun j hj => by simp only; rw [evAt_old hj], fun j hj _ => evAt_old hj⟩
        | run s =>
          have hst2 : stepD S calls st q i = goStep S { st with wd := st.wd.tick.begin q, hands := st.hands.set q (some s, st.evs.length), evs := st.evs ++ [newEv i (st.wd.tick.begin q)] } q st.evs.length s := by
            unfold stepD; rw [hs]; simp only; rw [hst]
          obtain ⟨a1, a2, a3, a4, a5⟩ := goStep_ev hnow { st with wd := st.wd.tick.begin q, hands := st.hands.set q (some s, st.evs.length), evs := st.evs ++ [newEv i (st.wd.tick.begin q)] } q st.evs.length s (by simp)
          rw [hst2]
          exact ⟨by rw [a1]; simp, by rw [a2]; exact Nat.le_succ _, by rw [a3]; exact Nat.le_refl _, fun j hj => by rw [a4]; simp only; rw [evAt_old hj], fun j hj _ => by rw [a5 j (by omega)]; exact evAt_old hj⟩
    split
    · exact ⟨key.len, key.now, key.idle, key.inv, key.ev⟩
    · exact key
theorem picks_stay (hnow : ∀ o wd p s, (S.step o wd p s).2.1.now = wd.now) {calls : List CallD} (hthr : ∀ c, c < calls.length → 0 ≤ (calls.getD c d0).thread ∧ (calls.getD c d0).thread < 16) : ∀ (picks : List Int) {st : PlayD S}, StGood calls st → Stay st (picksD S calls st picks)
  | [], _, _ => Stay.refl _
  | p :: ps, _, h => (pick_stay hnow h p).trans (picks_stay hnow hthr ps (pick_good hnow hthr h p))
/-- At the end the keys of what is open alone are told. -/
theorem end_resp {calls : List CallD} {st : PlayD S} (h : StGood calls st) (hl : ∀ o wd p s, S.late o wd p s = none) : ∀ (l : List Nat) (evs : List EvD), (∀ i, (evAt evs i).resp = (evAt st.evs i).resp) → evs.length = st.evs.length → ∀ i, (evAt st.evs i).resp ≠ 0 → evAt (l.foldl (endEv S st) evs) i = evAt evs i
  | [], _, _, _, _, _ => rfl
  | p :: l, evs, hr, hlen, i, hi => by
    rw [List.foldl_cons]
    have h1 : (endEv S st evs p).length = evs.length ∧ (∀ j, (evAt (endEv S st evs p) j).resp = (evAt evs j).resp) ∧ evAt (endEv S st evs p) i = evAt evs i := by
      unfold endEv
      split
      · exact ⟨rfl, fun _ => rfl, rfl⟩
      · rename_i s k hk
        have hh : hndOf st.hands p = some k := by unfold hndOf; rw [hk]; rfl
        obtain ⟨k1, k2, k3, _⟩ := h.ev.hand p k hh
        refine ⟨modEv_length _ _ _, fun j => ?_, ?_⟩
        · unfold modEv; rw [evAt_set _ (by omega)]; split
          · rename_i e; subst e; rfl
          · rfl
        · unfold modEv; rw [evAt_set _ (by omega), if_neg (fun e => by subst e; exact hi k3)]
    rw [end_resp h hl l _ (fun j => (h1.2.1 j).trans (hr j)) (h1.1.trans hlen) i hi, h1.2.2]

/-- What a report tells stays, if more is picked. -/
theorem play_stays (hnow : ∀ o wd p s, (S.step o wd p s).2.1.now = wd.now) (hl : ∀ o wd p s, S.late o wd p s = none) {calls : List CallD} (hthr : ∀ c, c < calls.length → 0 ≤ (calls.getD c d0).thread ∧ (calls.getD c d0).thread < 16) (o : S.ω) (ws : List Nat) (l m : List Int) :
    (playD S o ws calls l).evs.length ≤ (playD S o ws calls (l ++ m)).evs.length ∧ (playD S o ws calls l).ticks ≤ (playD S o ws calls (l ++ m)).ticks ∧ (playD S o ws calls l).idle ≤ (playD S o ws calls (l ++ m)).idle ∧
    ∀ i, i < (playD S o ws calls l).evs.length → (evAt (playD S o ws calls (l ++ m)).evs i).inv = (evAt (playD S o ws calls l).evs i).inv ∧ ((evAt (playD S o ws calls l).evs i).resp ≠ 0 → evAt (playD S o ws calls (l ++ m)).evs i = evAt (playD S o ws calls l).evs i) := by
  obtain ⟨s1, h1⟩ : ∃ s1, s1 = picksD S calls (play0 S o ws calls) l := ⟨_, rfl⟩
  have g1 : StGood calls s1 := by rw [h1]; exact picks_good hnow hthr l (play0_good calls o ws)
  obtain ⟨s2, h2⟩ : ∃ s2, s2 = picksD S calls s1 m := ⟨_, rfl⟩
  have g2 : StGood calls s2 := by rw [h2]; exact picks_good hnow hthr m g1
  have e12 : picksD S calls (play0 S o ws calls) (l ++ m) = s2 := by rw [h2, h1]; unfold picksD; rw [List.foldl_append]
  have hst : Stay s1 s2 := by rw [h2]; exact picks_stay hnow hthr m g1
  have E1 : (playD S o ws calls l) = reportD S s1 := by rw [h1]; rfl
  have E2 : (playD S o ws calls (l ++ m)) = reportD S s2 := by unfold playD; rw [e12]
  obtain ⟨a1, a2⟩ := end_same s1 hl (List.range 16) s1.evs
  obtain ⟨b1, b2⟩ := end_same s2 hl (List.range 16) s2.evs
  rw [E1, E2]
  refine ⟨by show (endD S s1).length ≤ (endD S s2).length; unfold endD; rw [a1, b1]; exact hst.len, hst.now, hst.idle, fun i hi => ?_⟩
  have hi' : i < s1.evs.length := by rw [← a1]; exact hi
  refine ⟨?_, fun hr => ?_⟩
  · show (evAt (endD S s2) i).inv = (evAt (endD S s1) i).inv
    unfold endD
    rw [(b2 i).2.1, (a2 i).2.1]; exact hst.inv i hi'
  · have hr' : (evAt s1.evs i).resp ≠ 0 := by
      have : (evAt (endD S s1) i).resp ≠ 0 := hr
      unfold endD at this
      rw [(a2 i).2.2.1] at this; exact this
    show evAt (endD S s2) i = evAt (endD S s1) i
    unfold endD
    rw [end_resp g1 hl (List.range 16) s1.evs (fun _ => rfl) rfl i hr', end_resp g2 hl (List.range 16) s2.evs (fun _ => rfl) rfl i (by rw [hst.ev i hi' hr']; exact hr')]
    exact hst.ev i hi' hr'
end
section

/- Layer 7: the walk of ConsAgrees. -/
open Go.RowKit

def bothCalls : List CallD := [⟨0, 0, 0, 5, 0, 0⟩, ⟨1, 0, 0, 6, 0, 0⟩]
theorem both_rep : playD consS () [0] bothCalls [0, 1, 1, 0] = ⟨[⟨0, 1, 4, 2, ⟨0, 5, []⟩, [2]⟩, ⟨1, 2, 3, 2, ⟨0, 5, []⟩, [4]⟩], [6], ⟨2, 0, 2, 0, 0⟩, 4, 0⟩ := by rfl
theorem both_check : checkN 2 bothCalls 4 = 0 := by rfl

set_option maxHeartbeats 4000000 in
theorem cons_both (w : World) : Calls Try.prog 24 #[] w fun e w' => e = .returned (.bool true) ∧ Below w.heap.size w w' := by
  obtain ⟨wa, hwa⟩ : ∃ wa, wa = (w.alloc (.cells #[.int .i64 0, .int .i64 0, .int .i64 0, .int .u64 5, .int .u64 0, .int .u64 0, .int .i64 1, .int .i64 0, .int .i64 0, .int .u64 6, .int .u64 0, .int .u64 0] 55)).alloc (.cells #[.int .i64 0, .int .i64 1, .int .i64 1, .int .i64 0] 3) := ⟨_, rfl⟩
  have hga : Below w.heap.size w wa := by rw [hwa]; exact Gr.alloc (Gr.new _ _) _
  have h1 : wa.heap[w.heap.size]? = some (.cells (bothCalls.flatMap callL).toArray 55 (0, 0)) := by rw [hwa, Below.heap_alloc _ _ _ (by simp), heap_alloc_new]; rfl
  have h2 : wa.heap[w.heap.size + 1]? = some (.cells (([0, 1, 1, 0] : List Int).map (Value.int .i64)).toArray 3 (0, 0)) := by
    rw [hwa]
    have := heap_alloc_new (w.alloc (.cells #[.int .i64 0, .int .i64 0, .int .i64 0, .int .u64 5, .int .u64 0, .int .u64 0, .int .i64 1, .int .i64 0, .int .i64 0, .int .u64 6, .int .u64 0, .int .u64 0] 55)) (.cells #[.int .i64 0, .int .i64 1, .int .i64 1, .int .i64 0] 3 (0, 0))
    simp only [World.size_alloc] at this
    exact this
  have P := consPlay_any noB wa 2 bothCalls [0, 1, 1, 0] (some ⟨w.heap.size, 0, none⟩) (some ⟨w.heap.size + 1, 0, none⟩) 2 4 (fun b hb => hb.elim) ⟨calls_block h1 (by decide), (by
      intro x hx
      simp only [bothCalls, List.mem_cons, List.not_mem_nil, or_false] at hx
      rcases hx with rfl | rfl <;> exact callOk_small (by decide) (by decide) (by decide) (by decide) (by decide) (by decide) (by decide)), fun _ _ _ _ h => h⟩ ⟨ints_block h2 (by decide), by intro x hx; simp only [List.mem_cons, List.not_mem_nil, or_false] at hx; rcases hx with rfl | rfl | rfl | rfl <;> rfl⟩
  rw [show ([0, 1, 1, 0] : List Int).length = 4 from rfl, both_check, both_rep, show bothCalls.length = 2 from rfl] at P
  have HP := Lib.hid P; have Hwa := Lib.hid hwa; have Hga := Lib.hid hga
  clear P h1 h2 hwa hga
  go_enter Try.func24, Try.ntmps24
  go_wp2_with fail
  rw [← Hwa.out]
  refine HP.out.mono ?_
  rintro e w1 ⟨ea, en, ec, va, vn, vc, rp, rfl, hb, hr⟩
  rcases hr with ⟨h0, _⟩ | ⟨_, hrp, hen, hvn, ers, hrep⟩
  · exact absurd rfl h0
  obtain ⟨g, rfl, hg, hev⟩ := hrep.event hen (by rw [hen]; decide)
  obtain ⟨q, rfl, hq, hwd⟩ := hrep.word hvn (by rw [hvn]; decide)
  have hen2 : en = 2 := hen
  have hvn2 : vn = 1 := hvn
  subst hen2 hvn2 hrp
  have c5 : w1.cell? ⟨g, 5, none⟩ = some (.int .u64 5) := hev 0 5 (by omega) (by omega)
  have c10 : w1.cell? ⟨g, 10, none⟩ = some (.int .i64 3) := hev 1 2 (by omega) (by omega)
  have c13 : w1.cell? ⟨g, 13, none⟩ = some (.int .u64 5) := hev 1 5 (by omega) (by omega)
  have d0 : w1.cell? ⟨q, 0, none⟩ = some (.int .u64 6) := hwd 0 (by omega)
  have Hb := Lib.hid hb
  clear hrep hev hwd hb hen hvn
  unfold repV
  go_wp2
  go_ret
  exact ⟨rfl, Gr.trans Hga.out (Gr.trans Hb.out (Gr.new _ _))⟩

/-- Are there too many calls, or picks? -/
def manyB (l p : Nat) : Bool := decide ((60 < l ∧ l ≤ 1000) ∨ (600 < p ∧ p ≤ 65536) ∨ 1100 < l)
theorem many_any (ca pa : Option Addr) (l p cc pc : Nat) (w : World) (hl : l ≤ maxLen) (hp : p ≤ maxLen) :
    Calls Try.prog 15 #[.slice ca l cc, .slice pa p pc] w fun e w' => e = .returned (.bool (manyB l p)) ∧ w = w' := by
  unfold maxLen at hl hp
  obtain ⟨b, hb⟩ : ∃ b, b = manyB l p := ⟨_, rfl⟩
  rw [← hb]
  by_cases h1 : (60 : Int) < (l : Int) <;> by_cases h2 : (l : Int) ≤ 1000 <;> by_cases h3 : (600 : Int) < (p : Int) <;> by_cases h4 : (p : Int) ≤ 65536 <;> by_cases h5 : (1100 : Int) < (l : Int)
  all_goals first | (exfalso; omega) | skip
  all_goals
    have hv : b = decide ((60 < l ∧ l ≤ 1000) ∨ (600 < p ∧ p ≤ 65536) ∨ 1100 < l) := hb
    first
      | (have hb2 : b = true := by rw [hv]; simp; omega
         subst hb2; clear hb hv
         go_enter Try.func15, Try.ntmps15
         go_wp2
         go_ret
         exact ⟨rfl, rfl⟩)
      | (have hb2 : b = false := by rw [hv]; simp; omega
         subst hb2; clear hb hv
         go_enter Try.func15, Try.ntmps15
         go_wp2
         go_ret
         exact ⟨rfl, rfl⟩)

theorem same_nil (w : World) : Calls Try.prog 23 #[.slice none 0 0, .slice none 0 0] w fun e w' => e = .returned (.bool true) ∧ w = w' := by
  go_enter Try.func23, Try.ntmps23
  go_wp2
  go_loopw [13] (fun i wr => i = .int .i64 0 ∧ wr = w) (fun _ _ => 0)
  case atStart => exact ⟨rfl, rfl⟩
  case round =>
    obtain ⟨rfl, rfl⟩ := hrel
    go_wp2
    go_ret
    exact ⟨rfl, rfl⟩
theorem sameRep_nil (w : World) : Calls Try.prog 46 #[.agg #[.slice none 0 0, .slice none 0 0, .int .i64 0, .int .i64 0, .int .i64 0, .int .i64 0, .int .i64 0, .int .i64 0, .int .i64 0], .agg #[.slice none 0 0, .slice none 0 0, .int .i64 0, .int .i64 0, .int .i64 0, .int .i64 0, .int .i64 0, .int .i64 0, .int .i64 0]] w fun e w' => e = .returned (.bool true) ∧ Below w.heap.size w w' := by
  have Sm := Lib.hid same_nil
  go_enter Try.func46, Try.ntmps46
  go_wp2_with (go_at_call 23; refine (Sm.out _).mono ?_; rintro e w' ⟨rfl, rfl⟩)
  obtain ⟨w2, hw2⟩ : ∃ w2, w2 = (w.alloc (.cells #[.slice none 0 0, .slice none 0 0, .int .i64 0, .int .i64 0, .int .i64 0, .int .i64 0, .int .i64 0, .int .i64 0, .int .i64 0] 32)).alloc (.cells #[.slice none 0 0, .slice none 0 0, .int .i64 0, .int .i64 0, .int .i64 0, .int .i64 0, .int .i64 0, .int .i64 0, .int .i64 0] 32) := ⟨_, rfl⟩
  rw [← hw2]
  have hb : Below w.heap.size w w2 := by rw [hw2]; exact Gr.alloc (Gr.new _ _) _
  have Hb := Lib.hid hb
  clear hb hw2
  go_loopw [45] (fun i wr => i = .int .i64 0 ∧ wr = w2) (fun _ _ => 0)
  case atStart => exact ⟨rfl, rfl⟩
  case round =>
    obtain ⟨rfl, rfl⟩ := hrel
    go_wp2
    go_ret
    exact ⟨rfl, Hb.out⟩
theorem none_true (w : World) : Calls Try.prog 18 #[.agg #[.slice none 0 0, .slice none 0 0, .int .i64 0, .int .i64 0, .int .i64 0, .int .i64 0, .int .i64 0, .int .i64 0, .int .i64 0]] w fun e w' => e = .returned (.bool true) ∧ Below w.heap.size w w' := by
  have Sm := Lib.hid sameRep_nil
  go_enter Try.func18, Try.ntmps18
  go_wp2_with (go_at_call 46; refine (Sm.out _).mono ?_; rintro e w' ⟨rfl, hb⟩)
  go_ret
  exact ⟨rfl, Gr.trans (Gr.new _ _) hb⟩
end
section

/- Layer 6: the walk of LoomStays. -/
open Go.RowKit

theorem cells_now (size : Nat) : ∀ (o : (cellsS size).ω) (wd : WD) (p : Nat) (s : (cellsS size).σ), ((cellsS size).step o wd p s).2.1.now = wd.now := by
  intro o wd p s
  show (cellsAct s.1 wd).1.now = wd.now
  unfold cellsAct
  split
  · rfl
  · split
    · rfl
    · split <;> rfl
theorem cellsN_mono {n sz : Int} {calls : List CallD} {k m : Nat} (h : k ≤ m) (hk : cellsN n sz calls k ≠ 0) : cellsN n sz calls m ≠ 0 := by
  intro hm
  apply hk
  unfold cellsN checkN at hm ⊢
  by_cases h1 : n < 1 ∨ 16 < n
  · simp [h1] at hm
  · by_cases h2 : 1000 < calls.length ∨ 65536 < m
    · simp [h1, h2] at hm
    · have h3 : ¬ (1000 < calls.length ∨ 65536 < k) := by omega
      simp only [h1, h2, h3, if_false] at hm ⊢
      exact hm
theorem cellsN_zero {n sz : Int} {calls : List CallD} {m : Nat} (h : cellsN n sz calls m = 0) : checkN n calls m = 0 ∧ 1 ≤ sz ∧ sz ≤ 64 := by
  unfold cellsN at h
  by_cases h1 : checkN n calls m = 0
  · rw [if_neg (by simp [h1])] at h
    split at h
    · cases h
    · exact ⟨h1, by omega, by omega⟩
  · rw [if_pos h1] at h; exact absurd h h1
theorem thr_ok {n : Int} {calls : List CallD} {np : Nat} (hck : checkN n calls np = 0) : ∀ c, c < calls.length → 0 ≤ (calls.getD c d0).thread ∧ (calls.getD c d0).thread < n := by
  obtain ⟨hw0, _⟩ := checkN_zero hck
  obtain ⟨z1, z2, z3, z4⟩ := wrongN_zero hw0
  intro c hcl
  unfold anyBad at z4
  rw [List.any_eq_false] at z4
  have e : calls.getD c d0 = calls[c] := by simp [List.getD_eq_getElem?_getD, hcl]
  have h9 : badT n calls[c] = false := by simpa using z4 calls[c] (List.getElem_mem hcl)
  rw [e]
  obtain ⟨y, hy⟩ : ∃ y, y = calls[c] := ⟨_, rfl⟩
  rw [← hy] at h9 ⊢
  unfold badT at h9
  simp at h9
  omega
theorem thr_16 {n : Int} {calls : List CallD} {np : Nat} (hck : checkN n calls np = 0) : ∀ c, c < calls.length → 0 ≤ (calls.getD c d0).thread ∧ (calls.getD c d0).thread < 16 := by
  obtain ⟨hw0, _⟩ := checkN_zero hck
  obtain ⟨z1, z2, z3, z4⟩ := wrongN_zero hw0
  intro c hc
  have := thr_ok hck c hc
  omega

/-- The beginning of a slice. -/
theorem SlAt.take {w : World} {a : Option Addr} {l : List Int} (h : SlAt w a l.length 1 (intG l)) (k : Nat) (hk : k ≤ l.length) : SlAt w a (l.take k).length 1 (intG (l.take k)) := by
  have e : (l.take k).length = k := by simp; omega
  rw [e]
  refine ⟨Nat.le_trans hk h.1, fun j hj => ?_⟩
  obtain ⟨b, off, h1, h2, h3⟩ := h.2 j (by omega)
  refine ⟨b, off, h1, h2, fun f hf => ?_⟩
  rw [h3 f hf]
  unfold intG
  congr 2
  simp [List.getD_eq_getElem?_getD, List.getElem?_take, hj]
theorem run_slice_take (W : World) (a : Option Addr) (len cap k : Nat) (hk : k ≤ cap) :
    (Instr.slice 24 (.slice a len cap) none (some (.int .i64 (k : Int))) none).run Try.prog W = .ok (.slice a k cap) W := by
  have hu := Try.underlying24
  have ht' : Try.prog.underlying 24 = some (.slice (Try.prog.elem 24)) := by simp [Program.elem, hu]
  have he : Try.prog.elem 24 = 3 := by simp [Program.elem, hu]
  rw [run_slice_h W 24 _ _ _ ht' .i64 _ (by omega) (by omega), he]
  rw [show (Go.sizeOf 3).run Try.prog W = .ok 1 W from by first | rfl | simp [Go.sizeOf]]
  have e1 : (if cap = 0 then a else Option.map (fun x : Addr => x.add (0 * 1)) a) = a := by
    cases a with
    | none => split <;> rfl
    | some x => split <;> simp [Addr.add]
  simp [Result.andThen, sliced, e1]
  try (cases a <;> simp [Addr.add])

/-- A report that a variable holds. -/
structure RepIn (w u : World) (b : Nat) (ea : Option Addr) (en ec : Nat) (va : Option Addr) (vn vc : Nat) (rp : RepD) : Prop where
  ge : w.heap.size ≤ b
  blk : u.heap[b]? = some (.cells #[.slice ea en ec, .slice va vn vc, .int .i64 (rp.c.read : Int), .int .i64 (rp.c.write : Int), .int .i64 (rp.c.swap : Int), .int .i64 (rp.c.add : Int), .int .i64 (rp.c.fault : Int), .int .i64 (rp.ticks : Int), .int .i64 (rp.idle : Int)] 32 (0, 0))
theorem RepIn.grown {w u u' : World} {b : Nat} {ea : Option Addr} {en ec : Nat} {va : Option Addr} {vn vc : Nat} {rp : RepD} (h : RepIn w u b ea en ec va vn vc rp) (hb : Below u.heap.size u u') : RepIn w u' b ea en ec va vn vc rp := ⟨h.ge, (hb.block b (blk_lt h.blk)).trans h.blk⟩
theorem RepIn.cell {w u : World} {b : Nat} {ea : Option Addr} {en ec : Nat} {va : Option Addr} {vn vc : Nat} {rp : RepD} (h : RepIn w u b ea en ec va vn vc rp) (j : Nat) : u.cell? ⟨b, j, none⟩ = (#[.slice ea en ec, .slice va vn vc, .int .i64 (rp.c.read : Int), .int .i64 (rp.c.write : Int), .int .i64 (rp.c.swap : Int), .int .i64 (rp.c.add : Int), .int .i64 (rp.c.fault : Int), .int .i64 (rp.ticks : Int), .int .i64 (rp.idle : Int)] : Array Value)[j]? := cell_blk h.blk j
end
end Go.Proofs.Ytjkgfkbanbhkgaa
