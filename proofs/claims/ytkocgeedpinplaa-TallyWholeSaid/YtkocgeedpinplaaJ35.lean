/- What the checkers say of things that are alike. -/
import Derived.Test.YtkocgeedpinplaaJ29
import Derived.Test.YtkocgeedpinplaaJ07
import Derived.Test.YtkocgeedpinplaaJ24
set_option maxRecDepth 100000
set_option linter.unusedVariables false
set_option linter.unusedSimpArgs false
set_option linter.unnecessarySimpa false
namespace Go.Proofs.Ytkocgeedpinplaa
section
open Go.RowKit

theorem same_eq (xs : List Nat) (a a2 : Option Addr) (c c2 : Nat) (w : World) (hs : SlAt w a xs.length 1 (u64G xs)) (hs2 : SlAt w a2 xs.length 1 (u64G xs)) :
    Calls Try.prog 24 #[.slice a xs.length c, .slice a2 xs.length c2] w fun e w' => e = .returned (.bool true) ∧ Below w.heap.size w w' := by
  have hm := hs.1
  unfold maxLen at hm
  have Hs := Lib.hid hs; have Hs2 := Lib.hid hs2
  clear hs hs2
  go_enter Try.func24, Try.ntmps24
  go_wp2
  go_loopw [5, 13] (fun _ i wr => ∃ k : Nat, k ≤ xs.length ∧ i = .int .i64 k ∧ Below w.heap.size w wr) (fun _ i _ => xs.length - (intOf i).toNat)
  case atStart => exact ⟨0, Nat.zero_le _, rfl, Gr.refl _⟩
  case round =>
    obtain ⟨k, hk, rfl, hb⟩ := hrel
    by_cases hlt : k < xs.length
    · obtain ⟨b, o, rfl, h4⟩ := Hs.out.elem hb hlt
      obtain ⟨b2, o2, rfl, h5⟩ := Hs2.out.elem hb hlt
      obtain ⟨x, hx⟩ : ∃ x, x = xs.getD k 0 := ⟨_, rfl⟩
      have e4 : wr.cell? ⟨b, o + k, none⟩ = some (.int .u64 (x : Int)) := by have h0 := h4 0 (by omega); rw [Nat.mul_one, Nat.add_zero] at h0; rw [h0, hx]; rfl
      have e5 : wr.cell? ⟨b2, o2 + k, none⟩ = some (.int .u64 (x : Int)) := by have h0 := h5 0 (by omega); rw [Nat.mul_one, Nat.add_zero] at h0; rw [h0, hx]; rfl
      have l1 : (k : Int) < xs.length := by omega
      have Hb := Lib.hid hb
      clear h4 h5 hb hx
      go_wp2_with fail
      go_quiet (fail)
      go_wp2
      go_roundw
      case rel => exact ⟨k + 1, by omega, by go_num, below_drewN Hb.out _⟩
      case measure => simp [intOf] <;> omega
    · have l1 : ¬ (k : Int) < xs.length := by omega
      have Hb := Lib.hid hb
      clear hb
      go_wp2
      go_ret
      exact ⟨rfl, Hb.out⟩
theorem ints_eq (xs : List Int) (a a2 : Option Addr) (c c2 : Nat) (w : World) (hs : SlAt w a xs.length 1 (intG xs)) (hs2 : SlAt w a2 xs.length 1 (intG xs)) :
    Calls Try.prog 61 #[.slice a xs.length c, .slice a2 xs.length c2] w fun e w' => e = .returned (.bool true) ∧ Below w.heap.size w w' := by
  have hm := hs.1
  unfold maxLen at hm
  have Hs := Lib.hid hs; have Hs2 := Lib.hid hs2
  clear hs hs2
  go_enter Try.func61, Try.ntmps61
  go_wp2
  go_loopw [5, 13] (fun _ i wr => ∃ k : Nat, k ≤ xs.length ∧ i = .int .i64 k ∧ Below w.heap.size w wr) (fun _ i _ => xs.length - (intOf i).toNat)
  case atStart => exact ⟨0, Nat.zero_le _, rfl, Gr.refl _⟩
  case round =>
    obtain ⟨k, hk, rfl, hb⟩ := hrel
    by_cases hlt : k < xs.length
    · obtain ⟨b, o, rfl, h4⟩ := Hs.out.elem hb hlt
      obtain ⟨b2, o2, rfl, h5⟩ := Hs2.out.elem hb hlt
      obtain ⟨x, hx⟩ : ∃ x, x = xs.getD k 0 := ⟨_, rfl⟩
      have e4 : wr.cell? ⟨b, o + k, none⟩ = some (.int .i64 x) := by have h0 := h4 0 (by omega); rw [Nat.mul_one, Nat.add_zero] at h0; rw [h0, hx]; rfl
      have e5 : wr.cell? ⟨b2, o2 + k, none⟩ = some (.int .i64 x) := by have h0 := h5 0 (by omega); rw [Nat.mul_one, Nat.add_zero] at h0; rw [h0, hx]; rfl
      have l1 : (k : Int) < xs.length := by omega
      have Hb := Lib.hid hb
      clear h4 h5 hb hx
      go_wp2_with fail
      go_quiet (fail)
      go_wp2
      go_roundw
      case rel => exact ⟨k + 1, by omega, by go_num, below_drewN Hb.out _⟩
      case measure => simp [intOf] <;> omega
    · have l1 : ¬ (k : Int) < xs.length := by omega
      have Hb := Lib.hid hb
      clear hb
      go_wp2
      go_ret
      exact ⟨rfl, Hb.out⟩

theorem answer_eq (er : Int) (vl : Nat) (xs : List Nat) (a a2 : Option Addr) (c c2 : Nat) (w : World) (hs : SlAt w a xs.length 1 (u64G xs)) (hs2 : SlAt w a2 xs.length 1 (u64G xs)) :
    Calls Try.prog 36 #[.agg #[.int .i64 er, .int .u64 (vl : Int), .slice a xs.length c], .agg #[.int .i64 er, .int .u64 (vl : Int), .slice a2 xs.length c2]] w fun e w' => e = .returned (.bool true) ∧ Below w.heap.size w w' := by
  have S := Lib.hid (fun (u : World) (h : Below w.heap.size w u) => same_eq xs a a2 c c2 u (hs.grown h) (hs2.grown h))
  obtain ⟨n, hn⟩ : ∃ n, n = xs.length := ⟨_, rfl⟩
  rw [← hn] at S ⊢
  clear hs hs2 hn
  go_enter Try.func36, Try.ntmps36
  go_wp2_with (go_at_call 24; refine (S.out _ (Gr.alloc (Gr.new _ _) _)).mono ?_; rintro e w' ⟨rfl, hb⟩)
  go_ret
  exact ⟨rfl, Gr.trans (Gr.alloc (Gr.new _ _) _) hb⟩
/-- An event's value. -/
def evV (e : EvD) (la : Option Addr) (lc : Nat) (ka : Option Addr) (kc : Nat) : Value := .agg #[.int .i64 (e.call : Int), .int .i64 (e.inv : Int), .int .i64 (e.resp : Int), .int .i64 (e.steps : Int), .int .i64 e.ans.err, .int .u64 (e.ans.val : Int), .slice la e.ans.list.length lc, .slice ka e.key.length kc]
theorem event_eq (e : EvD) (la la2 ka ka2 : Option Addr) (lc lc2 kc kc2 : Nat) (w : World) (hl : SlAt w la e.ans.list.length 1 (u64G e.ans.list)) (hl2 : SlAt w la2 e.ans.list.length 1 (u64G e.ans.list)) (hk : SlAt w ka e.key.length 1 (intG e.key)) (hk2 : SlAt w ka2 e.key.length 1 (intG e.key)) :
    Calls Try.prog 33 #[evV e la lc ka kc, evV e la2 lc2 ka2 kc2] w fun r w' => r = .returned (.bool true) ∧ Below w.heap.size w w' := by
  obtain ⟨cl, iv, rs, st, ⟨er, vl, li⟩, ky⟩ := e
  unfold evV
  simp only at hl hl2 hk hk2 ⊢
  have A := Lib.hid (fun (u : World) (h : Below w.heap.size w u) => answer_eq er vl li la la2 lc lc2 u (hl.grown h) (hl2.grown h))
  have K := Lib.hid (fun (u : World) (h : Below w.heap.size w u) => ints_eq ky ka ka2 kc kc2 u (hk.grown h) (hk2.grown h))
  obtain ⟨n, hn⟩ : ∃ n, n = li.length := ⟨_, rfl⟩
  obtain ⟨m, hm⟩ : ∃ m, m = ky.length := ⟨_, rfl⟩
  rw [← hn] at A ⊢
  rw [← hm] at K ⊢
  clear hl hl2 hk hk2 hn hm
  obtain ⟨wa, hwa⟩ : ∃ wa, wa = (w.alloc (.cells #[.int .i64 (cl : Int), .int .i64 (iv : Int), .int .i64 (rs : Int), .int .i64 (st : Int), .int .i64 er, .int .u64 (vl : Int), .slice la n lc, .slice ka m kc] 67)).alloc (.cells #[.int .i64 (cl : Int), .int .i64 (iv : Int), .int .i64 (rs : Int), .int .i64 (st : Int), .int .i64 er, .int .u64 (vl : Int), .slice la2 n lc2, .slice ka2 m kc2] 67) := ⟨_, rfl⟩
  have hga : Below w.heap.size w wa := by rw [hwa]; exact Gr.alloc (Gr.new _ _) _
  have hr1 : wa.heap[w.heap.size]? = some (.cells #[.int .i64 (cl : Int), .int .i64 (iv : Int), .int .i64 (rs : Int), .int .i64 (st : Int), .int .i64 er, .int .u64 (vl : Int), .slice la n lc, .slice ka m kc] 67 (0, 0)) := by rw [hwa, Below.heap_alloc _ _ _ (by simp)]; exact heap_alloc_new _ _
  have hr2 : wa.heap[w.heap.size + 1]? = some (.cells #[.int .i64 (cl : Int), .int .i64 (iv : Int), .int .i64 (rs : Int), .int .i64 (st : Int), .int .i64 er, .int .u64 (vl : Int), .slice la2 n lc2, .slice ka2 m kc2] 67 (0, 0)) := by
    rw [hwa]
    have := heap_alloc_new (w.alloc (.cells #[.int .i64 (cl : Int), .int .i64 (iv : Int), .int .i64 (rs : Int), .int .i64 (st : Int), .int .i64 er, .int .u64 (vl : Int), .slice la n lc, .slice ka m kc] 67)) (.cells #[.int .i64 (cl : Int), .int .i64 (iv : Int), .int .i64 (rs : Int), .int .i64 (st : Int), .int .i64 er, .int .u64 (vl : Int), .slice la2 n lc2, .slice ka2 m kc2] 67 (0, 0))
    simp only [World.size_alloc] at this
    exact this
  have Hwa := Lib.hid hwa; have Hga := Lib.hid hga; have Hr1 := Lib.hid hr1; have Hr2 := Lib.hid hr2
  clear hwa hga hr1 hr2
  go_enter Try.func33, Try.ntmps33
  go_wp2_with fail
  rw [← Hwa.out]
  refine (A.out _ Hga.out).mono ?_
  rintro r w1 ⟨rfl, hb1⟩
  have s1 := (hb1.block _ (blk_lt Hr1.out)).trans Hr1.out
  have s2 := (hb1.block _ (blk_lt Hr2.out)).trans Hr2.out
  have k7 : w1.cell? ⟨w.heap.size, 7, none⟩ = some (.slice ka m kc) := by rw [cell_blk s1]; rfl
  have k7' : w1.cell? ⟨w.heap.size + 1, 7, none⟩ = some (.slice ka2 m kc2) := by rw [cell_blk s2]; rfl
  have Hb1 := Lib.hid hb1
  clear s1 s2 hb1
  go_wp2_with fail
  refine (K.out _ (Gr.trans Hga.out Hb1.out)).mono ?_
  rintro r w2 ⟨rfl, hb2⟩
  have Hb2 := Lib.hid hb2
  clear hb2
  go_wp2
  go_ret
  exact ⟨rfl, Gr.trans Hga.out (Gr.trans Hb1.out Hb2.out)⟩
end
section

/- Layer 6: what has responded stays, in plain numbers. -/
open Go.RowKit

variable {S : Sys}
structure Stay (st st' : PlayD S) : Prop where
  len : st.evs.length ≤ st'.evs.length
  now : st.wd.now ≤ st'.wd.now
  idle : st.idle ≤ st'.idle
  inv : ∀ i, i < st.evs.length → (evAt st'.evs i).inv = (evAt st.evs i).inv
  ev : ∀ i, i < st.evs.length → (evAt st.evs i).resp ≠ 0 → evAt st'.evs i = evAt st.evs i
theorem Stay.refl (st : PlayD S) : Stay st st := ⟨Nat.le_refl _, Nat.le_refl _, Nat.le_refl _, fun _ _ => rfl, fun _ _ _ => rfl⟩
theorem Stay.trans {a b c : PlayD S} (h : Stay a b) (k : Stay b c) : Stay a c :=
  ⟨Nat.le_trans h.len k.len, Nat.le_trans h.now k.now, Nat.le_trans h.idle k.idle, fun i hi => (k.inv i (Nat.lt_of_lt_of_le hi h.len)).trans (h.inv i hi), fun i hi hr => (k.ev i (Nat.lt_of_lt_of_le hi h.len) (by rw [h.ev i hi hr]; exact hr)).trans (h.ev i hi hr)⟩

/-- A machine's step changes its own event alone. -/
theorem goStep_ev (hnow : ∀ o wd p s, (S.step o wd p s).2.1.now = wd.now) (st : PlayD S) (p k : Nat) (s : S.σ) (hk : k < st.evs.length) :
    (goStep S st p k s).1.evs.length = st.evs.length ∧ (goStep S st p k s).1.wd.now = st.wd.now ∧ (goStep S st p k s).1.idle = st.idle ∧ (∀ i, (evAt (goStep S st p k s).1.evs i).inv = (evAt st.evs i).inv) ∧ (∀ i, i ≠ k → evAt (goStep S st p k s).1.evs i = evAt st.evs i) := by
  unfold goStep
  simp only
  cases hd : (S.step st.obj st.wd p s).2.2.2 with
  | true =>
    simp only [if_true]
    refine ⟨modEv_length _ _ _, hnow _ _ _ _, (by first | exact trivial | rfl), fun i => ?_, fun i hi => ?_⟩
    · unfold modEv; rw [evAt_set _ hk]; split
      · rename_i e; subst e; rfl
      · rfl
    · unfold modEv; rw [evAt_set _ hk, if_neg hi]
  | false =>
    simp only [Bool.false_eq_true, if_false]
    refine ⟨modEv_length _ _ _, hnow _ _ _ _, (by first | exact trivial | rfl), fun i => ?_, fun i hi => ?_⟩
    · unfold modEv; rw [evAt_set _ hk]; split
      · rename_i e; subst e; rfl
      · rfl
    · unfold modEv; rw [evAt_set _ hk, if_neg hi]

theorem pick_stay (hnow : ∀ o wd p s, (S.step o wd p s).2.1.now = wd.now) {calls : List CallD} {st : PlayD S} (h : StGood calls st) (p : Int) : Stay st (pickD S calls st p) := by
  cases hN : nowN calls st.fin p with
  | none =>
    have hp : pickD S calls st p = { st with idle := st.idle + 1 } := by unfold pickD; rw [hN]
    rw [hp]
    exact ⟨Nat.le_refl _, Nat.le_refl _, Nat.le_succ _, fun _ _ => rfl, fun _ _ _ => rfl⟩
  | some i =>
    have hp : pickD S calls st p = if (stepD S calls st p.toNat i).2 then { (stepD S calls st p.toNat i).1 with fin := (stepD S calls st p.toNat i).1.fin.set i true } else (stepD S calls st p.toNat i).1 := by unfold pickD; rw [hN]
    obtain ⟨q, hq⟩ : ∃ q, q = p.toNat := ⟨_, rfl⟩
    rw [hp, ← hq]
    have key : Stay st (stepD S calls st q i).1 := by
      cases hs : (st.hands.getD q (none, 0)).1 with
      | some s =>
        obtain ⟨k, hk⟩ : ∃ k, k = (st.hands.getD q (none, 0)).2 := ⟨_, rfl⟩
        have hh : hndOf st.hands q = some k := by unfold hndOf; rw [hs, hk]; rfl
        obtain ⟨k1, k2, k3, k4⟩ := h.ev.hand q k hh
        have hst : stepD S calls st q i = goStep S { st with wd := st.wd.tick } q k s := by unfold stepD; rw [hs]; simp only; rw [← hk]
        obtain ⟨a1, a2, a3, a4, a5⟩ := goStep_ev hnow { st with wd := st.wd.tick } q k s k1
        rw [hst]
        exact ⟨by rw [a1]; exact Nat.le_refl _, by rw [a2]; exact Nat.le_succ _, by rw [a3]; exact Nat.le_refl _, fun j _ => a4 j, fun j hj hr => a5 j (fun e => by subst e; exact hr k3)⟩
      | none =>
        cases hst : startD S st.obj (st.wd.tick.begin q) q (calls.getD i d0) with
        | refuse e =>
          have hst2 : stepD S calls st q i = ({ st with wd := st.wd.tick.begin q, hands := st.hands.set q (none, st.evs.length), evs := st.evs ++ [finishEv (st.wd.tick.begin q) q ⟨e, 0, []⟩ [] (newEv i (st.wd.tick.begin q))] }, true) := by
            unfold stepD; rw [hs]; simp only; rw [hst]
          rw [hst2]
          exact ⟨by simp, Nat.le_succ _, Nat.le_refl _, fun j hj => by simp only; rw [evAt_old hj], fun j hj _ => evAt_old hj⟩
        | run s =>
          have hst2 : stepD S calls st q i = goStep S { st with wd := st.wd.tick.begin q, hands := st.hands.set q (some s, st.evs.length), evs := st.evs ++ [newEv i (st.wd.tick.begin q)] } q st.evs.length s := by
            unfold stepD; rw [hs]; simp only; rw [hst]
          obtain ⟨a1, a2, a3, a4, a5⟩ := goStep_ev hnow { st with wd := st.wd.tick.begin q, hands := st.hands.set q (some s, st.evs.length), evs := st.evs ++ [newEv i (st.wd.tick.begin q)] } q st.evs.length s (by simp)
          rw [hst2]
          exact ⟨by rw [a1]; simp, by rw [a2]; exact Nat.le_succ _, by rw [a3]; exact Nat.le_refl _, fun j hj => by rw [a4]; simp only; rw [evAt_old hj], fun j hj _ => by rw [a5 j (by omega)]; exact evAt_old hj⟩
    split
    · exact ⟨key.len, key.now, key.idle, key.inv, key.ev⟩
    · exact key
theorem picks_stay (hnow : ∀ o wd p s, (S.step o wd p s).2.1.now = wd.now) {calls : List CallD} (hthr : ∀ c, c < calls.length → 0 ≤ (calls.getD c d0).thread ∧ (calls.getD c d0).thread < 16) : ∀ (picks : List Int) {st : PlayD S}, StGood calls st → Stay st (picksD S calls st picks)
  | [], _, _ => Stay.refl _
  | p :: ps, _, h => (pick_stay hnow h p).trans (picks_stay hnow hthr ps (pick_good hnow hthr h p))
/-- At the end the keys of what is open alone are told. -/
theorem end_resp {calls : List CallD} {st : PlayD S} (h : StGood calls st) (hl : ∀ o wd p s, S.late o wd p s = none) : ∀ (l : List Nat) (evs : List EvD), (∀ i, (evAt evs i).resp = (evAt st.evs i).resp) → evs.length = st.evs.length → ∀ i, (evAt st.evs i).resp ≠ 0 → evAt (l.foldl (endEv S st) evs) i = evAt evs i
  | [], _, _, _, _, _ => rfl
  | p :: l, evs, hr, hlen, i, hi => by
    rw [List.foldl_cons]
    have h1 : (endEv S st evs p).length = evs.length ∧ (∀ j, (evAt (endEv S st evs p) j).resp = (evAt evs j).resp) ∧ evAt (endEv S st evs p) i = evAt evs i := by
      unfold endEv
      split
      · exact ⟨rfl, fun _ => rfl, rfl⟩
      · rename_i s k hk
        have hh : hndOf st.hands p = some k := by unfold hndOf; rw [hk]; rfl
        obtain ⟨k1, k2, k3, _⟩ := h.ev.hand p k hh
        refine ⟨modEv_length _ _ _, fun j => ?_, ?_⟩
        · unfold modEv; rw [evAt_set _ (by omega)]; split
          · rename_i e; subst e; rfl
          · rfl
        · unfold modEv; rw [evAt_set _ (by omega), if_neg (fun e => by subst e; exact hi k3)]
    rw [end_resp h hl l _ (fun j => (h1.2.1 j).trans (hr j)) (h1.1.trans hlen) i hi, h1.2.2]

/-- What a report tells stays, if more is picked. -/
theorem play_stays (hnow : ∀ o wd p s, (S.step o wd p s).2.1.now = wd.now) (hl : ∀ o wd p s, S.late o wd p s = none) {calls : List CallD} (hthr : ∀ c, c < calls.length → 0 ≤ (calls.getD c d0).thread ∧ (calls.getD c d0).thread < 16) (o : S.ω) (ws : List Nat) (l m : List Int) :
    (playD S o ws calls l).evs.length ≤ (playD S o ws calls (l ++ m)).evs.length ∧ (playD S o ws calls l).ticks ≤ (playD S o ws calls (l ++ m)).ticks ∧ (playD S o ws calls l).idle ≤ (playD S o ws calls (l ++ m)).idle ∧
    ∀ i, i < (playD S o ws calls l).evs.length → (evAt (playD S o ws calls (l ++ m)).evs i).inv = (evAt (playD S o ws calls l).evs i).inv ∧ ((evAt (playD S o ws calls l).evs i).resp ≠ 0 → evAt (playD S o ws calls (l ++ m)).evs i = evAt (playD S o ws calls l).evs i) := by
  obtain ⟨s1, h1⟩ : ∃ s1, s1 = picksD S calls (play0 S o ws calls) l := ⟨_, rfl⟩
  have g1 : StGood calls s1 := by rw [h1]; exact picks_good hnow hthr l (play0_good calls o ws)
  obtain ⟨s2, h2⟩ : ∃ s2, s2 = picksD S calls s1 m := ⟨_, rfl⟩
  have g2 : StGood calls s2 := by rw [h2]; exact picks_good hnow hthr m g1
  have e12 : picksD S calls (play0 S o ws calls) (l ++ m) = s2 := by rw [h2, h1]; unfold picksD; rw [List.foldl_append]
  have hst : Stay s1 s2 := by rw [h2]; exact picks_stay hnow hthr m g1
  have E1 : (playD S o ws calls l) = reportD S s1 := by rw [h1]; rfl
  have E2 : (playD S o ws calls (l ++ m)) = reportD S s2 := by unfold playD; rw [e12]
  obtain ⟨a1, a2⟩ := end_same s1 hl (List.range 16) s1.evs
  obtain ⟨b1, b2⟩ := end_same s2 hl (List.range 16) s2.evs
  rw [E1, E2]
  refine ⟨by show (endD S s1).length ≤ (endD S s2).length; unfold endD; rw [a1, b1]; exact hst.len, hst.now, hst.idle, fun i hi => ?_⟩
  have hi' : i < s1.evs.length := by rw [← a1]; exact hi
  refine ⟨?_, fun hr => ?_⟩
  · show (evAt (endD S s2) i).inv = (evAt (endD S s1) i).inv
    unfold endD
    rw [(b2 i).2.1, (a2 i).2.1]; exact hst.inv i hi'
  · have hr' : (evAt s1.evs i).resp ≠ 0 := by
      have : (evAt (endD S s1) i).resp ≠ 0 := hr
      unfold endD at this
      rw [(a2 i).2.2.1] at this; exact this
    show evAt (endD S s2) i = evAt (endD S s1) i
    unfold endD
    rw [end_resp g1 hl (List.range 16) s1.evs (fun _ => rfl) rfl i hr', end_resp g2 hl (List.range 16) s2.evs (fun _ => rfl) rfl i (by rw [hst.ev i hi' hr']; exact hr')]
    exact hst.ev i hi' hr'
end
end Go.Proofs.Ytkocgeedpinplaa
