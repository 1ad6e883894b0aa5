/- Layer 6: every play keeps it, whatever its object is. -/
import Derived.Test.YteffgpcjfnjlkaaGreatT15
import Derived.Test.YteffgpcjfnjlkaaGreatT13
set_option maxRecDepth 100000
set_option linter.unusedVariables false
set_option linter.unusedSimpArgs false
set_option linter.unnecessarySimpa false
namespace Go.Proofs.YteffgpcjfnjlkaaGreat
open List renaming getElem_toArray → zq1, getElem_cons_zero → zq2, getElem_cons_succ → zq3, setIfInBounds_toArray → zq4, set_cons_zero → zq5, set_cons_succ → zq6
section
open Go.RowKit
variable {S : Sys}
def hndOf {σ : Type} (hands : List (Option σ × Nat)) (p : Nat) : Option Nat := if (hands.getD p (none, 0)).1.isSome then some (hands.getD p (none, 0)).2 else none
theorem hndOf_set {σ : Type} {hands : List (Option σ × Nat)} {p : Nat} (hp : p < hands.length) (m : Option σ) (k : Nat) : hndOf (hands.set p (m, k)) = fun q => if q = p then (if m.isSome then some k else none) else hndOf hands q := by
 funext q
 unfold hndOf
 by_cases h : q = p
 ·subst h; rw [getD_set_eq hp]; simp
 ·rw [getD_set_neq (Ne.symm h)]; simp [h]
theorem modEv_length (l : List EvD) (k : Nat) (f : EvD → EvD) : (modEv l k f).length = l.length := by simp [modEv]
structure StGood (calls : List CallD) (st : PlayD S) : Prop where
 ev : EvGood calls st.wd.now st.fin (hndOf st.hands) st.evs
 h16 : st.hands.length = 16
theorem goStep_good {calls : List CallD} (hnow : ∀ o wd p s, (S.step o wd p s).2.1.now = wd.now) {st : PlayD S} {p k : Nat} {s : S.σ} (h16 : st.hands.length = 16) (hp : p < 16) (hk : k < st.evs.length)
  (he : EvGood calls st.wd.now st.fin (fun q => if q = p then some k else hndOf st.hands q) (modEv st.evs k stepEv)) :
  if (goStep S st p k s).2 then StGood calls { (goStep S st p k s).1 with fin := (goStep S st p k s).1.fin.set (evAt st.evs k).call true } else StGood calls (goStep S st p k s).1 := by
 have hev : evAt (modEv st.evs k stepEv) k = stepEv (evAt st.evs k) := by unfold modEv; rw [evAt_set _ hk, if_pos rfl]; rfl
 unfold goStep
 simp only
 cases hd : (S.step st.obj st.wd p s).2.2.2 with
 | true =>
  simp only [if_true]
  have := he.done (p := p) (k := k) (if_pos rfl) (e := finishEv (S.step st.obj st.wd p s).2.1 p (S.answer (S.step st.obj st.wd p s).2.2.1).1 (S.answer (S.step st.obj st.wd p s).2.2.1).2 (evAt st.evs k))
   ⟨by rw [hev]; rfl, by rw [hev]; rfl, by rw [hev]; rfl, by show (S.step st.obj st.wd p s).2.1.now = _; rw [hnow]⟩
  rw [hev] at this
  refine ⟨?_, by simpa using h16⟩
  simp only
  rw [hnow, hndOf_set (by rw [h16]; exact hp)]
  have e1 : modEv st.evs k (finishEv (S.step st.obj st.wd p s).2.1 p (S.answer (S.step st.obj st.wd p s).2.2.1).1 (S.answer (S.step st.obj st.wd p s).2.2.1).2) = (modEv st.evs k stepEv).set k (finishEv (S.step st.obj st.wd p s).2.1 p (S.answer (S.step st.obj st.wd p s).2.2.1).1 (S.answer (S.step st.obj st.wd p s).2.2.1).2 (evAt st.evs k)) := by
   unfold modEv; rw [List.set_set]; rfl
  rw [e1]
  have e2 : (fun q => if q = p then (if (none : Option S.σ).isSome = true then some k else none) else hndOf st.hands q) = (fun q => if q = p then none else (fun q => if q = p then some k else hndOf st.hands q) q) := by
   funext q
   by_cases hq : q = p <;> simp [hq]
  rw [e2]
  exact this
 | false =>
  simp only [Bool.false_eq_true, if_false]
  refine ⟨?_, by simpa using h16⟩
  simp only
  rw [hnow, hndOf_set (by rw [h16]; exact hp)]
  exact he
theorem pick_good {calls : List CallD} (hnow : ∀ o wd p s, (S.step o wd p s).2.1.now = wd.now) (hthr : ∀ c, c < calls.length → 0 ≤ (calls.getD c d0).thread ∧ (calls.getD c d0).thread < 16) {st : PlayD S} (h : StGood calls st) (p : Int) : StGood calls (pickD S calls st p) := by
 unfold pickD
 cases hN : nowN calls st.fin p with
 | none => exact ⟨h.ev, h.h16⟩
 | some i =>
  obtain ⟨n1, n2, n3⟩ := nowN_spec hN
  obtain ⟨t1, t2⟩ := hthr i n1
  obtain ⟨q, rfl⟩ : ∃ q : Nat, p = (q : Int) := ⟨p.toNat, by omega⟩
  have hq : q < 16 := by omega
  simp only [Int.toNat_natCast]
  unfold stepD
  cases hs : (st.hands.getD q (none, 0)).1 with
  | some s =>
   simp only
   obtain ⟨k, hk⟩ : ∃ k, k = (st.hands.getD q (none, 0)).2 := ⟨_, rfl⟩
   rw [← hk]
   have hh : hndOf st.hands q = some k := by unfold hndOf; rw [hs, hk]; rfl
   obtain ⟨k1, k2, k3, k4⟩ := h.ev.hand q k hh
   have hi : i = (evAt st.evs k).call := by rw [hN] at k4; cases k4; rfl
   have he := h.ev.step hh
   have hfun : hndOf st.hands = fun x => if x = q then some k else hndOf st.hands x := by
    funext x; by_cases hx : x = q
    ·rw [if_pos hx, hx, hh]
    ·rw [if_neg hx]
   rw [hfun] at he
   have := goStep_good hnow (st := { st with wd := st.wd.tick }) (s := s) h.h16 hq k1 he
   rw [← hi] at this
   exact (by split <;> rename_i hb <;> simp only [hb, if_true, Bool.false_eq_true, if_false] at this <;> exact this)
  | none =>
   simp only
   have hh : hndOf st.hands q = none := by unfold hndOf; rw [hs]; rfl
   have hpos : ∀ c, c < calls.length → 0 ≤ (calls.getD c d0).thread := fun c hc => (hthr c hc).1
   have hl16 : q < st.hands.length := by rw [h.h16]; exact hq
   cases hst : startD S st.obj (st.wd.tick.begin q) q (calls.getD i d0) with
   | refuse e =>
    simp only [if_true]
    have hb := h.ev.begun hpos hh hN (e := stepEv (newEv i (st.wd.tick.begin q))) ⟨rfl, rfl, rfl, rfl⟩
    have hf := hb.done (p := q) (k := st.evs.length) (if_pos rfl) (e := finishEv (st.wd.tick.begin q) q ⟨e, 0, []⟩ [] (newEv i (st.wd.tick.begin q)))
    have hev : evAt (st.evs ++ [stepEv (newEv i (st.wd.tick.begin q))]) st.evs.length = stepEv (newEv i (st.wd.tick.begin q)) := by unfold evAt; rw [getD_snoc_eq]
    rw [hev] at hf
    have hf := hf ⟨rfl, rfl, rfl, rfl⟩
    rw [List.set_append_right _ _ (Nat.le_refl _), Nat.sub_self] at hf
    refine ⟨?_, by simpa using h.h16⟩
    simp only
    rw [hndOf_set hl16]
    have e2 : (fun x => if x = q then (if (none : Option S.σ).isSome = true then some st.evs.length else none) else hndOf st.hands x) = (fun x => if x = q then none else (fun x => if x = q then some st.evs.length else hndOf st.hands x) x) := by
     funext x
     by_cases hx : x = q <;> simp [hx]
    rw [e2]
    exact hf
   | run s =>
    simp only
    have hb := h.ev.begun hpos hh hN (e := stepEv (newEv i (st.wd.tick.begin q))) ⟨rfl, rfl, rfl, rfl⟩
    rw [← modEv_snoc] at hb
    have hfun : (fun x => if x = q then some st.evs.length else hndOf st.hands x) = fun x => if x = q then some st.evs.length else hndOf (st.hands.set q (some s, st.evs.length)) x := by
     funext x
     rw [hndOf_set hl16]
     by_cases hx : x = q <;> simp [hx]
    rw [hfun] at hb
    have := goStep_good hnow (st := { st with wd := st.wd.tick.begin q, hands := st.hands.set q (some s, st.evs.length), evs := st.evs ++ [newEv i (st.wd.tick.begin q)] }) (s := s) (by simpa using h.h16) hq (by simp) hb
    have hev : (evAt (st.evs ++ [newEv i (st.wd.tick.begin q)]) st.evs.length).call = i := by unfold evAt; rw [getD_snoc_eq]; rfl
    simp only at this
    rw [hev] at this
    exact (by split <;> rename_i hb <;> simp only [hb, if_true, Bool.false_eq_true, if_false] at this <;> exact this)
theorem play0_good (calls : List CallD) (o : S.ω) (ws : List Nat) : StGood calls (play0 S o ws calls) := by
 have hh : ∀ p, hndOf (List.replicate 16 ((none : Option S.σ), 0)) p = none := by
  intro p
  unfold hndOf
  have : (List.replicate 16 ((none : Option S.σ), 0)).getD p (none, 0) = (none, 0) := by
   simp only [List.getD_eq_getElem?_getD, List.getElem?_replicate]; split <;> rfl
  rw [this]; rfl
 refine ⟨⟨by simp [play0], fun i hi => by simp [play0] at hi, fun i hi => by simp [play0] at hi, fun i hi => by simp [play0] at hi, fun i hi => by simp [play0] at hi, fun i j _ hj => by simp [play0] at hj, fun i j _ hj => by simp [play0] at hj, fun p k hk => ?_, fun c c' h1 h2 _ h3 => ?_, rfl⟩, by simp [play0]⟩
 ·rw [show hndOf (play0 S o ws calls).hands p = none from hh p] at hk; cases hk
 ·exfalso
  have : (List.replicate calls.length false).getD c false = false := by
   simp only [List.getD_eq_getElem?_getD, List.getElem?_replicate]; split <;> rfl
  rw [show (play0 S o ws calls).fin = List.replicate calls.length false from rfl, this] at h3; cases h3
theorem pick_ticks {calls : List CallD} (hnow : ∀ o wd p s, (S.step o wd p s).2.1.now = wd.now) (st : PlayD S) (p : Int) : (pickD S calls st p).wd.now + (pickD S calls st p).idle = st.wd.now + st.idle + 1 := by
 unfold pickD
 cases nowN calls st.fin p with
 | none => simp only; omega
 | some i =>
  simp only
  have : (stepD S calls st p.toNat i).1.wd.now = st.wd.now + 1 ∧ (stepD S calls st p.toNat i).1.idle = st.idle := by
   refine ⟨?_, (stepD_fin calls st _ _).2⟩
   unfold stepD
   split
   ·unfold goStep; simp only; split <;> (try simp only) <;> rw [hnow] <;> rfl
   ·simp only
    cases startD S st.obj (st.wd.tick.begin p.toNat) p.toNat (calls.getD i d0) with
    | refuse e => rfl
    | run s => unfold goStep; simp only; split <;> (try simp only) <;> rw [hnow] <;> rfl
  split <;> (try simp only) <;> omega
end
section

/- Layer 6: a whole play: loom.Play. -/
open Go.RowKit
variable {S : Sys} {R : Real S}
def PlayTo (X : Nat → Prop) (w w' : World) (er : Int) (r : RepD) (e : Ending) : Prop :=
 Below w.heap.size w w' ∧ ((er ≠ 0 ∧ e = .returned (.tuple #[repV (.slice none 0 0) (.slice none 0 0) ⟨[], [], c0, 0, 0⟩, .int .i64 er])) ∨
  (er = 0 ∧ ∃ ea ec va vc ers, e = .returned (.tuple #[repV (.slice ea r.evs.length ec) (.slice va r.words.length vc) r, .int .i64 0]) ∧ RepAt X w.heap.size w' (.slice ea r.evs.length ec) (.slice va r.words.length vc) ers r))
theorem RepAt.low {Old Old' : Nat → Prop} {B B' : Nat} {w : World} {ev wv : Value} {ers : List (Value × Value)} {r : RepD} (h : RepAt Old B w ev wv ers r) (hB : B' ≤ B) (ho : ∀ b, Old' b → Old b) : RepAt Old' B' w ev wv ers r :=
 ⟨row_low h.row hB, h.elen, fun i hi => ⟨(h.ans i hi).1.less ho, (h.ans i hi).2.less ho⟩, row_low h.words hB⟩
theorem checkN_zero {n : Int} {calls : List CallD} {np : Nat} (h : checkN n calls np = 0) : wrongN n calls = 0 ∧ np ≤ 65536 := by
 unfold checkN at h
 split at h
 ·cases h
 ·split at h
  ·cases h
  ·exact ⟨h, by omega⟩
theorem picksD_snoc (calls : List CallD) (st : PlayD S) (l : List Int) (p : Int) : picksD S calls st (l ++ [p]) = pickD S calls (picksD S calls st l) p := by
 unfold picksD; rw [List.foldl_append]; rfl
theorem picks_ticks {calls : List CallD} (hnow : ∀ o wd p s, (S.step o wd p s).2.1.now = wd.now) (st : PlayD S) : ∀ (l : List Int), (picksD S calls st l).wd.now + (picksD S calls st l).idle = st.wd.now + st.idle + l.length := by
 intro l
 induction l generalizing st with
 | nil => rfl
 | cons p l ih =>
  show (picksD S calls (pickD S calls st p) l).wd.now + (picksD S calls (pickD S calls st p) l).idle = _
  rw [ih, pick_ticks hnow]; simp; omega
set_option maxHeartbeats 4000000 in
theorem play_any {X : Nat → Prop} (ok : RealOk R) (nl : NoLate R) (hdN : R.dN ≤ 1000) (w : World) (o0 : S.ω) (n : Int) (calls : List CallD) (ws : List Nat) (picks : List Int) (ov cv wv : Value) (pa : Option Addr) (pc : Nat)
  (h : BeginOk R X w o0 n calls ws ov cv wv) (hps : SlAt w pa picks.length 1 (intG picks)) (hpw : ∀ x ∈ picks, (Lit.int .i64 x).wf = true)
  (hsf : checkN n calls picks.length = 0 → ∀ l p m, picks = l ++ p :: m → SafeAt R calls (picksD S calls (play0 S o0 ws calls) l) p) :
  Calls Tryz.prog 32 #[.int .i64 n, ov, wv, cv, .slice pa picks.length pc] w fun e w' => PlayTo X w w' (checkN n calls picks.length) (playD S o0 ws calls picks) e := by
 obtain ⟨wa, hwa⟩ : ∃ wa, wa = w.alloc (.cells #[.slice none 0 0, .slice none 0 0, .int .i64 0, .int .i64 0, .int .i64 0, .int .i64 0, .int .i64 0, .int .i64 0, .int .i64 0] 32) := ⟨_, rfl⟩
 have hga : Below w.heap.size w wa := by rw [hwa]; exact Gr.new _ _
 have hra : wa.heap[w.heap.size]? = some (.cells #[.slice none 0 0, .slice none 0 0, .int .i64 0, .int .i64 0, .int .i64 0, .int .i64 0, .int .i64 0, .int .i64 0, .int .i64 0] 32 (0, 0)) := by rw [hwa]; exact heap_alloc_new _ _
 have hsa : wa.heap.size = w.heap.size + 1 := by rw [hwa]; simp
 have C := Lib.hid (fun (ca : Option Addr) (cc : Nat) (hcs : SlAt w ca calls.length 6 (callG calls)) => check_any n calls picks.length ca pa cc pc wa (hcs.grown hga) hps.1 (fun x hx => (h.ok x hx).thread))
 obtain ⟨ca, cc, rfl, hcs, _⟩ := h.cs
 replace C := Lib.hid (C.out ca cc hcs)
 have Hh := Lib.hid h; have Hps := Lib.hid hps; have Hpw := Lib.hid hpw; have Hga := Lib.hid hga; have Hra := Lib.hid hra; have Hwa := Lib.hid hwa; have Hsa := Lib.hid hsa; have Hsf := Lib.hid hsf
 have hpl := hps.1
 unfold maxLen at hpl
 obtain ⟨er, her⟩ : ∃ er, er = checkN n calls picks.length := ⟨_, rfl⟩
 rw [← her] at C ⊢
 have Her := Lib.hid her
 clear h hps hpw hga hra hwa hsa hcs her hsf
 go_enter Tryz.func32, Tryz.ntmps32
 go_wp2_with fail
 rw [← Hwa.out]
 refine C.out.mono ?_
 rintro e w1 ⟨rfl, hb1⟩
 have hr1 := (hb1.block _ (blk_lt Hra.out)).trans Hra.out
 have Hb1 := Lib.hid hb1; have Hr1 := Lib.hid hr1
 clear hb1 hr1
 by_cases her0 : er = 0
 ·subst her0
  have hck := checkN_zero Her.out.symm
  have Hsf0 := Lib.hid (Hsf.out Her.out.symm)
  have B := Lib.hid (begin_any (fun b => X b ∨ b = w.heap.size) w1 o0 n calls ws ov (.slice ca calls.length cc) wv (Hh.out.grown (Gr.trans Hga.out Hb1.out) (fun b hb => by have h1 := blk_lt Hra.out; have h2 := Hb1.out.size; rcases hb with hb | hb; exact .inl hb; exact .inr (by omega))) hck.1)
  have hpk := hck.2
  have Hck := Lib.hid hck
  clear C hck
  go_wp2_with fail
  refine B.out.mono ?_
  rintro e w2 ⟨J, hJ, rfl, hb2, hst⟩
  have HJ := Lib.hid hJ; have Hb2 := Lib.hid hb2; have Hst := Lib.hid hst
  clear hJ hb2 hst
  go_wp2
  go_loopw [39] (fun i wr => ∃ k : Nat, k ≤ picks.length ∧ i = .int .i64 k ∧ Below w1.heap.size w1 wr ∧ PlaySt R calls wr J ov (.slice ca calls.length cc) w1.heap.size (picksD S calls (play0 S o0 ws calls) (picks.take k))) (fun i _ => picks.length - (intOf i).toNat)
  case atStart => exact ⟨0, Nat.zero_le _, rfl, Hb2.out, Hst.out⟩
  case round =>
   obtain ⟨k, hk, rfl, hbr, hst⟩ := hrel
   by_cases hlt : k < picks.length
   ·obtain ⟨b3, off3, rfl, hc3⟩ := Hps.out.elem (Gr.trans Hga.out (Gr.trans Hb1.out hbr)) hlt
    obtain ⟨p, hpv⟩ : ∃ p, picks[k] = p := ⟨_, rfl⟩
    have hd : picks.take (k + 1) = picks.take k ++ [p] := by rw [List.take_succ_eq_append_getElem hlt, hpv]
    have c0 : wr.cell? ⟨b3, off3 + k, none⟩ = some (.int .i64 p) := by have h0 := hc3 0 (by omega); rw [Nat.mul_one, Nat.add_zero] at h0; rw [h0]; simp [intG, List.getD_eq_getElem?_getD, hlt, hpv]
    have hpw : (Lit.int .i64 p).wf = true := by rw [← hpv]; exact Hpw.out _ (List.getElem_mem hlt)
    have htk := picks_ticks ok.now (play0 S o0 ws calls) (picks.take k) (calls := calls)
    rw [List.length_take, Nat.min_eq_left hk] at htk
    have htk2 : (picksD S calls (play0 S o0 ws calls) (picks.take k)).wd.now + (picksD S calls (play0 S o0 ws calls) (picks.take k)).idle = k := by rw [htk]; simp [play0, wd0]
    have P := Lib.hid (pick_any ok hdN calls wr J ov (.slice ca calls.length cc) w1.heap.size _ p hst hpw (Hsf0.out _ p (picks.drop (k + 1)) (by rw [← hpv, List.getElem_cons_drop, List.take_append_drop])) (by omega) (by omega))
    have Hd := Lib.hid hd; have Hbr := Lib.hid hbr
    have hl1 : (k : Int) < (picks.length : Int) := by omega
    clear hst hc3 hpv hd hbr htk htk2
    go_wp2_with fail
    refine P.out.mono ?_
    rintro e w3 ⟨⟨bb, rfl⟩, hch, hst3⟩
    have Hch := Lib.hid hch; have Hst3 := Lib.hid hst3
    clear hch hst3
    go_wp2
    go_roundw
    case rel => exact ⟨k + 1, by omega, by go_num, ((Chg.of_below (S := fun b => w1.heap.size ≤ b) Hbr.out).trans Hch.out).below (fun b h => h) (Nat.le_refl _), by rw [Hd.out, picksD_snoc]; exact Hst3.out⟩
    case measure => simp [intOf] <;> omega
   ·have hl1 : ¬ (k : Int) < (picks.length : Int) := by omega
    obtain rfl : k = picks.length := by omega
    rw [List.take_length] at hst
    obtain ⟨G, hG⟩ := hst
    have E := Lib.hid (report_any ok nl calls wr J ov (.slice ca calls.length cc) w1.heap.size G _ hG)
    have hr2 : wr.heap[w.heap.size]? = some (.cells #[.slice none 0 0, .slice none 0 0, .int .i64 0, .int .i64 0, .int .i64 0, .int .i64 0, .int .i64 0, .int .i64 0, .int .i64 0] 32 (0, 0)) := (hbr.block _ (blk_lt Hr1.out)).trans Hr1.out
    have Hbr := Lib.hid hbr; have Hr2 := Lib.hid hr2
    clear hG hbr hr2
    go_wp2_with fail
    refine E.out.mono ?_
    rintro e w3 ⟨ea, ec, va, vc, ers, rfl, hrep, hb3⟩
    have hr3 : w3.heap[w.heap.size]? = some (.cells #[.slice none 0 0, .slice none 0 0, .int .i64 0, .int .i64 0, .int .i64 0, .int .i64 0, .int .i64 0, .int .i64 0, .int .i64 0] 32 (0, 0)) := (hb3.block _ (blk_lt Hr1.out)).trans Hr2.out
    have g0 : w3.cell? ⟨w.heap.size, 0, none⟩ = some (.slice none 0 0) := by rw [cell_blk hr3]; rfl
    have gf0 : w3.frozen? ⟨w.heap.size, 0, none⟩ = false := frozen_blk hr3 0
    have g1 : w3.cell? ⟨w.heap.size, 1, none⟩ = some (.slice none 0 0) := by rw [cell_blk hr3]; rfl
    have gf1 : w3.frozen? ⟨w.heap.size, 1, none⟩ = false := frozen_blk hr3 1
    have g2 : w3.cell? ⟨w.heap.size, 2, none⟩ = some (.int .i64 0) := by rw [cell_blk hr3]; rfl
    have gf2 : w3.frozen? ⟨w.heap.size, 2, none⟩ = false := frozen_blk hr3 2
    have g3 : w3.cell? ⟨w.heap.size, 3, none⟩ = some (.int .i64 0) := by rw [cell_blk hr3]; rfl
    have gf3 : w3.frozen? ⟨w.heap.size, 3, none⟩ = false := frozen_blk hr3 3
    have g4 : w3.cell? ⟨w.heap.size, 4, none⟩ = some (.int .i64 0) := by rw [cell_blk hr3]; rfl
    have gf4 : w3.frozen? ⟨w.heap.size, 4, none⟩ = false := frozen_blk hr3 4
    have g5 : w3.cell? ⟨w.heap.size, 5, none⟩ = some (.int .i64 0) := by rw [cell_blk hr3]; rfl
    have gf5 : w3.frozen? ⟨w.heap.size, 5, none⟩ = false := frozen_blk hr3 5
    have g6 : w3.cell? ⟨w.heap.size, 6, none⟩ = some (.int .i64 0) := by rw [cell_blk hr3]; rfl
    have gf6 : w3.frozen? ⟨w.heap.size, 6, none⟩ = false := frozen_blk hr3 6
    have g7 : w3.cell? ⟨w.heap.size, 7, none⟩ = some (.int .i64 0) := by rw [cell_blk hr3]; rfl
    have gf7 : w3.frozen? ⟨w.heap.size, 7, none⟩ = false := frozen_blk hr3 7
    have g8 : w3.cell? ⟨w.heap.size, 8, none⟩ = some (.int .i64 0) := by rw [cell_blk hr3]; rfl
    have gf8 : w3.frozen? ⟨w.heap.size, 8, none⟩ = false := frozen_blk hr3 8
    obtain ⟨rp, hrp⟩ : ∃ rp, rp = reportD S (picksD S calls (play0 S o0 ws calls) picks) := ⟨_, rfl⟩
    rw [← hrp] at hrep
    obtain ⟨en, hen⟩ : ∃ en, en = rp.evs.length := ⟨_, rfl⟩
    obtain ⟨vn, hvn⟩ : ∃ vn, vn = rp.words.length := ⟨_, rfl⟩
    rw [← hrp, ← hen, ← hvn]
    have Hrep := Lib.hid hrep; have Hr3 := Lib.hid hr3; have Hb3 := Lib.hid hb3; have Hrp := Lib.hid hrp; have Hen := Lib.hid hen; have Hvn := Lib.hid hvn
    clear hrep hr3 hb3 hrp hen hvn
    unfold repV
    go_wp2
    obtain ⟨w7, hw7⟩ : ∃ w7, w7 = (((((((((w3.setCell ⟨w.heap.size, 0, none⟩ (.slice ea en ec)).setCell ⟨w.heap.size, 1, none⟩ (.slice va vn vc)).setCell ⟨w.heap.size, 2, none⟩ (.int .i64 (rp.c.read : Int))).setCell ⟨w.heap.size, 3, none⟩ (.int .i64 (rp.c.write : Int))).setCell ⟨w.heap.size, 4, none⟩ (.int .i64 (rp.c.swap : Int))).setCell ⟨w.heap.size, 5, none⟩ (.int .i64 (rp.c.add : Int))).setCell ⟨w.heap.size, 6, none⟩ (.int .i64 (rp.c.fault : Int))).setCell ⟨w.heap.size, 7, none⟩ (.int .i64 (rp.ticks : Int))).setCell ⟨w.heap.size, 8, none⟩ (.int .i64 (rp.idle : Int))) := ⟨_, rfl⟩
    rw [← hw7]
    have hr7 : w7.heap[w.heap.size]? = some (.cells #[.slice ea en ec, .slice va vn vc, .int .i64 (rp.c.read : Int), .int .i64 (rp.c.write : Int), .int .i64 (rp.c.swap : Int), .int .i64 (rp.c.add : Int), .int .i64 (rp.c.fault : Int), .int .i64 (rp.ticks : Int), .int .i64 (rp.idle : Int)] 32 (0, 0)) := by rw [hw7, (blk_set (blk_set (blk_set (blk_set (blk_set (blk_set (blk_set (blk_set (blk_set Hr3.out _ _) _ _) _ _) _ _) _ _) _ _) _ _) _ _) _ _)]; rfl
    have hch7 : Chg (fun b => b = w.heap.size) w3 w7 := by rw [hw7]; exact ((((((((((Chg.refl (fun b => b = w.heap.size) w3).setCell (by exact .inl rfl) _).setCell (by exact .inl rfl) _).setCell (by exact .inl rfl) _).setCell (by exact .inl rfl) _).setCell (by exact .inl rfl) _).setCell (by exact .inl rfl) _).setCell (by exact .inl rfl) _).setCell (by exact .inl rfl) _).setCell (by exact .inl rfl) _)
    have k0 : w7.cell? ⟨w.heap.size, 0, none⟩ = some (.slice ea en ec) := by rw [cell_blk hr7]; rfl
    have k1 : w7.cell? ⟨w.heap.size, 1, none⟩ = some (.slice va vn vc) := by rw [cell_blk hr7]; rfl
    have k2 : w7.cell? ⟨w.heap.size, 2, none⟩ = some (.int .i64 (rp.c.read : Int)) := by rw [cell_blk hr7]; rfl
    have k3 : w7.cell? ⟨w.heap.size, 3, none⟩ = some (.int .i64 (rp.c.write : Int)) := by rw [cell_blk hr7]; rfl
    have k4 : w7.cell? ⟨w.heap.size, 4, none⟩ = some (.int .i64 (rp.c.swap : Int)) := by rw [cell_blk hr7]; rfl
    have k5 : w7.cell? ⟨w.heap.size, 5, none⟩ = some (.int .i64 (rp.c.add : Int)) := by rw [cell_blk hr7]; rfl
    have k6 : w7.cell? ⟨w.heap.size, 6, none⟩ = some (.int .i64 (rp.c.fault : Int)) := by rw [cell_blk hr7]; rfl
    have k7 : w7.cell? ⟨w.heap.size, 7, none⟩ = some (.int .i64 (rp.ticks : Int)) := by rw [cell_blk hr7]; rfl
    have k8 : w7.cell? ⟨w.heap.size, 8, none⟩ = some (.int .i64 (rp.idle : Int)) := by rw [cell_blk hr7]; rfl
    clear hw7 hr7
    refine bodyPost_ret (v := .tuple #[repV (.slice ea en ec) (.slice va vn vc) rp, .int .i64 0]) (by simp [results, Tryz.results32 , go_sem, k0, k1, k2, k3, k4, k5, k6, k7, k8, repV]) rfl ?_
    have hs1 := blk_lt Hr1.out
    have hall : Chg (fun b => w.heap.size ≤ b) w w7 := ((((Chg.of_below Hga.out).trans (Chg.of_below Hb1.out)).trans ((Chg.refl _ _).trans (Chg.of_below Hbr.out))).trans ((show Chg (fun b => w.heap.size ≤ b) wr w3 from ⟨Hb3.out.os, Hb3.out.tape, Hb3.out.output, Hb3.out.size, fun k hk hn => Hb3.out.block k (by omega)⟩))).trans (hch7.mono (fun b _ h => by omega))
    have hen := Hen.out; have hvn := Hvn.out
    subst hen hvn
    have h9 : rp = playD S o0 ws calls picks := Hrp.out
    refine ⟨hall.below (fun b h => h) (Nat.le_refl _), .inr ⟨rfl, ea, ec, va, vc, ers, by rw [← h9], ?_⟩⟩
    have h8 := (Hrep.out.chg hch7 (fun b hb => by rw [HJ.out]; exact ⟨.inr hb, by omega⟩)).low (Old' := X) (B' := w.heap.size) (by omega) (fun b hb => by rw [HJ.out]; exact .inl hb)
    rw [h9] at h8
    exact h8
 ·have hr1 := Hr1.out
  have g0 : w1.cell? ⟨w.heap.size, 0, none⟩ = some (.slice none 0 0) := by rw [cell_blk hr1]; rfl
  have gf0 : w1.frozen? ⟨w.heap.size, 0, none⟩ = false := frozen_blk hr1 0
  have g1 : w1.cell? ⟨w.heap.size, 1, none⟩ = some (.slice none 0 0) := by rw [cell_blk hr1]; rfl
  have gf1 : w1.frozen? ⟨w.heap.size, 1, none⟩ = false := frozen_blk hr1 1
  have g2 : w1.cell? ⟨w.heap.size, 2, none⟩ = some (.int .i64 0) := by rw [cell_blk hr1]; rfl
  have gf2 : w1.frozen? ⟨w.heap.size, 2, none⟩ = false := frozen_blk hr1 2
  have g3 : w1.cell? ⟨w.heap.size, 3, none⟩ = some (.int .i64 0) := by rw [cell_blk hr1]; rfl
  have gf3 : w1.frozen? ⟨w.heap.size, 3, none⟩ = false := frozen_blk hr1 3
  have g4 : w1.cell? ⟨w.heap.size, 4, none⟩ = some (.int .i64 0) := by rw [cell_blk hr1]; rfl
  have gf4 : w1.frozen? ⟨w.heap.size, 4, none⟩ = false := frozen_blk hr1 4
  have g5 : w1.cell? ⟨w.heap.size, 5, none⟩ = some (.int .i64 0) := by rw [cell_blk hr1]; rfl
  have gf5 : w1.frozen? ⟨w.heap.size, 5, none⟩ = false := frozen_blk hr1 5
  have g6 : w1.cell? ⟨w.heap.size, 6, none⟩ = some (.int .i64 0) := by rw [cell_blk hr1]; rfl
  have gf6 : w1.frozen? ⟨w.heap.size, 6, none⟩ = false := frozen_blk hr1 6
  have g7 : w1.cell? ⟨w.heap.size, 7, none⟩ = some (.int .i64 0) := by rw [cell_blk hr1]; rfl
  have gf7 : w1.frozen? ⟨w.heap.size, 7, none⟩ = false := frozen_blk hr1 7
  have g8 : w1.cell? ⟨w.heap.size, 8, none⟩ = some (.int .i64 0) := by rw [cell_blk hr1]; rfl
  have gf8 : w1.frozen? ⟨w.heap.size, 8, none⟩ = false := frozen_blk hr1 8
  have Her0 := Lib.hid her0
  clear hr1
  go_wp2
  obtain ⟨w7, hw7⟩ : ∃ w7, w7 = (((((((((w1.setCell ⟨w.heap.size, 0, none⟩ (.slice none 0 0)).setCell ⟨w.heap.size, 1, none⟩ (.slice none 0 0)).setCell ⟨w.heap.size, 2, none⟩ (.int .i64 0)).setCell ⟨w.heap.size, 3, none⟩ (.int .i64 0)).setCell ⟨w.heap.size, 4, none⟩ (.int .i64 0)).setCell ⟨w.heap.size, 5, none⟩ (.int .i64 0)).setCell ⟨w.heap.size, 6, none⟩ (.int .i64 0)).setCell ⟨w.heap.size, 7, none⟩ (.int .i64 0)).setCell ⟨w.heap.size, 8, none⟩ (.int .i64 0)) := ⟨_, rfl⟩
  rw [← hw7]
  have hr7 : w7.heap[w.heap.size]? = some (.cells #[.slice none 0 0, .slice none 0 0, .int .i64 0, .int .i64 0, .int .i64 0, .int .i64 0, .int .i64 0, .int .i64 0, .int .i64 0] 32 (0, 0)) := by rw [hw7, (blk_set (blk_set (blk_set (blk_set (blk_set (blk_set (blk_set (blk_set (blk_set Hr1.out _ _) _ _) _ _) _ _) _ _) _ _) _ _) _ _) _ _)]; rfl
  have hch7 : Chg (fun b => b = w.heap.size) w1 w7 := by rw [hw7]; exact ((((((((((Chg.refl (fun b => b = w.heap.size) w1).setCell (by exact .inl rfl) _).setCell (by exact .inl rfl) _).setCell (by exact .inl rfl) _).setCell (by exact .inl rfl) _).setCell (by exact .inl rfl) _).setCell (by exact .inl rfl) _).setCell (by exact .inl rfl) _).setCell (by exact .inl rfl) _).setCell (by exact .inl rfl) _)
  have k0 : w7.cell? ⟨w.heap.size, 0, none⟩ = some (.slice none 0 0) := by rw [cell_blk hr7]; rfl
  have k1 : w7.cell? ⟨w.heap.size, 1, none⟩ = some (.slice none 0 0) := by rw [cell_blk hr7]; rfl
  have k2 : w7.cell? ⟨w.heap.size, 2, none⟩ = some (.int .i64 0) := by rw [cell_blk hr7]; rfl
  have k3 : w7.cell? ⟨w.heap.size, 3, none⟩ = some (.int .i64 0) := by rw [cell_blk hr7]; rfl
  have k4 : w7.cell? ⟨w.heap.size, 4, none⟩ = some (.int .i64 0) := by rw [cell_blk hr7]; rfl
  have k5 : w7.cell? ⟨w.heap.size, 5, none⟩ = some (.int .i64 0) := by rw [cell_blk hr7]; rfl
  have k6 : w7.cell? ⟨w.heap.size, 6, none⟩ = some (.int .i64 0) := by rw [cell_blk hr7]; rfl
  have k7 : w7.cell? ⟨w.heap.size, 7, none⟩ = some (.int .i64 0) := by rw [cell_blk hr7]; rfl
  have k8 : w7.cell? ⟨w.heap.size, 8, none⟩ = some (.int .i64 0) := by rw [cell_blk hr7]; rfl
  clear hw7 hr7
  refine bodyPost_ret (v := .tuple #[repV (.slice none 0 0) (.slice none 0 0) ⟨[], [], c0, 0, 0⟩, .int .i64 er]) (by simp [results, Tryz.results32 , go_sem, k0, k1, k2, k3, k4, k5, k6, k7, k8, repV, c0]) rfl ?_
  have hall : Chg (fun b => w.heap.size ≤ b) w w7 := ((Chg.of_below Hga.out).trans (Chg.of_below Hb1.out)).trans (hch7.mono (fun b _ h => by omega))
  exact ⟨hall.below (fun b h => h) (Nat.le_refl _), .inl ⟨Her0.out, rfl⟩⟩
end
section

/- Layer 6: what a play hands out, in one form. -/
open Go.RowKit
structure CallsAt (X : Nat → Prop) (w : World) (ca : Option Addr) (calls : List CallD) : Prop where
 sl : SlAt w ca calls.length 6 (callG calls)
 ok : ∀ x ∈ calls, CallOk x
 nx : 0 < calls.length → ∀ b off, ca = some ⟨b, off, none⟩ → ¬ X b
structure PicksAt (w : World) (pa : Option Addr) (picks : List Int) : Prop where
 sl : SlAt w pa picks.length 1 (intG picks)
 ok : ∀ x ∈ picks, (Lit.int .i64 x).wf = true
theorem CallsAt.grown {X : Nat → Prop} {w w' : World} {ca : Option Addr} {calls : List CallD} (h : CallsAt X w ca calls) (hb : Below w.heap.size w w') : CallsAt X w' ca calls := ⟨h.sl.grown hb, h.ok, h.nx⟩
theorem PicksAt.grown {w w' : World} {pa : Option Addr} {picks : List Int} (h : PicksAt w pa picks) (hb : Below w.heap.size w w') : PicksAt w' pa picks := ⟨h.sl.grown hb, h.ok⟩
def PlayRest (X : Nat → Prop) (w w' : World) (er : Int) (r : RepD) (ea : Option Addr) (en ec : Nat) (va : Option Addr) (vn vc : Nat) (rp : RepD) : Prop :=
 Below w.heap.size w w' ∧ ((er ≠ 0 ∧ ea = none ∧ en = 0 ∧ ec = 0 ∧ va = none ∧ vn = 0 ∧ vc = 0 ∧ rp = ⟨[], [], c0, 0, 0⟩) ∨
  (er = 0 ∧ rp = r ∧ en = r.evs.length ∧ vn = r.words.length ∧ ∃ ers, RepAt X w.heap.size w' (.slice ea en ec) (.slice va vn vc) ers r))
def PlayRet (X : Nat → Prop) (w w' : World) (er : Int) (r : RepD) (e : Ending) : Prop :=
 ∃ ea en ec va vn vc rp, e = .returned (.tuple #[repV (.slice ea en ec) (.slice va vn vc) rp, .int .i64 er]) ∧ PlayRest X w w' er r ea en ec va vn vc rp
theorem PlayTo.ret {X : Nat → Prop} {w w' : World} {er : Int} {r : RepD} {e : Ending} (h : PlayTo X w w' er r e) : PlayRet X w w' er r e := by
 obtain ⟨hb, ⟨h0, rfl⟩ | ⟨h0, ea, ec, va, vc, ers, rfl, hr⟩⟩ := h
 ·exact ⟨none, 0, 0, none, 0, 0, _, rfl, hb, .inl ⟨h0, rfl, rfl, rfl, rfl, rfl, rfl, rfl⟩⟩
 ·exact ⟨ea, _, ec, va, _, vc, r, by rw [h0], hb, .inr ⟨h0, rfl, rfl, rfl, ers, hr⟩⟩
theorem PlayRest.chg {X X' Q : Nat → Prop} {w0 w w' w'' : World} {er : Int} {r : RepD} {ea : Option Addr} {en ec : Nat} {va : Option Addr} {vn vc : Nat} {rp : RepD} (h : PlayRest X w w' er r ea en ec va vn vc rp) (hc : Chg Q w' w'') (hQ : ∀ b, Q b → X b ∧ w0.heap.size ≤ b ∧ b < w.heap.size) (h0 : Below w0.heap.size w0 w) (hX : ∀ b, X' b → X b) : PlayRest X' w0 w'' er r ea en ec va vn vc rp := by
 obtain ⟨hb, hr⟩ := h
 have hb1 : Chg (fun b => w0.heap.size ≤ b) w0 w'' := ((Chg.of_below h0).trans (show Chg (fun b => w0.heap.size ≤ b) w w' from ⟨hb.os, hb.tape, hb.output, hb.size, fun k hk _ => hb.block k hk⟩)).trans (hc.mono (fun b _ hq => (hQ b hq).2.1))
 refine ⟨hb1.below (fun b h => h) (Nat.le_refl _), ?_⟩
 rcases hr with hr | ⟨h1, h2, h3, h4, ers, h5⟩
 ·exact .inl hr
 ·exact .inr ⟨h1, h2, h3, h4, ers, (h5.chg hc (fun b hb => ⟨(hQ b hb).1, (hQ b hb).2.2⟩)).low h0.size hX⟩
theorem u64_info' : (Tryz.prog.info? 46).map (fun i => (i.zero, i.size, i.bytes)) = some (some (.int .u64 0), 1, 8) := by kernel_rfl
theorem objs_cell (u : World) (v : Value) (T : TypeId) (o : Obj) : ((u.alloc (.cells #[v] T)).alloc o).cell? ⟨u.heap.size, 0, none⟩ = some v := by
 rw [World.cell?_alloc_lt _ _ _ (by simp), cell_new]; rfl
theorem cell_new1 (u : World) (v : Value) (T : TypeId) : (u.alloc (.cells #[v] T)).cell? ⟨u.heap.size, 0, none⟩ = some v := by rw [cell_new]; rfl
theorem cell_new2 (u : World) (o : Obj) (v : Value) (T : TypeId) (b : Nat) (hb : b = u.heap.size + 1) : ((u.alloc o).alloc (.cells #[v] T)).cell? ⟨b, 0, none⟩ = some v := by
 have := cell_new (u.alloc o) #[v] T (0, 0) 0
 simp only [World.size_alloc] at this
 rw [hb, this]; rfl
theorem Chg.setCells (b : Nat) : ∀ (vs : List Value) (o : Nat) (w : World), Chg (fun k => k = b) w (w.setCells b o vs)
 | [], _, w => Chg.refl _ w
 | v :: r, o, w => ((Chg.refl (fun k => k = b) w).setCell (p := ⟨b, o, none⟩) (.inl rfl) v).trans (Chg.setCells b r (o + 1) (w.setCell ⟨b, o, none⟩ v))
set_option maxHeartbeats 2000000 in
theorem rep_store (w : World) (b : Nat) (ev wv : Value) (r : RepD) (h : w.heap[b]? = some (.cells #[.slice none 0 0, .slice none 0 0, .int .i64 0, .int .i64 0, .int .i64 0, .int .i64 0, .int .i64 0, .int .i64 0, .int .i64 0] 32 (0, 0))) (h1 : ev.oneCell' = true) (h2 : wv.oneCell' = true) :
  ∃ (cs : Array Value) (w7 : World), repV ev wv r = .agg cs ∧ cs.size = 9 ∧ (storeCells ⟨b, 0, none⟩ cs.toList).run Tryz.prog w = .ok () w7 ∧ w7.heap[b]? = some (.cells cs 32 (0, 0)) ∧ Chg (fun k => k = b) w w7 := by
 refine ⟨#[ev, wv, .int .i64 (r.c.read : Int), .int .i64 (r.c.write : Int), .int .i64 (r.c.swap : Int), .int .i64 (r.c.add : Int), .int .i64 (r.c.fault : Int), .int .i64 (r.ticks : Int), .int .i64 (r.idle : Int)], _, rfl, rfl, run_storeCells_cells (P := Tryz.prog) b 0 _ 0 w (fun j hj => ?_) (fun j hj => frozen_blk h _) (fun v hv => ?_), ?_, ?_⟩
 ·rw [cell_blk h]
  have : j < 9 := by simpa using hj
  rw [Array.getElem?_eq_getElem (by simpa using this)]; rfl
 ·simp only [List.mem_cons, List.not_mem_nil, or_false] at hv
  rcases hv with rfl | rfl | rfl | rfl | rfl | rfl | rfl | rfl | rfl
  ·exact h1
  ·exact h2
  all_goals rfl
 ·simp only [World.setCells, Nat.reduceAdd]
  rw [(blk_set (blk_set (blk_set (blk_set (blk_set (blk_set (blk_set (blk_set (blk_set h _ _) _ _) _ _) _ _) _ _) _ _) _ _) _ _) _ _)]
  simp only [zq4, zq5, zq6]
 ·exact Chg.setCells b _ _ w
theorem rep_info : (Tryz.prog.info? 32).map (·.size) = some 9 := by kernel_rfl
theorem rep_load (w : World) (b : Nat) (cs : Array Value) (h : w.heap[b]? = some (.cells cs 32 (0, 0))) (hc : cs.size = 9) : (loadVar 32 ⟨b, 0, none⟩).run Tryz.prog w = .ok (.agg cs) w := by
 have := run_loadVar_mid (P := Tryz.prog) w b 0 32 cs.toList _ (fun j v hv => by rw [Nat.zero_add, cell_blk h]; simpa using hv) Tryz.underlying32 rfl (by rw [rep_info]; simp [hc])
 simpa using this
end
section

/- Layer 7: cons.Play. -/
open Go.RowKit
end
end Go.Proofs.YteffgpcjfnjlkaaGreat
