/- A reference's play: what it keeps, in plain numbers. -/
import Derived.Test.YteffgpcjfnjlkaaGreatT18
import Derived.Test.YteffgpcjfnjlkaaGreatT26
import Derived.Test.YteffgpcjfnjlkaaGreatT12
set_option maxRecDepth 100000
set_option linter.unusedVariables false
set_option linter.unusedSimpArgs false
set_option linter.unnecessarySimpa false
namespace Go.Proofs.YteffgpcjfnjlkaaGreat
section
open Go.RowKit
def fr (t : TapeP) : Nat := if t.fresh = true then 1 else 0
structure Runs (t : TapeP) (r : RWD) (t' : TapeP) (r' : RWD) : Prop where
 ws : r'.mem.ws.length = r.mem.ws.length
 now : r'.now = r.now
 all : r'.mem.c.all + fr t' ≤ r.mem.c.all + fr t
 got : t'.got.length + fr t' ≤ t.got.length + fr t
 thread : t'.thread = t.thread
 inv : t'.inv = t.inv
theorem Runs.refl (t : TapeP) (r : RWD) : Runs t r t r := ⟨rfl, rfl, Nat.le_refl _, Nat.le_refl _, rfl, rfl⟩
theorem Runs.trans {t t1 t2 : TapeP} {r r1 r2 : RWD} (h : Runs t r t1 r1) (k : Runs t1 r1 t2 r2) : Runs t r t2 r2 := ⟨k.ws.trans h.ws, k.now.trans h.now, Nat.le_trans k.all h.all, Nat.le_trans k.got h.got, k.thread.trans h.thread, k.inv.trans h.inv⟩
theorem Runs.acc (kd a : Int) (x y : Nat) (t : TapeP) (r : RWD) : Runs t r (accP kd a x y t r).2.1 (accP kd a x y t r).2.2 := by
 unfold accP
 by_cases h1 : t.halt = true
 ·rw [if_pos h1]; exact Runs.refl _ _
 rw [if_neg h1]
 by_cases h2 : t.at_ < t.got.length
 ·rw [if_pos h2]; exact ⟨rfl, rfl, Nat.le_refl _, Nat.le_refl _, rfl, rfl⟩
 rw [if_neg h2]
 by_cases h3 : t.fresh = true
 ·rw [if_pos h3]
  refine ⟨memAcc_len, rfl, ?_, ?_, rfl, rfl⟩
  ·simp only [fr, memAcc_all, h3]; simp
  ·simp only [fr, h3, List.length_append, List.length_singleton]; simp
 ·rw [if_neg h3]; exact ⟨rfl, rfl, Nat.le_refl _, Nat.le_refl _, rfl, rfl⟩
structure DoB (dO : CallD → TapeP → RWD → TapeP × RWD) : Prop where
 runs : ∀ c t r, Runs t r (dO c t r).1 (dO c t r).2
 priv : ∀ c t r, t.priv.length ≤ 1000 → (dO c t r).1.priv.length ≤ 1000
structure RGood (n sz : Nat) (calls : List CallD) (s : RefS) : Prop where
 hl : s.hands.length = n
 fl : s.fin.length = calls.length
 ws : s.rw.mem.ws.length = sz
 all : s.rw.mem.c.all ≤ s.rw.now
 el : s.evs.length ≤ s.rw.now
 st : ∀ j, (evAt s.evs j).steps ≤ s.rw.now
 hand : ∀ p, p < n → (s.hands.getD p rh0).got.length ≤ s.rw.now ∧ (s.hands.getD p rh0).own.length ≤ 1000 ∧ ((s.hands.getD p rh0).opn = true → (s.hands.getD p rh0).ev < s.evs.length ∧ (evAt s.evs (s.hands.getD p rh0).ev).call < calls.length ∧ (calls.getD (evAt s.evs (s.hands.getD p rh0).ev).call d0).obj = 0)
theorem evAt_mod {l : List EvD} {k : Nat} {f : EvD → EvD} (hf : ∀ e, (f e).call = e.call) (j : Nat) : (evAt (modEv l k f) j).call = (evAt l j).call := by
 unfold modEv
 by_cases hk : k < l.length
 ·rw [evAt_set _ hk]
  split
  ·rename_i e; rw [hf, e]; rfl
  ·rfl
 ·rw [List.set_eq_of_length_le (by omega)]
theorem rgood0 (n sz : Nat) (calls : List CallD) : RGood n sz calls (ref0 n sz calls) := by
 refine ⟨List.length_replicate .., List.length_replicate .., List.length_replicate .., Nat.le_refl _, Nat.zero_le _, fun j => Nat.le_refl 0, fun p hp => ?_⟩
 show ((List.replicate n rh0).getD p rh0).got.length ≤ _ ∧ ((List.replicate n rh0).getD p rh0).own.length ≤ _ ∧ (((List.replicate n rh0).getD p rh0).opn = true → _)
 rw [rep_getD9 n p rh0]
 exact ⟨Nat.zero_le _, Nat.zero_le _, fun e => by cases e⟩
variable {n sz : Nat} {calls : List CallD} {s : RefS} {dO : CallD → TapeP → RWD → TapeP × RWD}
theorem RGood.tick (h : RGood n sz calls s) : RGood n sz calls { s with rw := s.rw.tick } :=
 ⟨h.hl, h.fl, h.ws, Nat.le_succ_of_le h.all, Nat.le_succ_of_le h.el, fun j => Nat.le_succ_of_le (h.st j), fun p hp => ⟨Nat.le_succ_of_le (h.hand p hp).1, (h.hand p hp).2⟩⟩
theorem RGood.open_ (h : RGood n sz calls s) {q i : Nat} (hi : i < calls.length) (hq : q < n) : ((ropen s q i).hands.getD q rh0).opn = true ∧ ((ropen s q i).hands.getD q rh0).ev < (ropen s q i).evs.length ∧ (ropen s q i).hands.length = n ∧ (ropen s q i).fin = s.fin ∧ (ropen s q i).rw.mem = s.rw.mem ∧ (ropen s q i).rw.now = s.rw.now ∧
  (∀ p, p < n → ((ropen s q i).hands.getD p rh0).got.length ≤ s.rw.now ∧ ((ropen s q i).hands.getD p rh0).own.length ≤ 1000) ∧ (evAt (ropen s q i).evs ((ropen s q i).hands.getD q rh0).ev).call < calls.length ∧
  (∀ p, p < n → p ≠ q → ((ropen s q i).hands.getD p rh0).opn = true → ((ropen s q i).hands.getD p rh0).ev < (ropen s q i).evs.length ∧ (evAt (ropen s q i).evs ((ropen s q i).hands.getD p rh0).ev).call < calls.length ∧ (calls.getD (evAt (ropen s q i).evs ((ropen s q i).hands.getD p rh0).ev).call d0).obj = 0) ∧ (∀ j, (evAt (ropen s q i).evs j).steps ≤ s.rw.now) := by
 unfold ropen
 by_cases ho : (s.hands.getD q rh0).opn = true
 ·rw [if_pos ho]
  exact ⟨ho, ((h.hand q hq).2.2 ho).1, h.hl, rfl, rfl, rfl, fun p hp => ⟨(h.hand p hp).1, (h.hand p hp).2.1⟩, ((h.hand q hq).2.2 ho).2.1, fun p hp _ => (h.hand p hp).2.2, h.st⟩
 ·rw [if_neg ho]
  have hql : q < s.hands.length := by rw [h.hl]; exact hq
  have hb : (rbegin s q i).hands.getD q rh0 = ⟨true, s.evs.length, s.rw.now, [], [], (s.hands.getD q rh0).own⟩ := getD_set_eq hql
  have ho : ∀ p, p ≠ q → (rbegin s q i).hands.getD p rh0 = s.hands.getD p rh0 := fun p hp => getD_set_neq (Ne.symm hp)
  have hel : (rbegin s q i).evs.length = s.evs.length + 1 := by show (s.evs ++ [_]).length = _; simp
  have hlast : (evAt (rbegin s q i).evs s.evs.length).call = i := by show (evAt (s.evs ++ [_]) s.evs.length).call = i; unfold evAt; rw [List.getD_eq_getElem?_getD, List.getElem?_append_right (Nat.le_refl _), Nat.sub_self]; rfl
  have hold : ∀ j, j < s.evs.length → evAt (rbegin s q i).evs j = evAt s.evs j := fun j hj => by show evAt (s.evs ++ [_]) j = _; unfold evAt; rw [List.getD_eq_getElem?_getD, List.getD_eq_getElem?_getD, List.getElem?_append_left hj]
  refine ⟨by rw [hb], by rw [hb, hel]; exact Nat.lt_succ_self _, by show (s.hands.set q _).length = n; rw [List.length_set]; exact h.hl, rfl, rfl, rfl, fun p hp => ?_, by rw [hb]; simp only; rw [hlast]; exact hi, fun p hp hpq e => ?_, fun j => ?_⟩
  ·by_cases e : p = q
   ·subst e; rw [hb]; exact ⟨Nat.zero_le _, (h.hand p hp).2.1⟩
   ·rw [ho p e]; exact ⟨(h.hand p hp).1, (h.hand p hp).2.1⟩
  ·rw [ho p hpq] at e ⊢
   obtain ⟨e1, e2, e3⟩ := (h.hand p hp).2.2 e
   rw [hold _ e1]
   exact ⟨by rw [hel]; omega, e2, e3⟩
  ·by_cases hj : j < s.evs.length
   ·rw [hold j hj]; exact h.st j
   ·show (evAt (s.evs ++ [_]) j).steps ≤ _
    unfold evAt
    rw [List.getD_eq_getElem?_getD, List.getElem?_append_right (by omega)]
    cases hx : j - s.evs.length with
    | zero => exact Nat.zero_le _
    | succ m => exact Nat.zero_le _
theorem RGood.pick (D : DoB dO) (h : RGood n sz calls s) (hthr : ∀ c, c < calls.length → 0 ≤ (calls.getD c d0).thread ∧ (calls.getD c d0).thread < (n : Int)) (hcall : ∀ p, p < n → (s.hands.getD p rh0).opn = true → nowN calls s.fin (p : Int) = some (evAt s.evs (s.hands.getD p rh0).ev).call) (x : Int) : RGood n sz calls (rpick dO calls s x) := by
 unfold rpick
 cases hN : nowN calls s.fin x with
 | none => exact ⟨h.hl, h.fl, h.ws, h.all, h.el, h.st, h.hand⟩
 | some i =>
  obtain ⟨n1, n2, n3⟩ := nowN_spec hN
  obtain ⟨t1, t2⟩ := hthr i n1
  obtain ⟨q, rfl⟩ : ∃ q : Nat, x = (q : Int) := ⟨x.toNat, by omega⟩
  have hq : q < n := by omega
  simp only [Int.toNat_natCast]
  obtain ⟨o1, o2, o3, o4, o5, o6, o7, o8, o9, _⟩ := h.tick.open_ n1 hq
  obtain ⟨s1, hs1⟩ : ∃ s1, s1 = ropen { s with rw := s.rw.tick } q i := ⟨_, rfl⟩
  have hev0 : (evAt s1.evs (s1.hands.getD q rh0).ev).call = i := by
   rw [hs1]
   unfold ropen
   by_cases ho : (s.hands.getD q rh0).opn = true
   ·rw [if_pos (show ((({ s with rw := s.rw.tick } : RefS).hands.getD q rh0).opn = true) from ho)]
    have := hcall q hq ho
    rw [hN] at this
    simpa using this.symm
   ·rw [if_neg (show ¬ ((({ s with rw := s.rw.tick } : RefS).hands.getD q rh0).opn = true) from ho)]
    have hql : q < s.hands.length := by rw [h.hl]; exact hq
    have hb : (rbegin { s with rw := s.rw.tick } q i).hands.getD q rh0 = ⟨true, s.evs.length, s.rw.now + 1, [], [], (s.hands.getD q rh0).own⟩ := getD_set_eq hql
    rw [hb]
    show (evAt (s.evs ++ [_]) s.evs.length).call = i
    unfold evAt; rw [List.getD_eq_getElem?_getD, List.getElem?_append_right (Nat.le_refl _), Nat.sub_self]; rfl
  have hst9 : ∀ j, (evAt s1.evs j).steps ≤ s.rw.now := fun j => by
   rw [hs1]; unfold ropen
   split
   ·exact h.st j
   ·show (evAt (s.evs ++ [_]) j).steps ≤ _
    by_cases hj : j < s.evs.length
    ·have h9 := h.st j
     unfold evAt at h9 ⊢
     rw [List.getD_eq_getElem?_getD] at h9 ⊢
     rw [List.getElem?_append_left hj]; exact h9
    ·unfold evAt
     rw [List.getD_eq_getElem?_getD, List.getElem?_append_right (by omega)]
     cases hx : j - s.evs.length with
     | zero => exact Nat.zero_le _
     | succ m => exact Nat.zero_le _
  have hste : ∀ (l : List EvD) (k j N : Nat) (f : EvD → EvD), (∀ e, (f e).steps ≤ e.steps + 1) → (∀ j, (evAt l j).steps ≤ N) → (evAt (modEv l k f) j).steps ≤ N + 1 := fun l k j N f hf hl => by
   unfold modEv
   by_cases hk : k < l.length
   ·rw [evAt_set _ hk]
    split
    ·have h8 := hf (l.getD k ev0); have h9 := hl k; unfold evAt at h9; omega
    ·exact Nat.le_succ_of_le (hl j)
   ·rw [List.set_eq_of_length_le (by omega)]; exact Nat.le_succ_of_le (hl j)
  rw [← hs1] at o1 o2 o3 o4 o5 o6 o7 o8 o9 ⊢
  obtain ⟨c, hc⟩ : ∃ c, c = calls.getD i d0 := ⟨_, rfl⟩
  rw [← hc]
  obtain ⟨hh, hhh⟩ : ∃ hh, hh = s1.hands.getD q rh0 := ⟨_, rfl⟩
  have hql : q < s1.hands.length := by rw [o3]; exact hq
  have R : Runs (hh.tape q) s1.rw (rdo dO c (hh.tape q) s1.rw).1 (rdo dO c (hh.tape q) s1.rw).2 := by
   unfold rdo
   split
   ·exact ⟨rfl, rfl, Nat.le_refl _, Nat.le_refl _, rfl, rfl⟩
   ·exact D.runs _ _ _
  have hpr : c.obj = 0 → (rdo dO c (hh.tape q) s1.rw).1.priv.length ≤ 1000 := fun e => by
   unfold rdo
   rw [if_neg (fun x => x e)]
   exact D.priv _ _ _ (by show hh.own.length ≤ 1000; rw [hhh]; exact (o7 q hq).2)
  have hobj : (rdo dO c (hh.tape q) s1.rw).1.halt = true → c.obj = 0 := fun e => by
   unfold rdo at e
   by_cases h0 : c.obj = 0
   ·exact h0
   ·rw [if_pos h0] at e; cases e
  have hfr : fr (hh.tape q) = 1 := rfl
  have hall : (rdo dO c (hh.tape q) s1.rw).2.mem.c.all ≤ (rdo dO c (hh.tape q) s1.rw).2.now := by
   have := R.all; have h2 := R.now; have h3 : s1.rw.now = s.rw.now + 1 := o6
   have h4 : s1.rw.mem.c.all = s.rw.mem.c.all := congrArg (fun m => m.c.all) o5
   have := h.all; omega
  have hgot : (rdo dO c (hh.tape q) s1.rw).1.got.length ≤ (rdo dO c (hh.tape q) s1.rw).2.now := by
   have h1 := R.got; have h2 := R.now; have h3 : s1.rw.now = s.rw.now + 1 := o6
   have h5 : (hh.tape q).got.length ≤ s.rw.now + 1 := by show hh.got.length ≤ _; rw [hhh]; exact (o7 q hq).1
   by_cases ho : (s.hands.getD q rh0).opn = true
   ·have h6 : hh = s.hands.getD q rh0 := by rw [hhh, hs1]; unfold ropen; rw [if_pos (show ((({ s with rw := s.rw.tick } : RefS).hands.getD q rh0).opn = true) from ho)]
    have h7 : (hh.tape q).got.length ≤ s.rw.now := by show hh.got.length ≤ _; rw [h6]; exact (h.hand q hq).1
    omega
   ·have h6 : hh.got = [] := by
     rw [hhh, hs1]; unfold ropen
     rw [if_neg (show ¬ ((({ s with rw := s.rw.tick } : RefS).hands.getD q rh0).opn = true) from ho)]
     have hq2 : q < s.hands.length := by rw [h.hl]; exact hq
     have hb : (rbegin { s with rw := s.rw.tick } q i).hands.getD q rh0 = ⟨true, s.evs.length, s.rw.now + 1, [], [], (s.hands.getD q rh0).own⟩ := getD_set_eq hq2
     rw [hb]
    have h7 : (hh.tape q).got.length = 0 := by show hh.got.length = 0; rw [h6]; rfl
    omega
  have hel9 : s1.evs.length ≤ s.rw.now + 1 := by
   rw [hs1]; unfold ropen
   split
   ·have := h.el; show s.evs.length ≤ _; omega
   ·have := h.el; show (s.evs ++ [_]).length ≤ _; simp; omega
  have hws : (rdo dO c (hh.tape q) s1.rw).2.mem.ws.length = sz := by rw [R.ws, o5]; exact h.ws
  have hnow9 : (rdo dO c (hh.tape q) s1.rw).2.now = s.rw.now + 1 := by rw [R.now]; exact o6
  unfold rgo
  rw [← hhh]
  by_cases hz : (rdo dO c (hh.tape q) s1.rw).1.halt = true
  ·rw [if_pos hz]
   refine ⟨by simpa using o3, by simp only; rw [o4]; exact h.fl, hws, hall, by simp only; rw [modEv_length, hnow9]; exact hel9, fun j => by simp only; rw [hnow9]; exact hste _ _ _ _ _ (fun e => Nat.le_refl _) hst9, fun p hp => ?_⟩
   simp only
   rw [modEv_length]
   by_cases e : p = q
   ·subst e
    rw [getD_set_eq hql]
    refine ⟨hgot, by simp only; rw [hhh]; exact (o7 p hp).2, fun _ => ⟨by simp only; rw [hhh]; exact o2, ?_, ?_⟩⟩
    ·simp only; rw [evAt_mod (f := stepEv) (fun _ => rfl), hhh]; exact o8
    ·simp only; rw [evAt_mod (f := stepEv) (fun _ => rfl), hhh, hev0, ← hc]; exact hobj hz
   ·rw [getD_set_neq (Ne.symm e)]
    refine ⟨by rw [hnow9]; exact (o7 p hp).1, (o7 p hp).2, fun e9 => ?_⟩
    rw [evAt_mod (f := stepEv) (fun _ => rfl)]
    exact o9 p hp e e9
  ·rw [if_neg hz]
   refine ⟨by simpa using o3, by simp only [List.length_set]; rw [o4]; exact h.fl, hws, hall, by simp only; rw [modEv_length, modEv_length, hnow9]; exact hel9, fun j => ?_, fun p hp => ?_⟩
   ·simp only
    rw [hnow9]
    have h8 : ∀ j, (evAt (modEv s1.evs hh.ev stepEv) j).steps ≤ s.rw.now + 1 := fun j => hste _ _ _ _ _ (fun e => Nat.le_refl _) hst9
    unfold modEv at h8 ⊢
    by_cases hk : hh.ev < (s1.evs.set hh.ev (stepEv (s1.evs.getD hh.ev ev0))).length
    ·rw [evAt_set _ hk]
     split
     ·exact h8 hh.ev
     ·exact h8 j
    ·rw [List.set_eq_of_length_le (by omega)]; exact h8 j
   simp only
   rw [modEv_length, modEv_length]
   by_cases e : p = q
   ·subst e
    rw [getD_set_eq hql]
    refine ⟨hgot, ?_, fun e => by cases e⟩
    simp only
    split
    ·rename_i h0; exact hpr h0
    ·rw [hhh]; exact (o7 p hp).2
   ·rw [getD_set_neq (Ne.symm e)]
    refine ⟨by rw [hnow9]; exact (o7 p hp).1, (o7 p hp).2, fun e9 => ?_⟩
    rw [evAt_mod (f := rdone (rdo dO c (hh.tape q) s1.rw).2 q (rdo dO c (hh.tape q) s1.rw).1) (fun _ => rfl), evAt_mod (f := stepEv) (fun _ => rfl)]
    exact o9 p hp e e9
end
section

/- A reference's play under way: an event's cells are written. -/
open Go.RowKit
variable {w0 w w' : World} {J : RJ} {s s' : RefS} {hl hl' : List Value} {vs vs' : List HV} {G K L : Value} {ea ea' : Option Addr} {ec ec' : Nat} {ers ers' : List (Value × Value)} {p : Nat} {t : TapeP} {r : RWD}
theorem LogM.grown (h : LogM w0 w J p s hl vs G K L ea ec ers t r) (hb : Below w.heap.size w w') : LogM w0 w' J p s hl vs G K L ea ec ers t r := ⟨(h.tape.grown hb).1, h.rest.grown hb, h.hp, h.opn, h.thr, h.inv, h.ge⟩
theorem LogM.ev_some (h : LogM w0 w J p s hl vs G K L ea ec ers t r) {k : Nat} (hk : k < s.evs.length) : ∃ g, ea = some ⟨g, 0, none⟩ ∧ g < w.heap.size ∧ ∀ f, f < 8 → w.cell? ⟨g, k * 8 + f, none⟩ = (evCells (s.evs.getD k ev0) (ers.getD k vv0))[f]? ∧ w.frozen? ⟨g, k * 8 + f, none⟩ = false := by
 obtain ⟨g, c, h1, h2, h3⟩ := h.rest.evs.form (by omega)
 simp only [Value.slice.injEq] at h1
 obtain ⟨rfl, _, _⟩ := h1
 have hr := h.rest.evs
 obtain ⟨_, _, hty⟩ := row_type hr (b := g) rfl
 exact ⟨g, rfl, blk_lt hty, fun f hf => ⟨by rw [hr.cellAt _ (by omega), evRow_get _ _ _ _ h.rest.lens.2.2.2.symm hk hf], hr.frozenAt _⟩⟩
theorem LogM.store (h : LogM w0 w J p s hl vs G K L ea ec ers t r) {k f g : Nat} {u : Value} {e' : EvD} {v' : Value × Value} (hk : k < s.evs.length) (hev : ea = some ⟨g, 0, none⟩) (hf : f < 8) (hs : (evCells (s.evs.getD k ev0) (ers.getD k vv0)).set f u = evCells e' v')
  (hl9 : LstU w (RMut (rids J p hl vs (.slice ea s.evs.length ec)) G K L) v'.1 e'.ans.list) (hkk : Lst w (RMut (rids J p hl vs (.slice ea s.evs.length ec)) G K L) v'.2 e'.key) :
  LogM w0 (w.setCell ⟨g, k * 8 + f, none⟩ u) J p { s with evs := s.evs.set k e' } hl vs G K L ea ec (ers.set k v') t r := by
 subst hev
 have hc : Chg (fun b => b = g) w (w.setCell ⟨g, k * 8 + f, none⟩ u) := (Chg.refl (fun b => b = g) w).setCell (p := ⟨g, k * 8 + f, none⟩) (.inl rfl) _
 have hM : ∀ b, b = g → RMut (rids J p hl vs (.slice (some ⟨g, 0, none⟩) s.evs.length ec)) G K L b := fun b e => .inr (.inr (.inr (.inl (by rw [e]; rfl))))
 have hel := h.rest.lens.2.2.2
 refine h.evs hc (fun b e => by rw [e]; rfl) (s.evs.set k e') (by simp) (by simpa using hel) ?_ (fun i hi => ?_)
 ·rw [← evRow_set _ _ _ _ u _ _ hel.symm hk hf hs]
  exact (h.rest.evs.stored _ _).1
 ·by_cases e : k = i
  ·subst e
   rw [getD_set_eq (by omega), getD_set_eq hk]
   exact ⟨hl9.keep hc hM (MutUp.refl _ _), hkk.keep hc hM (MutUp.refl _ _)⟩
  ·rw [getD_set_neq e, getD_set_neq e]
   have hi' : i < s.evs.length := by simpa using hi
   exact ⟨(h.rest.lie i hi').1.keep hc hM (MutUp.refl _ _), (h.rest.lie i hi').2.keep hc hM (MutUp.refl _ _)⟩
theorem LogM.stepped (h : LogM w0 w J p s hl vs G K L ea ec ers t r) {k g : Nat} (hk : k < s.evs.length) (hev : ea = some ⟨g, 0, none⟩) :
  LogM w0 (w.setCell ⟨g, k * 8 + 3, none⟩ (.int .i64 (((s.evs.getD k ev0).steps : Int) + 1))) J p { s with evs := modEv s.evs k stepEv } hl vs G K L ea ec (ers.set k (ers.getD k vv0)) t r := by
 have hli := h.rest.lie k hk
 have hs : ∀ (e : EvD) (v : Value × Value), (evCells e v).set 3 (.int .i64 ((e.steps : Int) + 1)) = evCells (stepEv e) v := fun e v => by
  unfold evCells stepEv natV
  simp
 have h9 := h.store (k := k) (f := 3) (g := g) (u := .int .i64 (((s.evs.getD k ev0).steps : Int) + 1)) (e' := stepEv (s.evs.getD k ev0)) (v' := ers.getD k vv0) hk hev (by omega) (hs _ _) hli.1 hli.2
 exact h9
set_option maxHeartbeats 400000 in
theorem LogM.done8 (h : LogM w0 w J p s hl vs G K L ea ec ers t r) {k g la' lc : Nat} {la : Option Addr} {kv : Value} (hk : k < s.evs.length) (hev : ea = some ⟨g, 0, none⟩) (hLV : LstU w (RMut (rids J p hl vs (.slice ea s.evs.length ec)) G K L) (.slice la t.list.length lc) t.list) (hKV : Lst w (RMut (rids J p hl vs (.slice ea s.evs.length ec)) G K L) kv (rkey r p t.key)) :
  ∃ ers', LogM w0 ((((((((w.setCell ⟨g, k * 8, none⟩ (natV (s.evs.getD k ev0).call)).setCell ⟨g, k * 8 + 1, none⟩ (natV (s.evs.getD k ev0).inv)).setCell ⟨g, k * 8 + 2, none⟩ (natV r.now)).setCell ⟨g, k * 8 + 3, none⟩ (natV (s.evs.getD k ev0).steps)).setCell ⟨g, k * 8 + 4, none⟩ (.int .i64 t.err)).setCell ⟨g, k * 8 + 5, none⟩ (.int .u64 (t.val : Int))).setCell ⟨g, k * 8 + 6, none⟩ (.slice la t.list.length lc)).setCell ⟨g, k * 8 + 7, none⟩ kv) J p
   { s with evs := modEv s.evs k (rdone r p t) } hl vs G K L ea ec ers' t r := by
 obtain ⟨e, he⟩ : ∃ e, e = s.evs.getD k ev0 := ⟨_, rfl⟩
 obtain ⟨v, hv⟩ : ∃ v, v = ers.getD k vv0 := ⟨_, rfl⟩
 have hkr : k < ers.length := by rw [h.rest.lens.2.2.2]; exact hk
 have hli := h.rest.lie k hk
 rw [← he, ← hv] at hli
 subst hev
 have hcS : ∀ (u : World) (f : Nat) (x : Value), Chg (fun b => b = g) u (u.setCell ⟨g, k * 8 + f, none⟩ x) := fun u f x => (Chg.refl (fun b => b = g) u).setCell (p := ⟨g, k * 8 + f, none⟩) (.inl rfl) _
 have hM : ∀ b, b = g → RMut (rids J p hl vs (.slice (some ⟨g, 0, none⟩) s.evs.length ec)) G K L b := fun b e => .inr (.inr (.inr (.inl (by rw [e]; rfl))))
 have keep : ∀ (u : World), Chg (fun b => b = g) w u → LstU u (RMut (rids J p hl vs (.slice (some ⟨g, 0, none⟩) s.evs.length ec)) G K L) v.1 e.ans.list ∧ Lst u (RMut (rids J p hl vs (.slice (some ⟨g, 0, none⟩) s.evs.length ec)) G K L) v.2 e.key ∧ LstU u (RMut (rids J p hl vs (.slice (some ⟨g, 0, none⟩) s.evs.length ec)) G K L) (.slice la t.list.length lc) t.list ∧ Lst u (RMut (rids J p hl vs (.slice (some ⟨g, 0, none⟩) s.evs.length ec)) G K L) kv (rkey r p t.key) := fun u hu =>
  ⟨hli.1.keep hu hM (MutUp.refl _ _), hli.2.keep hu hM (MutUp.refl _ _), hLV.keep hu hM (MutUp.refl _ _), hKV.keep hu hM (MutUp.refl _ _)⟩
 have st : ∀ (u : World) (es : List EvD) (rs : List (Value × Value)) (f : Nat) (x : Value) (e1 e2 : EvD) (v1 v2 : Value × Value), es.length = s.evs.length → LogM w0 u J p { s with evs := es.set k e1 } hl vs G K L (some ⟨g, 0, none⟩) ec (rs.set k v1) t r → k < es.length → k < rs.length → f < 8 → (evCells e1 v1).set f x = evCells e2 v2 →
   LstU u (RMut (rids J p hl vs (.slice (some ⟨g, 0, none⟩) s.evs.length ec)) G K L) v2.1 e2.ans.list → Lst u (RMut (rids J p hl vs (.slice (some ⟨g, 0, none⟩) s.evs.length ec)) G K L) v2.2 e2.key → LogM w0 (u.setCell ⟨g, k * 8 + f, none⟩ x) J p { s with evs := es.set k e2 } hl vs G K L (some ⟨g, 0, none⟩) ec (rs.set k v2) t r := fun u es rs f x e1 e2 v1 v2 hes hm hke hkr hf hs h1 h2 => by
  have h9 := hm.store (k := k) (f := f) (g := g) (u := x) (e' := e2) (v' := v2) (by simpa using hke) rfl hf (by rw [getD_set_eq hke, getD_set_eq hkr]; exact hs) (by simp only [List.length_set, hes]; exact h1) (by simp only [List.length_set, hes]; exact h2)
  simp only [List.set_set] at h9
  exact h9
 have h0 : LogM w0 w J p { s with evs := s.evs.set k e } hl vs G K L (some ⟨g, 0, none⟩) ec (ers.set k v) t r := by
  have e1 : s.evs.set k e = s.evs := by rw [he, List.getD_eq_getElem?_getD, List.getElem?_eq_getElem hk]; simp
  have e2 : ers.set k v = ers := by rw [hv, List.getD_eq_getElem?_getD, List.getElem?_eq_getElem hkr]; simp
  rw [e1, e2]; exact h
 have hm : modEv s.evs k (rdone r p t) = s.evs.set k (rdone r p t e) := by rw [he]; rfl
 rw [← he, hm]
 have k0 := keep w (Chg.refl _ _)
 have h1 := st _ _ _ 0 (natV e.call) e e v v rfl h0 hk hkr (by omega) rfl k0.1 k0.2.1
 have c1 := hcS w 0 (natV e.call)
 have h2 := st _ _ _ 1 (natV e.inv) e e v v rfl h1 hk hkr (by omega) rfl (keep _ c1).1 (keep _ c1).2.1
 have c2 := c1.trans (hcS _ 1 (natV e.inv))
 have h3 := st _ _ _ 2 (natV r.now) e { e with resp := r.now } v v rfl h2 hk hkr (by omega) rfl (keep _ c2).1 (keep _ c2).2.1
 have c3 := c2.trans (hcS _ 2 (natV r.now))
 have h4 := st _ _ _ 3 (natV e.steps) { e with resp := r.now } { e with resp := r.now } v v rfl h3 hk hkr (by omega) rfl (keep _ c3).1 (keep _ c3).2.1
 have c4 := c3.trans (hcS _ 3 (natV e.steps))
 have h5 := st _ _ _ 4 (.int .i64 t.err) { e with resp := r.now } { e with resp := r.now, ans := ⟨t.err, e.ans.val, e.ans.list⟩ } v v rfl h4 hk hkr (by omega) rfl (keep _ c4).1 (keep _ c4).2.1
 have c5 := c4.trans (hcS _ 4 (.int .i64 t.err))
 have h6 := st _ _ _ 5 (.int .u64 (t.val : Int)) { e with resp := r.now, ans := ⟨t.err, e.ans.val, e.ans.list⟩ } { e with resp := r.now, ans := ⟨t.err, t.val, e.ans.list⟩ } v v rfl h5 hk hkr (by omega) rfl (keep _ c5).1 (keep _ c5).2.1
 have c6 := c5.trans (hcS _ 5 (.int .u64 (t.val : Int)))
 have h7 := st _ _ _ 6 (.slice la t.list.length lc) { e with resp := r.now, ans := ⟨t.err, t.val, e.ans.list⟩ } { e with resp := r.now, ans := ⟨t.err, t.val, t.list⟩ } v (.slice la t.list.length lc, v.2) rfl h6 hk hkr (by omega) rfl (keep _ c6).2.2.1 (keep _ c6).2.1
 have c7 := c6.trans (hcS _ 6 (.slice la t.list.length lc))
 have h8 := st _ _ _ 7 kv { e with resp := r.now, ans := ⟨t.err, t.val, t.list⟩ } (rdone r p t e) (.slice la t.list.length lc, v.2) (.slice la t.list.length lc, kv) rfl h7 hk hkr (by omega) rfl (keep _ c7).2.2.1 (keep _ c7).2.2.2
 simp only [Nat.add_zero] at h8
 exact ⟨_, h8⟩
end
end Go.Proofs.YteffgpcjfnjlkaaGreat
