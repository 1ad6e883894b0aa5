/- Layer 12: the door: what every play of one keeps, in plain numbers. -/
import Derived.Test.YteffgpcjfnjlkaaGreatP36
set_option maxRecDepth 100000
set_option linter.unusedVariables false
set_option linter.unusedSimpArgs false
set_option linter.unnecessarySimpa false
namespace Go.Proofs.YteffgpcjfnjlkaaGreat
section
open Go.RowKit
inductive DoS where
 | take (at_ ph : Nat)
 | once (c : CallD) (r : Int × Nat)
def doWrite (wd : WD) (p v : Nat) : WD := { wd with mem := memWrite wd.mem (p : Int) v }
def doorAct (c : CallD) (wd : WD) : WD × (Int × Nat) := (taRead wd c.a, (0, taGot wd c.a))
def doorS (n : Nat) : Sys where
 σ := DoS
 ω := Unit
 start := fun _ _ _ c => if c.kind = 0 then .run (.take 0 0) else if c.kind ≠ 1 then .refuse 9 else if c.a < n then .run (.once c (0, 0)) else .refuse 10
 step := fun _ wd p s => match s with
  | .take a v => if a < n then ((), taRead wd a, .take (a + 1) (max v (taGot wd a)), false) else ((), doWrite wd p (v + 1), .take a (v + 1), true)
  | .once c _ => ((), (doorAct c wd).1, .once c (doorAct c wd).2, true)
 answer := fun s => match s with
  | .take _ v => (⟨0, v, []⟩, [])
  | .once _ r => (⟨r.1, r.2, []⟩, [])
 late := fun _ _ _ _ => none
def doSeen (calls : List CallD) (evs : List EvD) (a iv v : Nat) : Prop := ∀ i, i < evs.length → isK calls 0 (evAt evs i) = true → (evAt evs i).resp < iv → tn calls (evAt evs i) < a → (evAt evs i).ans.val ≤ v
def doHand (n : Nat) (calls : List CallD) (st : PlayD (doorS n)) (p : Nat) (e : EvD) : DoS → Prop
 | .take a v => a ≤ n ∧ v ≤ cnt (tP4 calls st.wd.now) st.evs ∧ (p < a → st.wd.mem.ws.getD p 0 ≤ v) ∧ doSeen calls st.evs a e.inv v ∧ e.steps = a ∧ kindOf calls e = 0 ∧ 1 ≤ a
 | .once _ _ => False
def doDone (n : Nat) (calls : List CallD) (evs : List EvD) (e : EvD) : Prop :=
 e.steps ≤ n + 1 ∧ (objOf calls e = 0 → kindOf calls e = 0 → e.inv < e.resp ∧ 1 ≤ e.ans.val ∧ e.ans.val ≤ cnt (tP4 calls e.resp) evs ∧
  ∀ j, j < evs.length → isK calls 0 (evAt evs j) = true → (evAt evs j).resp < e.inv → (evAt evs j).ans.val < e.ans.val)
structure DoInv (n : Nat) (calls : List CallD) (st : PlayD (doorS n)) : Prop where
 wlen : st.wd.mem.ws.length = n
 top : ∀ t, t < n → st.wd.mem.ws.getD t 0 ≤ cnt (tP4 calls st.wd.now) st.evs
 low : ∀ i, i < st.evs.length → isK calls 0 (evAt st.evs i) = true → (evAt st.evs i).ans.val ≤ st.wd.mem.ws.getD (tn calls (evAt st.evs i)) 0
 hand : ∀ p s k, st.hands.getD p (none, 0) = (some s, k) → objOf calls (evAt st.evs k) = 0 ∧ doHand n calls st p (evAt st.evs k) s
 done : ∀ i, i < st.evs.length → (evAt st.evs i).resp ≠ 0 → doDone n calls st.evs (evAt st.evs i)
end
section

/- A door in the reference's play: plain numbers. -/
open Go.RowKit
def Bnd (t : TapeP) (r : RWD) : Prop := (∀ x, x ∈ t.got → x ≤ 1000000) ∧ ∀ x, x ∈ r.mem.ws → x ≤ 1000000
theorem memRead_ws (m : MemD) (a : Int) : (memRead m a).1.ws = m.ws := by unfold memRead MemD.fault; split <;> rfl
theorem Bnd.read {t : TapeP} {r : RWD} (h : Bnd t r) (a : Int) : (accP 0 a 0 0 t r).1 ≤ 1000000 ∧ Bnd (accP 0 a 0 0 t r).2.1 (accP 0 a 0 0 t r).2.2 := by
 have hm : (memRead r.mem a).2 ≤ 1000000 := by
  unfold memRead
  split
  ·exact Nat.zero_le _
  ·show r.mem.ws.getD _ 0 ≤ _
   rw [List.getD_eq_getElem?_getD]
   cases hx : r.mem.ws[a.toNat]? with
   | none => exact Nat.zero_le _
   | some x => exact h.2 x (List.mem_of_getElem? hx)
 cases hh : t.halt with
 | true => rw [accP_halt hh]; exact ⟨Nat.zero_le _, h⟩
 | false =>
  by_cases ha : t.at_ < t.got.length
  ·rw [accP_old hh ha]
   refine ⟨?_, h⟩
   show t.got.getD t.at_ 0 ≤ _
   rw [List.getD_eq_getElem?_getD, List.getElem?_eq_getElem ha]
   exact h.1 _ (List.getElem_mem ha)
  ·cases hf : t.fresh with
   | false => rw [accP_end hh ha hf]; exact ⟨Nat.zero_le _, h⟩
   | true =>
    rw [accP_fresh hh ha hf]
    refine ⟨hm, fun x hx => ?_, fun x hx => ?_⟩
    ·have hx' : x ∈ t.got ++ [(memRead r.mem a).2] := hx
     rcases List.mem_append.1 hx' with h9 | h9
     ·exact h.1 x h9
     ·rw [List.mem_singleton.1 h9]; exact hm
    ·have hx' : x ∈ (memRead r.mem a).1.ws := hx
     rw [memRead_ws] at hx'
     exact h.2 x hx'
end
section

/- Layer 13: the pool: what every play of one keeps, in plain numbers. -/
open Go.RowKit
inductive PoS where
 | take (a e m : Nat) (free : Bool) (r : Int × Nat)
 | once (c : CallD) (r : Int × Nat)
def poRef (a v : Nat) : Nat := a + 2 + v * 1024
def poolMem (c : CallD) (wd : WD) : MemD × Bool := memSwap wd.mem ((c.a % 1024 - 2 : Nat) : Int) (2 * (c.a / 1024) + 1) (2 * (c.a / 1024))
def poolAct (c : CallD) (wd : WD) : WD × (Int × Nat) := ({ wd with mem := (poolMem c wd).1 }, (if (poolMem c wd).2 then 0 else 8, 0))
def poBad (n k : Nat) (c : CallD) : Bool := decide (c.a % 1024 < 2) || decide (2 + n * k ≤ c.a % 1024) || decide (1099511627776 ≤ c.a / 1024)
def poolS (n k : Nat) : Sys where
 σ := PoS
 ω := Unit
 start := fun _ _ p c => if c.kind = 0 then .run (.take (p * k) (p * k + k) 0 false (0, 0)) else if c.kind ≠ 1 then .refuse 9 else if poBad n k c = true then .refuse 10 else .run (.once c (0, 0))
 step := fun _ wd _ s => match s with
  | .take a e m true r => ((), doWrite wd a (m + 3), .take a e m true (r.1, poRef a (m / 2 + 1)), true)
  | .take a e _ false r => if taGot wd a % 2 = 0 then ((), taRead wd a, .take a e (taGot wd a) true r, false) else if a + 1 < e then ((), taRead wd a, .take (a + 1) e (taGot wd a) false r, false) else ((), taRead wd a, .take (a + 1) e (taGot wd a) false (6, r.2), true)
  | .once c _ => ((), (poolAct c wd).1, .once c (poolAct c wd).2, true)
 answer := fun s => match s with
  | .take _ _ _ _ r => (⟨r.1, r.2, []⟩, [])
  | .once _ r => (⟨r.1, r.2, []⟩, [])
 late := fun _ _ _ _ => none
def argOf (calls : List CallD) (e : EvD) : Nat := (calls.getD e.call d0).a
def pIs (calls : List CallD) (kd : Int) (e : EvD) : Bool := isK calls kd e && decide (e.ans.err = 0)
theorem pIs_spec {calls : List CallD} {kd : Int} {e : EvD} : pIs calls kd e = true ↔ isK calls kd e = true ∧ e.ans.err = 0 := by unfold pIs; simp
theorem pIs_open {calls : List CallD} {kd : Int} {e : EvD} (h : e.resp = 0) : pIs calls kd e = false := by unfold pIs; rw [isK_open h]; rfl
theorem pIs_resp {calls : List CallD} {kd : Int} {e : EvD} (h : pIs calls kd e = true) : e.resp ≠ 0 := (isK_spec.1 (pIs_spec.1 h).1).2.2
def pRT (calls : List CallD) (lo hi t : Nat) (e : EvD) : Bool := pIs calls 0 e && decide (lo + 2 ≤ e.ans.val % 1024 ∧ e.ans.val % 1024 < hi + 2) && decide (e.resp < t)
def pRG (calls : List CallD) (lo hi t : Nat) (e : EvD) : Bool := pIs calls 1 e && decide (lo + 2 ≤ argOf calls e % 1024 ∧ argOf calls e % 1024 < hi + 2) && decide (e.resp < t)
theorem pRT_open {calls : List CallD} {lo hi t : Nat} (e : EvD) (h : e.resp = 0) : pRT calls lo hi t e = false := by unfold pRT; rw [pIs_open h]; rfl
theorem pRG_open {calls : List CallD} {lo hi t : Nat} (e : EvD) (h : e.resp = 0) : pRG calls lo hi t e = false := by unfold pRG; rw [pIs_open h]; rfl
theorem pRT_late {calls : List CallD} {lo hi t : Nat} {e : EvD} (h : e.resp = 0 ∨ t ≤ e.resp) : pRT calls lo hi t e = false := by
 rcases h with h | h
 ·exact pRT_open e h
 ·unfold pRT; rw [decide_eq_false (show ¬ e.resp < t by omega)]; simp
theorem pRG_late {calls : List CallD} {lo hi t : Nat} {e : EvD} (h : e.resp = 0 ∨ t ≤ e.resp) : pRG calls lo hi t e = false := by
 rcases h with h | h
 ·exact pRG_open e h
 ·unfold pRG; rw [decide_eq_false (show ¬ e.resp < t by omega)]; simp
theorem pRT_split {calls : List CallD} {lo a t : Nat} (h : lo ≤ a) {l : List EvD} : cnt (pRT calls lo (a + 1) t) l = cnt (pRT calls lo a t) l + cnt (pRT calls a (a + 1) t) l := by
 refine cnt_both fun i _ => ?_
 unfold pRT
 generalize evAt l i = e
 cases pIs calls 0 e with
 | false => simp
 | true =>
  by_cases hr : e.resp < t
  ·simp only [Bool.true_and, hr, decide_true, Bool.and_true, decide_eq_true_eq]
   refine ⟨?_, by omega⟩
   rw [← Bool.decide_or]
   exact decide_eq_decide.2 (by omega)
  ·simp [hr]
theorem pRG_split {calls : List CallD} {lo a t : Nat} (h : lo ≤ a) {l : List EvD} : cnt (pRG calls lo (a + 1) t) l = cnt (pRG calls lo a t) l + cnt (pRG calls a (a + 1) t) l := by
 refine cnt_both fun i _ => ?_
 unfold pRG
 generalize evAt l i = e
 cases pIs calls 1 e with
 | false => simp
 | true =>
  by_cases hr : e.resp < t
  ·simp only [Bool.true_and, hr, decide_true, Bool.and_true, decide_eq_true_eq]
   refine ⟨?_, by omega⟩
   rw [← Bool.decide_or]
   exact decide_eq_decide.2 (by omega)
  ·simp [hr]
theorem pRT_mono {calls : List CallD} {lo hi t t' : Nat} (h : t ≤ t') {l : List EvD} : cnt (pRT calls lo hi t) l ≤ cnt (pRT calls lo hi t') l := cnt_mono fun i _ hp => by
 unfold pRT at hp ⊢
 simp only [Bool.and_eq_true, decide_eq_true_eq] at hp ⊢
 exact ⟨hp.1, by omega⟩
theorem pRG_mono {calls : List CallD} {lo hi t t' : Nat} (h : t ≤ t') {l : List EvD} : cnt (pRG calls lo hi t) l ≤ cnt (pRG calls lo hi t') l := cnt_mono fun i _ hp => by
 unfold pRG at hp ⊢
 simp only [Bool.and_eq_true, decide_eq_true_eq] at hp ⊢
 exact ⟨hp.1, by omega⟩
def poHand (k : Nat) (calls : List CallD) (ws : List Nat) (evs : List EvD) (p : Nat) (e : EvD) : PoS → Prop
 | .take a f m free r => f = p * k + k ∧ p * k ≤ a ∧ a < f ∧ r = (0, 0) ∧ (free = true → ws.getD a 0 = m ∧ m % 2 = 0) ∧ kindOf calls e = 0 ∧ cnt (pRT calls (p * k) a e.inv) evs = cnt (pRG calls (p * k) a e.inv) evs + (a - p * k) ∧ e.steps = a - p * k + (if free then 1 else 0)
 | .once _ _ => False
def poDone (k : Nat) (calls : List CallD) (evs : List EvD) (e : EvD) : Prop :=
 e.steps ≤ k + 1 ∧ (e.ans.err = 6 → cnt (pRT calls (tn calls e * k) (tn calls e * k + k) e.inv) evs = cnt (pRG calls (tn calls e * k) (tn calls e * k + k) e.inv) evs + k)
def poTook (k : Nat) (calls : List CallD) (ws : List Nat) (evs : List EvD) (e : EvD) (a v : Nat) : Prop :=
 tn calls e * k ≤ a ∧ a < tn calls e * k + k ∧ 1 ≤ v ∧ e.ans.val = poRef a v ∧ 2 * v ≤ ws.getD a 0 ∧ (ws.getD a 0 = 2 * v + 1 ∨ ∃ j, j < evs.length ∧ pIs calls 1 (evAt evs j) = true ∧ argOf calls (evAt evs j) = e.ans.val)
def poGave (calls : List CallD) (ws : List Nat) (evs : List EvD) (e : EvD) (a v : Nat) : Prop :=
 argOf calls e = poRef a v ∧ 2 * v ≤ ws.getD a 0 ∧ ws.getD a 0 ≠ 2 * v + 1 ∧ ∃ j, j < evs.length ∧ pIs calls 0 (evAt evs j) = true ∧ (evAt evs j).resp < e.resp ∧ (evAt evs j).ans.val = argOf calls e
structure PoW (n k : Nat) (calls : List CallD) (now : Nat) (ws : List Nat) (evs : List EvD) : Prop where
 wlen : ws.length = n * k
 top : ∀ a, a < n * k → ws.getD a 0 ≤ 2 * now + 1
 takes : ∀ i, i < evs.length → pIs calls 0 (evAt evs i) = true → ∃ a v, a < n * k ∧ poTook k calls ws evs (evAt evs i) a v
 gives : ∀ i, i < evs.length → pIs calls 1 (evAt evs i) = true → ∃ a v, a < n * k ∧ poGave calls ws evs (evAt evs i) a v
 odd : ∀ a, a < n * k → ws.getD a 0 % 2 = 1 → ∃ j, j < evs.length ∧ pIs calls 0 (evAt evs j) = true ∧ (evAt evs j).ans.val = poRef a (ws.getD a 0 / 2)
 tt : ∀ i j, i < evs.length → j < evs.length → i ≠ j → pIs calls 0 (evAt evs i) = true → pIs calls 0 (evAt evs j) = true → (evAt evs i).ans.val % 1024 = (evAt evs j).ans.val % 1024 →
  (evAt evs j).ans.val ≠ (evAt evs i).ans.val ∧ ((evAt evs i).resp < (evAt evs j).resp ∨ ∃ m, m < evs.length ∧ pIs calls 1 (evAt evs m) = true ∧ argOf calls (evAt evs m) = (evAt evs j).ans.val ∧ (evAt evs m).resp < (evAt evs i).resp)
 gg : ∀ i j, i < evs.length → j < evs.length → i ≠ j → pIs calls 1 (evAt evs i) = true → pIs calls 1 (evAt evs j) = true → argOf calls (evAt evs j) ≠ argOf calls (evAt evs i)
 cT : ∀ a t, a < n * k → cnt (pRT calls a (a + 1) t) evs ≤ cnt (pRG calls a (a + 1) t) evs + 1
 cN : ∀ a, a < n * k → cnt (pRT calls a (a + 1) (now + 1)) evs = cnt (pRG calls a (a + 1) (now + 1)) evs + ws.getD a 0 % 2
structure PoInv (n k : Nat) (calls : List CallD) (st : PlayD (poolS n k)) : Prop where
 w : PoW n k calls st.wd.now st.wd.mem.ws st.evs
 hand : ∀ p s j, st.hands.getD p (none, 0) = (some s, j) → objOf calls (evAt st.evs j) = 0 ∧ poHand k calls st.wd.mem.ws st.evs p (evAt st.evs j) s
 done : ∀ i, i < st.evs.length → (evAt st.evs i).resp ≠ 0 → poDone k calls st.evs (evAt st.evs i)
 fresh : ∀ i, i < st.evs.length → (evAt st.evs i).resp = 0 → (evAt st.evs i).ans.err = 0
theorem rng_apart {p q k a b : Nat} (h : p ≠ q) (h1 : p * k ≤ a) (h2 : a < p * k + k) (h3 : q * k ≤ b) (h4 : b < q * k + k) : a ≠ b := by
 rintro rfl
 rcases Nat.lt_or_gt_of_ne h with h | h
 ·have : (p + 1) * k ≤ q * k := Nat.mul_le_mul_right k h
  rw [Nat.succ_mul] at this; omega
 ·have : (q + 1) * k ≤ p * k := Nat.mul_le_mul_right k h
  rw [Nat.succ_mul] at this; omega
theorem rng_in {p n k a : Nat} (h : p < n) (h2 : a < p * k + k) : a < n * k := by
 have : (p + 1) * k ≤ n * k := Nat.mul_le_mul_right k h
 rw [Nat.succ_mul] at this; omega
theorem poRef_mod {a v : Nat} (h : a < 512) : poRef a v % 1024 = a + 2 := by unfold poRef; omega
theorem poRef_inj {a v a' v' : Nat} (h : a < 512) (h' : a' < 512) (e : poRef a v = poRef a' v') : a = a' ∧ v = v' := by unfold poRef at e; omega
section
variable {S : Sys} {calls : List CallD} {st : PlayD S} {q k : Nat} {evs' : List EvD} {e1 : EvD}
theorem Next.cnt0 (h : Next calls st q evs' k e1) {P : EvD → Bool} (hP : ∀ e, e.resp = 0 → P e = false) (h1 : P e1 = false) : Go.Proofs.YteffgpcjfnjlkaaGreat.cnt P evs' = Go.Proofs.YteffgpcjfnjlkaaGreat.cnt P st.evs := by rw [h.cnt hP, h1]; simp
theorem Next.kept (h : Next calls st q evs' k e1) {j : Nat} (hj : j < st.evs.length) (hr : (evAt st.evs j).resp ≠ 0) : j ≠ k ∧ j < evs'.length ∧ evAt evs' j = evAt st.evs j := by
 have hjk : j ≠ k := by rintro rfl; exact hr (h.old hj)
 have hl := Nat.lt_of_lt_of_le hj h.size
 exact ⟨hjk, hl, (h.other j hl hjk).2⟩
end
theorem po_hand_next {k : Nat} {calls : List CallD} {S : Sys} {st : PlayD S} {q j : Nat} {evs' : List EvD} {e1 e : EvD} (hx : Next calls st q evs' j e1) (hr : e1.resp = 0 ∨ e1.resp = st.wd.now + 1) (hiv : e.inv ≤ st.wd.now) {ws ws' : List Nat} {p : Nat} {s : PoS}
  (hws : ∀ a f m r, s = .take a f m true r → p * k ≤ a → a < p * k + k → ws.getD a 0 = m → m % 2 = 0 → ws'.getD a 0 = m) (h : poHand k calls ws st.evs p e s) : poHand k calls ws' evs' p e s := by
 match s, h with
 | .take a f m free r, ⟨b1, b2, b3, b4, b5, b6, b7, b8⟩ =>
  refine ⟨b1, b2, b3, b4, fun hf => ?_, b6, ?_, b8⟩
  ·subst hf
   obtain ⟨c1, c2⟩ := b5 rfl
   exact ⟨hws a f m r rfl b2 (by omega) c1 c2, c2⟩
  ·rw [hx.cnt0 pRT_open (pRT_late (by omega)), hx.cnt0 pRG_open (pRG_late (by omega))]; exact b7
theorem po_done_next {k : Nat} {calls : List CallD} {S : Sys} {st : PlayD S} {q j : Nat} {evs' : List EvD} {e1 e : EvD} (hx : Next calls st q evs' j e1) (hr : e1.resp = 0 ∨ e1.resp = st.wd.now + 1) (hiv : e.inv ≤ st.wd.now) (h : poDone k calls st.evs e) : poDone k calls evs' e := by
 refine ⟨h.1, fun h6 => ?_⟩
 rw [hx.cnt0 pRT_open (pRT_late (by omega)), hx.cnt0 pRG_open (pRG_late (by omega))]; exact h.2 h6
theorem po_rest {n k : Nat} {calls : List CallD} {st st' : PlayD (poolS n k)} {q j : Nat} {e1 : EvD} {x : Option (poolS n k).σ × Nat} (hg : StGood calls st) (h : PoInv n k calls st) (hq : q < 16) (hx : Next calls st q st'.evs j e1) (hr : e1.resp = 0 ∨ e1.resp = st.wd.now + 1)
  (hh : st'.hands = st.hands.set q x) (hws : ∀ p a f m r, p ≠ q → (∃ i, st.hands.getD p (none, 0) = (some (.take a f m true r), i)) → p * k ≤ a → a < p * k + k → st.wd.mem.ws.getD a 0 = m → m % 2 = 0 → st'.wd.mem.ws.getD a 0 = m)
  (hhand : ∀ s1 k1, x = (some s1, k1) → objOf calls (evAt st'.evs k1) = 0 ∧ poHand k calls st'.wd.mem.ws st'.evs q (evAt st'.evs k1) s1) (hdone : e1.resp ≠ 0 → poDone k calls st'.evs e1) (hfr : e1.resp = 0 → e1.ans.err = 0) (hw : PoW n k calls st'.wd.now st'.wd.mem.ws st'.evs) : PoInv n k calls st' := by
 refine ⟨hw, fun p s k2 hp => ?_, fun i hi hri => ?_, fun i hi hri => ?_⟩
 ·rw [hh, hands_set hg.h16 hq] at hp
  by_cases hpq : p = q
  ·subst hpq
   rw [if_pos rfl] at hp
   exact hhand s k2 hp
  ·rw [if_neg hpq] at hp
   obtain ⟨a1, a2⟩ := h.hand p s k2 hp
   obtain ⟨n1, n2⟩ := hx.apart p s k2 hpq hp
   obtain ⟨_, n3⟩ := hx.other k2 (Nat.lt_of_lt_of_le n2 hx.size) n1
   have hiv := (hg.ev.tick k2 n2).2.1
   rw [n3]
   refine ⟨a1, po_hand_next hx hr hiv (fun a f m r hs h1 h2 h3 h4 => ?_) a2⟩
   subst hs
   exact hws p a f m r hpq ⟨k2, hp⟩ h1 h2 h3 h4
 ·by_cases hik : i = j
  ·subst hik
   rw [hx.self] at hri ⊢
   exact hdone hri
  ·obtain ⟨m1, m2⟩ := hx.other i hi hik
   rw [m2] at hri ⊢
   have ht := hg.ev.tick i m1
   exact po_done_next hx hr (by omega) (h.done i m1 hri)
 ·by_cases hik : i = j
  ·subst hik
   rw [hx.self] at hri ⊢
   exact hfr hri
  ·obtain ⟨m1, m2⟩ := hx.other i hi hik
   rw [m2] at hri ⊢
   exact h.fresh i m1 hri
theorem took_keep {k : Nat} {calls : List CallD} {S : Sys} {st : PlayD S} {q j : Nat} {evs' : List EvD} {e1 e : EvD} {ws : List Nat} {a v : Nat} (hx : Next calls st q evs' j e1) (h : poTook k calls ws st.evs e a v) : poTook k calls ws evs' e a v := by
 obtain ⟨h1, h2, h3, h4, h5, h6⟩ := h
 refine ⟨h1, h2, h3, h4, h5, ?_⟩
 rcases h6 with h6 | ⟨m, m1, m2, m3⟩
 ·exact .inl h6
 ·obtain ⟨_, n2, n3⟩ := hx.kept m1 (pIs_resp m2)
  exact .inr ⟨m, n2, by rw [n3]; exact m2, by rw [n3]; exact m3⟩
theorem gave_keep {calls : List CallD} {S : Sys} {st : PlayD S} {q j : Nat} {evs' : List EvD} {e1 e : EvD} {ws : List Nat} {a v : Nat} (hx : Next calls st q evs' j e1) (h : poGave calls ws st.evs e a v) : poGave calls ws evs' e a v := by
 obtain ⟨h1, h2, h3, m, m1, m2, m3, m4⟩ := h
 obtain ⟨_, n2, n3⟩ := hx.kept m1 (pIs_resp m2)
 exact ⟨h1, h2, h3, m, n2, by rw [n3]; exact m2, by rw [n3]; exact m3, by rw [n3]; exact m4⟩
theorem po_w_same {n k : Nat} {calls : List CallD} {S : Sys} {st : PlayD S} {q j : Nat} {evs' : List EvD} {e1 : EvD} {ws : List Nat} (hg : StGood calls st) (h : PoW n k calls st.wd.now ws st.evs) (hx : Next calls st q evs' j e1) (h0 : pIs calls 0 e1 = false) (h1 : pIs calls 1 e1 = false) : PoW n k calls (st.wd.now + 1) ws evs' := by
 have old : ∀ kd, (kd = 0 ∨ kd = 1) → ∀ i, i < evs'.length → pIs calls kd (evAt evs' i) = true → i < st.evs.length ∧ evAt evs' i = evAt st.evs i := by
  intro kd hkd i hi hp
  refine hx.other i hi ?_
  rintro rfl
  rw [hx.self] at hp
  rcases hkd with rfl | rfl
  ·rw [h0] at hp; cases hp
  ·rw [h1] at hp; cases hp
 have cT : ∀ lo hi t, cnt (pRT calls lo hi t) evs' = cnt (pRT calls lo hi t) st.evs := fun lo hi t => hx.cnt0 pRT_open (by unfold pRT; rw [h0]; rfl)
 have cG : ∀ lo hi t, cnt (pRG calls lo hi t) evs' = cnt (pRG calls lo hi t) st.evs := fun lo hi t => hx.cnt0 pRG_open (by unfold pRG; rw [h1]; rfl)
 have late : ∀ lo hi, cnt (pRT calls lo hi (st.wd.now + 1 + 1)) st.evs = cnt (pRT calls lo hi (st.wd.now + 1)) st.evs ∧ cnt (pRG calls lo hi (st.wd.now + 1 + 1)) st.evs = cnt (pRG calls lo hi (st.wd.now + 1)) st.evs := by
  intro lo hi
  refine ⟨cnt_congr fun i hi => ?_, cnt_congr fun i hi => ?_⟩
  ·have := (hg.ev.tick i hi).2.2.2
   unfold pRT
   rw [decide_eq_true (show (evAt st.evs i).resp < st.wd.now + 1 + 1 by omega), decide_eq_true (show (evAt st.evs i).resp < st.wd.now + 1 by omega)]
  ·have := (hg.ev.tick i hi).2.2.2
   unfold pRG
   rw [decide_eq_true (show (evAt st.evs i).resp < st.wd.now + 1 + 1 by omega), decide_eq_true (show (evAt st.evs i).resp < st.wd.now + 1 by omega)]
 refine ⟨h.wlen, fun a ha => by have := h.top a ha; omega, fun i hi hp => ?_, fun i hi hp => ?_, fun a ha ho => ?_, fun i l hi hl hil hp1 hp2 hm => ?_, fun i l hi hl hil hp1 hp2 => ?_, fun a t ha => by rw [cT, cG]; exact h.cT a t ha, fun a ha => by rw [cT, cG, (late a (a + 1)).1, (late a (a + 1)).2]; exact h.cN a ha⟩
 ·obtain ⟨o1, o2⟩ := old 0 (.inl rfl) i hi hp
  rw [o2] at hp ⊢
  obtain ⟨a, v, g1, g2⟩ := h.takes i o1 hp
  exact ⟨a, v, g1, took_keep hx g2⟩
 ·obtain ⟨o1, o2⟩ := old 1 (.inr rfl) i hi hp
  rw [o2] at hp ⊢
  obtain ⟨a, v, g1, g2⟩ := h.gives i o1 hp
  exact ⟨a, v, g1, gave_keep hx g2⟩
 ·obtain ⟨m, m1, m2, m3⟩ := h.odd a ha ho
  obtain ⟨_, n2, n3⟩ := hx.kept m1 (pIs_resp m2)
  exact ⟨m, n2, by rw [n3]; exact m2, by rw [n3]; exact m3⟩
 ·obtain ⟨o1, o2⟩ := old 0 (.inl rfl) i hi hp1
  obtain ⟨o3, o4⟩ := old 0 (.inl rfl) l hl hp2
  rw [o2] at hp1 hm ⊢
  rw [o4] at hp2 hm ⊢
  obtain ⟨t1, t2⟩ := h.tt i l o1 o3 hil hp1 hp2 hm
  refine ⟨t1, ?_⟩
  rcases t2 with t2 | ⟨m, m1, m2, m3, m4⟩
  ·exact .inl t2
  ·obtain ⟨_, n2, n3⟩ := hx.kept m1 (pIs_resp m2)
   exact .inr ⟨m, n2, by rw [n3]; exact m2, by rw [n3]; exact m3, by rw [n3]; exact m4⟩
 ·obtain ⟨o1, o2⟩ := old 1 (.inr rfl) i hi hp1
  obtain ⟨o3, o4⟩ := old 1 (.inr rfl) l hl hp2
  rw [o2] at hp1 ⊢
  rw [o4] at hp2 ⊢
  exact h.gg i l o1 o3 hil hp1 hp2
end
end Go.Proofs.YteffgpcjfnjlkaaGreat
