/- Layer 8: what every play of a tally keeps, in plain numbers. -/
import Derived.Test.YteffgpcjfnjlkaaGreatM39
import Derived.Test.YteffgpcjfnjlkaaGreatM25
import Derived.Test.YteffgpcjfnjlkaaGreatM35
set_option maxRecDepth 100000
set_option linter.unusedVariables false
set_option linter.unusedSimpArgs false
set_option linter.unnecessarySimpa false
namespace Go.Proofs.YteffgpcjfnjlkaaGreat
section
open Go.RowKit
def objOf (calls : List CallD) (e : EvD) : Int := (calls.getD e.call d0).obj
def kindOf (calls : List CallD) (e : EvD) : Int := (calls.getD e.call d0).kind
def isK (calls : List CallD) (kd : Int) (e : EvD) : Bool := decide (objOf calls e = 0) && decide (kindOf calls e = kd) && decide (e.resp ≠ 0)
theorem isK_spec {calls : List CallD} {kd : Int} {e : EvD} : isK calls kd e = true ↔ objOf calls e = 0 ∧ kindOf calls e = kd ∧ e.resp ≠ 0 := by
  unfold isK; simp [and_assoc]
def tP1 (calls : List CallD) (t : Nat) (e : EvD) : Bool := isK calls 0 e && decide (tn calls e = t)
def tP2 (calls : List CallD) (a : Nat) (e : EvD) : Bool := isK calls 0 e && decide (tn calls e < a)
def tP3 (calls : List CallD) (a iv : Nat) (e : EvD) : Bool := isK calls 0 e && decide (tn calls e < a) && decide (e.resp < iv)
def tP4 (calls : List CallD) (t : Nat) (e : EvD) : Bool := isK calls 0 e && decide (e.resp ≤ t)
theorem isK_open {calls : List CallD} {kd : Int} {e : EvD} (h : e.resp = 0) : isK calls kd e = false := by unfold isK; simp [h]
theorem tP4_open {calls : List CallD} {t : Nat} (e : EvD) (h : e.resp = 0) : tP4 calls t e = false := by unfold tP4; rw [isK_open h]; rfl
def taHand (n : Nat) (calls : List CallD) (st : PlayD (tallyS n)) (p : Nat) (e : EvD) : TaS → Prop
  | .count seen v => seen = true ∧ v = cnt (tP1 calls p) st.evs ∧ e.steps = 1 ∧ kindOf calls e = 0
  | .read a s _ => a < n ∧ cnt (tP3 calls a e.inv) st.evs ≤ s ∧ s ≤ cnt (tP2 calls a) st.evs ∧ e.steps = a ∧ kindOf calls e = 1 ∧ (∀ i, i < st.evs.length → isK calls 0 (evAt st.evs i) = true → (evAt st.evs i).resp ≠ e.inv)
def taDone (n : Nat) (calls : List CallD) (evs : List EvD) (e : EvD) : Prop :=
  if objOf calls e ≠ 0 then e.ans = ⟨12, 0, []⟩ ∧ e.key = [2 * (e.resp : Int)] ∧ e.steps = 1
  else if kindOf calls e = 0 then e.ans = ⟨0, 0, []⟩ ∧ e.key = [2 * (e.resp : Int)] ∧ e.steps = 2 ∧ e.inv < e.resp
  else if kindOf calls e = 1 then ∃ wn v : Nat, e.ans = ⟨0, v, []⟩ ∧ e.key = [2 * (wn : Int), 2 * (e.resp : Int)] ∧ e.inv ≤ wn ∧ wn ≤ e.resp ∧ cnt (tP4 calls wn) evs = v ∧ cnt (tP3 calls n e.inv) evs ≤ v ∧ v ≤ cnt (tP4 calls e.resp) evs ∧ e.steps = n
  else e.ans = ⟨9, 0, []⟩ ∧ e.key = [2 * (e.resp : Int)] ∧ e.steps = 1
structure TaInv (n : Nat) (calls : List CallD) (st : PlayD (tallyS n)) : Prop where
  wlen : st.wd.mem.ws.length = n
  words : ∀ t, t < n → st.wd.mem.ws.getD t 0 = cnt (tP1 calls t) st.evs
  tr : ∀ t : Nat, ((st.wd.traces 0).filter fun x => decide (x ≤ (t : Int))).length = cnt (tP4 calls t) st.evs
  tinc : (st.wd.traces 0).Pairwise (· < ·)
  tpos : ∀ x ∈ st.wd.traces 0, 1 ≤ x ∧ x ≤ (st.wd.now : Int)
  hand : ∀ p s k, st.hands.getD p (none, 0) = (some s, k) → objOf calls (evAt st.evs k) = 0 ∧ taHand n calls st p (evAt st.evs k) s ∧ st.wd.inv.getD p 0 = (evAt st.evs k).inv
  done : ∀ i, i < st.evs.length → (evAt st.evs i).resp ≠ 0 → taDone n calls st.evs (evAt st.evs i)
  marks : st.wd.marks = List.replicate 16 []
  ilen : st.wd.inv.length = 16
  fault : st.wd.mem.c.fault = 0
  all : st.wd.mem.c.all ≤ st.wd.now
theorem memR {m : MemD} {a : Nat} (h : a < m.ws.length) : (memRead m (a : Int)).1.ws = m.ws ∧ (memRead m (a : Int)).2 = m.ws.getD a 0 ∧ (memRead m (a : Int)).1.c.fault = m.c.fault ∧ (memRead m (a : Int)).1.c.all = m.c.all + 1 := by
  have ho : memOut m (a : Int) = false := by unfold memOut; simp; omega
  unfold memRead
  rw [if_neg (by rw [ho]; simp)]
  exact ⟨rfl, by simp, rfl, by simp [CountsD.all]; omega⟩
theorem memW {m : MemD} {a : Nat} (v : Nat) (h : a < m.ws.length) : (memWrite m (a : Int) v).ws = m.ws.set a v ∧ (memWrite m (a : Int) v).c.fault = m.c.fault ∧ (memWrite m (a : Int) v).c.all = m.c.all + 1 := by
  have ho : memOut m (a : Int) = false := by unfold memOut; simp; omega
  unfold memWrite
  rw [if_neg (by rw [ho]; simp)]
  exact ⟨by simp, rfl, by simp [CountsD.all]; omega⟩
theorem From.tn {S : Sys} {calls : List CallD} {st : PlayD S} {q i k : Nat} {s : S.σ} {evs0 : List EvD} {wd0 : WD} (h : From calls st q i k s evs0 wd0) (hN : nowN calls st.fin (q : Int) = some i) : tn calls (evAt evs0 k) = q := by
  unfold Go.Proofs.YteffgpcjfnjlkaaGreat.tn
  rw [h.call, (nowN_spec hN).2.1]; simp
theorem From.apart {S : Sys} {calls : List CallD} {st : PlayD S} {q i k : Nat} {s : S.σ} {evs0 : List EvD} {wd0 : WD} (h : From calls st q i k s evs0 wd0) (hg : StGood calls st) (hN : nowN calls st.fin (q : Int) = some i) {p k2 : Nat} {s2 : S.σ} (hp : p ≠ q) (hh : st.hands.getD p (none, 0) = (some s2, k2)) : k2 ≠ k ∧ k2 < st.evs.length := by
  obtain ⟨a1, a2, a3, a4⟩ := hg.ev.hand p k2 (by unfold hndOf; rw [hh]; rfl)
  refine ⟨?_, a1⟩
  rintro rfl
  apply hp
  rw [← a2, ← h.tn hN, h.obj.2 k2 a1]
theorem From.or {S : Sys} {calls : List CallD} {st : PlayD S} {q i k : Nat} {s : S.σ} {evs0 : List EvD} {wd0 : WD} (h : From calls st q i k s evs0 wd0) :
    (st.hands.getD q (none, 0) = (some s, k) ∧ k < st.evs.length ∧ (evAt st.evs k).call = i ∧ (evAt st.evs k).resp = 0 ∧ evs0 = st.evs ∧ wd0 = st.wd.tick) ∨
    ((st.hands.getD q (none, 0)).1 = none ∧ startD S st.obj (st.wd.tick.begin q) q (calls.getD i d0) = .run s ∧ k = st.evs.length ∧ evs0 = st.evs ++ [newEv i (st.wd.tick.begin q)] ∧ wd0 = st.wd.tick.begin q) := by
  cases h with
  | old k s hh hk hc hr => exact .inl ⟨hh, hk, hc, hr, rfl, rfl⟩
  | new s hh hs => exact .inr ⟨hh, hs, rfl, rfl, rfl⟩
theorem From.inv {S : Sys} {calls : List CallD} {st : PlayD S} {q i k : Nat} {s : S.σ} {evs0 : List EvD} {wd0 : WD} (h : From calls st q i k s evs0 wd0) {p : Nat} (hp : p ≠ q) : wd0.inv.getD p 0 = st.wd.inv.getD p 0 := by
  cases h with
  | old k s hh hk hc hr => rfl
  | new s hh hs => exact getD_set_neq (Ne.symm hp)
theorem begin_marks {wd : WD} {q : Nat} (h : wd.marks = List.replicate 16 []) : (wd.tick.begin q).marks = List.replicate 16 [] := by
  show wd.marks.set q [] = _
  rw [h]
  apply List.ext_getElem?
  intro j
  rw [List.getElem?_set]
  split
  · rename_i e
    subst e
    rw [List.length_replicate, List.getElem?_replicate]
  · rfl
theorem From.marks {S : Sys} {calls : List CallD} {st : PlayD S} {q i k : Nat} {s : S.σ} {evs0 : List EvD} {wd0 : WD} (h : From calls st q i k s evs0 wd0) (hm : st.wd.marks = List.replicate 16 []) : wd0.marks = List.replicate 16 [] := by
  cases h with
  | old k s hh hk hc hr => exact hm
  | new s hh hs => exact begin_marks hm
theorem From.ilen {S : Sys} {calls : List CallD} {st : PlayD S} {q i k : Nat} {s : S.σ} {evs0 : List EvD} {wd0 : WD} (h : From calls st q i k s evs0 wd0) (hm : st.wd.inv.length = 16) : wd0.inv.length = 16 := by
  cases h with
  | old k s hh hk hc hr => exact hm
  | new s hh hs => show (st.wd.inv.set q _).length = 16; rw [List.length_set]; exact hm
theorem n_ok {n : Int} {calls : List CallD} {np : Nat} (hck : checkN n calls np = 0) : 1 ≤ n ∧ n ≤ 16 := by
  obtain ⟨hw0, _⟩ := checkN_zero hck
  obtain ⟨z1, z2, z3, z4⟩ := wrongN_zero hw0
  omega
theorem np_ok {n : Int} {calls : List CallD} {np : Nat} (hck : checkN n calls np = 0) : np ≤ 65536 := by
  obtain ⟨_, h⟩ := checkN_zero hck
  omega
end
section

/- Layer 6: the events behind a turn, beside those ahead of it. -/
open Go.RowKit
variable {S : Sys}
structure Next (calls : List CallD) (st : PlayD S) (q : Nat) (evs' : List EvD) (k : Nat) (e1 : EvD) : Prop where
  lt : k < evs'.length
  self : evAt evs' k = e1
  other : ∀ j, j < evs'.length → j ≠ k → j < st.evs.length ∧ evAt evs' j = evAt st.evs j
  size : st.evs.length ≤ evs'.length
  old : k < st.evs.length → (evAt st.evs k).resp = 0
  cnt : ∀ {P : EvD → Bool}, (∀ e, e.resp = 0 → P e = false) → cnt P evs' = cnt P st.evs + (if P e1 then 1 else 0)
  apart : ∀ p s2 k2, p ≠ q → st.hands.getD p (none, 0) = (some s2, k2) → k2 ≠ k ∧ k2 < st.evs.length
  thr : tn calls e1 = q
theorem From.next {calls : List CallD} {st : PlayD S} {q i k : Nat} {s : S.σ} {evs0 : List EvD} {wd0 : WD} (hg : StGood calls st) (hf : From calls st q i k s evs0 wd0) (hN : nowN calls st.fin (q : Int) = some i) (e1 : EvD) (he : e1.call = (evAt evs0 k).call) : Next calls st q (evs0.set k e1) k e1 where
  lt := by rw [List.length_set]; exact hf.len
  self := hf.self e1
  other := fun j hj hjk => hf.other e1 hj hjk
  size := hf.size e1
  old := fun hk => by have h1 := hf.obj.2 k hk; rw [← h1]; exact hf.open_
  cnt := fun hP => hf.cnt hP e1
  apart := fun p s2 k2 hp hh => hf.apart hg hN hp hh
  thr := by have h1 := hf.tn hN; unfold Go.Proofs.YteffgpcjfnjlkaaGreat.tn at h1 ⊢; rw [he]; exact h1
theorem refuse_next {calls : List CallD} {st : PlayD S} {q i : Nat} (hg : StGood calls st) (hN : nowN calls st.fin (q : Int) = some i) (e1 : EvD) (he : e1.call = i) : Next calls st q (st.evs ++ [e1]) st.evs.length e1 where
  lt := by simp
  self := evAt_last
  other := fun j hj hjk => by
    have h1 : j < st.evs.length := by simp at hj; omega
    exact ⟨h1, evAt_old h1⟩
  size := by simp
  old := fun hk => absurd hk (Nat.lt_irrefl _)
  cnt := fun hP => by rw [cnt_append, cnt_cons, cnt_nil]; omega
  apart := fun p s2 k2 hp hh => by
    obtain ⟨a1, a2, a3, a4⟩ := hg.ev.hand p k2 (by unfold hndOf; rw [hh]; rfl)
    exact ⟨by omega, a1⟩
  thr := by unfold tn; rw [he, (nowN_spec hN).2.1]; simp
theorem Next.past {calls : List CallD} {st : PlayD S} {q k : Nat} {evs' : List EvD} {e1 : EvD} (h : Next calls st q evs' k e1) (hr : e1.resp = 0 ∨ e1.resp = st.wd.now + 1) {t : Nat} (ht : t ≤ st.wd.now) : Go.Proofs.YteffgpcjfnjlkaaGreat.cnt (tP4 calls t) evs' = Go.Proofs.YteffgpcjfnjlkaaGreat.cnt (tP4 calls t) st.evs := by
  rw [h.cnt tP4_open]
  have : tP4 calls t e1 = false := by
    rcases hr with h0 | h0
    · exact tP4_open _ h0
    · unfold tP4; rw [h0]; simp; omega
  rw [this]; simp
theorem Next.grow {calls : List CallD} {st : PlayD S} {q k : Nat} {evs' : List EvD} {e1 : EvD} (h : Next calls st q evs' k e1) : Go.Proofs.YteffgpcjfnjlkaaGreat.cnt (tP4 calls st.wd.now) st.evs ≤ Go.Proofs.YteffgpcjfnjlkaaGreat.cnt (tP4 calls (st.wd.now + 1)) evs' := by
  rw [h.cnt tP4_open]
  have : Go.Proofs.YteffgpcjfnjlkaaGreat.cnt (tP4 calls st.wd.now) st.evs ≤ Go.Proofs.YteffgpcjfnjlkaaGreat.cnt (tP4 calls (st.wd.now + 1)) st.evs := cnt_mono fun j _ hp => by
    unfold tP4 at hp ⊢
    simp only [Bool.and_eq_true, decide_eq_true_eq] at hp ⊢
    exact ⟨hp.1, by omega⟩
  omega
theorem Next.more {calls : List CallD} {st : PlayD S} {q k : Nat} {evs' : List EvD} {e1 : EvD} (h : Next calls st q evs' k e1) (h1 : isK calls 0 e1 = true) (h2 : e1.resp = st.wd.now + 1) : Go.Proofs.YteffgpcjfnjlkaaGreat.cnt (tP4 calls st.wd.now) st.evs + 1 ≤ Go.Proofs.YteffgpcjfnjlkaaGreat.cnt (tP4 calls (st.wd.now + 1)) evs' := by
  rw [h.cnt tP4_open]
  have h3 : tP4 calls (st.wd.now + 1) e1 = true := by unfold tP4; rw [h1, h2]; simp
  rw [h3, if_pos rfl]
  have : Go.Proofs.YteffgpcjfnjlkaaGreat.cnt (tP4 calls st.wd.now) st.evs ≤ Go.Proofs.YteffgpcjfnjlkaaGreat.cnt (tP4 calls (st.wd.now + 1)) st.evs := cnt_mono fun j _ hp => by
    unfold tP4 at hp ⊢
    simp only [Bool.and_eq_true, decide_eq_true_eq] at hp ⊢
    exact ⟨hp.1, by omega⟩
  omega
end
end Go.Proofs.YteffgpcjfnjlkaaGreat
