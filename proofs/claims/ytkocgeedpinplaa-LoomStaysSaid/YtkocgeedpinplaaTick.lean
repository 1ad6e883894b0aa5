/- Layer 9: tickets, in plain numbers. -/
import Derived.Test.YtkocgeedpinplaaAdderP
set_option maxRecDepth 100000
namespace Go.Proofs.Ytkocgeedpinplaa
open Go.RowKit

def tkCall (n k : Nat) : CallD := ⟨((k % n : Nat) : Int), 0, 2, 0, 0, 0⟩
def tk (n m : Nat) : List CallD := (List.range m).map (tkCall n)
theorem tk_succ (n m : Nat) : tk n (m + 1) = tk n m ++ [tkCall n m] := by unfold tk; rw [List.range_succ, List.map_append]; rfl
theorem tk_len (n m : Nat) : (tk n m).length = m := by simp [tk]
theorem tk_mem {n m : Nat} {x : CallD} (h : x ∈ tk n m) : ∃ k, k < m ∧ x = tkCall n k := by
  unfold tk at h
  obtain ⟨k, hk, rfl⟩ := List.mem_map.1 h
  exact ⟨k, List.mem_range.1 hk, rfl⟩
theorem tk_get {n m i : Nat} (h : i < m) : (tk n m).getD i d0 = tkCall n i := by simp [tk, List.getD_eq_getElem?_getD, h]

structure TkInv (st : PlayD adderS) (k : Nat) : Prop where
  h16 : st.hands.length = 16
  none_ : ∀ p, (st.hands.getD p (none, 0)).1 = none
  now : st.wd.now = st.evs.length
  ws : st.wd.mem.ws = [st.evs.length]
  evs : ∀ i, i < st.evs.length → (st.evs.getD i ev0).ans.val = i ∧ (st.evs.getD i ev0).resp = i + 1
  len : st.evs.length ≤ k
theorem tk_pick {n m : Nat} {st : PlayD adderS} {k : Nat} (h : TkInv st k) (hk : k < 100000) (p : Int) : TkInv (pickD adderS (tk n m) st p) (k + 1) := by
  unfold pickD
  cases hN : nowN (tk n m) st.fin p with
  | none => exact ⟨h.h16, h.none_, h.now, h.ws, h.evs, by have := h.len; show st.evs.length ≤ k + 1; omega⟩
  | some i =>
    obtain ⟨hi, _, _⟩ := nowN_spec hN
    rw [tk_len] at hi
    simp only
    have hstep : stepD adderS (tk n m) st p.toNat i = ({ st with wd := { st.wd.tick.begin p.toNat with mem := (memAdd st.wd.mem 0 1).1 }, hands := st.hands.set p.toNat (none, st.evs.length), evs := st.evs ++ [finishEv { st.wd.tick.begin p.toNat with mem := (memAdd st.wd.mem 0 1).1 } p.toNat ⟨0, (memAdd st.wd.mem 0 1).2, []⟩ [] (newEv i (st.wd.tick.begin p.toNat))] }, true) := by
      unfold stepD
      rw [h.none_]
      simp only
      have hst : startD adderS st.obj (st.wd.tick.begin p.toNat) p.toNat ((tk n m).getD i d0) = .run (tkCall n i, (0, 0)) := by
        rw [tk_get hi]; rfl
      rw [hst]
      simp only
      unfold goStep
      have hact : adderAct (tkCall n i) (st.wd.tick.begin p.toNat) = ({ st.wd.tick.begin p.toNat with mem := (memAdd st.wd.mem 0 1).1 }, (0, (memAdd st.wd.mem 0 1).2)) := rfl
      simp only [adderS, onceSys, hact, if_true, List.set_set]
      rw [modEv_snoc]
      rfl
    rw [hstep]
    simp only [if_true]
    have hadd : (memAdd st.wd.mem 0 1).1.ws = [st.evs.length + 1] ∧ (memAdd st.wd.mem 0 1).2 = st.evs.length := by
      have hl := h.len
      unfold memAdd
      have hout : memOut st.wd.mem 0 = false := by unfold memOut; rw [h.ws]; rfl
      rw [if_neg (by rw [hout]; simp)]
      simp only [h.ws]
      simp
      omega
    have hnew : ∀ e : EvD, (st.evs ++ [e]).length = st.evs.length + 1 := fun e => by simp
    refine ⟨by simpa using h.h16, fun q => ?_, ?_, ?_, fun j hj => ?_, by rw [hnew]; have := h.len; omega⟩
    · by_cases hq : p.toNat = q
      · subst hq
        rcases Nat.lt_or_ge p.toNat 16 with h1 | h1
        · rw [getD_set_eq (by rw [h.h16]; exact h1)]
        · rw [List.getD_eq_getElem?_getD, List.getElem?_eq_none (by simp [h.h16]; omega)]; rfl
      · rw [getD_set_neq hq]; exact h.none_ q
    · rw [hnew]; simp [WD.begin, WD.tick, h.now]
    · rw [hnew]; exact hadd.1
    · rw [hnew] at hj
      simp only
      rcases Nat.lt_or_ge j st.evs.length with h1 | h1
      · rw [getD_snoc_lt h1]; exact h.evs j h1
      · obtain rfl : j = st.evs.length := by omega
        rw [getD_snoc_eq]
        simp [finishEv, WD.begin, WD.tick, h.now, hadd.2]
theorem tk_picks {n m : Nat} : ∀ (picks : List Int) {st : PlayD adderS} {k : Nat}, TkInv st k → k + picks.length < 100000 → TkInv (picksD adderS (tk n m) st picks) (k + picks.length)
  | [], _, _, h, _ => h
  | p :: ps, st, k, h, hk => by
    simp only [List.length_cons] at hk ⊢
    have := tk_picks (n := n) (m := m) ps (tk_pick (n := n) (m := m) h (by omega) p) (by omega)
    rw [show k + (ps.length + 1) = k + 1 + ps.length by omega]
    exact this
theorem tk_end {st : PlayD adderS} (h : ∀ p, (st.hands.getD p (none, 0)).1 = none) : endD adderS st = st.evs := by
  unfold endD
  have : ∀ (l : List Nat) (e : List EvD), l.foldl (endEv adderS st) e = e := by
    intro l
    induction l with
    | nil => intro e; rfl
    | cons a l ih =>
      intro e
      rw [List.foldl_cons]
      have : endEv adderS st e a = e := by
        unfold endEv
        split
        · rfl
        · rename_i s i hs
          have := h a
          rw [hs] at this; cases this
      rw [this, ih]
  exact this _ _
/-- What a play of ticket takers tells. -/
theorem tk_play {n m : Nat} {picks : List Int} (hl : picks.length ≤ 1000) : (playD adderS () [0] (tk n m) picks).ticks = (playD adderS () [0] (tk n m) picks).evs.length ∧
    (∀ i, i < (playD adderS () [0] (tk n m) picks).evs.length → ((playD adderS () [0] (tk n m) picks).evs.getD i ev0).ans.val = i ∧ ((playD adderS () [0] (tk n m) picks).evs.getD i ev0).resp = i + 1) ∧ (playD adderS () [0] (tk n m) picks).evs.length ≤ 1000 := by
  have h0 : TkInv (play0 adderS () [0] (tk n m)) 0 := ⟨by simp [play0], fun p => by simp only [play0, getD_rep'], rfl, rfl, fun i hi => by simp [play0] at hi, by simp [play0]⟩
  have h := tk_picks (n := n) (m := m) picks h0 (by omega)
  have he := tk_end h.none_
  unfold playD reportD
  simp only
  rw [he]
  exact ⟨h.now, h.evs, by have := h.len; omega⟩
theorem tk_check {n m np : Nat} (h1 : 1 ≤ n) (h2 : n ≤ 16) (hm : m ≤ 1000) (hp : np ≤ 65536) : checkN (n : Int) (tk n m) np = 0 := by
  unfold checkN
  rw [if_neg (by omega), if_neg (by rw [tk_len]; omega)]
  unfold wrongN
  rw [if_neg (by omega), if_neg (by rw [tk_len]; omega), if_neg]
  rw [List.any_eq_true]
  rintro ⟨x, hx, hb⟩
  obtain ⟨k, _, rfl⟩ := tk_mem hx
  unfold badT tkCall at hb
  have := Nat.mod_lt k (show 0 < n by omega)
  simp at hb
  omega
end Go.Proofs.Ytkocgeedpinplaa
