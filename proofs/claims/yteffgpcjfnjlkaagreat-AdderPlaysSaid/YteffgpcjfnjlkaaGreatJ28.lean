/- Layer 6: loom.Cells. -/
import Derived.Test.YteffgpcjfnjlkaaGreatJ27
import Derived.Test.YteffgpcjfnjlkaaGreatJ20
set_option maxRecDepth 100000
set_option linter.unusedVariables false
set_option linter.unusedSimpArgs false
set_option linter.unnecessarySimpa false
namespace Go.Proofs.YteffgpcjfnjlkaaGreat
section
open Go.RowKit
end
section

/- Layer 6: the rows of a report (6.3), in plain numbers. -/
open Go.RowKit
def Within (k : List Int) (inv resp : Nat) : Prop := k ≠ [] ∧ 2 * (inv : Int) ≤ k.headD 0 ∧ k.headD 0 ≤ 2 * (resp : Int)
structure KeySys (S : Sys) : Prop where
  now : ∀ o wd p s, (S.step o wd p s).2.1.now = wd.now
  mlen : ∀ o wd p s, (S.step o wd p s).2.1.marks.length = wd.marks.length
  mark : ∀ o wd p s q, (S.step o wd p s).2.1.marks.getD q [] = wd.marks.getD q [] ∨ ∃ rest, (S.step o wd p s).2.1.marks.getD q [] = 2 * (wd.now : Int) :: rest
  ans : ∀ s, (S.answer s).2 = []
  late : ∀ o wd p s, S.late o wd p s = none
structure KeyInv {S : Sys} (calls : List CallD) (st : PlayD S) : Prop where
  good : StGood calls st
  m16 : st.wd.marks.length = 16
  keys : ∀ i, i < st.evs.length → (evAt st.evs i).resp ≠ 0 → Within (evAt st.evs i).key (evAt st.evs i).inv (evAt st.evs i).resp
  none_ : ∀ i, i < st.evs.length → (evAt st.evs i).resp = 0 → (evAt st.evs i).key = []
  marks : ∀ p k, hndOf st.hands p = some k → st.wd.marks.getD p [] = [] ∨ Within (st.wd.marks.getD p []) (evAt st.evs k).inv st.wd.now
variable {S : Sys}
theorem within_tick {inv now : Nat} (h : inv ≤ now) : Within [2 * (now : Int)] inv now := ⟨by simp, by simp; omega, by simp⟩
theorem Within.more {k : List Int} {inv a b : Nat} (h : Within k inv a) (hab : a ≤ b) : Within k inv b := ⟨h.1, h.2.1, by have := h.2.2; omega⟩
end
section

/- Layer 6: a report's rows, in plain numbers: what roundelayplain.Rows asks for. -/
open Go.RowKit
variable {S : Sys}
theorem end_fold {calls : List CallD} {st : PlayD S} (h : StGood calls st) {i : Nat} (hi : i < st.evs.length) : ∀ (l : List Nat) (evs : List EvD), l.Nodup → evs.length = st.evs.length →
    evAt (l.foldl (endEv S st) evs) i = (match st.hands.getD (tn calls (evAt st.evs i)) (none, 0) with
      | (some s, k) => if tn calls (evAt st.evs i) ∈ l ∧ k = i then { evAt evs i with key := (S.late st.obj st.wd (tn calls (evAt st.evs i)) s).getD (st.wd.marks.getD (tn calls (evAt st.evs i)) []) } else evAt evs i
      | (none, _) => evAt evs i)
  | [], evs, _, _ => by
    simp only [List.foldl_nil]
    split
    · rw [if_neg (by simp)]
    · rfl
  | p :: l, evs, hnd, hlen => by
    rw [List.foldl_cons]
    have hl : (endEv S st evs p).length = st.evs.length := by
      unfold endEv; split
      · exact hlen
      · rw [modEv_length]; exact hlen
    rw [end_fold h hi l (endEv S st evs p) (List.nodup_cons.1 hnd).2 hl]
    obtain ⟨t, ht⟩ : ∃ t, t = tn calls (evAt st.evs i) := ⟨_, rfl⟩
    rw [← ht]
    by_cases hpt : p = t
    · subst hpt
      have hpn : p ∉ l := (List.nodup_cons.1 hnd).1
      cases hh : st.hands.getD p (none, 0) with
      | mk m k =>
        cases m with
        | none =>
          simp only
          unfold endEv; rw [hh]
        | some s =>
          simp only
          rw [if_neg (fun h => hpn h.1)]
          have hkl : k < st.evs.length := (h.ev.hand p k (by unfold hndOf; rw [hh]; rfl)).1
          have : endEv S st evs p = modEv evs k fun e => { e with key := (S.late st.obj st.wd p s).getD (st.wd.marks.getD p []) } := by unfold endEv; rw [hh]
          rw [this]
          unfold modEv
          rw [evAt_set _ (by omega)]
          by_cases hki : k = i
          · subst hki
            rw [if_pos rfl, if_pos ⟨by simp, rfl⟩]; rfl
          · rw [if_neg (Ne.symm hki), if_neg (fun h => hki h.2)]
    · have hsame : evAt (endEv S st evs p) i = evAt evs i := by
        unfold endEv
        split
        · rfl
        · rename_i s k hk
          obtain ⟨k1, k2, _⟩ := h.ev.hand p k (by unfold hndOf; rw [hk]; rfl)
          unfold modEv
          rw [evAt_set _ (by omega), if_neg]
          rintro rfl
          exact hpt (k2.symm.trans ht.symm)
      rw [hsame]
      have hmem : (t ∈ p :: l) ↔ t ∈ l := by simp [Ne.symm hpt]
      split
      · rename_i s2 k2 hk2
        by_cases hm2 : t ∈ l ∧ k2 = i
        · rw [if_pos hm2, if_pos ⟨hmem.2 hm2.1, hm2.2⟩]
        · rw [if_neg hm2, if_neg (fun h => hm2 ⟨hmem.1 h.1, h.2⟩)]
      · rfl
theorem end_at {calls : List CallD} {st : PlayD S} (h : StGood calls st) (hthr : ∀ c, c < calls.length → 0 ≤ (calls.getD c d0).thread ∧ (calls.getD c d0).thread < 16) {i : Nat} (hi : i < st.evs.length) :
    ((evAt st.evs i).resp ≠ 0 → evAt (endD S st) i = evAt st.evs i) ∧
    ((evAt st.evs i).resp = 0 → ∃ s, st.hands.getD (tn calls (evAt st.evs i)) (none, 0) = (some s, i) ∧ evAt (endD S st) i = { evAt st.evs i with key := (S.late st.obj st.wd (tn calls (evAt st.evs i)) s).getD (st.wd.marks.getD (tn calls (evAt st.evs i)) []) }) := by
  have hf := end_fold h hi (List.range 16) st.evs List.nodup_range rfl
  unfold endD
  rw [hf]
  refine ⟨fun hr => ?_, fun hr => ?_⟩
  · split
    · rename_i s k hk
      rw [if_neg]
      rintro ⟨_, rfl⟩
      exact hr (h.ev.hand _ k (by unfold hndOf; rw [hk]; rfl)).2.2.1
    · rfl
  · have ho := (h.ev.open_ i hi hr).2
    unfold hndOf at ho
    cases hh : st.hands.getD (tn calls (evAt st.evs i)) (none, 0) with
    | mk m k =>
      rw [hh] at ho
      cases m with
      | none => simp at ho
      | some s =>
        simp only [Option.isSome_some, if_true, Option.some.injEq] at ho
        subst ho
        refine ⟨s, rfl, ?_⟩
        have hm : tn calls (evAt st.evs k) ∈ List.range 16 := by
          have := hthr _ (h.ev.call k hi)
          rw [List.mem_range]; unfold tn; omega
        simp only
        rw [if_pos (by exact ⟨hm, by first | trivial | rfl⟩)]
theorem end_length {calls : List CallD} {st : PlayD S} (h : StGood calls st) : (endD S st).length = st.evs.length := by
  have : ∀ (l : List Nat) (evs : List EvD), (l.foldl (endEv S st) evs).length = evs.length := by
    intro l
    induction l with
    | nil => intro evs; rfl
    | cons p l ih =>
      intro evs
      rw [List.foldl_cons, ih]
      unfold endEv; split
      · rfl
      · rw [modEv_length]
  exact this _ _
structure RowGood (calls : List CallD) (n : Nat) (ticks : Nat) (e : EvD) : Prop where
  call : e.call < calls.length
  thr : 0 ≤ (calls.getD e.call d0).thread ∧ (calls.getD e.call d0).thread < n
  inv1 : 1 ≤ e.inv
  invt : e.inv ≤ ticks
  steps : 1 ≤ e.steps
  resp : e.resp ≠ 0 → e.inv ≤ e.resp ∧ e.resp ≤ ticks ∧ e.steps ≤ e.resp - e.inv + 1 ∧ Within e.key e.inv e.resp
  open_ : e.resp = 0 → e.key = [] ∨ Within e.key e.inv ticks
structure RowsGood (calls : List CallD) (n : Nat) (r : RepD) : Prop where
  n1 : 1 ≤ n
  n16 : n ≤ 16
  ev : ∀ i, i < r.evs.length → RowGood calls n r.ticks (evAt r.evs i)
  rise : ∀ i j, i < j → j < r.evs.length → (evAt r.evs i).inv < (evAt r.evs j).inv
  same : ∀ i j, i < j → j < r.evs.length → tn calls (evAt r.evs i) = tn calls (evAt r.evs j) → (evAt r.evs i).resp ≠ 0 ∧ (evAt r.evs i).resp < (evAt r.evs j).inv ∧ (evAt r.evs i).call < (evAt r.evs j).call
  sum : (r.evs.map (·.steps)).sum = r.ticks
  fault : r.c.fault = 0
  all : r.c.read + r.c.write + r.c.swap + r.c.add ≤ r.ticks
  small : r.ticks < 1000000
structure KeysFit (st : PlayD S) : Prop where
  keys : ∀ i, i < st.evs.length → (evAt st.evs i).resp ≠ 0 → Within (evAt st.evs i).key (evAt st.evs i).inv (evAt st.evs i).resp
  late : ∀ p s k, st.hands.getD p (none, 0) = (some s, k) → (S.late st.obj st.wd p s).getD (st.wd.marks.getD p []) = [] ∨ Within ((S.late st.obj st.wd p s).getD (st.wd.marks.getD p [])) (evAt st.evs k).inv st.wd.now
theorem sum_end {calls : List CallD} {st : PlayD S} (h : StGood calls st) : ((endD S st).map (·.steps)).sum = (st.evs.map (·.steps)).sum := by
  have : ∀ (l : List Nat) (evs : List EvD), (∀ i, (evAt evs i).steps = (evAt evs i).steps) → ((l.foldl (endEv S st) evs).map (·.steps)) = evs.map (·.steps) := by
    intro l
    induction l with
    | nil => intro evs _; rfl
    | cons p l ih =>
      intro evs _
      rw [List.foldl_cons, ih _ (fun _ => rfl)]
      unfold endEv; split
      · rfl
      · unfold modEv
        rename_i s k _
        rw [List.map_set]
        rcases Nat.lt_or_ge k evs.length with hk | hk
        · apply List.ext_getElem?
          intro j
          rw [List.getElem?_set]
          split
          · rename_i e; subst e
            simp [hk, List.getD_eq_getElem?_getD]
          · rfl
        · rw [List.set_eq_of_length_le (by simpa using hk)]
  unfold endD
  rw [this _ _ (fun _ => rfl)]
theorem rows_good {calls : List CallD} {n : Nat} {st : PlayD S} (h : StGood calls st) (hn1 : 1 ≤ n) (hn16 : n ≤ 16) (hthr : ∀ c, c < calls.length → 0 ≤ (calls.getD c d0).thread ∧ (calls.getD c d0).thread < n)
    (hk : KeysFit st) (hf : st.wd.mem.c.fault = 0) (ha : st.wd.mem.c.all ≤ st.wd.now) (hs : st.wd.now < 1000000) : RowsGood calls n (reportD S st) := by
  have hthr' : ∀ c, c < calls.length → 0 ≤ (calls.getD c d0).thread ∧ (calls.getD c d0).thread < 16 := fun c hc => by have := hthr c hc; omega
  have hlen := end_length (calls := calls) h
  have hat := fun i hi => end_at h hthr' (i := i) hi
  have hpre : ∀ i, i < st.evs.length → (evAt (endD S st) i).call = (evAt st.evs i).call ∧ (evAt (endD S st) i).inv = (evAt st.evs i).inv ∧ (evAt (endD S st) i).resp = (evAt st.evs i).resp ∧ (evAt (endD S st) i).steps = (evAt st.evs i).steps := by
    intro i hi
    by_cases hr : (evAt st.evs i).resp = 0
    · obtain ⟨s, _, e⟩ := (hat i hi).2 hr
      rw [e]; exact ⟨rfl, rfl, rfl, rfl⟩
    · rw [(hat i hi).1 hr]; exact ⟨rfl, rfl, rfl, rfl⟩
  have htn : ∀ i, i < st.evs.length → tn calls (evAt (endD S st) i) = tn calls (evAt st.evs i) := fun i hi => by unfold tn; rw [(hpre i hi).1]
  refine ⟨hn1, hn16, fun i hi => ?_, fun i j hij hj => ?_, fun i j hij hj ht => ?_, ?_, hf, ?_, hs⟩
  · have hi' : i < st.evs.length := by rw [← hlen]; exact hi
    obtain ⟨p1, p2, p3, p4⟩ := hpre i hi'
    have ht := h.ev.tick i hi'
    show RowGood calls n st.wd.now (evAt (endD S st) i)
    refine ⟨by rw [p1]; exact h.ev.call i hi', by rw [p1]; exact hthr _ (h.ev.call i hi'), by rw [p2]; exact ht.1, by rw [p2]; exact ht.2.1, by rw [p4]; exact ht.2.2.1, fun hr => ?_, fun hr => ?_⟩
    · rw [p3] at hr
      have hre := h.ev.resp i hi' hr
      rw [(hat i hi').1 hr]
      exact ⟨hre.1, ht.2.2.2, hre.2.1, hk.keys i hi' hr⟩
    · rw [p3] at hr
      obtain ⟨s, hh, e⟩ := (hat i hi').2 hr
      rw [e]
      exact hk.late _ s i hh
  · have hj' : j < st.evs.length := by rw [← hlen]; exact hj
    show (evAt (endD S st) i).inv < (evAt (endD S st) j).inv
    rw [(hpre i (by omega)).2.1, (hpre j hj').2.1]; exact h.ev.rise i j hij hj'
  · have hj' : j < st.evs.length := by rw [← hlen]; exact hj
    have ht' : tn calls (evAt (endD S st) i) = tn calls (evAt (endD S st) j) := ht
    rw [htn i (by omega), htn j hj'] at ht'
    have := h.ev.same i j hij hj' ht'
    show (evAt (endD S st) i).resp ≠ 0 ∧ (evAt (endD S st) i).resp < (evAt (endD S st) j).inv ∧ (evAt (endD S st) i).call < (evAt (endD S st) j).call
    rw [(hpre i (by omega)).2.2.1, (hpre i (by omega)).1, (hpre j hj').2.1, (hpre j hj').1]
    exact this
  · show ((endD S st).map (·.steps)).sum = st.wd.now
    rw [sum_end h]; exact h.ev.sum
  · show st.wd.mem.c.read + st.wd.mem.c.write + st.wd.mem.c.swap + st.wd.mem.c.add ≤ st.wd.now
    unfold CountsD.all at ha; omega
end
section

/- Counting events of a play, in plain numbers. -/
open Go.RowKit
def cnt (P : EvD → Bool) (l : List EvD) : Nat := (l.map fun e => if P e then 1 else 0).sum
theorem cnt_nil (P : EvD → Bool) : cnt P [] = 0 := rfl
theorem cnt_cons (P : EvD → Bool) (e : EvD) (l : List EvD) : cnt P (e :: l) = (if P e then 1 else 0) + cnt P l := rfl
theorem cnt_append (P : EvD → Bool) (l m : List EvD) : cnt P (l ++ m) = cnt P l + cnt P m := by unfold cnt; rw [List.map_append, List.sum_append]
theorem cnt_set (P : EvD → Bool) (l : List EvD) (k : Nat) (e : EvD) (hk : k < l.length) : cnt P (l.set k e) + (if P (evAt l k) then 1 else 0) = cnt P l + (if P e then 1 else 0) := sum_map_set _ l k e hk
variable {S : Sys}
theorem From.cnt {calls : List CallD} {st : PlayD S} {q i k : Nat} {s : S.σ} {evs0 : List EvD} {wd0 : WD} (h : From calls st q i k s evs0 wd0) {P : EvD → Bool} (hP : ∀ e, e.resp = 0 → P e = false) (e : EvD) : cnt P (evs0.set k e) = cnt P st.evs + (if P e then 1 else 0) := by
  have h1 := cnt_set P evs0 k e h.len
  rw [hP _ h.open_] at h1
  have h2 : Go.Proofs.YteffgpcjfnjlkaaGreat.cnt P evs0 = Go.Proofs.YteffgpcjfnjlkaaGreat.cnt P st.evs := by
    cases h with
    | old k s hh hk hc hr => rfl
    | new s hh hs => rw [cnt_append, cnt_cons, hP _ rfl, cnt_nil]; simp
  rw [h2] at h1
  simpa using h1
end
end Go.Proofs.YteffgpcjfnjlkaaGreat
