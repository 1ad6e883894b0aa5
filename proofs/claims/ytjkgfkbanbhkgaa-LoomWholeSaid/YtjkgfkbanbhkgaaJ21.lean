/- Layer 6: a report's rows, in plain numbers: what roundelayplain.Rows asks for. -/
import Derived.Test.YtjkgfkbanbhkgaaJ20
import Derived.Test.YtjkgfkbanbhkgaaJ14
import Derived.Test.YtjkgfkbanbhkgaaJ19
set_option maxRecDepth 100000
set_option linter.unusedVariables false
set_option linter.unusedSimpArgs false
set_option linter.unnecessarySimpa false
namespace Go.Proofs.Ytjkgfkbanbhkgaa
section
open Go.RowKit

variable {S : Sys}
/-- The keys that are told at the end: event by event. -/
theorem end_fold {calls : List CallD} {st : PlayD S} (h : StGood calls st) {i : Nat} (hi : i < st.evs.length) : ∀ (l : List Nat) (evs : List EvD), l.Nodup → evs.length = st.evs.length →
    evAt (l.foldl (endEv S st) evs) i = (match st.hands.getD (tn calls (evAt st.evs i)) (none, 0) with
      | (some s, k) => if tn calls (evAt st.evs i) ∈ l ∧ k = i then { evAt evs i with key := (S.late st.obj st.wd (tn calls (evAt st.evs i)) s).getD (st.wd.marks.getD (tn calls (evAt st.evs i)) []) } else evAt evs i
      | (none, _) => evAt evs i)
  | [], evs, _, _ => by
    simp only [List.foldl_nil]
    split
    · rw [if_neg (by simp)]
    · rfl
  | p :: l, evs, hnd, hlen => by
    rw [List.foldl_cons]
    have hl : (endEv S st evs p).length = st.evs.length := by
      unfold endEv; split
      · exact hlen
      · rw [modEv_length]; exact hlen
    rw [end_fold h hi l (endEv S st evs p) (List.nodup_cons.1 hnd).2 hl]
    obtain ⟨t, ht⟩ : ∃ t, t = tn calls (evAt st.evs i) := ⟨_, rfl⟩
    rw [← ht]
    by_cases hpt : p = t
    · subst hpt
      have hpn : p ∉ l := (List.nodup_cons.1 hnd).1
      cases hh : st.hands.getD p (none, 0) with
      | mk m k =>
        cases m with
        | none =>
          simp only
          unfold endEv; rw [hh]
        | some s =>
          simp only
          rw [if_neg (fun h => hpn h.1)]
          have hkl : k < st.evs.length := (h.ev.hand p k (by unfold hndOf; rw [hh]; rfl)).1
          have : endEv S st evs p = modEv evs k fun e => { e with key := (S.late st.obj st.wd p s).getD (st.wd.marks.getD p []) } := by unfold endEv; rw [hh]
          rw [this]
          unfold modEv
          rw [evAt_set _ (by omega)]
          by_cases hki : k = i
          · subst hki
            rw [if_pos rfl, if_pos ⟨by simp, rfl⟩]; rfl
          · rw [if_neg (Ne.symm hki), if_neg (fun h => hki h.2)]
    · have hsame : evAt (endEv S st evs p) i = evAt evs i := by
        unfold endEv
        split
        · rfl
        · rename_i s k hk
          obtain ⟨k1, k2, _⟩ := h.ev.hand p k (by unfold hndOf; rw [hk]; rfl)
          unfold modEv
          rw [evAt_set _ (by omega), if_neg]
          rintro rfl
          exact hpt (k2.symm.trans ht.symm)
      rw [hsame]
      have hmem : (t ∈ p :: l) ↔ t ∈ l := by simp [Ne.symm hpt]
      split
      · rename_i s2 k2 hk2
        by_cases hm2 : t ∈ l ∧ k2 = i
        · rw [if_pos hm2, if_pos ⟨hmem.2 hm2.1, hm2.2⟩]
        · rw [if_neg hm2, if_neg (fun h => hm2 ⟨hmem.1 h.1, h.2⟩)]
      · rfl
theorem end_at {calls : List CallD} {st : PlayD S} (h : StGood calls st) (hthr : ∀ c, c < calls.length → 0 ≤ (calls.getD c d0).thread ∧ (calls.getD c d0).thread < 16) {i : Nat} (hi : i < st.evs.length) :
    ((evAt st.evs i).resp ≠ 0 → evAt (endD S st) i = evAt st.evs i) ∧
    ((evAt st.evs i).resp = 0 → ∃ s, st.hands.getD (tn calls (evAt st.evs i)) (none, 0) = (some s, i) ∧ evAt (endD S st) i = { evAt st.evs i with key := (S.late st.obj st.wd (tn calls (evAt st.evs i)) s).getD (st.wd.marks.getD (tn calls (evAt st.evs i)) []) }) := by
  have hf := end_fold h hi (List.range 16) st.evs List.nodup_range rfl
  unfold endD
  rw [hf]
  refine ⟨fun hr => ?_, fun hr => ?_⟩
  · split
    · rename_i s k hk
      rw [if_neg]
      rintro ⟨_, rfl⟩
      exact hr (h.ev.hand _ k (by unfold hndOf; rw [hk]; rfl)).2.2.1
    · rfl
  · have ho := (h.ev.open_ i hi hr).2
    unfold hndOf at ho
    cases hh : st.hands.getD (tn calls (evAt st.evs i)) (none, 0) with
    | mk m k =>
      rw [hh] at ho
      cases m with
      | none => simp at ho
      | some s =>
        simp only [Option.isSome_some, if_true, Option.some.injEq] at ho
        subst ho
        refine ⟨s, rfl, ?_⟩
        have hm : tn calls (evAt st.evs k) ∈ List.range 16 := by
          have := hthr _ (h.ev.call k hi)
          rw [List.mem_range]; unfold tn; omega
        simp only
        rw [if_pos (by exact ⟨hm, by first | trivial | rfl⟩)]
theorem end_length {calls : List CallD} {st : PlayD S} (h : StGood calls st) : (endD S st).length = st.evs.length := by
  have : ∀ (l : List Nat) (evs : List EvD), (l.foldl (endEv S st) evs).length = evs.length := by
    intro l
    induction l with
    | nil => intro evs; rfl
    | cons p l ih =>
      intro evs
      rw [List.foldl_cons, ih]
      unfold endEv; split
      · rfl
      · rw [modEv_length]
  exact this _ _

/-- What was told of each thread's last operation: 0: none; -1: it is open. -/
def lastN (evs : List EvD) (calls : List CallD) (n : Nat) : Nat → List Int
  | 0 => List.replicate n 0
  | k + 1 => (lastN evs calls n k).set (tn calls (evAt evs k)) (if (evAt evs k).resp = 0 then -1 else ((evAt evs k).resp : Int))
def callN (evs : List EvD) (calls : List CallD) (n : Nat) : Nat → List Int
  | 0 => List.replicate n 0
  | k + 1 => (callN evs calls n k).set (tn calls (evAt evs k)) (((evAt evs k).call : Int) + 1)
theorem lastN_length (evs : List EvD) (calls : List CallD) (n : Nat) : ∀ k, (lastN evs calls n k).length = n
  | 0 => by simp [lastN]
  | k + 1 => by simp [lastN, lastN_length evs calls n k]
theorem callN_length (evs : List EvD) (calls : List CallD) (n : Nat) : ∀ k, (callN evs calls n k).length = n
  | 0 => by simp [callN]
  | k + 1 => by simp [callN, callN_length evs calls n k]
theorem lastN_get (evs : List EvD) (calls : List CallD) (n : Nat) {p : Nat} (hp : p < n) : ∀ k, ((lastN evs calls n k).getD p 0 = 0 ∧ (callN evs calls n k).getD p 0 = 0) ∨
    ∃ i, i < k ∧ tn calls (evAt evs i) = p ∧ (lastN evs calls n k).getD p 0 = (if (evAt evs i).resp = 0 then -1 else ((evAt evs i).resp : Int)) ∧ (callN evs calls n k).getD p 0 = ((evAt evs i).call : Int) + 1
  | 0 => .inl ⟨by simp [lastN, List.getD_eq_getElem?_getD, List.getElem?_replicate, hp], by simp [callN, List.getD_eq_getElem?_getD, List.getElem?_replicate, hp]⟩
  | k + 1 => by
    by_cases h : tn calls (evAt evs k) = p
    · refine .inr ⟨k, Nat.lt_succ_self k, h, ?_, ?_⟩
      · show ((lastN evs calls n k).set (tn calls (evAt evs k)) _).getD p 0 = _
        rw [h]; exact getD_set_eq (by rw [lastN_length]; exact hp)
      · show ((callN evs calls n k).set (tn calls (evAt evs k)) _).getD p 0 = _
        rw [h]; exact getD_set_eq (by rw [callN_length]; exact hp)
    · have e1 : (lastN evs calls n (k + 1)).getD p 0 = (lastN evs calls n k).getD p 0 := getD_set_neq h
      have e2 : (callN evs calls n (k + 1)).getD p 0 = (callN evs calls n k).getD p 0 := getD_set_neq h
      rw [e1, e2]
      rcases lastN_get evs calls n hp k with h1 | ⟨i, h1, h2⟩
      · exact .inl h1
      · exact .inr ⟨i, by omega, h2⟩

/-- What Rows asks of an event. -/
structure RowGood (calls : List CallD) (n : Nat) (ticks : Nat) (e : EvD) : Prop where
  call : e.call < calls.length
  thr : 0 ≤ (calls.getD e.call d0).thread ∧ (calls.getD e.call d0).thread < n
  inv1 : 1 ≤ e.inv
  invt : e.inv ≤ ticks
  steps : 1 ≤ e.steps
  resp : e.resp ≠ 0 → e.inv ≤ e.resp ∧ e.resp ≤ ticks ∧ e.steps ≤ e.resp - e.inv + 1 ∧ Within e.key e.inv e.resp
  open_ : e.resp = 0 → e.key = [] ∨ Within e.key e.inv ticks
structure RowsGood (calls : List CallD) (n : Nat) (r : RepD) : Prop where
  n1 : 1 ≤ n
  n16 : n ≤ 16
  ev : ∀ i, i < r.evs.length → RowGood calls n r.ticks (evAt r.evs i)
  rise : ∀ i j, i < j → j < r.evs.length → (evAt r.evs i).inv < (evAt r.evs j).inv
  same : ∀ i j, i < j → j < r.evs.length → tn calls (evAt r.evs i) = tn calls (evAt r.evs j) → (evAt r.evs i).resp ≠ 0 ∧ (evAt r.evs i).resp < (evAt r.evs j).inv ∧ (evAt r.evs i).call < (evAt r.evs j).call
  sum : (r.evs.map (·.steps)).sum = r.ticks
  fault : r.c.fault = 0
  all : r.c.read + r.c.write + r.c.swap + r.c.add ≤ r.ticks
  small : r.ticks < 1000000

/-- What must hold of keys at the end of a play. -/
structure KeysFit (st : PlayD S) : Prop where
  keys : ∀ i, i < st.evs.length → (evAt st.evs i).resp ≠ 0 → Within (evAt st.evs i).key (evAt st.evs i).inv (evAt st.evs i).resp
  late : ∀ p s k, st.hands.getD p (none, 0) = (some s, k) → (S.late st.obj st.wd p s).getD (st.wd.marks.getD p []) = [] ∨ Within ((S.late st.obj st.wd p s).getD (st.wd.marks.getD p [])) (evAt st.evs k).inv st.wd.now
theorem sum_end {calls : List CallD} {st : PlayD S} (h : StGood calls st) : ((endD S st).map (·.steps)).sum = (st.evs.map (·.steps)).sum := by
  have : ∀ (l : List Nat) (evs : List EvD), (∀ i, (evAt evs i).steps = (evAt evs i).steps) → ((l.foldl (endEv S st) evs).map (·.steps)) = evs.map (·.steps) := by
    intro l
    induction l with
    | nil => intro evs _; rfl
    | cons p l ih =>
      intro evs _
      rw [List.foldl_cons, ih _ (fun _ => rfl)]
      unfold endEv; split
      · rfl
      · unfold modEv
        rename_i s k _
        rw [List.map_set]
        rcases Nat.lt_or_ge k evs.length with hk | hk
        · apply List.ext_getElem?
          intro j
          rw [List.getElem?_set]
          split
          · rename_i e; subst e
            simp [hk, List.getD_eq_getElem?_getD]
          · rfl
        · rw [List.set_eq_of_length_le (by simpa using hk)]
  unfold endD
  rw [this _ _ (fun _ => rfl)]
theorem rows_good {calls : List CallD} {n : Nat} {st : PlayD S} (h : StGood calls st) (hn1 : 1 ≤ n) (hn16 : n ≤ 16) (hthr : ∀ c, c < calls.length → 0 ≤ (calls.getD c d0).thread ∧ (calls.getD c d0).thread < n)
    (hk : KeysFit st) (hf : st.wd.mem.c.fault = 0) (ha : st.wd.mem.c.all ≤ st.wd.now) (hs : st.wd.now < 1000000) : RowsGood calls n (reportD S st) := by
  have hthr' : ∀ c, c < calls.length → 0 ≤ (calls.getD c d0).thread ∧ (calls.getD c d0).thread < 16 := fun c hc => by have := hthr c hc; omega
  have hlen := end_length (calls := calls) h
  have hat := fun i hi => end_at h hthr' (i := i) hi
  have hpre : ∀ i, i < st.evs.length → (evAt (endD S st) i).call = (evAt st.evs i).call ∧ (evAt (endD S st) i).inv = (evAt st.evs i).inv ∧ (evAt (endD S st) i).resp = (evAt st.evs i).resp ∧ (evAt (endD S st) i).steps = (evAt st.evs i).steps := by
    intro i hi
    by_cases hr : (evAt st.evs i).resp = 0
    · obtain ⟨s, _, e⟩ := (hat i hi).2 hr
      rw [e]; exact ⟨rfl, rfl, rfl, rfl⟩
    · rw [(hat i hi).1 hr]; exact ⟨rfl, rfl, rfl, rfl⟩
  have htn : ∀ i, i < st.evs.length → tn calls (evAt (endD S st) i) = tn calls (evAt st.evs i) := fun i hi => by unfold tn; rw [(hpre i hi).1]
  refine ⟨hn1, hn16, fun i hi => ?_, fun i j hij hj => ?_, fun i j hij hj ht => ?_, ?_, hf, ?_, hs⟩
  · have hi' : i < st.evs.length := by rw [← hlen]; exact hi
    obtain ⟨p1, p2, p3, p4⟩ := hpre i hi'
    have ht := h.ev.tick i hi'
    show RowGood calls n st.wd.now (evAt (endD S st) i)
    refine ⟨by rw [p1]; exact h.ev.call i hi', by rw [p1]; exact hthr _ (h.ev.call i hi'), by rw [p2]; exact ht.1, by rw [p2]; exact ht.2.1, by rw [p4]; exact ht.2.2.1, fun hr => ?_, fun hr => ?_⟩
    · rw [p3] at hr
      have hre := h.ev.resp i hi' hr
      rw [(hat i hi').1 hr]
      exact ⟨hre.1, ht.2.2.2, hre.2.1, hk.keys i hi' hr⟩
    · rw [p3] at hr
      obtain ⟨s, hh, e⟩ := (hat i hi').2 hr
      rw [e]
      exact hk.late _ s i hh
  · have hj' : j < st.evs.length := by rw [← hlen]; exact hj
    show (evAt (endD S st) i).inv < (evAt (endD S st) j).inv
    rw [(hpre i (by omega)).2.1, (hpre j hj').2.1]; exact h.ev.rise i j hij hj'
  · have hj' : j < st.evs.length := by rw [← hlen]; exact hj
    have ht' : tn calls (evAt (endD S st) i) = tn calls (evAt (endD S st) j) := ht
    rw [htn i (by omega), htn j hj'] at ht'
    have := h.ev.same i j hij hj' ht'
    show (evAt (endD S st) i).resp ≠ 0 ∧ (evAt (endD S st) i).resp < (evAt (endD S st) j).inv ∧ (evAt (endD S st) i).call < (evAt (endD S st) j).call
    rw [(hpre i (by omega)).2.2.1, (hpre i (by omega)).1, (hpre j hj').2.1, (hpre j hj').1]
    exact this
  · show ((endD S st).map (·.steps)).sum = st.wd.now
    rw [sum_end h]; exact h.ev.sum
  · show st.wd.mem.c.read + st.wd.mem.c.write + st.wd.mem.c.swap + st.wd.mem.c.add ≤ st.wd.now
    unfold CountsD.all at ha; omega
end
section

/- Layer 6: the order of keys, in plain lists. -/
open Go.RowKit

/-- Does a key stand ahead of another one? -/
def keyLt : List Int → List Int → Bool
  | [], [] => false
  | [], _ :: _ => true
  | _ :: _, [] => false
  | a :: l1, b :: l2 => if a = b then keyLt l1 l2 else decide (a < b)
theorem keyLt_irrefl : ∀ a, keyLt a a = false
  | [] => rfl
  | a :: l1 => by unfold keyLt; rw [if_pos rfl]; exact keyLt_irrefl l1
theorem keyLt_trans : ∀ a b c, keyLt a b = true → keyLt b c = true → keyLt a c = true
  | [], [], _, h, _ => by simp [keyLt] at h
  | [], _ :: _, [], _, h => by simp [keyLt] at h
  | [], _ :: _, _ :: _, _, _ => rfl
  | _ :: _, [], _, h, _ => by simp [keyLt] at h
  | _ :: _, _ :: _, [], _, h => by simp [keyLt] at h
  | a :: l1, b :: l2, c :: l3, h, k => by
    unfold keyLt at h k ⊢
    by_cases h1 : a = b
    · subst h1
      rw [if_pos rfl] at h
      by_cases h2 : a = c
      · rw [if_pos h2] at k ⊢; exact keyLt_trans l1 l2 l3 h k
      · rw [if_neg h2] at k ⊢; exact k
    · rw [if_neg h1] at h
      have h' : a < b := of_decide_eq_true h
      by_cases h2 : b = c
      · subst h2; rw [if_neg h1]; exact h
      · rw [if_neg h2] at k
        have k' : b < c := of_decide_eq_true k
        rw [if_neg (by omega)]; exact decide_eq_true (by omega)
theorem keyLt_tri : ∀ a b, keyLt a b = true ∨ a = b ∨ keyLt b a = true
  | [], [] => .inr (.inl rfl)
  | [], _ :: _ => .inl rfl
  | _ :: _, [] => .inr (.inr rfl)
  | a :: l1, b :: l2 => by
    unfold keyLt
    by_cases h : a = b
    · subst h
      simp only [if_true]
      rcases keyLt_tri l1 l2 with h | h | h
      · exact .inl h
      · exact .inr (.inl (by rw [h]))
      · exact .inr (.inr h)
    · rw [if_neg h, if_neg (Ne.symm h)]
      rcases Int.lt_or_gt_of_ne h with h1 | h1
      · exact .inl (decide_eq_true h1)
      · exact .inr (.inr (decide_eq_true h1))
theorem keyLt_asymm {a b : List Int} (h : keyLt a b = true) : keyLt b a = false := by
  cases hb : keyLt b a with
  | false => rfl
  | true => have := keyLt_trans a b a h hb; rw [keyLt_irrefl] at this; cases this
theorem keyLt_head {a b : List Int} (ha : a ≠ []) (hb : b ≠ []) (h : a.headD 0 < b.headD 0) : keyLt a b = true := by
  match a, b, ha, hb with
  | x :: _, y :: _, _, _ =>
    simp only [List.headD_cons] at h
    unfold keyLt; rw [if_neg (by omega)]; exact decide_eq_true h

/-- Which event stands ahead: by its key, then by its number. -/
def kAt (evs : List EvD) (i : Nat) : List Int := (evAt evs i).key
def evLt (evs : List EvD) (i j : Nat) : Prop := keyLt (kAt evs i) (kAt evs j) = true ∨ (kAt evs i = kAt evs j ∧ i < j)
theorem evLt_irrefl (evs : List EvD) (i : Nat) : ¬ evLt evs i i := by
  rintro (h | h)
  · rw [keyLt_irrefl] at h; cases h
  · omega
theorem evLt_trans {evs : List EvD} {i j k : Nat} (h : evLt evs i j) (g : evLt evs j k) : evLt evs i k := by
  rcases h with h | ⟨h, h'⟩ <;> rcases g with g | ⟨g, g'⟩
  · exact .inl (keyLt_trans _ _ _ h g)
  · exact .inl (by rw [← g]; exact h)
  · exact .inl (by rw [h]; exact g)
  · exact .inr ⟨h.trans g, by omega⟩
theorem evLt_asymm {evs : List EvD} {i j : Nat} (h : evLt evs i j) : ¬ evLt evs j i := fun g => evLt_irrefl evs i (evLt_trans h g)
theorem evLt_tri (evs : List EvD) (i j : Nat) : evLt evs i j ∨ i = j ∨ evLt evs j i := by
  rcases keyLt_tri (kAt evs i) (kAt evs j) with h | h | h
  · exact .inl (.inl h)
  · rcases Nat.lt_trichotomy i j with g | g | g
    · exact .inl (.inr ⟨h, g⟩)
    · exact .inr (.inl g)
    · exact .inr (.inr (.inr ⟨h.symm, g⟩))
  · exact .inr (.inr (.inl h))

/-- A list in order is the only one of its members. -/
theorem sorted_unique {α : Type} {R : α → α → Prop} (hirr : ∀ a, ¬ R a a) (htr : ∀ a b c, R a b → R b c → R a c) : ∀ {l m : List α}, l.Pairwise R → m.Pairwise R → (∀ x, x ∈ l ↔ x ∈ m) → l = m
  | [], [], _, _, _ => rfl
  | [], b :: m, _, _, h => absurd ((h b).2 (by simp)) (by simp)
  | a :: l, [], _, _, h => absurd ((h a).1 (by simp)) (by simp)
  | a :: l, b :: m, hl, hm, h => by
    rw [List.pairwise_cons] at hl hm
    have hab : a = b := by
      have ha : a ∈ b :: m := (h a).1 (by simp)
      have hb : b ∈ a :: l := (h b).2 (by simp)
      simp only [List.mem_cons] at ha hb
      rcases ha with ha | ha
      · exact ha
      · rcases hb with hb | hb
        · exact hb.symm
        · exact absurd (htr _ _ _ (hl.1 b hb) (hm.1 a ha)) (hirr a)
    subst hab
    have hal : a ∉ l := fun hx => hirr a (hl.1 a hx)
    have ham : a ∉ m := fun hx => hirr a (hm.1 a hx)
    rw [sorted_unique hirr htr hl.2 hm.2 (fun x => ?_)]
    have hx := h x
    simp only [List.mem_cons] at hx
    constructor
    · intro hxl
      rcases hx.1 (.inr hxl) with e | e
      · exact absurd (e ▸ hxl) hal
      · exact e
    · intro hxm
      rcases hx.2 (.inr hxm) with e | e
      · exact absurd (e ▸ hxm) ham
      · exact e

/-- How the number i goes among numbers that stand in order: behind all that it does not stand ahead of. -/
def insAt (evs : List EvD) (out : List Nat) (i : Nat) : Nat → Nat
  | 0 => 0
  | k + 1 => if keyLt (kAt evs i) (kAt evs (out.getD k 0)) then insAt evs out i k else k + 1
theorem insAt_le (evs : List EvD) (out : List Nat) (i : Nat) : ∀ k, insAt evs out i k ≤ k
  | 0 => Nat.le_refl _
  | k + 1 => by unfold insAt; split; exact Nat.le_succ_of_le (insAt_le evs out i k); exact Nat.le_refl _
def insK (evs : List EvD) (out : List Nat) (i : Nat) : List Nat := out.take (insAt evs out i out.length) ++ i :: out.drop (insAt evs out i out.length)
def orderK (evs : List EvD) : Nat → List Nat
  | 0 => []
  | i + 1 => if kAt evs i = [] then orderK evs i else insK evs (orderK evs i) i
def orderD (evs : List EvD) : List Nat := orderK evs evs.length

theorem insAt_spec {evs : List EvD} {out : List Nat} {i : Nat} : ∀ k, k ≤ out.length → (∀ j, insAt evs out i k ≤ j → j < k → keyLt (kAt evs i) (kAt evs (out.getD j 0)) = true) ∧ (0 < insAt evs out i k → keyLt (kAt evs i) (kAt evs (out.getD (insAt evs out i k - 1) 0)) = false)
  | 0, _ => ⟨fun j _ h => by omega, fun h => by simp [insAt] at h⟩
  | k + 1, hk => by
    unfold insAt
    by_cases h : keyLt (kAt evs i) (kAt evs (out.getD k 0)) = true
    · rw [if_pos h]
      obtain ⟨a, b⟩ := insAt_spec (evs := evs) (out := out) (i := i) k (by omega)
      refine ⟨fun j h1 h2 => ?_, b⟩
      by_cases hj : j = k
      · rw [hj]; exact h
      · exact a j h1 (by omega)
    · rw [if_neg h]
      exact ⟨fun j h1 h2 => by omega, fun _ => by simpa using h⟩
theorem insK_mem {evs : List EvD} {out : List Nat} {i x : Nat} : x ∈ insK evs out i ↔ x = i ∨ x ∈ out := by
  unfold insK
  rw [List.mem_append, List.mem_cons]
  constructor
  · rintro (h | h | h)
    · exact .inr (List.mem_of_mem_take h)
    · exact .inl h
    · exact .inr (List.mem_of_mem_drop h)
  · rintro (h | h)
    · exact .inr (.inl h)
    · rw [← List.take_append_drop (insAt evs out i out.length) out, List.mem_append] at h
      rcases h with h | h
      · exact .inl h
      · exact .inr (.inr h)
theorem insK_sorted {evs : List EvD} {out : List Nat} {i : Nat} (h : out.Pairwise (evLt evs)) (hi : ∀ x ∈ out, x < i) : (insK evs out i).Pairwise (evLt evs) := by
  obtain ⟨k, hk⟩ : ∃ k, k = insAt evs out i out.length := ⟨_, rfl⟩
  obtain ⟨s1, s2⟩ := insAt_spec (evs := evs) (out := out) (i := i) out.length (Nat.le_refl _)
  have hle := insAt_le evs out i out.length
  unfold insK
  rw [← hk] at s1 s2 hle ⊢
  have hsp := h
  rw [← List.take_append_drop k out, List.pairwise_append] at hsp
  obtain ⟨a1, a2, a3⟩ := hsp
  have hpre : ∀ x ∈ out.take k, evLt evs x i := by
    intro x hx
    have hk0 : 0 < k := by
      rcases Nat.eq_zero_or_pos k with h0 | h0
      · rw [h0] at hx; simp at hx
      · exact h0
    have hb := s2 hk0
    have hlast : out.getD (k - 1) 0 ∈ out := by rw [List.getD_eq_getElem?_getD, List.getElem?_eq_getElem (by omega)]; exact List.getElem_mem _
    have hlt : evLt evs (out.getD (k - 1) 0) i := by
      rcases evLt_tri evs (out.getD (k - 1) 0) i with h1 | h1 | h1
      · exact h1
      · have := hi _ hlast; omega
      · rcases h1 with h1 | ⟨_, h1⟩
        · rw [hb] at h1; cases h1
        · have := hi _ hlast; omega
    obtain ⟨j, hj, rfl⟩ := List.mem_iff_getElem.1 hx
    have hj' : j < k := by simp at hj; omega
    rw [List.getElem_take]
    by_cases hjk : j = k - 1
    · subst hjk
      rw [List.getD_eq_getElem?_getD, List.getElem?_eq_getElem (by omega)] at hlt
      exact hlt
    · refine evLt_trans ?_ hlt
      rw [List.getD_eq_getElem?_getD, List.getElem?_eq_getElem (by omega)]
      exact List.pairwise_iff_getElem.1 h j (k - 1) (by omega) (by omega) (by omega)
  have hpost : ∀ x ∈ out.drop k, evLt evs i x := by
    intro x hx
    obtain ⟨j, hj, rfl⟩ := List.mem_iff_getElem.1 hx
    rw [List.getElem_drop]
    have hj' : k + j < out.length := by simp at hj; omega
    have := s1 (k + j) (by omega) hj'
    rw [List.getD_eq_getElem?_getD, List.getElem?_eq_getElem hj'] at this
    exact .inl this
  rw [List.pairwise_append, List.pairwise_cons]
  refine ⟨a1, ⟨hpost, a2⟩, fun x hx y hy => ?_⟩
  simp only [List.mem_cons] at hy
  rcases hy with rfl | hy
  · exact hpre x hx
  · exact a3 x hx y hy
theorem orderK_spec (evs : List EvD) : ∀ k, (orderK evs k).Pairwise (evLt evs) ∧ (∀ x, x ∈ orderK evs k ↔ x < k ∧ kAt evs x ≠ [])
  | 0 => ⟨List.Pairwise.nil, fun x => by simp [orderK]⟩
  | k + 1 => by
    obtain ⟨h1, h2⟩ := orderK_spec evs k
    unfold orderK
    by_cases h : kAt evs k = []
    · rw [if_pos h]
      refine ⟨h1, fun x => ?_⟩
      rw [h2]
      constructor
      · rintro ⟨a, b⟩; exact ⟨by omega, b⟩
      · rintro ⟨a, b⟩
        refine ⟨?_, b⟩
        have : x ≠ k := by rintro rfl; exact b h
        omega
    · rw [if_neg h]
      refine ⟨insK_sorted h1 (fun x hx => ((h2 x).1 hx).1), fun x => ?_⟩
      rw [insK_mem, h2]
      constructor
      · rintro (rfl | ⟨a, b⟩)
        · exact ⟨by omega, h⟩
        · exact ⟨by omega, b⟩
      · rintro ⟨a, b⟩
        by_cases hx : x = k
        · exact .inl hx
        · exact .inr ⟨by omega, b⟩
/-- The order is the only list of events with keys that stands in order. -/
theorem orderD_eq {evs : List EvD} {L : List Nat} (h : L.Pairwise (evLt evs)) (hm : ∀ x, x ∈ L ↔ x < evs.length ∧ kAt evs x ≠ []) : orderD evs = L :=
  sorted_unique (evLt_irrefl evs) (fun _ _ _ => evLt_trans) (orderK_spec evs evs.length).1 h (fun x => ((orderK_spec evs evs.length).2 x).trans (hm x).symm)
theorem orderD_mem {evs : List EvD} {i : Nat} (h : i ∈ orderD evs) : i < evs.length ∧ kAt evs i ≠ [] := ((orderK_spec evs evs.length).2 i).1 h
theorem orderK_len (evs : List EvD) : ∀ k, (orderK evs k).length ≤ k
  | 0 => Nat.le_refl _
  | k + 1 => by
    unfold orderK; split
    · exact Nat.le_succ_of_le (orderK_len evs k)
    · unfold insK
      rw [List.length_append, List.length_cons, List.length_take, List.length_drop]
      have := orderK_len evs k
      have := insAt_le evs (orderK evs k) k (orderK evs k).length
      omega

/-- Operations done one by one, in an order. -/
def Fold (ap : List Nat → CallD → List Nat × AnsD) (calls : List CallD) (evs : List EvD) : List Nat → List Nat → Prop
  | _, [] => True
  | st, i :: l =>
    if (calls.getD (evAt evs i).call d0).obj ≠ 0 then ((evAt evs i).resp ≠ 0 → (evAt evs i).ans = ⟨12, 0, []⟩) ∧ Fold ap calls evs st l
    else ((evAt evs i).resp ≠ 0 → (evAt evs i).ans = (ap st (calls.getD (evAt evs i).call d0)).2) ∧ Fold ap calls evs (ap st (calls.getD (evAt evs i).call d0)).1 l
def foldTo (ap : List Nat → CallD → List Nat × AnsD) (calls : List CallD) (evs : List EvD) : List Nat → List Nat → List Nat
  | st, [] => st
  | st, i :: l => foldTo ap calls evs (if (calls.getD (evAt evs i).call d0).obj ≠ 0 then st else (ap st (calls.getD (evAt evs i).call d0)).1) l
theorem fold_append {ap : List Nat → CallD → List Nat × AnsD} {calls : List CallD} {evs : List EvD} : ∀ {l m st : List Nat}, Fold ap calls evs st (l ++ m) ↔ Fold ap calls evs st l ∧ Fold ap calls evs (foldTo ap calls evs st l) m
  | [], m, st => by simp [Fold, foldTo]
  | i :: l, m, st => by
    simp only [List.cons_append, Fold, foldTo]
    split
    · rw [fold_append, and_assoc]
    · rw [fold_append, and_assoc]
theorem foldTo_append {ap : List Nat → CallD → List Nat × AnsD} {calls : List CallD} {evs : List EvD} : ∀ {l m st : List Nat}, foldTo ap calls evs st (l ++ m) = foldTo ap calls evs (foldTo ap calls evs st l) m
  | [], _, _ => rfl
  | i :: l, m, st => by simp only [List.cons_append, foldTo]; exact foldTo_append
/-- A fold looks at calls, answers, and whether there is one. -/
theorem fold_congr {ap : List Nat → CallD → List Nat × AnsD} {calls : List CallD} {evs evs' : List EvD} : ∀ {l st : List Nat}, (∀ i ∈ l, (evAt evs' i).call = (evAt evs i).call ∧ ((evAt evs' i).resp ≠ 0 → (evAt evs i).resp ≠ 0 ∧ (evAt evs' i).ans = (evAt evs i).ans)) → Fold ap calls evs st l → Fold ap calls evs' st l
  | [], _, _, _ => trivial
  | i :: l, st, h, hf => by
    obtain ⟨h1, h2⟩ := h i (by simp)
    unfold Fold at hf ⊢
    rw [h1]
    split
    · rename_i ho
      rw [if_pos ho] at hf
      exact ⟨fun hr => by rw [(h2 hr).2]; exact hf.1 (h2 hr).1, fold_congr (fun j hj => h j (by simp [hj])) hf.2⟩
    · rename_i ho
      rw [if_neg ho] at hf
      exact ⟨fun hr => by rw [(h2 hr).2]; exact hf.1 (h2 hr).1, fold_congr (fun j hj => h j (by simp [hj])) hf.2⟩
theorem foldTo_congr {ap : List Nat → CallD → List Nat × AnsD} {calls : List CallD} {evs evs' : List EvD} : ∀ {l st : List Nat}, (∀ i ∈ l, (evAt evs' i).call = (evAt evs i).call) → foldTo ap calls evs' st l = foldTo ap calls evs st l
  | [], _, _ => rfl
  | i :: l, st, h => by
    unfold foldTo
    rw [h i (by simp), foldTo_congr (fun j hj => h j (by simp [hj]))]
end
section

/- Layer 9: adder.Play. -/
open Go.RowKit

theorem adder_new (w : World) : Calls Try.prog 57 #[.int .i64 0] w fun e w' => e = .returned (.agg #[.int .i64 0]) ∧ Below w.heap.size w w' := by
  go_enter Try.func57, Try.ntmps57
  go_wp2
  exact bodyPost_ret (v := .agg #[.int .i64 0]) (by simp [results, Try.results57 , go_sem]) rfl ⟨rfl, Gr.new _ _⟩
abbrev adderS : Sys := onceSys adderRef adderAct
abbrev adderR : Real adderS := onceReal adderRef adderAct adderCap 93 (.agg #[.int .i64 0])
theorem adder_ok : RealOk adderR := once_real_ok adder_capgo adder_start (fun c wd => by unfold adderAct; split <;> rfl) (fun c wd => by unfold adderAct; split; exact memRead_cnt _ _; exact memAdd_cnt _ _ _)

set_option maxHeartbeats 4000000 in
theorem adderPlay_any (X : Nat → Prop) (w : World) (n : Int) (calls : List CallD) (picks : List Int) (ca pa : Option Addr) (cc pc : Nat) (hX : ∀ b, X b → b < w.heap.size) (hc : CallsAt X w ca calls) (hp : PicksAt w pa picks) :
    Calls Try.prog 32 #[.int .i64 n, .slice ca calls.length cc, .slice pa picks.length pc] w fun e w' => PlayRet X w w' (checkN n calls picks.length) (playD adderS () [0] calls picks) e := by
  obtain ⟨wa, hwa⟩ : ∃ wa, wa = w.alloc (.cells #[.slice none 0 0, .slice none 0 0, .int .i64 0, .int .i64 0, .int .i64 0, .int .i64 0, .int .i64 0, .int .i64 0, .int .i64 0] 32) := ⟨_, rfl⟩
  have hga : Below w.heap.size w wa := by rw [hwa]; exact Gr.new _ _
  have hra : wa.heap[w.heap.size]? = some (.cells #[.slice none 0 0, .slice none 0 0, .int .i64 0, .int .i64 0, .int .i64 0, .int .i64 0, .int .i64 0, .int .i64 0, .int .i64 0] 32 (0, 0)) := by rw [hwa]; exact heap_alloc_new _ _
  have hsa : w.heap.size < wa.heap.size := by rw [hwa]; simp
  have Hwa := Lib.hid hwa; have Hga := Lib.hid hga; have Hra := Lib.hid hra
  have P := Lib.hid (fun (u : World) (bo bw : Nat) (hu : Below wa.heap.size wa u) (h1 : u.cell? ⟨bo, 0, none⟩ = some (.iface 93 (.agg #[.int .i64 0]))) (h2 : u.cell? ⟨bw, 0, none⟩ = some (.int .u64 0)) (hbo : wa.heap.size ≤ bo) =>
    (play_any (X := fun b => X b ∨ b = w.heap.size) (R := adderR) adder_ok once_nolate (Nat.zero_le _) u () n calls [0] picks (.slice (some ⟨bo, 0, none⟩) 1 1) (.slice ca calls.length cc) (.slice (some ⟨bw, 0, none⟩) 1 1) pa pc
      ⟨⟨ca, cc, rfl, hc.sl.grown (Gr.trans hga hu), fun hl b off e hx => by
        rcases hx with hx | hx
        · exact hc.nx hl b off e hx
        · obtain ⟨b0, off0, e0, hb0⟩ := hc.sl.lt hl
          rw [e0] at e; cases e; omega⟩, hc.ok, ⟨bo, 0, 1, rfl, h1, fun hx => by rcases hx with hx | hx; have := hX bo hx; omega; omega⟩, ⟨_, 1, rfl, slOne h2, fun e => by cases e⟩, by simp, by simp, fun b hb => hb, fun _ _ => trivial, trivial, fun b hx => by have := hu.size; rcases hx with hx | hx; have := hX b hx; omega; omega⟩ (hp.sl.grown (Gr.trans hga hu)) hp.ok (fun _ _ _ _ _ => safe_of (fun _ _ _ _ => trivial) _ _ _)).mono (fun e w' h => (⟨PlayTo.ret h, hu⟩ : PlayRet (fun b => X b ∨ b = w.heap.size) u w' (checkN n calls picks.length) (playD adderS () [0] calls picks) e ∧ Below wa.heap.size wa u)))
  have N := Lib.hid (fun (u : World) (h : Below wa.heap.size wa u) => (adder_new u).mono (fun e w' h' => (⟨h'.1, Gr.trans h h'.2, (fun p hp => h'.2.cell hp), h'.2.size⟩ : e = .returned (.agg #[.int .i64 0]) ∧ Below wa.heap.size wa w' ∧ (∀ p : Addr, p.block < u.heap.size → w'.cell? p = u.cell? p) ∧ u.heap.size ≤ w'.heap.size)))
  have hmk := make_one
  obtain ⟨er, her⟩ : ∃ er, er = checkN n calls picks.length := ⟨_, rfl⟩
  obtain ⟨rr, hrr⟩ : ∃ rr, rr = playD adderS () [0] calls picks := ⟨_, rfl⟩
  rw [← her, ← hrr] at P ⊢
  clear hc hp hwa hga hra her hrr
  go_enter Try.func32, Try.ntmps32
  go_wp2_with fail
  rw [← Hwa.out]
  go_region_held3 (fun u => True)
    (exact True.intro)
    (first | (go_at_call 57; refine (N.out _ ?_).mono ?_; (first | exact (Gr.refl _).drew | exact Gr.alloc (Gr.refl _).drew _); rintro e w1 ⟨rfl, hb1, hk1⟩) | (go_at_call 44; refine (P.out _ _ _ ?_ ?_ ?_ ?_).mono ?_; (first | with_reducible exact Gr.alloc (Gr.alloc hb1 _) _ | with_reducible exact Gr.alloc hb1 _); (first | with_reducible exact objs_cell _ _ _ _ | exact cell_new2 _ _ _ _ _ (by simp) | with_reducible exact cell_new1 _ _ _); (first | with_reducible exact made_cell _ _ _ (by simp) | with_reducible exact made_cell2 _ _ | exact made_cell3 hk1.1 _ _ (by simp) hk1.2); (have := hb1.size; simp; omega); rintro e w4 ⟨⟨ea, en, ec, va, vn, vc, rp, rfl, hrest⟩, hu⟩; have hr4 := (hrest.1.block w.heap.size (by have := hu.size; omega)).trans ((hu.block w.heap.size (by omega)).trans Hra.out); obtain ⟨cs, w7, hcs, hsz, hst, hbk7, hch7⟩ := rep_store w4 w.heap.size (.slice ea en ec) (.slice va vn vc) rp hr4 rfl rfl; rw [hcs]; have Hcs := Lib.hid hcs; have Hbk7 := Lib.hid hbk7; have Hch7 := Lib.hid hch7; have Hrest := Lib.hid hrest; have Hu := Lib.hid hu; clear hr4 hrest hu hb1 hk1 hcs hbk7 hch7))
  all_goals
    go_wp2
    have hld := rep_load w7 w.heap.size cs Hbk7.out hsz
    refine bodyPost_ret (v := .tuple #[.agg cs, .int .i64 er]) (by simp [results, Try.results32 , Sem.run_bind, Sem.run_pure, asAddr, hld]) rfl ?_
    refine ⟨ea, en, ec, va, vn, vc, rp, by rw [Hcs.out], PlayRest.chg Hrest.out Hch7.out (fun b hb => ?_) (Gr.trans Hga.out Hu.out) (fun b hb => .inl hb)⟩
    have hb' : b = w.heap.size := hb
    exact ⟨.inr hb', by omega, by have := Hu.out.size; omega⟩
end
end Go.Proofs.Ytjkgfkbanbhkgaa
