/- What the laws' arguments come as: calls. -/
import Derived.Test.YteffgpcjfnjlkaaGreatJ06
import Derived.Test.YteffgpcjfnjlkaaGreatJ02
import Derived.Test.YteffgpcjfnjlkaaGreatJ28
import Derived.Test.YteffgpcjfnjlkaaGreatJ29
import Derived.Test.YteffgpcjfnjlkaaGreatJ16
import Derived.Test.YteffgpcjfnjlkaaGreatJ39
set_option maxRecDepth 100000
set_option linter.unusedVariables false
set_option linter.unusedSimpArgs false
set_option linter.unnecessarySimpa false
namespace Go.Proofs.YteffgpcjfnjlkaaGreat
section
open Go.ChangeShapes Go.WideShapes Go.ChangeAt Go.RowKit
def callV (x : CallD) (f : Nat) : Value :=
  if f = 0 then .int .i64 x.thread else if f = 1 then .int .i64 x.obj else if f = 2 then .int .i64 x.kind else if f = 3 then .int .u64 (x.a : Int) else if f = 4 then .int .u64 (x.b : Int) else .int .u64 (x.c : Int)
structure CallWf (x : CallD) : Prop where
  thread : (Lit.int .i64 x.thread).wf = true
  obj : (Lit.int .i64 x.obj).wf = true
  kind : (Lit.int .i64 x.kind).wf = true
  a : U64 x.a
  b : U64 x.b
  c : U64 x.c
theorem call_of {H : Type} {enc : TypeId × Value → H} {W : World} {n : Nat} {cs : List Value} {x : DataW H × List MemPlace} (hx : DataW.trod enc Tryz.prog W 0 (fun _ => true) true n 48 cs = some x) :
    ∃ y : CallD, (∀ f, f < 6 → cs[f]? = some (callV y f)) ∧ cs.length = 6 ∧ CallWf y := by
  have hu := Tryz.underlying48
  have hi := Tryz.underlying3
  have hq := Tryz.underlying46
  have ci : Tryz.prog.cellsOf 3 = 1 := by kernel_rfl
  have cq : Tryz.prog.cellsOf 46 = 1 := by kernel_rfl
  have hl := trod_len_struct hu hx
  have hc : Tryz.prog.cellsOf 48 = 6 := by kernel_rfl
  rw [hc] at hl
  obtain ⟨t0, e0, w0⟩ := trod_field_int hu hx (List.getElem_mem (n := 0) (by decide)) hi ci
  obtain ⟨t1, e1, w1⟩ := trod_field_int hu hx (List.getElem_mem (n := 1) (by decide)) hi ci
  obtain ⟨t2, e2, w2⟩ := trod_field_int hu hx (List.getElem_mem (n := 2) (by decide)) hi ci
  obtain ⟨t3, e3, w3⟩ := trod_field_int hu hx (List.getElem_mem (n := 3) (by decide)) hq cq
  obtain ⟨t4, e4, w4⟩ := trod_field_int hu hx (List.getElem_mem (n := 4) (by decide)) hq cq
  obtain ⟨t5, e5, w5⟩ := trod_field_int hu hx (List.getElem_mem (n := 5) (by decide)) hq cq
  obtain ⟨n3, rfl, u3⟩ := u64_of w3
  obtain ⟨n4, rfl, u4⟩ := u64_of w4
  obtain ⟨n5, rfl, u5⟩ := u64_of w5
  refine ⟨⟨t0, t1, t2, n3, n4, n5⟩, fun f hf => ?_, hl, ⟨w0, w1, w2, u3, u4, u5⟩⟩
  obtain rfl | rfl | rfl | rfl | rfl | rfl : f = 0 ∨ f = 1 ∨ f = 2 ∨ f = 3 ∨ f = 4 ∨ f = 5 := by omega
  · exact e0
  · exact e1
  · exact e2
  · exact e3
  · exact e4
  · exact e5
theorem open_calls {H : Type} {enc : TypeId × Value → H} {W : World} {base : Nat} {v : Value} {d : DataW H} {ps : List MemPlace}
    (hv : Value.okWide Tryz.prog W .any base 23 v) (h : DataW.Trod enc Tryz.prog W 0 (fun _ => true) true 23 v d ps) (hlt : ∀ p ∈ ps, p.block < W.heap.size) :
    ∃ (a : Option Addr) (c : Nat) (l : List CallD), v = .slice a l.length c ∧ SlAt W a l.length 6 (callG l) ∧ (∀ y ∈ l, CallWf y) := by
  have hc : Tryz.prog.cellsOf 48 = 6 := by kernel_rfl
  obtain ⟨a, c, l, h1, h2, h3⟩ := open_sl Tryz.underlying23 hv h hlt (by rw [hc]; omega) (⟨0, 0, 0, 0, 0, 0⟩ : CallD) (fun y cs => (∀ f, f < 6 → cs[f]? = some (callV y f)) ∧ cs.length = 6 ∧ CallWf y)
    (fun n cs x hx => call_of hx) callV (fun y cs hy => by rw [hc]; exact ⟨hy.2.1, hy.1⟩)
  rw [hc] at h2
  exact ⟨a, c, l, h1, h2, fun y hy => by obtain ⟨cs, _, _, hw⟩ := h3 y hy; exact hw⟩
end
section

/- Operations done one by one, in the order of their keys: what makes a report whole, in plain numbers. -/
open Go.RowKit
instance evLt_dec (evs : List EvD) (i j : Nat) : Decidable (evLt evs i j) := inferInstanceAs (Decidable (_ ∨ _))
structure WholeGood (ap : List Nat → CallD → List Nat × AnsD) (s0 : List Nat) (calls : List CallD) (n : Nat) (r : RepD) : Prop where
  rows : RowsGood calls n r
  fold : Fold ap calls r.evs s0 (orderD r.evs)
end
section

/- Layer 6: objects whose operations have one step: a report is that of operations done one by one, in plain numbers. -/
open Go.RowKit
structure OnceAp (ref : CallD → Option Int) (act : CallD → WD → WD × (Int × Nat)) (ap : List Nat → CallD → List Nat × AnsD) (L : Nat) : Prop where
  refuse : ∀ c e ws, ref c = some e → ap ws c = (ws, ⟨e, 0, []⟩)
  go : ∀ c wd, ref c = none → wd.mem.ws.length = L → wd.mem.c.fault = 0 → ap wd.mem.ws c = ((act c wd).1.mem.ws, ⟨(act c wd).2.1, (act c wd).2.2, []⟩) ∧ (act c wd).1.mem.ws.length = L ∧ (act c wd).1.mem.c.fault = 0
  marks : ∀ c wd, (act c wd).1.marks = wd.marks
  now : ∀ c wd, (act c wd).1.now = wd.now
  all : ∀ c wd, (act c wd).1.mem.c.all ≤ wd.mem.c.all + 1
structure OnInv {ref : CallD → Option Int} {act : CallD → WD → WD × (Int × Nat)} (ap : List Nat → CallD → List Nat × AnsD) (L : Nat) (s0 : List Nat) (calls : List CallD) (st : PlayD (onceSys ref act)) : Prop where
  hands : ∀ p, (st.hands.getD p (none, 0)).1 = none
  m16 : st.wd.marks.length = 16
  marks : ∀ p, st.wd.marks.getD p [] = []
  wlen : st.wd.mem.ws.length = L
  fault : st.wd.mem.c.fault = 0
  all : st.wd.mem.c.all ≤ st.wd.now
  ev : ∀ i, i < st.evs.length → (evAt st.evs i).resp = (evAt st.evs i).inv ∧ (evAt st.evs i).inv ≠ 0 ∧ (evAt st.evs i).key = [2 * ((evAt st.evs i).resp : Int)] ∧ (evAt st.evs i).steps = 1
  fold : Fold ap calls st.evs s0 (List.range st.evs.length)
  togo : foldTo ap calls st.evs s0 (List.range st.evs.length) = st.wd.mem.ws
theorem rep_getD {α : Type} (n p : Nat) (x : α) : (List.replicate n x).getD p x = x := by
  by_cases hp : p < n <;> simp [List.getD_eq_getElem?_getD, List.getElem?_replicate, hp]
theorem on_snoc {ap : List Nat → CallD → List Nat × AnsD} {calls : List CallD} {evs : List EvD} {s0 ws ws' : List Nat} {e : EvD} (hf : Fold ap calls evs s0 (List.range evs.length)) (ht : foldTo ap calls evs s0 (List.range evs.length) = ws)
    (he : if (calls.getD e.call d0).obj ≠ 0 then e.ans = ⟨12, 0, []⟩ ∧ ws' = ws else ap ws (calls.getD e.call d0) = (ws', e.ans)) :
    Fold ap calls (evs ++ [e]) s0 (List.range (evs ++ [e]).length) ∧ foldTo ap calls (evs ++ [e]) s0 (List.range (evs ++ [e]).length) = ws' := by
  have hl : (evs ++ [e]).length = evs.length + 1 := by simp
  have hold : ∀ i ∈ List.range evs.length, evAt (evs ++ [e]) i = evAt evs i := fun i hi => evAt_old (List.mem_range.1 hi)
  have h1 : Fold ap calls (evs ++ [e]) s0 (List.range evs.length) := fold_congr (fun i hi => by rw [hold i hi]; exact ⟨rfl, fun h => ⟨h, rfl⟩⟩) hf
  have h2 : foldTo ap calls (evs ++ [e]) s0 (List.range evs.length) = ws := by rw [← ht]; exact foldTo_congr (fun i hi => by rw [hold i hi])
  rw [hl, List.range_succ]
  rw [fold_append, foldTo_append, h2]
  refine ⟨⟨h1, ?_⟩, ?_⟩
  · unfold Fold
    rw [evAt_last]
    split
    · rename_i ho; rw [if_pos ho] at he; exact ⟨fun _ => he.1, trivial⟩
    · rename_i ho; rw [if_neg ho] at he; exact ⟨fun _ => by rw [he], trivial⟩
  · unfold foldTo
    rw [evAt_last]
    split
    · rename_i ho; rw [if_pos ho] at he; exact he.2.symm
    · rename_i ho; rw [if_neg ho] at he; rw [he]; rfl
theorem set_marks {m : List (List Int)} {q : Nat} (h : ∀ p, m.getD p [] = []) : ∀ p, (m.set q []).getD p [] = [] := fun p => by
  by_cases hp : q = p
  · subst hp
    by_cases hl : q < m.length
    · exact getD_set_eq hl
    · rw [List.set_eq_of_length_le (by omega)]; exact h q
  · rw [getD_set_neq hp]; exact h p
variable {ref : CallD → Option Int} {act : CallD → WD → WD × (Int × Nat)} {ap : List Nat → CallD → List Nat × AnsD} {L : Nat} {s0 : List Nat} {calls : List CallD}
theorem on_key {wd : WD} {p : Nat} (h : wd.marks.getD p [] = []) : keyOf wd p [] = [2 * (wd.now : Int)] := by
  unfold keyOf; rw [if_pos rfl, if_pos h]; rfl
theorem on_turn (H : OnceAp ref act ap L) {st st' : PlayD (onceSys ref act)} (hg : StGood calls st) (h : OnInv ap L s0 calls st) (ht : Turn calls st st') : OnInv ap L s0 calls st' := by
  cases ht with
  | idle => exact ⟨h.hands, h.m16, h.marks, h.wlen, h.fault, h.all, h.ev, h.fold, h.togo⟩
  | refuse q i er hq hN hh hs =>
    obtain ⟨e, he⟩ : ∃ e, e = finishEv (st.wd.tick.begin q) q ⟨er, 0, []⟩ [] (newEv i (st.wd.tick.begin q)) := ⟨_, rfl⟩
    have hmk : ∀ p, (st.wd.tick.begin q).marks.getD p [] = [] := set_marks h.marks
    have hans : if (calls.getD e.call d0).obj ≠ 0 then e.ans = ⟨12, 0, []⟩ ∧ st.wd.mem.ws = st.wd.mem.ws else ap st.wd.mem.ws (calls.getD e.call d0) = (st.wd.mem.ws, e.ans) := by
      rw [he]
      show if (calls.getD i d0).obj ≠ 0 then (⟨er, 0, []⟩ : AnsD) = ⟨12, 0, []⟩ ∧ _ else ap st.wd.mem.ws (calls.getD i d0) = (st.wd.mem.ws, ⟨er, 0, []⟩)
      unfold startD at hs
      by_cases ho : (calls.getD i d0).obj = 0
      · rw [if_neg (fun x => x ho)]
        rw [if_pos ho] at hs
        have hs' : (match ref (calls.getD i d0) with | some e => Mc.refuse e | none => .run (calls.getD i d0, ((0 : Int), 0))) = (.refuse er : Mc (CallD × (Int × Nat))) := hs
        cases hr : ref (calls.getD i d0) with
        | none => rw [hr] at hs'; cases hs'
        | some e' => rw [hr] at hs'; cases hs'; exact H.refuse _ _ _ hr
      · rw [if_pos ho]
        rw [if_neg ho] at hs
        cases hs
        exact ⟨rfl, rfl⟩
    obtain ⟨f1, f2⟩ := on_snoc h.fold h.togo hans
    have hev : (refuseTo st q i er).evs = st.evs ++ [e] := by rw [he]; rfl
    refine ⟨fun p => ?_, ?_, hmk, h.wlen, h.fault, Nat.le_succ_of_le h.all, fun j hj => ?_, by rw [hev]; exact f1, by rw [hev]; exact f2⟩
    · show ((st.hands.set q (none, st.evs.length)).getD p (none, 0)).1 = none
      rw [hands_set hg.h16 hq]
      split
      · rfl
      · exact h.hands p
    · show (st.wd.marks.set q []).length = 16
      rw [List.length_set]; exact h.m16
    · rw [hev] at hj ⊢
      by_cases hjl : j < st.evs.length
      · rw [evAt_old hjl]; exact h.ev j hjl
      · obtain rfl : j = st.evs.length := by simp at hj; omega
        rw [evAt_last, he]
        refine ⟨rfl, ?_, on_key (hmk q), rfl⟩
        show st.wd.now + 1 ≠ 0
        omega
  | step q i k s evs0 wd0 hq hN hf =>
    cases hf with
    | old k s hh hk hc hr => exact absurd (by rw [hh]) (fun x : (st.hands.getD q (none, 0)).1 = some s => by rw [h.hands q] at x; cases x)
    | new s hh hs =>
      obtain ⟨c, hc⟩ : ∃ c, c = calls.getD i d0 := ⟨_, rfl⟩
      have hobj : c.obj = 0 ∧ ref c = none ∧ s = (c, ((0 : Int), 0)) := by
        unfold startD at hs
        rw [← hc] at hs
        by_cases ho : c.obj = 0
        · rw [if_pos ho] at hs
          have hs' : (match ref c with | some e => Mc.refuse e | none => .run (c, ((0 : Int), 0))) = (.run s : Mc (CallD × (Int × Nat))) := hs
          cases hr : ref c with
          | some e => rw [hr] at hs'; cases hs'
          | none => rw [hr] at hs'; cases hs'; exact ⟨ho, rfl, rfl⟩
        · rw [if_neg ho] at hs; cases hs
      obtain ⟨o1, o2, rfl⟩ := hobj
      obtain ⟨wd1, hwd1⟩ : ∃ wd1, wd1 = st.wd.tick.begin q := ⟨_, rfl⟩
      obtain ⟨g1, g2, g3⟩ := H.go c wd1 o2 (by rw [hwd1]; exact h.wlen) (by rw [hwd1]; exact h.fault)
      have hst : (onceSys ref act).step st.obj wd1 q (c, ((0 : Int), 0)) = ((), (act c wd1).1, (c, (act c wd1).2), true) := rfl
      obtain ⟨e, he⟩ : ∃ e, e = finishEv (act c wd1).1 q ⟨(act c wd1).2.1, (act c wd1).2.2, []⟩ [] (newEv i wd1) := ⟨_, rfl⟩
      have hto : stepTo st ((onceSys ref act).step st.obj wd1 q (c, ((0 : Int), 0))) q i st.evs.length (st.evs ++ [newEv i wd1]) = { wd := (act c wd1).1, obj := (), fin := st.fin.set i true, hands := st.hands.set q (none, st.evs.length), evs := st.evs ++ [e], idle := st.idle } := by
        rw [hst, he]
        unfold stepTo ev1
        simp only [if_true]
        congr 1
        rw [evAt_last]
        have : (st.evs ++ [newEv i wd1]).set st.evs.length (finishEv (act c wd1).1 q ((onceSys ref act).answer (c, (act c wd1).2)).1 ((onceSys ref act).answer (c, (act c wd1).2)).2 (newEv i wd1)) = st.evs ++ [finishEv (act c wd1).1 q ((onceSys ref act).answer (c, (act c wd1).2)).1 ((onceSys ref act).answer (c, (act c wd1).2)).2 (newEv i wd1)] := by
          rw [List.set_append_right _ _ (Nat.le_refl _), Nat.sub_self]; rfl
        rw [this]; rfl
      have hgoal : OnInv ap L s0 calls (stepTo st ((onceSys ref act).step st.obj wd1 q (c, ((0 : Int), 0))) q i st.evs.length (st.evs ++ [newEv i wd1])) := by
        rw [hto]
        have hmk1 : ∀ p, wd1.marks.getD p [] = [] := by rw [hwd1]; exact set_marks h.marks
        have hmk : ∀ p, (act c wd1).1.marks.getD p [] = [] := by rw [H.marks]; exact hmk1
        have hnow : (act c wd1).1.now = st.wd.now + 1 := by rw [H.now, hwd1]; rfl
        have hall : (act c wd1).1.mem.c.all ≤ st.wd.now + 1 := by
          have h1 := H.all c wd1
          have h2 := h.all
          have h3 : wd1.mem = st.wd.mem := by rw [hwd1]; rfl
          rw [h3] at h1; omega
        have hws : wd1.mem.ws = st.wd.mem.ws := by rw [hwd1]; rfl
        obtain ⟨f1, f2⟩ := on_snoc (e := e) (ws' := (act c wd1).1.mem.ws) h.fold h.togo (by
          rw [he]
          show if (calls.getD i d0).obj ≠ 0 then _ else ap st.wd.mem.ws (calls.getD i d0) = ((act c wd1).1.mem.ws, ⟨(act c wd1).2.1, (act c wd1).2.2, []⟩)
          rw [← hc, if_neg (fun x => x o1), ← hws]
          exact g1)
        refine ⟨fun p => ?_, ?_, hmk, g2, g3, by rw [hnow]; exact hall, fun j hj => ?_, f1, f2⟩
        · show ((st.hands.set q (none, st.evs.length)).getD p (none, 0)).1 = none
          rw [hands_set (S := onceSys ref act) hg.h16 hq]
          split
          · rfl
          · exact h.hands p
        · show (act c wd1).1.marks.length = 16
          rw [H.marks, hwd1]
          show (st.wd.marks.set q []).length = 16
          rw [List.length_set]; exact h.m16
        · by_cases hjl : j < st.evs.length
          · show (evAt (st.evs ++ [e]) j).resp = _ ∧ _
            rw [evAt_old hjl]; exact h.ev j hjl
          · obtain rfl : j = st.evs.length := by
              have : j < (st.evs ++ [e]).length := hj
              simp at this; omega
            show (evAt (st.evs ++ [e]) st.evs.length).resp = _ ∧ _
            rw [evAt_last, he]
            refine ⟨?_, ?_, on_key (hmk q), rfl⟩
            · show (act c wd1).1.now = wd1.now
              exact H.now _ _
            · show wd1.now ≠ 0
              rw [hwd1]; show st.wd.now + 1 ≠ 0; omega
      rw [← hwd1]
      exact hgoal
theorem on_end {st : PlayD (onceSys ref act)} (h : ∀ p, (st.hands.getD p (none, 0)).1 = none) : endD (onceSys ref act) st = st.evs := by
  unfold endD
  have : ∀ (l : List Nat) (e : List EvD), l.foldl (endEv (onceSys ref act) st) e = e := by
    intro l
    induction l with
    | nil => intro e; rfl
    | cons a l ih =>
      intro e
      rw [List.foldl_cons]
      have : endEv (onceSys ref act) st e a = e := by
        unfold endEv
        split
        · rfl
        · rename_i s i hs
          have := h a
          rw [hs] at this; cases this
      rw [this, ih]
  exact this _ _
theorem on_order {evs : List EvD} (hk : ∀ i, i < evs.length → (evAt evs i).key = [2 * ((evAt evs i).resp : Int)]) (hr : ∀ i j, i < j → j < evs.length → (evAt evs i).resp < (evAt evs j).resp) : orderD evs = List.range evs.length := by
  refine orderD_eq ?_ (fun x => ?_)
  · rw [List.pairwise_iff_getElem]
    intro i j hi hj hij
    simp only [List.length_range] at hi hj
    rw [List.getElem_range, List.getElem_range]
    refine .inl ?_
    unfold kAt
    rw [hk i hi, hk j hj]
    have := hr i j hij hj
    simp only [keyLt]
    rw [if_neg (by omega)]
    apply decide_eq_true; omega
  · rw [List.mem_range]
    refine ⟨fun h => ⟨h, by unfold kAt; rw [hk x h]; simp⟩, fun h => h.1⟩
theorem on_play {n : Nat} (H : OnceAp ref act ap L) {np : Nat} (hck : checkN (n : Int) calls np = 0) (ws : List Nat) (hws : ws.length = L) (picks : List Int) (hnp : picks.length ≤ 65536) :
    WholeGood ap ws calls n (playD (onceSys ref act) () ws calls picks) ∧ foldTo ap calls (playD (onceSys ref act) () ws calls picks).evs ws (orderD (playD (onceSys ref act) () ws calls picks).evs) = (playD (onceSys ref act) () ws calls picks).words ∧
    orderD (playD (onceSys ref act) () ws calls picks).evs = List.range (playD (onceSys ref act) () ws calls picks).evs.length ∧ (playD (onceSys ref act) () ws calls picks).evs.length ≤ picks.length ∧
    (playD (onceSys ref act) () ws calls picks).ticks + (playD (onceSys ref act) () ws calls picks).idle = picks.length ∧ (playD (onceSys ref act) () ws calls picks).words.length = L ∧ (∀ i, i < (playD (onceSys ref act) () ws calls picks).evs.length → (evAt (playD (onceSys ref act) () ws calls picks).evs i).steps = 1 ∧ (evAt (playD (onceSys ref act) () ws calls picks).evs i).resp ≠ 0) := by
  have hn16 := thr_16 hck
  obtain ⟨h1, h2⟩ : 1 ≤ n ∧ n ≤ 16 := by
    obtain ⟨z1, z2, _⟩ := wrongN_zero (checkN_zero hck).1
    omega
  have hthr : ∀ c, c < calls.length → 0 ≤ (calls.getD c d0).thread ∧ (calls.getD c d0).thread < n := fun c hc => by have := thr_ok hck c hc; omega
  have hnow : ∀ (o : (onceSys ref act).ω) (wd : WD) (p : Nat) (s : (onceSys ref act).σ), ((onceSys ref act).step o wd p s).2.1.now = wd.now := fun o wd p s => H.now _ _
  have h0 : OnInv (ref := ref) (act := act) ap L ws calls (play0 (onceSys ref act) () ws calls) := by
    refine ⟨fun p => ?_, rfl, fun p => ?_, hws, rfl, Nat.zero_le _, fun i hi => absurd hi (Nat.not_lt_zero i), trivial, rfl⟩
    · show ((List.replicate 16 ((none : Option (CallD × (Int × Nat))), 0)).getD p (none, 0)).1 = none
      rw [rep_getD]
    · show (List.replicate 16 ([] : List Int)).getD p [] = []
      exact rep_getD 16 p []
  obtain ⟨hg, h⟩ := picks_ind (S := onceSys ref act) hnow hn16 (J := OnInv ap L ws calls) (fun st st' hg _ hj ht => on_turn H hg hj ht) picks (play0_good (S := onceSys ref act) calls () ws) h0
  have htk := picks_ticks hnow (play0 (onceSys ref act) () ws calls) picks (calls := calls)
  rw [show (play0 (onceSys ref act) () ws calls).wd.now = 0 from rfl, show (play0 (onceSys ref act) () ws calls).idle = 0 from rfl] at htk
  obtain ⟨st, hst⟩ : ∃ st, st = picksD (onceSys ref act) calls (play0 (onceSys ref act) () ws calls) picks := ⟨_, rfl⟩
  have hP : playD (onceSys ref act) () ws calls picks = reportD (onceSys ref act) st := by rw [hst]; rfl
  rw [hP]
  rw [← hst] at hg h htk
  have hE : (reportD (onceSys ref act) st).evs = st.evs := on_end h.hands
  have hlow := hg.ev.len_le
  have hord : orderD st.evs = List.range st.evs.length := on_order (fun i hi => (h.ev i hi).2.2.1) (fun i j hij hj => by
    rw [(h.ev i (by omega)).1, (h.ev j hj).1]; exact hg.ev.rise i j hij hj)
  have hrows : RowsGood calls n (reportD (onceSys ref act) st) := rows_good hg h1 h2 hthr ⟨fun i hi hr => by
      obtain ⟨e1, e2, e3, _⟩ := h.ev i hi
      rw [e3]; exact within_tick (by omega), fun p s k hh => by have := h.hands p; rw [hh] at this; cases this⟩ h.fault h.all (by omega)
  refine ⟨⟨hrows, ?_⟩, ?_, ?_, ?_, ?_, h.wlen, ?_⟩
  · rw [hE, hord]; exact h.fold
  · rw [hE, hord]; exact h.togo
  · rw [hE]; exact hord
  · rw [hE]; omega
  · show st.wd.now + st.idle = picks.length; omega
  · rw [hE]; exact fun i hi => ⟨(h.ev i hi).2.2.2, by rw [(h.ev i hi).1]; exact (h.ev i hi).2.1⟩
end
end Go.Proofs.YteffgpcjfnjlkaaGreat
