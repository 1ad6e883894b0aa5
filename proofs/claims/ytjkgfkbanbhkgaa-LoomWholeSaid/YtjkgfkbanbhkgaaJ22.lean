/- Layer 9: tickets, in plain numbers. -/
import Derived.Test.YtjkgfkbanbhkgaaJ21
import Derived.Test.YtjkgfkbanbhkgaaJ15
import Derived.Laws.CopyOwn
set_option maxRecDepth 100000
set_option linter.unusedVariables false
set_option linter.unusedSimpArgs false
set_option linter.unnecessarySimpa false
namespace Go.Proofs.Ytjkgfkbanbhkgaa
section
open Go.RowKit

def tkCall (n k : Nat) : CallD := ⟨((k % n : Nat) : Int), 0, 2, 0, 0, 0⟩
def tk (n m : Nat) : List CallD := (List.range m).map (tkCall n)
theorem tk_succ (n m : Nat) : tk n (m + 1) = tk n m ++ [tkCall n m] := by unfold tk; rw [List.range_succ, List.map_append]; rfl
theorem tk_len (n m : Nat) : (tk n m).length = m := by simp [tk]
theorem tk_mem {n m : Nat} {x : CallD} (h : x ∈ tk n m) : ∃ k, k < m ∧ x = tkCall n k := by
  unfold tk at h
  obtain ⟨k, hk, rfl⟩ := List.mem_map.1 h
  exact ⟨k, List.mem_range.1 hk, rfl⟩
theorem tk_get {n m i : Nat} (h : i < m) : (tk n m).getD i d0 = tkCall n i := by simp [tk, List.getD_eq_getElem?_getD, h]

structure TkInv (st : PlayD adderS) (k : Nat) : Prop where
  h16 : st.hands.length = 16
  none_ : ∀ p, (st.hands.getD p (none, 0)).1 = none
  now : st.wd.now = st.evs.length
  ws : st.wd.mem.ws = [st.evs.length]
  evs : ∀ i, i < st.evs.length → (st.evs.getD i ev0).ans.val = i ∧ (st.evs.getD i ev0).resp = i + 1
  len : st.evs.length ≤ k
theorem tk_pick {n m : Nat} {st : PlayD adderS} {k : Nat} (h : TkInv st k) (hk : k < 100000) (p : Int) : TkInv (pickD adderS (tk n m) st p) (k + 1) := by
  unfold pickD
  cases hN : nowN (tk n m) st.fin p with
  | none => exact ⟨h.h16, h.none_, h.now, h.ws, h.evs, by have := h.len; show st.evs.length ≤ k + 1; omega⟩
  | some i =>
    obtain ⟨hi, _, _⟩ := nowN_spec hN
    rw [tk_len] at hi
    simp only
    have hstep : stepD adderS (tk n m) st p.toNat i = ({ st with wd := { st.wd.tick.begin p.toNat with mem := (memAdd st.wd.mem 0 1).1 }, hands := st.hands.set p.toNat (none, st.evs.length), evs := st.evs ++ [finishEv { st.wd.tick.begin p.toNat with mem := (memAdd st.wd.mem 0 1).1 } p.toNat ⟨0, (memAdd st.wd.mem 0 1).2, []⟩ [] (newEv i (st.wd.tick.begin p.toNat))] }, true) := by
      unfold stepD
      rw [h.none_]
      simp only
      have hst : startD adderS st.obj (st.wd.tick.begin p.toNat) p.toNat ((tk n m).getD i d0) = .run (tkCall n i, (0, 0)) := by
        rw [tk_get hi]; rfl
      rw [hst]
      simp only
      unfold goStep
      have hact : adderAct (tkCall n i) (st.wd.tick.begin p.toNat) = ({ st.wd.tick.begin p.toNat with mem := (memAdd st.wd.mem 0 1).1 }, (0, (memAdd st.wd.mem 0 1).2)) := rfl
      simp only [adderS, onceSys, hact, if_true, List.set_set]
      rw [modEv_snoc]
      rfl
    rw [hstep]
    simp only [if_true]
    have hadd : (memAdd st.wd.mem 0 1).1.ws = [st.evs.length + 1] ∧ (memAdd st.wd.mem 0 1).2 = st.evs.length := by
      have hl := h.len
      unfold memAdd
      have hout : memOut st.wd.mem 0 = false := by unfold memOut; rw [h.ws]; rfl
      rw [if_neg (by rw [hout]; simp)]
      simp only [h.ws]
      simp
      omega
    have hnew : ∀ e : EvD, (st.evs ++ [e]).length = st.evs.length + 1 := fun e => by simp
    refine ⟨by simpa using h.h16, fun q => ?_, ?_, ?_, fun j hj => ?_, by rw [hnew]; have := h.len; omega⟩
    · by_cases hq : p.toNat = q
      · subst hq
        rcases Nat.lt_or_ge p.toNat 16 with h1 | h1
        · rw [getD_set_eq (by rw [h.h16]; exact h1)]
        · rw [List.getD_eq_getElem?_getD, List.getElem?_eq_none (by simp [h.h16]; omega)]; rfl
      · rw [getD_set_neq hq]; exact h.none_ q
    · rw [hnew]; simp [WD.begin, WD.tick, h.now]
    · rw [hnew]; exact hadd.1
    · rw [hnew] at hj
      simp only
      rcases Nat.lt_or_ge j st.evs.length with h1 | h1
      · rw [getD_snoc_lt h1]; exact h.evs j h1
      · obtain rfl : j = st.evs.length := by omega
        rw [getD_snoc_eq]
        simp [finishEv, WD.begin, WD.tick, h.now, hadd.2]
theorem tk_picks {n m : Nat} : ∀ (picks : List Int) {st : PlayD adderS} {k : Nat}, TkInv st k → k + picks.length < 100000 → TkInv (picksD adderS (tk n m) st picks) (k + picks.length)
  | [], _, _, h, _ => h
  | p :: ps, st, k, h, hk => by
    simp only [List.length_cons] at hk ⊢
    have := tk_picks (n := n) (m := m) ps (tk_pick (n := n) (m := m) h (by omega) p) (by omega)
    rw [show k + (ps.length + 1) = k + 1 + ps.length by omega]
    exact this
theorem tk_end {st : PlayD adderS} (h : ∀ p, (st.hands.getD p (none, 0)).1 = none) : endD adderS st = st.evs := by
  unfold endD
  have : ∀ (l : List Nat) (e : List EvD), l.foldl (endEv adderS st) e = e := by
    intro l
    induction l with
    | nil => intro e; rfl
    | cons a l ih =>
      intro e
      rw [List.foldl_cons]
      have : endEv adderS st e a = e := by
        unfold endEv
        split
        · rfl
        · rename_i s i hs
          have := h a
          rw [hs] at this; cases this
      rw [this, ih]
  exact this _ _
/-- What a play of ticket takers tells. -/
theorem tk_play {n m : Nat} {picks : List Int} (hl : picks.length ≤ 1000) : (playD adderS () [0] (tk n m) picks).ticks = (playD adderS () [0] (tk n m) picks).evs.length ∧
    (∀ i, i < (playD adderS () [0] (tk n m) picks).evs.length → ((playD adderS () [0] (tk n m) picks).evs.getD i ev0).ans.val = i ∧ ((playD adderS () [0] (tk n m) picks).evs.getD i ev0).resp = i + 1) ∧ (playD adderS () [0] (tk n m) picks).evs.length ≤ 1000 := by
  have h0 : TkInv (play0 adderS () [0] (tk n m)) 0 := ⟨by simp [play0], fun p => by simp only [play0, getD_rep'], rfl, rfl, fun i hi => by simp [play0] at hi, by simp [play0]⟩
  have h := tk_picks (n := n) (m := m) picks h0 (by omega)
  have he := tk_end h.none_
  unfold playD reportD
  simp only
  rw [he]
  exact ⟨h.now, h.evs, by have := h.len; omega⟩
theorem tk_check {n m np : Nat} (h1 : 1 ≤ n) (h2 : n ≤ 16) (hm : m ≤ 1000) (hp : np ≤ 65536) : checkN (n : Int) (tk n m) np = 0 := by
  unfold checkN
  rw [if_neg (by omega), if_neg (by rw [tk_len]; omega)]
  unfold wrongN
  rw [if_neg (by omega), if_neg (by rw [tk_len]; omega), if_neg]
  rw [List.any_eq_true]
  rintro ⟨x, hx, hb⟩
  obtain ⟨k, _, rfl⟩ := tk_mem hx
  unfold badT tkCall at hb
  have := Nat.mod_lt k (show 0 < n by omega)
  simp at hb
  omega
end
section

/- Layer 9: the walk of AdderTickets. -/
open Go.RowKit

/-- A report's event, as it lies. -/
theorem RepAt.event {X : Nat → Prop} {B : Nat} {w : World} {ea : Option Addr} {en ec : Nat} {wv : Value} {ers : List (Value × Value)} {r : RepD} (h : RepAt X B w (.slice ea en ec) wv ers r) (hn : en = r.evs.length) (h0 : 0 < en) :
    ∃ g, ea = some ⟨g, 0, none⟩ ∧ g < w.heap.size ∧ ∀ i f, i < en → f < 8 → w.cell? ⟨g, i * 8 + f, none⟩ = (evCells (r.evs.getD i ev0) (ers.getD i vv0))[f]? := by
  obtain ⟨g, c, h1, h2, h3⟩ := h.row.form (by omega)
  simp only [Value.slice.injEq] at h1
  obtain ⟨rfl, h4, h5⟩ := h1
  refine ⟨g, rfl, h3, fun i f hi hf => ?_⟩
  have hr := h.row
  rw [← hn] at hr
  rw [hr.cellAt _ (by omega), evRow_get _ _ _ _ h.elen.symm (by omega) hf]
theorem RepAt.word {X : Nat → Prop} {B : Nat} {w : World} {ev : Value} {va : Option Addr} {vn vc : Nat} {ers : List (Value × Value)} {r : RepD} (h : RepAt X B w ev (.slice va vn vc) ers r) (hn : vn = r.words.length) (h0 : 0 < vn) :
    ∃ q, va = some ⟨q, 0, none⟩ ∧ q < w.heap.size ∧ ∀ j, j < vn → w.cell? ⟨q, j, none⟩ = some (.int .u64 ((r.words.getD j 0 : Nat) : Int)) := by
  obtain ⟨g, c, h1, h2, h3⟩ := h.words.form (by omega)
  simp only [Value.slice.injEq] at h1
  obtain ⟨rfl, h4, h5⟩ := h1
  refine ⟨g, rfl, h3, fun j hj => ?_⟩
  have hr := h.words
  rw [← hn] at hr
  rw [hr.cellAt _ (by omega)]
  simp [u64V, List.getD_eq_getElem?_getD, show j < r.words.length by omega]

def callL (c : CallD) : List Value := [.int .i64 c.thread, .int .i64 c.obj, .int .i64 c.kind, .int .u64 (c.a : Int), .int .u64 (c.b : Int), .int .u64 (c.c : Int)]
theorem callL_get : ∀ (l : List CallD) (j f : Nat), j < l.length → f < 6 → (l.flatMap callL)[j * 6 + f]? = some (callG l j f)
  | [], j, _, h, _ => by simp at h
  | c :: l, 0, f, _, hf => by
    simp only [List.flatMap_cons, Nat.zero_mul, Nat.zero_add]
    rw [List.getElem?_append_left (by simpa [callL] using hf)]
    match f, hf with
    | 0, _ => rfl
    | 1, _ => rfl
    | 2, _ => rfl
    | 3, _ => rfl
    | 4, _ => rfl
    | 5, _ => rfl
  | c :: l, j + 1, f, h, hf => by
    simp only [List.flatMap_cons]
    rw [List.getElem?_append_right (by simp [callL]; omega), show (j + 1) * 6 + f - (callL c).length = j * 6 + f by simp [callL]; omega, callL_get l j f (by simpa using h) hf]
    simp [callG]
theorem calls_len (l : List CallD) : (l.flatMap callL).length = l.length * 6 := by
  induction l with
  | nil => rfl
  | cons c l ih => simp [ih, callL]; omega
/-- Calls in a block that holds them. -/
theorem calls_block {w : World} {b : Nat} {l : List CallD} {fz : Nat × Nat} (h : w.heap[b]? = some (.cells (l.flatMap callL).toArray 55 fz)) (hl : l.length ≤ 1000000) : SlAt w (some ⟨b, 0, none⟩) l.length 6 (callG l) := by
  refine ⟨by unfold maxLen; omega, fun j hj => ⟨b, 0, rfl, blk_lt h, fun f hf => ?_⟩⟩
  rw [Nat.zero_add, cell_blk h]
  simpa using callL_get l j f hj hf
theorem ints_block {w : World} {b : Nat} {l : List Int} {fz : Nat × Nat} (h : w.heap[b]? = some (.cells (l.map (Value.int .i64)).toArray 3 fz)) (hl : l.length ≤ 1000000) : SlAt w (some ⟨b, 0, none⟩) l.length 1 (intG l) := by
  refine ⟨by unfold maxLen; omega, fun j hj => ⟨b, 0, rfl, blk_lt h, fun f hf => ?_⟩⟩
  obtain rfl : f = 0 := by omega
  rw [cell_blk h]
  simp [intG, List.getD_eq_getElem?_getD, hj]

def twoCalls9 : List CallD := [⟨0, 0, 2, 0, 0, 0⟩, ⟨1, 0, 2, 0, 0, 0⟩]
theorem two_rep9 : playD adderS () [0] twoCalls9 [1, 0] = ⟨[⟨1, 1, 1, 1, ⟨0, 0, []⟩, [2]⟩, ⟨0, 2, 2, 1, ⟨0, 1, []⟩, [4]⟩], [2], ⟨0, 0, 0, 2, 0⟩, 2, 0⟩ := by rfl
theorem two_check9 : checkN 2 twoCalls9 2 = 0 := by rfl
theorem callOk_small {t k : Int} (h1 : 0 ≤ t) (h2 : t < 16) (h3 : 0 ≤ k) (h4 : k < 16) {a b c : Nat} (ha : a < 100) (hb : b < 100) (hc : c < 100) : CallOk ⟨t, 0, k, a, b, c⟩ :=
  ⟨by simp [Lit.wf, IntKind.min, IntKind.max, IntKind.signed, IntKind.bits]; omega, by rfl, by simp [Lit.wf, IntKind.min, IntKind.max, IntKind.signed, IntKind.bits]; omega, by simp only; omega, by simp only; omega, by simp only; omega⟩

set_option maxHeartbeats 4000000 in
theorem adder_two (w : World) : Calls Try.prog 31 #[] w fun e w' => e = .returned (.bool true) ∧ Below w.heap.size w w' := by
  obtain ⟨wa, hwa⟩ : ∃ wa, wa = (w.alloc (.cells #[.int .i64 0, .int .i64 0, .int .i64 2, .int .u64 0, .int .u64 0, .int .u64 0, .int .i64 1, .int .i64 0, .int .i64 2, .int .u64 0, .int .u64 0, .int .u64 0] 55)).alloc (.cells #[.int .i64 1, .int .i64 0] 3) := ⟨_, rfl⟩
  have hga : Below w.heap.size w wa := by rw [hwa]; exact Gr.alloc (Gr.new _ _) _
  have h1 : wa.heap[w.heap.size]? = some (.cells (twoCalls9.flatMap callL).toArray 55 (0, 0)) := by rw [hwa, Below.heap_alloc _ _ _ (by simp), heap_alloc_new]; rfl
  have h2 : wa.heap[w.heap.size + 1]? = some (.cells (([1, 0] : List Int).map (Value.int .i64)).toArray 3 (0, 0)) := by
    rw [hwa]
    have := heap_alloc_new (w.alloc (.cells #[.int .i64 0, .int .i64 0, .int .i64 2, .int .u64 0, .int .u64 0, .int .u64 0, .int .i64 1, .int .i64 0, .int .i64 2, .int .u64 0, .int .u64 0, .int .u64 0] 55)) (.cells #[.int .i64 1, .int .i64 0] 3 (0, 0))
    simp only [World.size_alloc] at this
    exact this
  have P := adderPlay_any noB wa 2 twoCalls9 [1, 0] (some ⟨w.heap.size, 0, none⟩) (some ⟨w.heap.size + 1, 0, none⟩) 2 2 (fun b hb => hb.elim) ⟨calls_block h1 (by decide), (by
      intro x hx
      simp only [twoCalls9, List.mem_cons, List.not_mem_nil, or_false] at hx
      rcases hx with rfl | rfl <;> exact callOk_small (by decide) (by decide) (by decide) (by decide) (by decide) (by decide) (by decide)), fun _ _ _ _ h => h⟩ ⟨ints_block h2 (by decide), by intro x hx; simp only [List.mem_cons, List.not_mem_nil, or_false] at hx; rcases hx with rfl | rfl <;> rfl⟩
  rw [show ([1, 0] : List Int).length = 2 from rfl, two_check9, two_rep9, show twoCalls9.length = 2 from rfl] at P
  have HP := Lib.hid P; have Hwa := Lib.hid hwa; have Hga := Lib.hid hga
  clear P h1 h2 hwa hga
  go_enter Try.func31, Try.ntmps31
  go_wp2_with fail
  rw [← Hwa.out]
  refine HP.out.mono ?_
  rintro e w1 ⟨ea, en, ec, va, vn, vc, rp, rfl, hb, hr⟩
  rcases hr with ⟨h0, _⟩ | ⟨_, hrp, hen, hvn, ers, hrep⟩
  · exact absurd rfl h0
  obtain ⟨g, rfl, hg, hev⟩ := hrep.event hen (by rw [hen]; decide)
  obtain ⟨q, rfl, hq, hwd⟩ := hrep.word hvn (by rw [hvn]; decide)
  have hen2 : en = 2 := hen
  have hvn2 : vn = 1 := hvn
  subst hen2 hvn2 hrp
  have c0 : w1.cell? ⟨g, 0, none⟩ = some (.int .i64 1) := hev 0 0 (by omega) (by omega)
  have c5 : w1.cell? ⟨g, 5, none⟩ = some (.int .u64 0) := hev 0 5 (by omega) (by omega)
  have c13 : w1.cell? ⟨g, 13, none⟩ = some (.int .u64 1) := hev 1 5 (by omega) (by omega)
  have d0 : w1.cell? ⟨q, 0, none⟩ = some (.int .u64 2) := hwd 0 (by omega)
  have Hb := Lib.hid hb
  clear hrep hev hwd hb hen hvn
  unfold repV
  go_wp2
  go_ret
  exact ⟨rfl, Gr.trans Hga.out (Gr.trans Hb.out (Gr.new _ _))⟩
end
section

/- Layer 6: the order of keys: the walks of ahead, Order. -/
open Go.RowKit

/-- A world gets a name. -/
theorem nameW {F : World → Prop} {W : World} (h : ∀ w', w' = W → F w') : F W := h W rfl
theorem keyLt_drop {xs ys : List Int} {k : Nat} (h1 : k < xs.length) (h2 : k < ys.length) : keyLt (xs.drop k) (ys.drop k) = if xs.getD k 0 = ys.getD k 0 then keyLt (xs.drop (k + 1)) (ys.drop (k + 1)) else decide (xs.getD k 0 < ys.getD k 0) := by
  rw [List.drop_eq_getElem_cons h1, List.drop_eq_getElem_cons h2]
  simp only [keyLt, List.getD_eq_getElem?_getD, List.getElem?_eq_getElem h1, List.getElem?_eq_getElem h2, Option.getD_some]
theorem keyLt_end {xs ys : List Int} {k : Nat} (h1 : k ≤ xs.length) (h2 : k ≤ ys.length) (h : ¬ (k < xs.length ∧ k < ys.length)) : keyLt (xs.drop k) (ys.drop k) = decide (xs.length < ys.length) := by
  by_cases h3 : k < xs.length
  · have h4 : ys.drop k = [] := List.drop_eq_nil_of_le (by omega)
    rw [h4, List.drop_eq_getElem_cons h3]
    simp only [keyLt]
    symm; apply decide_eq_false; omega
  · have h4 : xs.drop k = [] := List.drop_eq_nil_of_le (by omega)
    rw [h4]
    by_cases h5 : k < ys.length
    · rw [List.drop_eq_getElem_cons h5]
      simp only [keyLt]
      symm; apply decide_eq_true; omega
    · rw [List.drop_eq_nil_of_le (by omega)]
      simp only [keyLt]
      symm; apply decide_eq_false; omega

set_option maxHeartbeats 4000000 in
theorem ahead_any (xs ys : List Int) (a a2 : Option Addr) (c c2 : Nat) (w : World) (hs : SlAt w a xs.length 1 (intG xs)) (hs2 : SlAt w a2 ys.length 1 (intG ys)) :
    Calls Try.prog 47 #[.slice a xs.length c, .slice a2 ys.length c2] w fun e w' => e = .returned (.bool (keyLt xs ys)) ∧ Below w.heap.size w w' := by
  have hm := hs.1; have hm2 := hs2.1
  unfold maxLen at hm hm2
  obtain ⟨r, hr⟩ : ∃ r, r = keyLt xs ys := ⟨_, rfl⟩
  rw [← hr]
  obtain ⟨n, hn⟩ : ∃ n, n = xs.length := ⟨_, rfl⟩
  obtain ⟨m, hmm⟩ : ∃ m, m = ys.length := ⟨_, rfl⟩
  rw [← hn] at hs hm ⊢
  rw [← hmm] at hs2 hm2 ⊢
  have Hs := Lib.hid hs; have Hs2 := Lib.hid hs2; have Hr := Lib.hid hr; have Hn := Lib.hid hn; have Hm := Lib.hid hmm
  clear hs hs2 hr hn hmm
  go_enter Try.func47, Try.ntmps47
  go_wp2
  go_loopw [5] (fun i wr => ∃ k : Nat, k ≤ n ∧ k ≤ m ∧ i = .int .i64 k ∧ Below w.heap.size w wr ∧ keyLt (xs.drop k) (ys.drop k) = r) (fun i _ => n - (intOf i).toNat)
  case atStart => exact ⟨0, Nat.zero_le _, Nat.zero_le _, rfl, Gr.refl _, by rw [List.drop_zero, List.drop_zero]; exact Hr.out.symm⟩
  case round =>
    obtain ⟨k, hk, hk2, rfl, hb, hkey⟩ := hrel
    by_cases hlt : k < n
    · by_cases hlt2 : k < m
      · obtain ⟨b, o, rfl, h4⟩ := Hs.out.elem hb hlt
        obtain ⟨b2, o2, rfl, h5⟩ := Hs2.out.elem hb hlt2
        obtain ⟨x, hx⟩ : ∃ x, x = xs.getD k 0 := ⟨_, rfl⟩
        obtain ⟨y, hy⟩ : ∃ y, y = ys.getD k 0 := ⟨_, rfl⟩
        have e4 : wr.cell? ⟨b, o + k, none⟩ = some (.int .i64 x) := by have h0 := h4 0 (by omega); rw [Nat.mul_one, Nat.add_zero] at h0; rw [h0, hx]; rfl
        have e5 : wr.cell? ⟨b2, o2 + k, none⟩ = some (.int .i64 y) := by have h0 := h5 0 (by omega); rw [Nat.mul_one, Nat.add_zero] at h0; rw [h0, hy]; rfl
        have hstep := keyLt_drop (xs := xs) (ys := ys) (k := k) (by rw [← Hn.out]; exact hlt) (by rw [← Hm.out]; exact hlt2)
        rw [← hx, ← hy, hkey] at hstep
        have l1 : (k : Int) < n := by omega
        have l2 : (k : Int) < m := by omega
        have Hb := Lib.hid hb
        by_cases hxy : x = y
        · rw [if_pos hxy] at hstep
          subst hxy
          have Hst := Lib.hid hstep
          clear h4 h5 hb hx hy hstep hkey
          go_wp2_with fail
          go_quiet (fail)
          go_wp2
          go_roundw
          case rel => exact ⟨k + 1, by omega, by omega, by go_num, below_drewN Hb.out nq, Hst.out.symm⟩
          case measure => simp [intOf] <;> omega
        · rw [if_neg hxy] at hstep
          subst hstep
          clear h4 h5 hb hx hy hkey
          go_wp2_with fail
          go_quiet (fail)
          revert nq; intro n1
          go_wp2_with fail
          go_quiet (fail)
          go_wp2
          go_ret
          first
          | exact ⟨rfl, below_drewN Hb.out _⟩
          | exact ⟨rfl, below_drewN (below_drewN Hb.out _) _⟩
      · have hstep := keyLt_end (xs := xs) (ys := ys) (k := k) (by rw [← Hn.out]; exact hk) (by rw [← Hm.out]; exact hk2) (by rw [← Hn.out, ← Hm.out]; omega)
        rw [hkey, ← Hn.out, ← Hm.out] at hstep
        have hr1 : r = false := by rw [hstep]; apply decide_eq_false; omega
        subst hr1
        have l1 : (k : Int) < n := by omega
        have l2 : ¬ (k : Int) < m := by omega
        have l3 : ¬ (n : Int) < m := by omega
        have Hb := Lib.hid hb
        clear hb hstep hkey
        go_wp2
        go_ret
        exact ⟨rfl, Hb.out⟩
    · have hstep := keyLt_end (xs := xs) (ys := ys) (k := k) (by rw [← Hn.out]; exact hk) (by rw [← Hm.out]; exact hk2) (by rw [← Hn.out, ← Hm.out]; omega)
      rw [hkey, ← Hn.out, ← Hm.out] at hstep
      have l1 : ¬ (k : Int) < n := by omega
      have Hb := Lib.hid hb
      by_cases l3 : (n : Int) < m
      · have hr1 : r = true := by rw [hstep]; apply decide_eq_true; omega
        subst hr1
        clear hb hstep hkey
        go_wp2
        go_ret
        exact ⟨rfl, Hb.out⟩
      · have hr1 : r = false := by rw [hstep]; apply decide_eq_false; omega
        subst hr1
        clear hb hstep hkey
        go_wp2
        go_ret
        exact ⟨rfl, Hb.out⟩

set_option maxHeartbeats 4000000 in
theorem ahead4_any (xs ys : List Int) (a a2 : Option Addr) (c c2 : Nat) (w : World) (hs : SlAt w a xs.length 1 (intG xs)) (hs2 : SlAt w a2 ys.length 1 (intG ys)) :
    Calls Try.prog 76 #[.slice a xs.length c, .slice a2 ys.length c2] w fun e w' => e = .returned (.bool (keyLt xs ys)) ∧ Below w.heap.size w w' := by
  have hm := hs.1; have hm2 := hs2.1
  unfold maxLen at hm hm2
  obtain ⟨r, hr⟩ : ∃ r, r = keyLt xs ys := ⟨_, rfl⟩
  rw [← hr]
  obtain ⟨n, hn⟩ : ∃ n, n = xs.length := ⟨_, rfl⟩
  obtain ⟨m, hmm⟩ : ∃ m, m = ys.length := ⟨_, rfl⟩
  rw [← hn] at hs hm ⊢
  rw [← hmm] at hs2 hm2 ⊢
  have Hs := Lib.hid hs; have Hs2 := Lib.hid hs2; have Hr := Lib.hid hr; have Hn := Lib.hid hn; have Hm := Lib.hid hmm
  clear hs hs2 hr hn hmm
  go_enter Try.func76, Try.ntmps76
  go_wp2
  go_loopw [5] (fun i wr => ∃ k : Nat, k ≤ n ∧ k ≤ m ∧ i = .int .i64 k ∧ Below w.heap.size w wr ∧ keyLt (xs.drop k) (ys.drop k) = r) (fun i _ => n - (intOf i).toNat)
  case atStart => exact ⟨0, Nat.zero_le _, Nat.zero_le _, rfl, Gr.refl _, by rw [List.drop_zero, List.drop_zero]; exact Hr.out.symm⟩
  case round =>
    obtain ⟨k, hk, hk2, rfl, hb, hkey⟩ := hrel
    by_cases hlt : k < n
    · by_cases hlt2 : k < m
      · obtain ⟨b, o, rfl, h4⟩ := Hs.out.elem hb hlt
        obtain ⟨b2, o2, rfl, h5⟩ := Hs2.out.elem hb hlt2
        obtain ⟨x, hx⟩ : ∃ x, x = xs.getD k 0 := ⟨_, rfl⟩
        obtain ⟨y, hy⟩ : ∃ y, y = ys.getD k 0 := ⟨_, rfl⟩
        have e4 : wr.cell? ⟨b, o + k, none⟩ = some (.int .i64 x) := by have h0 := h4 0 (by omega); rw [Nat.mul_one, Nat.add_zero] at h0; rw [h0, hx]; rfl
        have e5 : wr.cell? ⟨b2, o2 + k, none⟩ = some (.int .i64 y) := by have h0 := h5 0 (by omega); rw [Nat.mul_one, Nat.add_zero] at h0; rw [h0, hy]; rfl
        have hstep := keyLt_drop (xs := xs) (ys := ys) (k := k) (by rw [← Hn.out]; exact hlt) (by rw [← Hm.out]; exact hlt2)
        rw [← hx, ← hy, hkey] at hstep
        have l1 : (k : Int) < n := by omega
        have l2 : (k : Int) < m := by omega
        have Hb := Lib.hid hb
        by_cases hxy : x = y
        · rw [if_pos hxy] at hstep
          subst hxy
          have Hst := Lib.hid hstep
          clear h4 h5 hb hx hy hstep hkey
          go_wp2_with fail
          go_quiet (fail)
          go_wp2
          go_roundw
          case rel => exact ⟨k + 1, by omega, by omega, by go_num, below_drewN Hb.out nq, Hst.out.symm⟩
          case measure => simp [intOf] <;> omega
        · rw [if_neg hxy] at hstep
          subst hstep
          clear h4 h5 hb hx hy hkey
          go_wp2_with fail
          go_quiet (fail)
          revert nq; intro n1
          go_wp2_with fail
          go_quiet (fail)
          go_wp2
          go_ret
          first
          | exact ⟨rfl, below_drewN Hb.out _⟩
          | exact ⟨rfl, below_drewN (below_drewN Hb.out _) _⟩
      · have hstep := keyLt_end (xs := xs) (ys := ys) (k := k) (by rw [← Hn.out]; exact hk) (by rw [← Hm.out]; exact hk2) (by rw [← Hn.out, ← Hm.out]; omega)
        rw [hkey, ← Hn.out, ← Hm.out] at hstep
        have hr1 : r = false := by rw [hstep]; apply decide_eq_false; omega
        subst hr1
        have l1 : (k : Int) < n := by omega
        have l2 : ¬ (k : Int) < m := by omega
        have l3 : ¬ (n : Int) < m := by omega
        have Hb := Lib.hid hb
        clear hb hstep hkey
        go_wp2
        go_ret
        exact ⟨rfl, Hb.out⟩
    · have hstep := keyLt_end (xs := xs) (ys := ys) (k := k) (by rw [← Hn.out]; exact hk) (by rw [← Hm.out]; exact hk2) (by rw [← Hn.out, ← Hm.out]; omega)
      rw [hkey, ← Hn.out, ← Hm.out] at hstep
      have l1 : ¬ (k : Int) < n := by omega
      have Hb := Lib.hid hb
      by_cases l3 : (n : Int) < m
      · have hr1 : r = true := by rw [hstep]; apply decide_eq_true; omega
        subst hr1
        clear hb hstep hkey
        go_wp2
        go_ret
        exact ⟨rfl, Hb.out⟩
      · have hr1 : r = false := by rw [hstep]; apply decide_eq_false; omega
        subst hr1
        clear hb hstep hkey
        go_wp2
        go_ret
        exact ⟨rfl, Hb.out⟩
end
section

/- Layer 8: the tally as the loom's object: the walks of its machines. -/
open Go.RowKit

inductive TaS where
  | count (seen : Bool) (v : Nat)
  | read (at_ sum : Nat) (key : List Int)
/-- When a sum was reached, as far as it is noted. -/
def taWhen (ticks : List Int) (inv s : Nat) : Int := if 0 < s ∧ s ≤ ticks.length then max (inv : Int) (ticks.getD (s - 1) 0) else (inv : Int)
def taRead (wd : WD) (a : Nat) : WD := { wd with mem := (memRead wd.mem (a : Int)).1 }
def taWrite (wd : WD) (p v : Nat) : WD := { wd with mem := memWrite wd.mem (p : Int) (v + 1), traces := updT wd.traces 0 (wd.traces 0 ++ [(wd.now : Int)]) }
def taGot (wd : WD) (a : Nat) : Nat := (memRead wd.mem (a : Int)).2
def taKey (wd : WD) (p s : Nat) : List Int := [2 * taWhen (wd.traces 0) (wd.inv.getD p 0) s, 2 * (wd.now : Int)]
def tallyS (n : Nat) : Sys where
  σ := TaS
  ω := Unit
  start := fun _ _ _ c => if c.kind = 0 then .run (.count false 0) else if c.kind = 1 then .run (.read 0 0 []) else .refuse 9
  step := fun _ wd p s => match s with
    | .count false _ => ((), taRead wd p, .count true (taGot wd p), false)
    | .count true v => ((), taWrite wd p v, .count true v, true)
    | .read a s k => if a + 1 < n then ((), taRead wd a, .read (a + 1) (s + taGot wd a) k, false) else ((), taRead wd a, .read (a + 1) (s + taGot wd a) (taKey wd p (s + taGot wd a)), true)
  answer := fun s => match s with
    | .count _ _ => (⟨0, 0, []⟩, [])
    | .read _ s k => (⟨0, s, []⟩, k)
  late := fun _ _ _ _ => none

def taCount (n p v : Nat) (seen : Bool) : Array Value := #[.int .i64 0, .int .i64 (n : Int), .int .i64 (p : Int), .int .u64 (v : Int), .bool seen]
def taReadC (n p a s : Nat) (kv : Value) : Array Value := #[.int .i64 0, .int .i64 (n : Int), .int .i64 (p : Int), .int .i64 (a : Int), .int .u64 (s : Int), kv]

/-- What a step of a machine that lies in one block leaves. -/
def OwnTo (w w' : World) (Mut B : Nat → Prop) (I : WIds) (N : Nat) (wd : WD) (b : Nat) (cells : Array Value) (T : TypeId) (done : Bool) (e : Ending) : Prop :=
  e = .returned (.bool done) ∧ Chg (fun k => WSet I k ∨ B k) w w' ∧ WorldAt w' (mutTo Mut B (fun k => k = b)) I N wd ∧ w'.heap[b]? = some (.cells cells T (0, 0))
theorem own_fin {w w1 w2 : World} {Mut B : Nat → Prop} {I : WIds} {N : Nat} {wd : WD} {b : Nat} {cells : Array Value} {T : TypeId} {done : Bool} (hw1 : WorldAt w1 Mut I N wd) (hch1 : Chg (WSet I) w w1) (hb : B b) (hB : ∀ b, B b → Mut b ∧ ¬ WSet I b)
    (hc : Chg (fun k => k = b) w1 w2) (hbk : w2.heap[b]? = some (.cells cells T (0, 0))) : OwnTo w w2 Mut B I N wd b cells T done (.returned (.bool done)) :=
  ⟨rfl, (hch1.mono (fun k _ h => .inl h)).trans (hc.mono (fun k _ h => by cases h; exact .inr hb)), world_own hw1 hc hb hB, hbk⟩
theorem OwnTo.drewN {w w' : World} {Mut B : Nat → Prop} {I : WIds} {N : Nat} {wd : WD} {b : Nat} {cells : Array Value} {T : TypeId} {done : Bool} {e : Ending} (h : OwnTo w w' Mut B I N wd b cells T done e) (n : Nat) : OwnTo w (w'.drewN n) Mut B I N wd b cells T done e :=
  ⟨h.1, h.2.1.drewN n, h.2.2.1.keep (S := noB) ((Chg.refl _ _).drewN n) (fun _ h => h.elim) (fun _ h => h.elim) (MutUp.refl _ _) (fun k hk => h.2.2.1.low k hk) h.2.2.1.muts, h.2.2.2⟩
theorem memRead_val {w : World} {bm : Nat} {bw : Option Nat} {m : MemD} (h : MemAt w bm bw m) (a : Int) : (memRead m a).2 < 18446744073709551616 := by
  unfold memRead
  split
  · simp only; omega
  · simp only
    rw [List.getD_eq_getElem?_getD]
    cases h9 : m.ws[a.toNat]? with
    | none => simp
    | some z => exact h.val z (List.mem_of_getElem? h9)

set_option maxHeartbeats 4000000 in
theorem count_look (w : World) (Mut B : Nat → Prop) (I : WIds) (N : Nat) (wd : WD) (n p v0 b : Nat) (hw : WorldAt w Mut I N wd) (hbk : w.heap[b]? = some (.cells (taCount n p v0 false) 216 (0, 0))) (hb : B b) (hB : ∀ b, B b → Mut b ∧ ¬ WSet I b) (hp : p < 16) (hc : wd.mem.c.all + 1 < 1000000000000) :
    Calls Try.prog 176 #[.pointer (some ⟨b, 0, none⟩), .pointer (some ⟨I.bW, 0, none⟩)] w fun e w' => OwnTo w w' Mut B I N (taRead wd p) b (taCount n p (taGot wd p) true) 216 false e := by
  obtain ⟨s1, s2, s3⟩ := memSet_sub hw
  obtain ⟨mks, hwb, _, _⟩ := hw.blk
  have x0 : w.cell? ⟨I.bW, 0, none⟩ = some (.pointer (some ⟨I.bm, 0, none⟩)) := by rw [cell_blk hwb]; exact world_mem
  have y0 : w.cell? ⟨b, 0, none⟩ = some (.int .i64 0) := by rw [cell_blk hbk]; rfl
  have y2 : w.cell? ⟨b, 2, none⟩ = some (.int .i64 (p : Int)) := by rw [cell_blk hbk]; rfl
  have y3 : w.cell? ⟨b, 3, none⟩ = some (.int .u64 (v0 : Int)) := by rw [cell_blk hbk]; rfl
  have y4 : w.cell? ⟨b, 4, none⟩ = some (.bool false) := by rw [cell_blk hbk]; rfl
  have hblt := blk_lt hbk
  have nb : ¬ MemSet I.bm I.bw b := fun h => (hB b hb).2 (s3 b h).1
  have Rd := Lib.hid (fun (u : World) (h : Chg noB w u) => read_any I.bm I.bw wd.mem (p : Int) u (hw.mem.chg h (fun h => h) (fun _ _ h => h)) hc)
  obtain ⟨r, hr⟩ : ∃ r, r = (memRead wd.mem (p : Int)).2 := ⟨_, rfl⟩
  rw [← hr] at Rd
  have Hw := Lib.hid hw; have Hbk := Lib.hid hbk; have Nb := Lib.hid nb; have HB := Lib.hid hB; have Hb := Lib.hid hb; have Hr := Lib.hid hr; have S2 := Lib.hid s2
  have hpi : (p : Int) < 16 := by omega
  have wp : IntKind.i64.wrap (p : Int) = (p : Int) := by rw [IntKind.wrap_i64]; omega
  clear hw hbk hwb s1 s2 s3 nb hB hb hr
  go_enter Try.func176, Try.ntmps176
  go_wp2_with fail
  go_region_held3 (fun u => u.cell? ⟨I.bW, 0, none⟩ = some (.pointer (some ⟨I.bm, 0, none⟩)) ∧ u.cell? ⟨b, 0, none⟩ = some (.int .i64 0) ∧ u.cell? ⟨b, 2, none⟩ = some (.int .i64 (p : Int)))
    (first | exact ⟨(by with_reducible refine (World.cell?_setCell_other _ _ _ _ (by simp)).trans ?_; with_reducible exact z0), (by with_reducible refine (World.cell?_setCell_other _ _ _ _ (by simp)).trans ?_; with_reducible exact zw), (by with_reducible refine (World.cell?_setCell_other _ _ _ _ (by simp)).trans ?_; with_reducible exact z2)⟩ | exact ⟨x0, y0, y2⟩ | exact ⟨z0, zw, z2⟩)
    ((go_at_call 128; refine (Rd.out _ ?_).mono ?_; (exact (Chg.refl _ _).drew); rintro e w1 ⟨rfl, hm1, hc1⟩; have hc1' : Chg (MemSet I.bm I.bw) w w1 := ((Chg.refl _ w).drew).trans hc1; have z0 := box_keep hc1' S2.out x0; have hbk1 := (hc1'.block b hblt Nb.out).trans Hbk.out; have zw : w1.cell? ⟨b, 0, none⟩ = some (.int .i64 0) := (by rw [cell_blk hbk1]; rfl); have z2 : w1.cell? ⟨b, 2, none⟩ = some (.int .i64 (p : Int)) := (by rw [cell_blk hbk1]; rfl); have z3 : w1.cell? ⟨b, 3, none⟩ = some (.int .u64 (v0 : Int)) := (by rw [cell_blk hbk1]; rfl); have z4 : w1.cell? ⟨b, 4, none⟩ = some (.bool false) := (by rw [cell_blk hbk1]; rfl); have zf := frozen_blk hbk1 3; have zf4 := frozen_blk hbk1 4))
  obtain ⟨hw1, hch1⟩ := Hw.out.mems hc1' hm1
  have fin : OwnTo w ((w1.setCell ⟨b, 3, none⟩ (.int .u64 (r : Int))).setCell ⟨b, 4, none⟩ (.bool true)) Mut B I N (taRead wd p) b (taCount n p (taGot wd p) true) 216 false (.returned (.bool false)) := by
    refine own_fin hw1 hch1 Hb.out HB.out (((Chg.refl (fun k => k = b) w1).setCell (by exact .inl rfl) _).setCell (by exact .inl rfl) _) ?_
    rw [blk_set (blk_set hbk1 _ _)]
    unfold taGot
    rw [← Hr.out]; rfl
  have Fin := Lib.hid fin
  clear fin hw1 hch1 hbk1 hc1 hc1' hm1 x0 y0 y2 y3 y4 z0 zw z2
  go_wp2
  go_ret
  exact Fin.out
end
end Go.Proofs.Ytjkgfkbanbhkgaa
