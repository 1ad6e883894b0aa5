/- Contracts of package pick: what a line is behind New, and how it goes on. -/
import Derived.Test.YtkocgeedpinplaaJ04
import Derived.WalkKit
set_option maxRecDepth 100000
set_option linter.unusedVariables false
set_option linter.unusedSimpArgs false
set_option linter.unnecessarySimpa false
namespace Go.Proofs.Ytkocgeedpinplaa
section
open Go.RowKit

theorem row_cap {w : World} {B : Nat} {v : Value} {e : TypeId} {n : Nat} {xs : List Value} {g : Nat → Nat → Value} (h : w.ownsRow B e 1 v n xs) (hm : n ≤ maxLen) (hg : ∀ j, j < n → xs[j]? = some (g j 0)) :
    ∃ a c, v = .slice a n c ∧ n ≤ c ∧ SlAt w a n 1 g ∧ (∀ b off, a = some ⟨b, off, none⟩ → B ≤ b ∧ v.ownBlock = some b) := by
  obtain ⟨a, c, hv, hs, hB⟩ := sl_of_row h hm hg
  refine ⟨a, c, hv, ?_, hs, fun b off e => ⟨hB b off e, by rw [hv, e]; rfl⟩⟩
  obtain ⟨_, h2⟩ := h
  rcases h2 with ⟨h3, h0⟩ | ⟨q, cap, cur, h3, _, _, hn, _⟩
  · omega
  · rw [hv] at h3; cases h3; exact hn

theorem ret_i64 {a b : Int} (h : a = b) : Ending.returned (.int .i64 a) = .returned (.int .i64 b) := by rw [h]

theorem line_of_new {w wr : World} {l : List CallD} {M : Int → Value} (h : NewSt w wr l l.length M) (hl : l.length ≤ 1000) :
    LineAt wr (fun b => w.heap.size ≤ b ∧ b < wr.heap.size) (w.heap.size + 1) w.heap.size l.length M (qOf l l.length) (l.length : Int) := by
  refine ⟨h.line, h.map, fun p => ?_⟩
  have hq := qOf_len l l.length p
  obtain ⟨a, c, h1, h2, h3, h4⟩ := row_cap (g := natG (qOf l l.length p)) (h.rows p) (by unfold maxLen; omega) (fun j hj => by simp [natG, natV, List.getD_eq_getElem?_getD, hj])
  refine ⟨a, c, h1, h2, h3, fun b off e => ?_⟩
  have h5 := (h4 b off e).2
  obtain ⟨_, h6⟩ := h.rows p
  rcases h6 with ⟨h7, _⟩ | ⟨g, cap, cur, h7, h77, h8, _⟩
  · rw [h7] at h5; cases h5
  · rw [h7] at h5
    simp only [Value.ownBlock, Option.some.injEq] at h5
    subst h5
    refine ⟨?_, ?_, h77, blk_lt h8⟩
    · rintro rfl; rw [h.line] at h8; simp at h8
    · rintro rfl
      obtain ⟨D, ⟨es, clock, h9, _⟩, _⟩ := h.map
      rw [h9] at h8; cases h8

def boolG (l : List Bool) (j _f : Nat) : Value := .bool (l.getD j false)
def nowIs (l : List CallD) (fin : List Bool) (p : Int) (i : Nat) : Bool := decide ((l.getD i d0).thread = p) && !(fin.getD i false)
def nowN (l : List CallD) (fin : List Bool) (p : Int) : Option Nat := (List.range l.length).find? (nowIs l fin p)
def nowI (o : Option Nat) : Int := match o with | some i => (i : Int) | none => -1

theorem find_range_split (f : Nat → Bool) (n k : Nat) (hk : k ≤ n) (h : ∀ j, j < k → f j = false) : (List.range n).find? f = ((List.range (n - k)).map (k + ·)).find? f := by
  rw [show List.range n = List.range k ++ (List.range (n - k)).map (k + ·) from Deep.range_split hk, List.find?_append]
  have : (List.range k).find? f = none := by
    rw [List.find?_eq_none]
    intro x hx
    simpa using h x (List.mem_range.1 hx)
  rw [this]; rfl

def qF (l : List CallD) (fin : List Bool) (p : Int) : List Nat := (List.range l.length).filter (nowIs l fin p)

theorem qF_init (l : List CallD) (p : Int) : qF l (List.replicate l.length false) p = qOf l l.length p := by
  unfold qF qOf
  apply List.filter_congr
  intro i hi
  have := List.mem_range.1 hi
  unfold nowIs d0
  simp [List.getD_eq_getElem?_getD, List.getElem?_replicate, this]

theorem nowN_head (l : List CallD) (fin : List Bool) (p : Int) : nowN l fin p = (qF l fin p).head? := by
  unfold nowN qF
  rw [List.head?_filter]

theorem nowN_spec {l : List CallD} {fin : List Bool} {p : Int} {i : Nat} (h : nowN l fin p = some i) : i < l.length ∧ (l.getD i d0).thread = p ∧ fin.getD i false = false := by
  unfold nowN at h
  have h1 := List.find?_some h
  have h2 := List.mem_of_find?_eq_some h
  unfold nowIs at h1
  simp at h1
  exact ⟨List.mem_range.1 h2, by simpa using h1.1, by simpa using h1.2⟩

theorem qF_set {l : List CallD} {fin : List Bool} {p : Int} {i : Nat} {r : List Nat} (hlen : fin.length = l.length) (h : qF l fin p = i :: r) : qF l (fin.set i true) = qDrop (qF l fin) p := by
  have hn : nowN l fin p = some i := by rw [nowN_head, h]; rfl
  obtain ⟨hi, ht, hf⟩ := nowN_spec hn
  have hnd : (qF l fin p).Nodup := List.Pairwise.filter _ List.nodup_range
  funext x
  have key : ∀ j, nowIs l (fin.set i true) x j = (nowIs l fin x j && !(decide (j = i))) := by
    intro j
    unfold nowIs
    by_cases hj : j = i
    · subst hj
      simp [List.getD_eq_getElem?_getD, List.getElem?_set, hlen, hi]
    · simp [List.getD_eq_getElem?_getD, List.getElem?_set, Ne.symm hj, hj]
  unfold qDrop
  by_cases hx : x = p
  · subst hx
    rw [if_pos rfl, h]
    have e1 : qF l (fin.set i true) x = (qF l fin x).filter (fun j => !(decide (j = i))) := by
      unfold qF
      rw [List.filter_filter]
      apply List.filter_congr
      intro j _
      rw [key, Bool.and_comm]
    rw [e1, h]
    rw [h] at hnd
    simp only [List.tail_cons]
    rw [List.filter_cons_of_neg (by simp), List.filter_eq_self]
    intro j hj
    have := (List.nodup_cons.1 hnd).1
    simp
    rintro rfl
    exact this hj
  · rw [if_neg hx]
    unfold qF
    apply List.filter_congr
    intro j _
    rw [key]
    by_cases hj : j = i
    · subst hj
      unfold nowIs
      rw [ht]
      simp [Ne.symm hx]
    · simp [hj]
theorem wrongN_zero {n : Int} {l : List CallD} (h : wrongN n l = 0) : 1 ≤ n ∧ n ≤ 16 ∧ l.length ≤ 1000 ∧ anyBad n l = false := by
  unfold wrongN at h
  split at h
  · cases h
  · split at h
    · cases h
    · rename_i h1 h2
      refine ⟨by omega, by omega, by omega, ?_⟩
      unfold anyBad
      cases hc : l.any (badT n) with
      | false => rfl
      | true => rw [hc] at h; simp at h

def NewAll (n : Int) (l : List CallD) (w : World) (e : Ending) (w' : World) : Prop :=
  (wrongN n l ≠ 0 ∧ e = .returned (.tuple #[.pointer none, .int .i64 (wrongN n l)]) ∧ Below w.heap.size w w') ∨
  (wrongN n l = 0 ∧ e = .returned (.tuple #[.pointer (some ⟨w.heap.size + 1, 0, none⟩), .int .i64 0]) ∧ Below w.heap.size w w' ∧ ∃ M, LineAt w' (fun b => w.heap.size ≤ b ∧ b < w'.heap.size) (w.heap.size + 1) w.heap.size l.length M (qF l (List.replicate l.length false)) (l.length : Int))

theorem new_any (n : Int) (l : List CallD) (a : Option Addr) (c : Nat) (w : World) (hs : SlAt w a l.length 6 (callG l)) (hwf : ∀ x ∈ l, (Lit.int .i64 x.thread).wf = true) :
    Calls Try.prog 72 #[.int .i64 n, .slice a l.length c] w fun e w' => NewAll n l w e w' := by
  by_cases h1 : n < 1 ∨ 16 < n
  · have hw : wrongN n l = 1 := by unfold wrongN; rw [if_pos h1]
    refine (new_bad n a l.length c w 1 hs.1 (.inl ⟨h1, rfl⟩)).mono ?_
    rintro e w' ⟨rfl, rfl⟩
    exact .inl ⟨by rw [hw]; decide, by rw [hw], Gr.refl _⟩
  by_cases h2 : 1000 < l.length
  · have hw : wrongN n l = 3 := by unfold wrongN; rw [if_neg h1, if_pos h2]
    refine (new_bad n a l.length c w 3 hs.1 (.inr ⟨⟨by omega, by omega, h2⟩, rfl⟩)).mono ?_
    rintro e w' ⟨rfl, rfl⟩
    exact .inl ⟨by rw [hw]; decide, by rw [hw], Gr.refl _⟩
  refine (new_go n l a c w hs (by omega) (by omega) (by omega) hwf).mono ?_
  rintro e w' (⟨hb, rfl, hbel⟩ | ⟨hb, rfl, M, hst⟩)
  · have hw : wrongN n l = 1 := by unfold wrongN; rw [if_neg h1, if_neg h2]; exact if_pos hb
    exact .inl ⟨by rw [hw]; decide, by rw [hw], hbel⟩
  · have hw : wrongN n l = 0 := by unfold wrongN; rw [if_neg h1, if_neg h2]; exact if_neg (by unfold anyBad at hb; rw [hb]; simp)
    have hq : qF l (List.replicate l.length false) = qOf l l.length := funext (qF_init l)
    exact .inr ⟨hw, rfl, hst.below, M, by rw [hq]; exact line_of_new hst (by omega)⟩

theorem LineAt.chg {S : Nat → Prop} {w w' : World} {Z : Nat → Prop} {bl bm n : Nat} {M : Int → Value} {q : Int → List Nat} {left : Int} (h : LineAt w Z bl bm n M q left) (hc : Chg S w w') (h1 : ¬ S bl) (h2 : ¬ S bm) (h3 : ∀ b, Z b → ¬ S b) : LineAt w' Z bl bm n M q left := by
  refine ⟨(hc.block _ (blk_lt h.line) h1).trans h.line, h.map.block (hc.block _ h.map.lt h2), fun p => ?_⟩
  obtain ⟨a, c, g1, g2, g3, g4⟩ := h.rows p
  exact ⟨a, c, g1, g2, g3.chg hc (fun b off e => h3 b (g4 b off e).2.2), g4⟩
theorem LineAt.mono {w : World} {Z Z' : Nat → Prop} {bl bm n : Nat} {M : Int → Value} {q : Int → List Nat} {left : Int} (h : LineAt w Z bl bm n M q left) (hz : ∀ b, Z b → Z' b) : LineAt w Z' bl bm n M q left :=
  ⟨h.line, h.map, fun p => by obtain ⟨a, c, g1, g2, g3, g4⟩ := h.rows p; exact ⟨a, c, g1, g2, g3, fun b off e => ⟨(g4 b off e).1, (g4 b off e).2.1, hz b (g4 b off e).2.2⟩⟩⟩
theorem madeCells_one (v : Value) (n : Nat) : madeCells #[v] n = (List.replicate n v).toArray := by
  unfold madeCells
  apply Array.ext
  · simp
  · intro i h1 h2
    simp at h1 h2 ⊢
    simp [Nat.mod_one]

theorem getD_set_le {l : List Nat} {i v k : Nat} (h : ∀ j, l.getD j 0 ≤ k) (hv : v ≤ k) (j : Nat) : (l.set i v).getD j 0 ≤ k := by
  simp only [List.getD_eq_getElem?_getD, List.getElem?_set]
  by_cases c : i = j
  · subst c
    by_cases c2 : i < l.length
    · simp [c2, hv]
    · simp [c2]
  · have := h j
    simp only [List.getD_eq_getElem?_getD] at this
    simp [c, this]
end
section

/- Plain arithmetic of bit fields of words: no program in sight. -/
open Go.RowKit

def U64 (x : Nat) : Prop := x < 18446744073709551616
theorem U64.lt {x : Nat} (h : U64 x) : x < 18446744073709551616 := h
theorem pow64 {s : Nat} (h2 : s ≤ 64) : 2 ^ s ≤ 18446744073709551616 := by
  have : 2 ^ s ≤ 2 ^ 64 := Nat.pow_le_pow_right (by omega) h2
  omega
theorem pow63 {s : Nat} (h2 : s < 64) : 2 ^ s ≤ 9223372036854775808 := by
  have : 2 ^ s ≤ 2 ^ 63 := Nat.pow_le_pow_right (by omega) (by omega)
  omega
theorem pow1 (s : Nat) : 1 ≤ 2 ^ s := Nat.one_le_two_pow
theorem mask_val {s : Nat} (h : s < 64) : IntKind.u64.wrap (IntKind.u64.wrap ((2 : Int) ^ s) - 1) = ((2 ^ s - 1 : Nat) : Int) := by
  have h1 := pow63 h
  have h2 := pow1 s
  have e : ((2 : Int) ^ s) = ((2 ^ s : Nat) : Int) := by simp
  rw [e, IntKind.wrap_u64, IntKind.wrap_u64]
  omega
theorem get_val {x a s : Nat} (hx : U64 x) (h2 : s ≤ 64) : bits BinOp.and IntKind.u64 ((x : Int) / 2 ^ a) ((2 ^ s - 1 : Nat) : Int) = ((x / 2 ^ a % 2 ^ s : Nat) : Int) := by
  have e : ((x : Int) / 2 ^ a) = ((x / 2 ^ a : Nat) : Int) := by simp
  have h1 := pow64 h2
  have h3 : x / 2 ^ a ≤ x := Nat.div_le_self _ _
  unfold U64 at hx
  rw [e, u64_and_nat _ _ (by omega) (by omega), Nat.and_two_pow_sub_one_eq_mod]

/-- The word with v in the field. -/
def putN (x a s v : Nat) : Nat := 2 ^ (a + s) * (x / 2 ^ (a + s)) + (2 ^ a * v + x % 2 ^ a)

theorem putN_low {x a s v : Nat} (hv : v < 2 ^ s) : 2 ^ a * v + x % 2 ^ a < 2 ^ (a + s) := by
  have h1 : x % 2 ^ a < 2 ^ a := Nat.mod_lt _ (pow1 a)
  have h2 : 2 ^ a * (v + 1) ≤ 2 ^ a * 2 ^ s := Nat.mul_le_mul_left _ hv
  rw [Nat.pow_add]
  rw [Nat.mul_add, Nat.mul_one] at h2
  omega

theorem putN_lt {x a s v : Nat} (hx : U64 x) (h : a + s ≤ 64) (hv : v < 2 ^ s) : U64 (putN x a s v) := by
  unfold U64 at *
  unfold putN
  have h1 := putN_low (x := x) (a := a) hv
  have e : 2 ^ 64 = 2 ^ (a + s) * 2 ^ (64 - (a + s)) := by rw [← Nat.pow_add]; congr 1; omega
  have h2 : x / 2 ^ (a + s) < 2 ^ (64 - (a + s)) := by
    rw [Nat.div_lt_iff_lt_mul (pow1 _), Nat.mul_comm, ← e]; omega
  have h3 : 2 ^ (a + s) * (x / 2 ^ (a + s) + 1) ≤ 2 ^ (a + s) * 2 ^ (64 - (a + s)) := Nat.mul_le_mul_left _ h2
  rw [← e, Nat.mul_add, Nat.mul_one] at h3
  omega

theorem putN_bit {x a s v : Nat} (hv : v < 2 ^ s) (i : Nat) : (putN x a s v).testBit i = if a ≤ i ∧ i < a + s then v.testBit (i - a) else x.testBit i := by
  unfold putN
  rw [Nat.testBit_two_pow_mul_add _ (putN_low hv), Nat.testBit_two_pow_mul_add _ (Nat.mod_lt _ (pow1 a))]
  by_cases h1 : i < a + s
  · by_cases h2 : i < a
    · simp [h1, h2]; try omega
    · simp [h1, h2]; try omega
  · rw [if_neg h1, if_neg (by omega), Nat.testBit_div_two_pow]; congr 1; omega

theorem put_val {x a s v : Nat} (hx : U64 x) (h1 : 1 ≤ s) (h : a + s ≤ 64) (hv : v < 2 ^ s) :
    bits BinOp.or IntKind.u64 (bits BinOp.andNot IntKind.u64 (x : Int) (IntKind.u64.wrap (((2 ^ s - 1 : Nat) : Int) * 2 ^ a))) (IntKind.u64.wrap ((v : Int) * 2 ^ a)) = ((putN x a s v : Nat) : Int) := by
  have hx' := hx
  unfold U64 at hx'
  have e1 : (((2 ^ s - 1 : Nat) : Int) * 2 ^ a) = (((2 ^ s - 1) * 2 ^ a : Nat) : Int) := by simp
  have e2 : ((v : Int) * 2 ^ a) = ((v * 2 ^ a : Nat) : Int) := by simp
  have p : 2 ^ a * 2 ^ s ≤ 18446744073709551616 := by rw [← Nat.pow_add]; exact pow64 h
  have m1 : (2 ^ s - 1) * 2 ^ a < 18446744073709551616 := by
    have : 2 ^ a * (2 ^ s - 1 + 1) ≤ 18446744073709551616 := by rw [Nat.sub_add_cancel (pow1 s)]; exact p
    have q := pow1 a
    rw [Nat.mul_add, Nat.mul_one] at this
    rw [Nat.mul_comm]
    omega
  have m2 : v * 2 ^ a < 18446744073709551616 := by
    have : 2 ^ a * (v + 1) ≤ 2 ^ a * 2 ^ s := Nat.mul_le_mul_left _ hv
    have q := pow1 a
    rw [Nat.mul_add, Nat.mul_one] at this
    rw [Nat.mul_comm]
    omega
  have w1 : (((2 ^ s - 1) * 2 ^ a : Nat) : Int) % 18446744073709551616 = (((2 ^ s - 1) * 2 ^ a : Nat) : Int) := by omega
  have w2 : ((v * 2 ^ a : Nat) : Int) % 18446744073709551616 = ((v * 2 ^ a : Nat) : Int) := by omega
  rw [e1, e2, IntKind.wrap_u64, IntKind.wrap_u64, w1, w2,
    u64_andNot_nat _ _ hx' m1, u64_or_nat _ _ (Nat.lt_of_le_of_lt Nat.and_le_left hx') m2]
  congr 1
  apply Nat.eq_of_testBit_eq
  intro i
  rw [putN_bit hv, Nat.testBit_or, Nat.testBit_and]
  have e3 : 18446744073709551615 - (2 ^ s - 1) * 2 ^ a = 2 ^ 64 - ((2 ^ s - 1) * 2 ^ a + 1) := by omega
  rw [e3, Nat.testBit_two_pow_sub_succ (by omega)]
  rw [Nat.mul_comm (2 ^ s - 1), Nat.mul_comm v, Nat.testBit_two_pow_mul, Nat.testBit_two_pow_mul, Nat.testBit_two_pow_sub_one]
  by_cases c1 : a ≤ i
  · by_cases c2 : i < a + s
    · have d1 : i - a < s := by omega
      simp [c1, c2, d1]
    · have d1 : ¬ i - a < s := by omega
      have d2 : v.testBit (i - a) = false := Nat.testBit_lt_two_pow (Nat.lt_of_lt_of_le hv (Nat.pow_le_pow_right (by omega) (by omega)))
      by_cases c3 : i < 64
      · simp [c1, c2, d1, d2, c3]
      · have d3 : x.testBit i = false := Nat.testBit_lt_two_pow (Nat.lt_of_lt_of_le (show x < 2 ^ 64 by omega) (Nat.pow_le_pow_right (by omega) (by omega)))
        simp [c1, c2, d1, d2, c3, d3]
  · by_cases c3 : i < 64
    · simp [c1, c3]
    · omega

/-- 'v &^ mask != 0': v has more bits than the field. -/
theorem over_val {s v : Nat} (hv : U64 v) (h2 : s ≤ 64) : (bits BinOp.andNot IntKind.u64 (v : Int) ((2 ^ s - 1 : Nat) : Int) != 0) = decide (2 ^ s ≤ v) := by
  have h1 := pow64 h2
  have h3 := pow1 s
  have hv' := hv
  unfold U64 at hv'
  rw [u64_andNot_nat _ _ hv' (by omega)]
  have e3 : 18446744073709551615 - (2 ^ s - 1) = 2 ^ 64 - (2 ^ s - 1 + 1) := by omega
  rw [e3]
  have key : v &&& (2 ^ 64 - (2 ^ s - 1 + 1)) = 2 ^ s * (v / 2 ^ s) := by
    apply Nat.eq_of_testBit_eq
    intro i
    rw [Nat.testBit_and, Nat.testBit_two_pow_sub_succ (by omega), Nat.testBit_two_pow_sub_one, Nat.testBit_two_pow_mul]
    by_cases c1 : s ≤ i
    · have d : ¬ i < s := by omega
      by_cases c3 : i < 64
      · simp [c1, d, c3, Nat.testBit_div_two_pow]
      · have d3 : v.testBit i = false := Nat.testBit_lt_two_pow (Nat.lt_of_lt_of_le (show v < 2 ^ 64 by omega) (Nat.pow_le_pow_right (by omega) (by omega)))
        simp [c1, d, c3, d3, Nat.testBit_div_two_pow]
    · have d : i < s := by omega
      simp [c1, d]
  rw [key]
  by_cases c : 2 ^ s ≤ v
  · have : 1 ≤ v / 2 ^ s := (Nat.one_le_div_iff h3).2 c
    have q : 0 < 2 ^ s * (v / 2 ^ s) := Nat.mul_pos h3 this
    simp only [c, decide_true, bne_iff_ne]
    omega
  · have : v / 2 ^ s = 0 := Nat.div_eq_of_lt (by omega)
    rw [this]
    simp [c]

theorem get_step (x k i : Nat) : x / 2 ^ i % 2 ^ (k + 1) = 2 * (x / 2 ^ (i + 1) % 2 ^ k) + x / 2 ^ i % 2 := by
  have e : x / 2 ^ (i + 1) = x / 2 ^ i / 2 := by rw [Nat.pow_succ, Nat.div_div_eq_div_mul]
  rw [e, Nat.pow_succ, Nat.mul_comm (2 ^ k) 2, Nat.mod_mul]
  omega
theorem div_step (x i : Nat) : x / 2 ^ i = 2 * (x / 2 ^ (i + 1)) + x / 2 ^ i % 2 := by
  have e : x / 2 ^ (i + 1) = x / 2 ^ i / 2 := by rw [Nat.pow_succ, Nat.div_div_eq_div_mul]
  rw [e]; omega
theorem putN_digit {x a s v : Nat} (hv : v < 2 ^ s) (i : Nat) : putN x a s v / 2 ^ i % 2 = if a ≤ i ∧ i < a + s then v / 2 ^ (i - a) % 2 else x / 2 ^ i % 2 := by
  have h := putN_bit (x := x) (a := a) hv i
  have t (y j : Nat) : y / 2 ^ j % 2 = (y.testBit j).toNat := by
    rw [Nat.testBit_eq_decide_div_mod_eq]
    by_cases c : y / 2 ^ j % 2 = 1
    · simp [c]
    · have : y / 2 ^ j % 2 = 0 := by omega
      simp [this]
  rw [t, t, t, h]
  split <;> rfl

theorem putN_get {x a s v : Nat} (hv : v < 2 ^ s) : putN x a s v / 2 ^ a % 2 ^ s = v := by
  apply Nat.eq_of_testBit_eq
  intro i
  rw [Nat.testBit_mod_two_pow, Nat.testBit_div_two_pow, putN_bit hv]
  by_cases c : i < s
  · simp [c]; omega
  · have : v.testBit i = false := Nat.testBit_lt_two_pow (Nat.lt_of_lt_of_le hv (Nat.pow_le_pow_right (by omega) (by omega)))
    simp [c, this]
end
end Go.Proofs.Ytkocgeedpinplaa
