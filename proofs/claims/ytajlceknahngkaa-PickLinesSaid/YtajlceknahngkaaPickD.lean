/- Contracts of package pick: Turns. -/
import Derived.Test.YtajlceknahngkaaPickC
set_option maxRecDepth 100000
namespace Go.Proofs.Ytajlceknahngkaa
open Go.RowKit

theorem wrongN_zero {n : Int} {l : List CallD} (h : wrongN n l = 0) : 1 ≤ n ∧ n ≤ 16 ∧ l.length ≤ 1000 ∧ anyBad n l = false := by
  unfold wrongN at h
  split at h
  · cases h
  · split at h
    · cases h
    · rename_i h1 h2
      refine ⟨by omega, by omega, by omega, ?_⟩
      unfold anyBad
      cases hc : l.any (badT n) with
      | false => rfl
      | true => rw [hc] at h; simp at h

def NewAll (n : Int) (l : List CallD) (w : World) (e : Ending) (w' : World) : Prop :=
  (wrongN n l ≠ 0 ∧ e = .returned (.tuple #[.pointer none, .int .i64 (wrongN n l)]) ∧ Below w.heap.size w w') ∨
  (wrongN n l = 0 ∧ e = .returned (.tuple #[.pointer (some ⟨w.heap.size + 1, 0, none⟩), .int .i64 0]) ∧ Below w.heap.size w w' ∧ ∃ M, LineAt w' w'.heap.size (w.heap.size + 1) w.heap.size l.length M (qF l (List.replicate l.length false)) (l.length : Int))

theorem new_any (n : Int) (l : List CallD) (a : Option Addr) (c : Nat) (w : World) (hs : SlAt w a l.length 6 (callG l)) (hwf : ∀ x ∈ l, (Lit.int .i64 x.thread).wf = true) :
    Calls Try.prog 42 #[.int .i64 n, .slice a l.length c] w fun e w' => NewAll n l w e w' := by
  by_cases h1 : n < 1 ∨ 16 < n
  · have hw : wrongN n l = 1 := by unfold wrongN; rw [if_pos h1]
    refine (new_bad n a l.length c w 1 hs.1 (.inl ⟨h1, rfl⟩)).mono ?_
    rintro e w' ⟨rfl, rfl⟩
    exact .inl ⟨by rw [hw]; decide, by rw [hw], Gr.refl _⟩
  by_cases h2 : 1000 < l.length
  · have hw : wrongN n l = 3 := by unfold wrongN; rw [if_neg h1, if_pos h2]
    refine (new_bad n a l.length c w 3 hs.1 (.inr ⟨⟨by omega, by omega, h2⟩, rfl⟩)).mono ?_
    rintro e w' ⟨rfl, rfl⟩
    exact .inl ⟨by rw [hw]; decide, by rw [hw], Gr.refl _⟩
  refine (new_go n l a c w hs (by omega) (by omega) (by omega) hwf).mono ?_
  rintro e w' (⟨hb, rfl, hbel⟩ | ⟨hb, rfl, M, hst⟩)
  · have hw : wrongN n l = 1 := by unfold wrongN; rw [if_neg h1, if_neg h2]; exact if_pos hb
    exact .inl ⟨by rw [hw]; decide, by rw [hw], hbel⟩
  · have hw : wrongN n l = 0 := by unfold wrongN; rw [if_neg h1, if_neg h2]; exact if_neg (by unfold anyBad at hb; rw [hb]; simp)
    have hq : qF l (List.replicate l.length false) = qOf l l.length := funext (qF_init l)
    exact .inr ⟨hw, rfl, hst.below, M, by rw [hq]; exact line_of_new hst (by omega)⟩

def doneB (need : List Int) (i m : Nat) : Bool := decide (need.length ≤ i) || decide (need.getD i 0 ≤ (m : Int))
def turnsGo (l : List CallD) (need : List Int) : List Int → List Bool → List Nat → List Nat → Nat → List Nat × Nat
  | [], _, _, out, idle => (out, idle)
  | p :: ps, fin, made, out, idle =>
    match nowN l fin p with
    | none => turnsGo l need ps fin made out (idle + 1)
    | some i => turnsGo l need ps (if doneB need i (made.getD i 0 + 1) then fin.set i true else fin) (made.set i (made.getD i 0 + 1)) (out ++ [i]) idle
def turnsN (l : List CallD) (need picks : List Int) : List Nat × Nat := turnsGo l need picks (List.replicate l.length false) (List.replicate l.length 0) [] 0

/-- Turns under way. -/
structure TurnSt (w wr : World) (hi : Nat) (l : List CallD) (k : Nat) (fin : List Bool) (made out : List Nat) (o : Value) : Prop where
  line : ∃ n M left, n ≤ 1000 + k ∧ -(k : Int) ≤ left ∧ left ≤ 1000 ∧ LineAt wr hi (w.heap.size + 1) w.heap.size n M (qF l fin) left
  mblk : wr.heap[hi]? = some (.cells (made.map natV).toArray 3 (0, 0))
  row : wr.ownsRow (hi + 1) 3 1 o out.length (out.map natV)
  flen : fin.length = l.length
  mlen : made.length = l.length
  mle : ∀ i, made.getD i 0 ≤ k
  ole : out.length ≤ k
  below : Below w.heap.size w wr
  hib : w.heap.size + 1 < hi
  size : hi < wr.heap.size

theorem TurnSt.idle {w wr : World} {hi : Nat} {l : List CallD} {k : Nat} {fin : List Bool} {made out : List Nat} {o : Value} (h : TurnSt w wr hi l k fin made out o) : TurnSt w wr hi l (k + 1) fin made out o := by
  obtain ⟨⟨n, M, left, h1, h2, h3, h4⟩, a, b, c, d, e, f, g, i, j⟩ := h
  exact ⟨⟨n, M, left, by omega, by omega, h3, h4⟩, a, b, c, d, fun i => Nat.le_succ_of_le (e i), by omega, g, i, j⟩
theorem LineAt.grown {w w' : World} {hi bl bm n : Nat} {M : Int → Value} {q : Int → List Nat} {left : Int} (h : LineAt w hi bl bm n M q left) (hb : Below w.heap.size w w') (hhi : hi = w.heap.size) : LineAt w' hi bl bm n M q left := by
  refine ⟨(hb.block _ (blk_lt h.line)).trans h.line, h.map.block (hb.block _ h.map.lt), fun p => ?_⟩
  obtain ⟨a, c, h1, h2, h3, h4⟩ := h.rows p
  exact ⟨a, c, h1, h2, h3.grown hb, h4⟩

theorem LineAt.chg {S : Nat → Prop} {w w' : World} {hi bl bm n : Nat} {M : Int → Value} {q : Int → List Nat} {left : Int} (h : LineAt w hi bl bm n M q left) (hc : Chg S w w') (h1 : ¬ S bl) (h2 : ¬ S bm) (h3 : ∀ b, b < hi → ¬ S b) : LineAt w' hi bl bm n M q left := by
  refine ⟨(hc.block _ (blk_lt h.line) h1).trans h.line, h.map.block (hc.block _ h.map.lt h2), fun p => ?_⟩
  obtain ⟨a, c, g1, g2, g3, g4⟩ := h.rows p
  exact ⟨a, c, g1, g2, g3.chg hc (fun b off e => h3 b (g4 b off e).2.2), g4⟩
theorem LineAt.drewN {w : World} {hi bl bm n : Nat} {M : Int → Value} {q : Int → List Nat} {left : Int} (h : LineAt w hi bl bm n M q left) (m : Nat) : LineAt (w.drewN m) hi bl bm n M q left :=
  h.chg (S := fun _ => False) ((Chg.refl _ w).drewN m) (fun h => h) (fun h => h) (fun _ _ h => h)
theorem row_chg {S : Nat → Prop} {w w' : World} {B : Nat} {v : Value} {e : TypeId} {k n : Nat} {xs : List Value} (h : w.ownsRow B e k v n xs) (hc : Chg S w w') (hS : ∀ b, v.ownBlock = some b → ¬ S b) : w'.ownsRow B e k v n xs := by
  obtain ⟨h1, h2⟩ := h
  refine ⟨h1, ?_⟩
  rcases h2 with h2 | ⟨g, cap, cur, hv, hg, hh, r⟩
  · exact .inl h2
  · exact .inr ⟨g, cap, cur, hv, hg, (hc.block g (blk_lt hh) (hS g (by rw [hv]; rfl))).trans hh, r⟩

theorem turns_bad (n : Int) (l : List CallD) (a a2 a3 : Option Addr) (c n2 c2 n3 c3 : Nat) (w : World) (hs : SlAt w a l.length 6 (callG l)) (hwf : ∀ x ∈ l, (Lit.int .i64 x.thread).wf = true) (h : wrongN n l ≠ 0) :
    Calls Try.prog 48 #[.int .i64 n, .slice a l.length c, .slice a2 n2 c2, .slice a3 n3 c3] w fun e w' => e = .returned (.tuple #[.slice none 0 0, .int .i64 0, .int .i64 (wrongN n l)]) ∧ Below w.heap.size w w' := by
  have H := Lib.hid (new_any n l a c w hs hwf)
  obtain ⟨R, hR⟩ : ∃ R, R = wrongN n l := ⟨_, rfl⟩
  rw [← hR] at h ⊢
  have hb : (R != 0) = true := by simpa using h
  have HR := Lib.hid hR
  clear hs hwf hR
  go_enter Try.func48, Try.ntmps48
  go_wp2_with fail
  refine H.out.mono ?_
  rintro e w1 (⟨_, rfl, hb1⟩ | ⟨h0, _⟩)
  · rw [← HR.out]
    go_wp2
    refine bodyPost_ret (results_tmp3 rfl _ _ _) rfl ?_
    exact ⟨rfl, hb1⟩
  · exact absurd (HR.out.trans h0) h

theorem turns_long (n : Int) (l : List CallD) (a a2 a3 : Option Addr) (c n2 c2 n3 c3 : Nat) (w : World) (hs : SlAt w a l.length 6 (callG l)) (hwf : ∀ x ∈ l, (Lit.int .i64 x.thread).wf = true) (h : wrongN n l = 0) (hl : 65536 < n3) (hm : n3 ≤ maxLen) :
    Calls Try.prog 48 #[.int .i64 n, .slice a l.length c, .slice a2 n2 c2, .slice a3 n3 c3] w fun e w' => e = .returned (.tuple #[.slice none 0 0, .int .i64 0, .int .i64 3]) ∧ Below w.heap.size w w' := by
  have H := Lib.hid (new_any n l a c w hs hwf)
  have h3 : decide ((65536 : Int) < (n3 : Int)) = true := by simp; omega
  have Hh := Lib.hid h
  clear hs hwf h hl hm
  go_enter Try.func48, Try.ntmps48
  go_wp2_with fail
  refine H.out.mono ?_
  rintro e w1 (⟨h0, _⟩ | ⟨_, rfl, hb1, M, hline⟩)
  · exact absurd Hh.out h0
  clear hline
  go_wp2
  refine bodyPost_ret (results_tmp3 rfl _ _ _) rfl ?_
  exact ⟨rfl, hb1⟩

theorem madeCells_one (v : Value) (n : Nat) : madeCells #[v] n = (List.replicate n v).toArray := by
  unfold madeCells
  apply Array.ext
  · simp
  · intro i h1 h2
    simp at h1 h2 ⊢
    simp [Nat.mod_one]

theorem getD_set_le {l : List Nat} {i v k : Nat} (h : ∀ j, l.getD j 0 ≤ k) (hv : v ≤ k) (j : Nat) : (l.set i v).getD j 0 ≤ k := by
  simp only [List.getD_eq_getElem?_getD, List.getElem?_set]
  by_cases c : i = j
  · subst c
    by_cases c2 : i < l.length
    · simp [c2, hv]
    · simp [c2]
  · have := h j
    simp only [List.getD_eq_getElem?_getD] at this
    simp [c, this]

theorem turns_ok (n : Int) (l : List CallD) (need picks : List Int) (a a2 a3 : Option Addr) (c c2 c3 : Nat) (w : World) (hs : SlAt w a l.length 6 (callG l)) (hwf : ∀ x ∈ l, (Lit.int .i64 x.thread).wf = true) (h : wrongN n l = 0)
    (hs2 : SlAt w a2 need.length 1 (intG need)) (hs3 : SlAt w a3 picks.length 1 (intG picks)) (hp : picks.length ≤ 65536) (hpw : ∀ x ∈ picks, (Lit.int .i64 x).wf = true) :
    Calls Try.prog 48 #[.int .i64 n, .slice a l.length c, .slice a2 need.length c2, .slice a3 picks.length c3] w fun e w' => ∃ (out : List Nat) (idle : Nat) (ao : Option Addr) (co : Nat), Hid (turnsN l need picks = (out, idle)) ∧ e = .returned (.tuple #[.slice ao out.length co, .int .i64 (idle : Int), .int .i64 0]) ∧ SlAt w' ao out.length 1 (natG out) ∧ Below w.heap.size w w' := by
  have H := Lib.hid (new_any n l a c w hs hwf)
  obtain ⟨n1, n2, hl, hab⟩ := wrongN_zero h
  clear hab
  have Hh := Lib.hid h
  have hm2 := hs2.1; have hm3 := hs3.1
  unfold maxLen at hm2 hm3
  have Hs2 := Lib.hid hs2; have Hs3 := Lib.hid hs3; have Hpw := Lib.hid hpw
  obtain ⟨i0, hi, hz0, hz1, hz2⟩ := info_parts int_info'
  have hmk : ∀ u : World, (Instr.makeSlice 36 (.int .i64 (l.length : Int)) (.int .i64 (l.length : Int))).run Try.prog u = .ok (.slice (some ⟨u.heap.size, 0, none⟩) l.length l.length) (u.alloc (.cells (madeCells #[.int .i64 0] l.length) 3)) := fun u => by
    have h := run_make (P := Try.prog) u 36 3 i0 (.int .i64 0) Try.underlying36 hi hz0 .i64 .i64 (l.length : Int) (l.length : Int) (by omega) (Int.le_refl _) (by rw [hz2]; omega) (by omega)
    simpa [hz1, Value.cells] using h
  clear hs hwf h hs2 hs3 hpw
  go_enter Try.func48, Try.ntmps48
  go_wp2_with fail
  refine H.out.mono ?_
  rintro e w1 (⟨h0, _⟩ | ⟨hz, rfl, hb1, M, hline⟩)
  · exact absurd Hh.out h0
  clear hz
  have Hline := Lib.hid hline
  clear hline
  have hlong : decide ((65536 : Int) < (picks.length : Int)) = false := by simp; omega
  obtain ⟨hi', hhi⟩ : ∃ hi', hi' = w1.heap.size := ⟨_, rfl⟩
  rw [← hhi] at Hline
  have hib : w.heap.size + 1 < hi' := by rw [hhi]; exact blk_lt Hline.out.line
  go_wp2
  rw [← hhi]
  have Hhi := Lib.hid hhi; clear hhi
  go_loopw [14, 15, 39] (fun o d i wr => ∃ (k idle : Nat) (fin : List Bool) (made out : List Nat), k ≤ picks.length ∧ i = .int .i64 k ∧ d = .int .i64 (idle : Int) ∧ idle ≤ k ∧ TurnSt w wr hi' l k fin made out o ∧ Hid (turnsGo l need (picks.drop k) fin made out idle = turnsN l need picks)) (fun _ _ i _ => picks.length - (intOf i).toNat)
  case atStart =>
    refine ⟨0, 0, List.replicate l.length false, List.replicate l.length 0, [], Nat.zero_le _, rfl, rfl, Nat.le_refl _, ⟨⟨l.length, M, l.length, by omega, by omega, by omega, ?_⟩, ?_, World.ownsRow_nil _ _ _ _, by simp, by simp, fun i => ?_, by simp, Gr.alloc hb1 _, hib, by simp [Hhi.out]⟩, rfl⟩
    · exact Hline.out.grown (Gr.new _ _) Hhi.out
    · rw [Hhi.out]
      have := heap_alloc_new w1 (.cells (madeCells #[.int .i64 0] l.length) 3)
      rw [madeCells_one] at this ⊢
      rw [this]
      simp [natV]
    · simp [List.getD_eq_getElem?_getD, List.getElem?_replicate]
      split <;> simp
  case round =>
    obtain ⟨k, idle, fin, made, out, hk, rfl, rfl, hidle, hst, hg⟩ := hrel
    by_cases hlt : k < picks.length
    · obtain ⟨b3, off3, rfl, hc3⟩ := Hs3.out.elem hst.below hlt
      obtain ⟨p, hpv⟩ : ∃ p, picks[k] = p := ⟨_, rfl⟩
      have hd : List.drop k picks = p :: List.drop (k + 1) picks := by rw [List.drop_eq_getElem_cons hlt, hpv]
      have c0 : wr.cell? ⟨b3, off3 + k, none⟩ = some (.int .i64 p) := by have h0 := hc3 0 (by omega); rw [Nat.mul_one, Nat.add_zero] at h0; rw [h0]; simp [intG, List.getD_eq_getElem?_getD, hlt, hpv]
      have hpw : (Lit.int .i64 p).wf = true := by rw [← hpv]; exact Hpw.out _ (List.getElem_mem hlt)
      have hg2 := hg.out
      rw [hd] at hg2
      clear hd hg hc3 hpv
      obtain ⟨nn, M', left, l1, l2, l3, hline⟩ := hst.line
      cases hno : nowN l fin p with
      | none =>
        have hq : (qF l fin p).length = 0 := by
          have := nowN_head l fin p
          rw [hno] at this
          have := List.head?_eq_none_iff.1 this.symm
          rw [this]; rfl
        have Hnow := Lib.hid (now_no hi' _ _ nn M' (qF l fin) left p wr hline hpw hq)
        have hg3 : turnsGo l need (List.drop (k + 1) picks) fin made out (idle + 1) = turnsN l need picks := by rw [← hg2]; simp [turnsGo, hno]
        have Hg := Lib.hid hg3
        have Hst := Lib.hid hst
        clear hg2 hg3 hno hq hline hst l1 l2 l3
        go_wp2_with (go_at_call 45; refine (Hnow.out).mono ?_; rintro e w' ⟨rfl, rfl⟩)
        go_roundw
        case rel => exact ⟨k + 1, idle + 1, fin, made, out, by omega, by go_num, by go_num, by omega, Hst.out.idle, Hg⟩
        case measure => simp [intOf] <;> omega
      | some i =>
        obtain ⟨hil, hit, hif⟩ := nowN_spec hno
        obtain ⟨r, hq⟩ : ∃ r, qF l fin p = i :: r := by
          have h5 := nowN_head l fin p
          rw [hno] at h5
          cases h6 : qF l fin p with
          | nil => rw [h6] at h5; cases h5
          | cons x r => rw [h6] at h5; simp at h5; exact ⟨r, by rw [h5]⟩
        have Hnow := Lib.hid (now_yes hi' _ _ nn M' (qF l fin) left p wr hline hpw i r hq)
        obtain ⟨m, hm⟩ : ∃ m, m = made.getD i 0 := ⟨_, rfl⟩
        have hmk2 : m ≤ k := by rw [hm]; exact hst.mle i
        have hg3 : turnsGo l need (List.drop (k + 1) picks) (if doneB need i (m + 1) then fin.set i true else fin) (made.set i (m + 1)) (out ++ [i]) idle = turnsN l need picks := by
          rw [← hg2, hm]; simp [turnsGo, hno]
        have Hg := Lib.hid hg3
        have hrow := hst.row
        have hml := hst.mlen
        have hqs : qF l (fin.set i true) = qDrop (qF l fin) p := qF_set hst.flen hq
        have Lk := Lib.hid (show nn ≤ 1000 + k ∧ -(k : Int) ≤ left ∧ left ≤ 1000 from ⟨l1, l2, l3⟩)
        clear l1 l2 l3
        have Hst := Lib.hid hst; have Hrow := Lib.hid hrow; have Hline2 := Lib.hid hline; have Hm := Lib.hid hm; have Hml := Lib.hid hml; have Hq := Lib.hid hq; have Hqs := Lib.hid hqs
        have hol := hst.ole
        have hszr := hst.size
        clear hg2 hg3 hno hq hline hst hm hrow hml hit hif hqs hib
        go_wp2_with (first | (go_at_call 45; refine (Hnow.out).mono ?_; rintro e w' ⟨rfl, rfl⟩) | (at_builtin; refine wpList_append_own _ rfl _ _ 36 rfl (hi' + 1) 3 i0 (.int .i64 0) 1 8 Try.underlying36 hi hz0 hz1 hz2 rfl (by decide) _ _ _ rfl (Hrow.out.alloc _) ⟨wr.heap.size, 0, none⟩ 1 1 [.int .i64 (i : Int)] rfl rfl ?c1 ?c2 ?c3 ?c4 ?c5 ?_))
        case c1 => exact cell_one_new _ _ _
        case c2 => simp [Value.oneCell']
        case c3 => unfold maxLen; omega
        case c4 => omega
        case c5 => simp; omega
        intro o' wa hown' hgrow _
        have hca : Chg (fun b => hi' + 1 ≤ b) wr wa := ((Chg.refl _ wr).alloc _).grown hgrow (fun q hq => .inl (Hrow.out.lt q hq).1)
        have hma : wa.heap[hi']? = some (.cells (made.map natV).toArray 3 (0, 0)) := (hca.block _ hszr (by omega)).trans Hst.out.mblk
        have hcell : wa.cell? ⟨hi', i, none⟩ = some (.int .i64 (m : Int)) := by
          rw [cell_blk hma, Hm.out]
          have : i < made.length := by rw [Hml.out]; exact hil
          simp [this, natV, List.getD_eq_getElem?_getD]
        have hfr : wa.frozen? ⟨hi', i, none⟩ = false := frozen_blk hma i
        have hi0 : (0 : Int) ≤ (i : Int) := by omega
        have hi1 : (i : Int) < (l.length : Int) := by omega
        have Hown := Lib.hid hown'; have Hca := Lib.hid hca; have Hma := Lib.hid hma; have Hgrow := Lib.hid hgrow
        clear hown' hca hma hgrow
        go_wp2
        obtain ⟨wb, hwb⟩ : ∃ wb, wb = wa.setCell ⟨hi', i, none⟩ (.int .i64 ((m : Int) + 1)) := ⟨_, rfl⟩
        have hcb : Chg (fun b => hi' ≤ b) wr wb := by
          rw [hwb]
          exact (Hca.out.mono (fun k _ h => Nat.le_of_succ_le h)).setCell (.inl (Nat.le_refl _)) _
        have hmb : wb.heap[hi']? = some (.cells ((made.set i (m + 1)).map natV).toArray 3 (0, 0)) := by
          rw [hwb, blk_set Hma.out i]
          congr 2
          apply Array.ext'
          simp [natV]
        have hrb : wb.ownsRow (hi' + 1) 3 1 o' (out ++ [i]).length ((out ++ [i]).map natV) := by
          rw [hwb]
          have h6 := ownsRow_setCell_below Hown.out (a := ⟨hi', i, none⟩) (Nat.lt_succ_self hi') (.int .i64 ((m : Int) + 1))
          simpa [natV] using h6
        have hlb : LineAt wb hi' (w.heap.size + 1) w.heap.size nn M' (qF l fin) left := Hline2.out.chg hcb (by have := Hst.out.hib; omega) (by have := Hst.out.hib; omega) (fun b h => by omega)
        obtain ⟨hlnn, hleft1, hleft2⟩ : nn ≤ 1000 + k ∧ -(k : Int) ≤ left ∧ left ≤ 1000 := by exact ⟨Lk.out.1, Lk.out.2.1, Lk.out.2.2⟩
        have hbb : Below w.heap.size w wb := Hst.out.below.trans (hcb.below (fun k h => by have := Hst.out.hib; omega) Hst.out.below.size)
        have hszb : hi' < wb.heap.size := Nat.lt_of_lt_of_le hszr hcb.size
        have hst2 : ∀ (f2 : List Bool) (wc : World) (M2 : Int → Value) (n2 : Nat) (lf : Int), f2.length = l.length → Chg (fun b => b = w.heap.size + 1 ∨ b = w.heap.size) wb wc → LineAt wc hi' (w.heap.size + 1) w.heap.size n2 M2 (qF l f2) lf → n2 ≤ 1000 + (k + 1) → -((k + 1 : Nat) : Int) ≤ lf → lf ≤ 1000 →
            TurnSt w wc hi' l (k + 1) f2 (made.set i (m + 1)) (out ++ [i]) o' := by
          intro f2 wc M2 n2 lf hf hc hl2 q1 q2 q3
          have hib := Hst.out.hib
          refine ⟨⟨n2, M2, lf, q1, q2, q3, hl2⟩, (hc.block _ hszb (by omega)).trans hmb, ?_, hf, by rw [List.length_set]; exact Hst.out.mlen, fun j => getD_set_le (fun j => Nat.le_succ_of_le (Hst.out.mle j)) (by omega) j, by simp; omega, hbb.trans (hc.below (fun k h => by omega) hbb.size), hib, Nat.lt_of_lt_of_le hszb hc.size⟩
          refine row_chg hrb hc (fun b hb h => ?_)
          have := (hrb.lt b hb).1
          omega
        have cb : wb.cell? ⟨hi', i, none⟩ = some (.int .i64 ((m : Int) + 1)) := by
          rw [cell_blk hmb]
          have : i < made.length := by rw [Hml.out]; omega
          simp [this, natV]
        have Hst2 := Lib.hid hst2; have Hlb := Lib.hid hlb
        rw [← hwb]
        have hnb := Hst.out.below
        have Hbb := Lib.hid hbb
        clear hwb hcb hmb hrb hlb hst2 hbb hszb hcell hfr Hca Hma Hown Hgrow hnb Hrow Hline2 Hnow
        by_cases hn0 : need.length ≤ i
        · have hdone : doneB need i (m + 1) = true := by unfold doneB; simp [hn0]
          have hg4 := Hg.out
          rw [hdone, if_pos rfl] at hg4
          have Hg2 := Lib.hid hg4
          have dn : decide (need.length ≤ i) = true := by simpa using hn0
          have Hfin := Lib.hid (fun (nq : Nat) => finish_yes hi' (w.heap.size + 1) w.heap.size nn M' (qF l fin) left p (wb.drewN nq) (Hlb.out.drewN nq) (by have := Lk.out; unfold maxLen; omega) hpw i r Hq.out (by have := Lk.out; omega) (by have := Lk.out; omega))
          clear hg4 hdone hn0
          go_quiet (fail)
          obtain ⟨wq, hwq⟩ : ∃ wq, wq = wb.drewN nq := ⟨_, rfl⟩
          go_wp2_with fail
          refine (Hfin.out nq).mono ?_
          rintro e wc ⟨rfl, hcc, M2, hl2⟩
          have hcc2 : Chg (fun b => b = w.heap.size + 1 ∨ b = w.heap.size) wb wc := ((Chg.refl _ wb).drewN nq).trans hcc
          have hl3 := hl2
          rw [← Hqs.out] at hl3
          have Hfst := Lib.hid (Hst2.out (fin.set i true) wc M2 (nn + 1) (left - 1) (by simp; exact Hst.out.flen) hcc2 hl3 (by have := Lk.out; omega) (by have := Lk.out; omega) (by have := Lk.out; omega))
          clear hcc hcc2 hl2 hl3 hwq
          go_wp2
          go_roundw
          case rel => exact ⟨k + 1, idle, fin.set i true, made.set i (m + 1), out ++ [i], by omega, by go_num, rfl, by omega, Hfst.out, Hg2.out⟩
          case measure => simp [intOf] <;> omega
        · obtain ⟨b2, off2, rfl, hc2⟩ := Hs2.out.elem Hbb.out (j := i) (by omega)
          obtain ⟨nd, hnd⟩ : ∃ nd, nd = need.getD i 0 := ⟨_, rfl⟩
          have c2' : wb.cell? ⟨b2, off2 + i, none⟩ = some (.int .i64 nd) := by have h0 := hc2 0 (by omega); rw [Nat.mul_one, Nat.add_zero] at h0; rw [h0, hnd]; rfl
          have hn1 : (i : Int) < (need.length : Int) := by omega
          have dn : decide (need.length ≤ i) = false := by simpa using hn0
          have hdo : doneB need i (m + 1) = decide (nd ≤ ((m + 1 : Nat) : Int)) := by unfold doneB; rw [← hnd]; simp; omega
          have Hdo := Lib.hid hdo
          clear hc2 hnd hdo hn0
          by_cases hfin : nd ≤ (m : Int) + 1
          · have hg4 := Hg.out
            rw [Hdo.out, if_pos (by simpa using hfin)] at hg4
            have Hg2 := Lib.hid hg4
            have dm : decide (nd ≤ (m : Int) + 1) = true := by simpa using hfin
            have Hfin := Lib.hid (fun (nq : Nat) => finish_yes hi' (w.heap.size + 1) w.heap.size nn M' (qF l fin) left p (wb.drewN nq) (Hlb.out.drewN nq) (by have := Lk.out; unfold maxLen; omega) hpw i r Hq.out (by have := Lk.out; omega) (by have := Lk.out; omega))
            clear hg4
            go_quiet (fail)
            obtain ⟨wq, hwq⟩ : ∃ wq, wq = wb.drewN nq := ⟨_, rfl⟩
            go_wp2_with fail
            refine (Hfin.out nq).mono ?_
            rintro e wc ⟨rfl, hcc, M2, hl2⟩
            have hcc2 : Chg (fun b => b = w.heap.size + 1 ∨ b = w.heap.size) wb wc := ((Chg.refl _ wb).drewN nq).trans hcc
            have hl3 := hl2
            rw [← Hqs.out] at hl3
            have Hfst := Lib.hid (Hst2.out (fin.set i true) wc M2 (nn + 1) (left - 1) (by simp; exact Hst.out.flen) hcc2 hl3 (by have := Lk.out; omega) (by have := Lk.out; omega) (by have := Lk.out; omega))
            clear hcc hcc2 hl2 hl3 hwq
            go_wp2
            go_roundw
            case rel => exact ⟨k + 1, idle, fin.set i true, made.set i (m + 1), out ++ [i], by omega, by go_num, rfl, by omega, Hfst.out, Hg2.out⟩
            case measure => simp [intOf] <;> omega
          · have hg4 := Hg.out
            rw [Hdo.out, if_neg (by simpa using hfin)] at hg4
            have Hg2 := Lib.hid hg4
            have dm : decide (nd ≤ (m : Int) + 1) = false := by simpa using hfin
            have Hkeep := Lib.hid (fun (nq : Nat) => Hst2.out fin (wb.drewN nq) M' nn left Hst.out.flen ((Chg.refl _ wb).drewN nq) (Hlb.out.drewN nq) (by have := Lk.out; omega) (by have := Lk.out; omega) (by have := Lk.out; omega))
            clear hg4
            go_quiet (fail)
            go_wp2
            go_roundw
            case rel => exact ⟨k + 1, idle, fin, made.set i (m + 1), out ++ [i], by omega, by go_num, rfl, by omega, Hkeep.out _, Hg2.out⟩
            case measure => simp [intOf] <;> omega
    · obtain rfl : k = picks.length := by omega
      have hrow := hst.row
      obtain ⟨ao, co, rfl, hsl, _⟩ := sl_of_row (g := natG out) hrow (by have := hst.ole; unfold maxLen; omega) (fun j hj => by simp [natG, natV, List.getD_eq_getElem?_getD, hj])
      have Hsl := Lib.hid hsl; have Hbel := Lib.hid hst.below
      have hg2 := hg.out
      rw [List.drop_length] at hg2
      have Hg2 := Lib.hid hg2
      clear hrow hsl hst hg2
      go_wp2
      refine bodyPost_ret (results_tmp3 rfl _ _ _) rfl ?_
      exact ⟨out, idle, ao, co, Hg2.out.symm, rfl, Hsl.out, Hbel.out⟩
end Go.Proofs.Ytajlceknahngkaa
