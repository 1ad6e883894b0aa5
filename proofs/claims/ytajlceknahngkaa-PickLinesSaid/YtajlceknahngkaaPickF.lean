/- Layer 5: the reference's Turns. -/
import Derived.Test.YtajlceknahngkaaPickE
set_option maxRecDepth 100000
namespace Go.Proofs.Ytajlceknahngkaa
open Go.RowKit

def mostN (need : List Int) (i : Nat) : Int := if i < need.length then (if 1 < need.getD i 0 then need.getD i 0 else 1) else 1
theorem mostN_done {need : List Int} {i m : Nat} (h : (m : Int) < mostN need i) : decide (((m : Int) + 1) = mostN need i) = doneB need i (m + 1) := by
  unfold mostN at *
  unfold doneB
  by_cases c : i < need.length
  · rw [if_pos c] at *
    by_cases c2 : 1 < need.getD i 0
    · rw [if_pos c2] at *
      simp only [show ¬ need.length ≤ i by omega, decide_false, Bool.false_or]
      apply decide_eq_decide.2; omega
    · rw [if_neg c2] at *
      simp only [show ¬ need.length ≤ i by omega, decide_false, Bool.false_or]
      apply decide_eq_decide.2; omega
  · rw [if_neg c] at *
    simp only [show need.length ≤ i by omega, decide_true, Bool.true_or, decide_eq_true_eq]
    omega

structure RTurnSt (w wr : World) (l : List CallD) (need : List Int) (k : Nat) (fin : List Bool) (made out : List Nat) (o : Value) : Prop where
  fblk : wr.heap[w.heap.size]? = some (.cells (fin.map Value.bool).toArray 4 (0, 0))
  mblk : wr.heap[w.heap.size + 1]? = some (.cells (made.map natV).toArray 3 (0, 0))
  row : wr.ownsRow (w.heap.size + 2) 3 1 o out.length (out.map natV)
  flen : fin.length = l.length
  mlen : made.length = l.length
  mle : ∀ i, made.getD i 0 ≤ k
  ole : out.length ≤ k
  below : Below w.heap.size w wr
  inv : ∀ j, fin.getD j false = false → (made.getD j 0 : Int) < mostN need j

theorem RTurnSt.idle {w wr : World} {l : List CallD} {need : List Int} {k : Nat} {fin : List Bool} {made out : List Nat} {o : Value} (h : RTurnSt w wr l need k fin made out o) : RTurnSt w wr l need (k + 1) fin made out o := by
  obtain ⟨a, b, c, d, e, f, g, i, j⟩ := h
  exact ⟨a, b, c, d, e, fun i => Nat.le_succ_of_le (f i), by omega, i, j⟩
theorem bool_info' : (Try.prog.info? 4).map (fun i => (i.zero, i.size, i.bytes)) = some (some (.bool false), 1, 1) := by kernel_rfl

theorem rturns_ok (l : List CallD) (need picks : List Int) (a a2 a3 : Option Addr) (c c2 c3 : Nat) (w : World) (hs : SlAt w a l.length 6 (callG l)) (hl : l.length ≤ 1000)
    (hs2 : SlAt w a2 need.length 1 (intG need)) (hs3 : SlAt w a3 picks.length 1 (intG picks)) (hp : picks.length ≤ 65536) :
    Calls Try.prog 49 #[.slice a l.length c, .slice a2 need.length c2, .slice a3 picks.length c3] w fun e w' => ∃ (out : List Nat) (idle : Nat) (ao : Option Addr) (co : Nat), Hid (turnsN l need picks = (out, idle)) ∧ e = .returned (.tuple #[.slice ao out.length co, .int .i64 (idle : Int)]) ∧ SlAt w' ao out.length 1 (natG out) ∧ Below w.heap.size w w' := by
  have hm2 := hs2.1; have hm3 := hs3.1
  unfold maxLen at hm2 hm3
  have Hs := Lib.hid hs; have Hs2 := Lib.hid hs2; have Hs3 := Lib.hid hs3
  obtain ⟨i0, hi, hz0, hz1, hz2⟩ := info_parts int_info'
  obtain ⟨i1, hi1, hy0, hy1, hy2⟩ := info_parts bool_info'
  have hmk : ∀ u : World, (Instr.makeSlice 36 (.int .i64 (l.length : Int)) (.int .i64 (l.length : Int))).run Try.prog u = .ok (.slice (some ⟨u.heap.size, 0, none⟩) l.length l.length) (u.alloc (.cells (madeCells #[.int .i64 0] l.length) 3)) := fun u => by
    have h := run_make (P := Try.prog) u 36 3 i0 (.int .i64 0) Try.underlying36 hi hz0 .i64 .i64 (l.length : Int) (l.length : Int) (by omega) (Int.le_refl _) (by rw [hz2]; omega) (by omega)
    simpa [hz1, Value.cells] using h
  have hmk2 : ∀ u : World, (Instr.makeSlice 69 (.int .i64 (l.length : Int)) (.int .i64 (l.length : Int))).run Try.prog u = .ok (.slice (some ⟨u.heap.size, 0, none⟩) l.length l.length) (u.alloc (.cells (madeCells #[.bool false] l.length) 4)) := fun u => by
    have h := run_make (P := Try.prog) u 69 4 i1 (.bool false) Try.underlying69 hi1 hy0 .i64 .i64 (l.length : Int) (l.length : Int) (by omega) (Int.le_refl _) (by rw [hy2]; omega) (by omega)
    simpa [hy1, Value.cells] using h
  clear hs hs2 hs3
  go_enter Try.func49, Try.ntmps49
  go_wp2
  go_loopw [10, 11, 23] (fun o d i wr => ∃ (k idle : Nat) (fin : List Bool) (made out : List Nat), k ≤ picks.length ∧ i = .int .i64 k ∧ d = .int .i64 (idle : Int) ∧ idle ≤ k ∧ RTurnSt w wr l need k fin made out o ∧ Hid (turnsGo l need (picks.drop k) fin made out idle = turnsN l need picks)) (fun _ _ i _ => picks.length - (intOf i).toNat)
  case atStart =>
    refine ⟨0, 0, List.replicate l.length false, List.replicate l.length 0, [], Nat.zero_le _, rfl, rfl, Nat.le_refl _, ⟨?_, ?_, World.ownsRow_nil _ _ _ _, by simp, by simp, fun i => ?_, by simp, Gr.alloc (Gr.new _ _) _, fun j _ => ?_⟩, rfl⟩
    · rw [madeCells_one, Below.heap_alloc _ _ _ (by simp), heap_alloc_new]
      simp
    · have := heap_alloc_new (w.alloc (.cells (madeCells #[.bool false] l.length) 4)) (.cells (madeCells #[.int .i64 0] l.length) 3)
      rw [show (w.alloc (.cells (madeCells #[.bool false] l.length) 4)).heap.size = w.heap.size + 1 by simp] at this
      rw [this, madeCells_one]
      simp [natV]
    · simp [List.getD_eq_getElem?_getD, List.getElem?_replicate]
      split <;> simp
    · have h0 : (List.replicate l.length 0).getD j 0 = 0 := by simp [List.getD_eq_getElem?_getD, List.getElem?_replicate]; split <;> simp
      rw [h0]
      unfold mostN
      split
      · split <;> omega
      · omega
  case round =>
    obtain ⟨k, idle, fin, made, out, hk, rfl, rfl, hidle, hst, hg⟩ := hrel
    by_cases hlt : k < picks.length
    · obtain ⟨b3, off3, rfl, hc3⟩ := Hs3.out.elem hst.below hlt
      obtain ⟨p, hpv⟩ : ∃ p, picks[k] = p := ⟨_, rfl⟩
      have hd : List.drop k picks = p :: List.drop (k + 1) picks := by rw [List.drop_eq_getElem_cons hlt, hpv]
      have c0 : wr.cell? ⟨b3, off3 + k, none⟩ = some (.int .i64 p) := by have h0 := hc3 0 (by omega); rw [Nat.mul_one, Nat.add_zero] at h0; rw [h0]; simp [intG, List.getD_eq_getElem?_getD, hlt, hpv]
      have hg2 := hg.out
      rw [hd] at hg2
      clear hd hg hc3 hpv
      have hszr : w.heap.size + 1 < wr.heap.size := blk_lt hst.mblk
      have hfs : SlAt wr (some ⟨w.heap.size, 0, none⟩) l.length 1 (boolG fin) := by
        refine ⟨by unfold maxLen; omega, fun j hj => ⟨_, _, rfl, by have : w.heap.size < wr.heap.size := by omega
                                                                    exact this, fun f hf => ?_⟩⟩
        obtain rfl : f = 0 := by omega
        rw [cell_blk hst.fblk]
        have : j < fin.length := by rw [hst.flen]; exact hj
        simp [boolG, List.getD_eq_getElem?_getD, this]
      have Hnow := Lib.hid (rnow_any l fin p a (some ⟨w.heap.size, 0, none⟩) c l.length wr (Hs.out.grown hst.below) hfs)
      have Hst := Lib.hid hst
      clear hfs
      cases hno : nowN l fin p with
      | none =>
        have hg3 : turnsGo l need (List.drop (k + 1) picks) fin made out (idle + 1) = turnsN l need picks := by rw [← hg2]; simp [turnsGo, hno]
        have Hg := Lib.hid hg3
        have hno2 : nowI (nowN l fin p) = -1 := by rw [hno]; rfl
        rw [hno2] at Hnow
        clear hg2 hg3 hno hst hno2 hszr
        go_wp2_with (go_at_call 44; refine (Hnow.out).mono ?_; rintro e w' ⟨rfl, rfl⟩)
        go_roundw
        case rel => exact ⟨k + 1, idle + 1, fin, made, out, by omega, by go_num, by go_num, by omega, Hst.out.idle, Hg⟩
        case measure => simp [intOf] <;> omega
      | some i =>
        obtain ⟨hil, hit, hif⟩ := nowN_spec hno
        obtain ⟨m, hm⟩ : ∃ m, m = made.getD i 0 := ⟨_, rfl⟩
        have hmk2 : m ≤ k := by rw [hm]; exact hst.mle i
        have hmost : (m : Int) < mostN need i := by rw [hm]; exact hst.inv i hif
        have hg3 : turnsGo l need (List.drop (k + 1) picks) (if doneB need i (m + 1) then fin.set i true else fin) (made.set i (m + 1)) (out ++ [i]) idle = turnsN l need picks := by
          rw [← hg2, hm]; simp [turnsGo, hno]
        have hfin : (if doneB need i (m + 1) then fin.set i true else fin) = fin.set i (decide (((m : Int) + 1) = mostN need i)) := by
          rw [mostN_done hmost]
          cases hd : doneB need i (m + 1) with
          | true => simp
          | false =>
            simp only [Bool.false_eq_true, if_false]
            have h1 : i < fin.length := by rw [hst.flen]; exact hil
            rw [← hif]
            simp [List.getD_eq_getElem?_getD, h1]
        rw [hfin] at hg3
        have hno2 : nowI (nowN l fin p) = (i : Int) := by rw [hno]; rfl
        rw [hno2] at Hnow
        have Hg := Lib.hid hg3
        have hrow := hst.row
        have Hrow := Lib.hid hrow; have Hm := Lib.hid hm; have Hmost := Lib.hid hmost; have Hif := Lib.hid hif
        have hol := hst.ole
        clear hg2 hg3 hno hst hm hrow hit hif hmost hfin hno2
        go_wp2_with (first | (go_at_call 44; refine (Hnow.out).mono ?_; rintro e w' ⟨rfl, rfl⟩) | (at_builtin; refine wpList_append_own _ rfl _ _ 36 rfl (w.heap.size + 2) 3 i0 (.int .i64 0) 1 8 Try.underlying36 hi hz0 hz1 hz2 rfl (by decide) _ _ _ rfl (Hrow.out.alloc _) ⟨wr.heap.size, 0, none⟩ 1 1 [.int .i64 (i : Int)] rfl rfl ?c1 ?c2 ?c3 ?c4 ?c5 ?_))
        case c1 => exact cell_one_new _ _ _
        case c2 => simp [Value.oneCell']
        case c3 => unfold maxLen; omega
        case c4 => omega
        case c5 => simp; omega
        intro o' wa hown' hgrow _
        have hca : Chg (fun b => w.heap.size + 2 ≤ b) wr wa := ((Chg.refl _ wr).alloc _).grown hgrow (fun q hq => .inl (Hrow.out.lt q hq).1)
        have hma : wa.heap[w.heap.size + 1]? = some (.cells (made.map natV).toArray 3 (0, 0)) := (hca.block _ hszr (by omega)).trans Hst.out.mblk
        have hfa : wa.heap[w.heap.size]? = some (.cells (fin.map Value.bool).toArray 4 (0, 0)) := (hca.block _ (by omega) (by omega)).trans Hst.out.fblk
        have hcell : wa.cell? ⟨w.heap.size + 1, i, none⟩ = some (.int .i64 (m : Int)) := by
          rw [cell_blk hma, Hm.out]
          have : i < made.length := by rw [Hst.out.mlen]; exact hil
          simp [this, natV, List.getD_eq_getElem?_getD]
        have hfr : wa.frozen? ⟨w.heap.size + 1, i, none⟩ = false := frozen_blk hma i
        have hi0 : (0 : Int) ≤ (i : Int) := by omega
        have hi1 : (i : Int) < (l.length : Int) := by omega
        obtain ⟨wb, hwb⟩ : ∃ wb, wb = wa.setCell ⟨w.heap.size + 1, i, none⟩ (.int .i64 ((m : Int) + 1)) := ⟨_, rfl⟩
        have hcb : Chg (fun b => w.heap.size + 1 ≤ b) wr wb := by
          rw [hwb]
          exact (hca.mono (fun k _ h => Nat.le_of_succ_le h)).setCell (.inl (Nat.le_refl _)) _
        have hmb : wb.heap[w.heap.size + 1]? = some (.cells ((made.set i (m + 1)).map natV).toArray 3 (0, 0)) := by
          rw [hwb, blk_set hma i]
          congr 2
          apply Array.ext'
          simp [natV]
        have hfb : wb.heap[w.heap.size]? = some (.cells (fin.map Value.bool).toArray 4 (0, 0)) := (hcb.block _ (by omega) (by omega)).trans Hst.out.fblk
        have hrb : wb.ownsRow (w.heap.size + 2) 3 1 o' (out ++ [i]).length ((out ++ [i]).map natV) := by
          rw [hwb]
          have h6 := ownsRow_setCell_below hown' (a := ⟨w.heap.size + 1, i, none⟩) (Nat.lt_succ_self _) (.int .i64 ((m : Int) + 1))
          simpa [natV] using h6
        have hbb : Below w.heap.size w wb := Hst.out.below.trans (hcb.below (fun k h => by omega) Hst.out.below.size)
        have cb : wb.cell? ⟨w.heap.size + 1, i, none⟩ = some (.int .i64 ((m : Int) + 1)) := by
          rw [cell_blk hmb]
          have : i < made.length := by rw [Hst.out.mlen]; omega
          simp [this, natV]
        have cf : wb.cell? ⟨w.heap.size, i, none⟩ = some (.bool false) := by
          rw [cell_blk hfb]
          have h1 : i < fin.length := by rw [Hst.out.flen]; omega
          have h2 := Hif.out
          simp [List.getD_eq_getElem?_getD, h1] at h2
          simp [h1, h2]
        have fb : wb.frozen? ⟨w.heap.size, i, none⟩ = false := frozen_blk hfb i
        have hst2 : ∀ bv : Bool, bv = decide (((m : Int) + 1) = mostN need i) → RTurnSt w (wb.setCell ⟨w.heap.size, i, none⟩ (.bool bv)) l need (k + 1) (fin.set i (decide (((m : Int) + 1) = mostN need i))) (made.set i (m + 1)) (out ++ [i]) o' := by
          rintro bv rfl
          have hilm : i < made.length := by rw [Hst.out.mlen]; omega
          refine ⟨?_, ?_, ?_, by rw [List.length_set]; exact Hst.out.flen, by rw [List.length_set]; exact Hst.out.mlen, fun j => getD_set_le (fun j => Nat.le_succ_of_le (Hst.out.mle j)) (by omega) j, by simp; omega, ?_, ?_⟩
          · rw [blk_set hfb i]
            congr 2
            apply Array.ext'
            simp
          · rw [blk_set_other (by simp)]
            exact hmb
          · exact ownsRow_setCell_below hrb (a := ⟨w.heap.size, i, none⟩) (by simp) _
          · exact hbb.setCell (Nat.le_refl _) _
          · intro j hj
            by_cases e : i = j
            · subst e
              have h1 : i < fin.length := by rw [Hst.out.flen]; omega
              simp only [List.getD_eq_getElem?_getD, List.getElem?_set, h1, hilm, if_true, Option.getD_some, decide_eq_false_iff_not] at hj ⊢
              have := Hmost.out
              omega
            · have := Hst.out.inv j
              simp only [List.getD_eq_getElem?_getD, List.getElem?_set, e, if_false] at hj this ⊢
              exact this hj
        rw [hwb] at cb cf fb hst2 hbb
        have Hst2 := Lib.hid hst2; have Hbb := Lib.hid hbb
        clear hown' hca hma hgrow hcb hmb hfb hrb hst2 hbb hwb Hrow
        by_cases hn0 : i < need.length
        · obtain ⟨b2, off2, rfl, hc2⟩ := Hs2.out.elem Hbb.out (j := i) (by omega)
          obtain ⟨nd, hnd⟩ : ∃ nd, nd = need.getD i 0 := ⟨_, rfl⟩
          have c2' : (wa.setCell ⟨w.heap.size + 1, i, none⟩ (.int .i64 ((m : Int) + 1))).cell? ⟨b2, off2 + i, none⟩ = some (.int .i64 nd) := by have h0 := hc2 0 (by omega); rw [Nat.mul_one, Nat.add_zero i] at h0; rw [h0, hnd]; rfl
          have hn1 : (i : Int) < (need.length : Int) := by omega
          by_cases h1 : 1 < nd
          · have hmn : mostN need i = nd := by unfold mostN; rw [if_pos hn0, ← hnd, if_pos h1]
            have Hmn := Lib.hid hmn
            clear hc2 hnd hmn
            go_wp2
            go_roundw
            case rel => exact ⟨k + 1, idle, fin.set i _, made.set i (m + 1), out ++ [i], by omega, by go_num, rfl, by omega, Hst2.out _ (by rw [Hmn.out]; exact Bool.eq_iff_iff.2 (by simp)), Hg.out⟩
            case measure => simp [intOf] <;> omega
          · have hmn : mostN need i = 1 := by unfold mostN; rw [if_pos hn0, ← hnd, if_neg h1]
            have Hmn := Lib.hid hmn
            clear hc2 hnd hmn
            go_wp2
            go_roundw
            case rel => exact ⟨k + 1, idle, fin.set i _, made.set i (m + 1), out ++ [i], by omega, by go_num, rfl, by omega, Hst2.out _ (by rw [Hmn.out]; exact Bool.eq_iff_iff.2 (by simp)), Hg.out⟩
            case measure => simp [intOf] <;> omega
        · have hmn : mostN need i = 1 := by unfold mostN; rw [if_neg hn0]
          have Hmn := Lib.hid hmn
          have hn1 : (need.length : Int) ≤ (i : Int) := by omega
          clear hmn
          go_wp2
          go_roundw
          case rel => exact ⟨k + 1, idle, fin.set i _, made.set i (m + 1), out ++ [i], by omega, by go_num, rfl, by omega, Hst2.out _ (by rw [Hmn.out]; exact Bool.eq_iff_iff.2 (by simp)), Hg.out⟩
          case measure => simp [intOf] <;> omega
    · obtain rfl : k = picks.length := by omega
      have hrow := hst.row
      obtain ⟨ao, co, rfl, hsl, _⟩ := sl_of_row (g := natG out) hrow (by have := hst.ole; unfold maxLen; omega) (fun j hj => by simp [natG, natV, List.getD_eq_getElem?_getD, hj])
      have Hsl := Lib.hid hsl; have Hbel := Lib.hid hst.below
      have hg2 := hg.out
      rw [List.drop_length] at hg2
      have Hg2 := Lib.hid hg2
      clear hrow hsl hst hg2
      go_wp2
      go_ret2
      exact ⟨out, idle, ao, co, Hg2.out.symm, rfl, Hsl.out, Hbel.out⟩
end Go.Proofs.Ytajlceknahngkaa
