/- Layer 5: the law PickLines: walk. -/
import Derived.Test.YtajlceknahngkaaPickG
set_option maxRecDepth 100000
namespace Go.Proofs.Ytajlceknahngkaa
open Go.RowKit

structure LinesSt (w wr : World) (bl bm hi fb : Nat) (l : List CallD) (k : Nat) (fin : List Bool) (left : Int) : Prop where
  line : ∃ n M, n ≤ 1000 + k ∧ LineAt wr hi bl bm n M (qF l fin) left
  fblk : wr.heap[fb]? = some (.cells (fin.map Value.bool).toArray 4 (0, 0))
  flen : fin.length = l.length
  lo : -(k : Int) ≤ left
  up : left ≤ 1000
  below : Below w.heap.size w wr
  hib : bl < hi ∧ bm < hi ∧ hi ≤ fb ∧ w.heap.size ≤ bl ∧ w.heap.size ≤ bm

theorem LinesSt.idle {w wr : World} {bl bm hi fb : Nat} {l : List CallD} {k : Nat} {fin : List Bool} {left : Int} (h : LinesSt w wr bl bm hi fb l k fin left) : LinesSt w wr bl bm hi fb l (k + 1) fin left := by
  obtain ⟨⟨n, M, h1, h2⟩, a, b, c, d, e, f⟩ := h
  exact ⟨⟨n, M, by omega, h2⟩, a, b, by omega, d, e, f⟩

set_option maxHeartbeats 4000000 in
theorem pickLines_any (n : Int) (l : List CallD) (fs : List Int) (a a2 : Option Addr) (c c2 : Nat) (w : World) (hs : SlAt w a l.length 6 (callG l)) (hwf : ∀ x ∈ l, (Lit.int .i64 x.thread).wf = true)
    (hs2 : SlAt w a2 fs.length 1 (intG fs)) (hfw : ∀ x ∈ fs, (Lit.int .i64 x).wf = true) :
    Calls Try.prog 10 #[.int .i64 n, .slice a l.length c, .slice a2 fs.length c2] w fun e w' => e = .returned (.bool true) ∧ Below w.heap.size w w' := by
  have hm := hs.1; have hm2 := hs2.1
  unfold maxLen at hm hm2
  have P := Lib.hid pair05
  by_cases g1 : 1100 < l.length
  · have d1 : (1100 : Int) < l.length := by omega
    clear hs hwf hs2 hfw g1
    go_enter Try.func10, Try.ntmps10
    go_wp2_with fail
    refine (P.out _).mono ?_
    rintro e w' ⟨rfl, hb⟩
    go_wp2
    go_ret
    exact ⟨rfl, hb⟩
  have d1 : ¬ (1100 : Int) < l.length := by omega
  by_cases g2 : 1000 < fs.length
  · have d2 : (1000 : Int) < fs.length := by omega
    clear hs hwf hs2 hfw g1 g2
    go_enter Try.func10, Try.ntmps10
    go_wp2_with fail
    refine (P.out _).mono ?_
    rintro e w' ⟨rfl, hb⟩
    go_wp2
    go_ret
    exact ⟨rfl, hb⟩
  have d2 : ¬ (1000 : Int) < fs.length := by omega
  have N := Lib.hid (new_any n l a c w hs hwf)
  have W := Lib.hid (fun (w' : World) (h : Below w.heap.size w w') => rwrong_any n l a c w' (hs.grown h))
  by_cases g4 : wrongN n l = 0
  · obtain ⟨n1, n2, hl, hab⟩ := wrongN_zero g4
    obtain ⟨i1, hi1, hy0, hy1, hy2⟩ := info_parts bool_info'
    have hmk2 : ∀ u : World, (Instr.makeSlice 69 (.int .i64 (l.length : Int)) (.int .i64 (l.length : Int))).run Try.prog u = .ok (.slice (some ⟨u.heap.size, 0, none⟩) l.length l.length) (u.alloc (.cells (madeCells #[.bool false] l.length) 4)) := fun u => by
      have h := run_make (P := Try.prog) u 69 4 i1 (.bool false) Try.underlying69 hi1 hy0 .i64 .i64 (l.length : Int) (l.length : Int) (by omega) (Int.le_refl _) (by rw [hy2]; omega) (by omega)
      simpa [hy1, Value.cells] using h
    have Hs := Lib.hid hs; have Hs2 := Lib.hid hs2; have Hfw := Lib.hid hfw; have G4 := Lib.hid g4
    rw [g4] at W
    clear hs hwf hs2 hfw g1 g2 g4 hab n1 n2
    go_enter Try.func10, Try.ntmps10
    go_wp2_with fail
    refine N.out.mono ?_
    rintro e w1 (⟨h0, _⟩ | ⟨_, rfl, hb1, M, hL⟩)
    · exact absurd G4.out h0
    obtain ⟨hi, Hhi⟩ : ∃ hi, hi = w1.heap.size := ⟨_, rfl⟩
    rw [← Hhi] at hL
    obtain ⟨bl, hbl⟩ : ∃ bl, bl = w.heap.size + 1 := ⟨_, rfl⟩
    rw [← hbl] at hL
    have HL := Lib.hid hL; have Hb1 := Lib.hid hb1; have HHi := Lib.hid Hhi; have Hbl := Lib.hid hbl
    rw [← hbl]
    clear hL hb1 Hhi hbl
    go_wp2_with fail
    refine (W.out _ Hb1.out).mono ?_
    rintro e w2 ⟨rfl, hb2⟩
    have HL2 := Lib.hid (HL.out.grown hb2 HHi.out)
    have Hb2 := Lib.hid hb2
    have Hbb := Lib.hid (Gr.trans Hb1.out hb2)
    clear hb2
    go_wp2
    obtain ⟨fb, hfb⟩ : ∃ fb, fb = w2.heap.size := ⟨_, rfl⟩
    rw [← hfb]
    have Hfb := Lib.hid hfb
    clear hfb
    go_loopw [11, 63] (fun d i wr => ∃ (k : Nat) (fin : List Bool) (left : Int), k ≤ fs.length ∧ i = .int .i64 k ∧ d = .int .i64 left ∧ LinesSt w wr bl w.heap.size hi fb l k fin left) (fun _ i _ => fs.length - (intOf i).toNat)
    case atStart =>
      refine ⟨0, List.replicate l.length false, (l.length : Int), Nat.zero_le _, rfl, rfl, ⟨⟨l.length, M, by omega, ?_⟩, ?_, by simp, by omega, by omega, Gr.alloc Hbb.out _, ?_⟩⟩
      · exact HL2.out.chg (S := fun _ => False) (Chg.of_below (Gr.new _ _)) (fun h => h) (fun h => h) (fun _ _ h => h)
      · rw [Hfb.out, heap_alloc_new, madeCells_one]
        simp
      · have h1 := blk_lt HL.out.line
        have h2 := HL.out.map.lt
        have h3 := Hb2.out.size
        have h4 := HHi.out
        have h5 := Hfb.out
        have h6 := Hbl.out
        omega
    case round =>
      obtain ⟨k, fin, left, hk, rfl, rfl, hst⟩ := hrel
      by_cases hlt : k < fs.length
      · obtain ⟨b3, o3, rfl, hc3⟩ := Hs2.out.elem hst.below hlt
        obtain ⟨p, hpv⟩ : ∃ p, fs[k] = p := ⟨_, rfl⟩
        have c0 : wr.cell? ⟨b3, o3 + k, none⟩ = some (.int .i64 p) := by have h0 := hc3 0 (by omega); rw [Nat.mul_one, Nat.add_zero] at h0; rw [h0]; simp [intG, List.getD_eq_getElem?_getD, hlt, hpv]
        have hpw : (Lit.int .i64 p).wf = true := by rw [← hpv]; exact Hfw.out _ (List.getElem_mem hlt)
        have hl1 : (k : Int) < fs.length := by omega
        have hfs : SlAt wr (some ⟨fb, 0, none⟩) l.length 1 (boolG fin) := by
          refine ⟨by unfold maxLen; omega, fun j hj => ⟨_, _, rfl, blk_lt hst.fblk, fun f hf => ?_⟩⟩
          obtain rfl : f = 0 := by omega
          rw [cell_blk hst.fblk]
          have : j < fin.length := by rw [hst.flen]; exact hj
          simp [boolG, List.getD_eq_getElem?_getD, this]
        have Rn := Lib.hid (rnow_any l fin p a (some ⟨fb, 0, none⟩) c l.length wr (Hs.out.grown hst.below) hfs)
        obtain ⟨nn, M', l1, hline⟩ := hst.line
        have hlo := hst.lo; have hup := hst.up
        have Hst := Lib.hid hst
        clear hfs hc3 hpv hst
        cases hno : nowN l fin p with
        | none =>
          have hq : (qF l fin p).length = 0 := by
            have := nowN_head l fin p
            rw [hno] at this
            have := List.head?_eq_none_iff.1 this.symm
            rw [this]; rfl
          have Hnow := Lib.hid (now_no hi _ _ nn M' (qF l fin) left p wr hline hpw hq)
          have Hfi := Lib.hid (finish_no hi _ _ nn M' (qF l fin) left p wr hline hpw hq)
          have hno2 : nowI (nowN l fin p) = -1 := by rw [hno]; rfl
          rw [hno2] at Rn
          clear hno hq hline hno2
          go_wp2_with fail
          refine Rn.out.mono ?_
          rintro e w' ⟨rfl, rfl⟩
          go_wp2_with fail
          refine Hnow.out.mono ?_
          rintro e w' ⟨rfl, rfl⟩
          go_wp2_with fail
          refine Hfi.out.mono ?_
          rintro e w' ⟨rfl, rfl⟩
          go_wp2
          go_roundw
          case rel => exact ⟨k + 1, fin, left, by omega, by go_num, rfl, Hst.out.idle⟩
          case measure => simp [intOf] <;> omega
        | some i =>
          obtain ⟨hil, hit, hif⟩ := nowN_spec hno
          obtain ⟨r, hq⟩ : ∃ r, qF l fin p = i :: r := by
            have h5 := nowN_head l fin p
            rw [hno] at h5
            cases h6 : qF l fin p with
            | nil => rw [h6] at h5; cases h5
            | cons x r => rw [h6] at h5; simp at h5; exact ⟨r, by rw [h5]⟩
          have Hnow := Lib.hid (now_yes hi _ _ nn M' (qF l fin) left p wr hline hpw i r hq)
          have Hfi := Lib.hid (finish_yes hi _ _ nn M' (qF l fin) left p wr hline (by unfold maxLen; omega) hpw i r hq (by omega) (by omega))
          have hqs : qF l (fin.set i true) = qDrop (qF l fin) p := qF_set Hst.out.flen hq
          rw [← hqs] at Hfi
          have hno2 : nowI (nowN l fin p) = (i : Int) := by rw [hno]; rfl
          rw [hno2] at Rn
          have hi0 : (0 : Int) ≤ (i : Int) := by omega
          have hi1 : (i : Int) < (l.length : Int) := by omega
          clear hno hq hline hno2 hit hqs
          go_wp2_with fail
          refine Rn.out.mono ?_
          rintro e w' ⟨rfl, rfl⟩
          go_wp2_with fail
          refine Hnow.out.mono ?_
          rintro e w' ⟨rfl, rfl⟩
          go_wp2_with fail
          refine Hfi.out.mono ?_
          rintro e wc ⟨rfl, hcc, M2, hl2⟩
          obtain ⟨q1, q2, q3, q4, q5⟩ := Hst.out.hib
          have hfc : wc.heap[fb]? = some (.cells (fin.map Value.bool).toArray 4 (0, 0)) := (hcc.block _ (blk_lt Hst.out.fblk) (by omega)).trans Hst.out.fblk
          have ffr : wc.frozen? ⟨fb, i, none⟩ = false := frozen_blk hfc i
          have fce : wc.cell? ⟨fb, i, none⟩ = some (.bool false) := by
            rw [cell_blk hfc]
            have h1 : i < fin.length := by rw [Hst.out.flen]; omega
            simp [List.getD_eq_getElem?_getD, h1] at hif
            simp [h1, hif]
          obtain ⟨wd, hwd⟩ : ∃ wd, wd = wc.setCell ⟨fb, i, none⟩ (.bool true) := ⟨_, rfl⟩
          have hcd : Chg (fun b => b = fb) wc wd := by rw [hwd]; exact (Chg.refl (fun b => b = fb) wc).setCell (p := ⟨fb, i, none⟩) (.inl rfl) _
          have hld : LineAt wd hi bl w.heap.size (nn + 1) M2 (qF l (fin.set i true)) (left - 1) := hl2.chg hcd (by omega) (by omega) (fun b hb h => by omega)
          have hfd : wd.heap[fb]? = some (.cells ((fin.set i true).map Value.bool).toArray 4 (0, 0)) := by
            rw [hwd, blk_set hfc i]
            congr 2
            apply Array.ext'
            simp
          have hbc : Below w.heap.size w wc := Hst.out.below.trans (hcc.below (fun k h => by omega) Hst.out.below.size)
          have hbd : Below w.heap.size w wd := hbc.trans (hcd.below (fun k h => by omega) hbc.size)
          have hnext : LinesSt w wd bl w.heap.size hi fb l (k + 1) (fin.set i true) (left - 1) := ⟨⟨nn + 1, M2, by omega, hld⟩, hfd, by rw [List.length_set]; exact Hst.out.flen, by omega, by omega, hbd, ⟨q1, q2, q3, q4, q5⟩⟩
          have Hld := Lib.hid (left_any hi _ _ _ M2 _ _ wd hld)
          have Hnext := Lib.hid hnext
          rw [hwd] at Hld Hnext
          clear hcc hl2 hfc hcd hld hfd hbc hbd hnext hwd q1 q2 q3 q4 q5 hif
          go_wp2_with fail
          refine Hld.out.mono ?_
          rintro e w' ⟨rfl, rfl⟩
          go_wp2
          go_roundw
          case rel => exact ⟨k + 1, fin.set i true, left - 1, by omega, by go_num, rfl, Hnext.out⟩
          case measure => simp [intOf] <;> omega
      · obtain rfl : k = fs.length := by omega
        have Hbr := Lib.hid hst.below
        clear hst
        have Z1 := Lib.hid (now_nil 0)
        have Z2 := Lib.hid left_nil
        have Z3 := Lib.hid (finish_nil 0)
        go_wp2_with fail
        refine (Z1.out _).mono ?_
        rintro e w' ⟨rfl, rfl⟩
        go_wp2_with fail
        refine (Z2.out _).mono ?_
        rintro e w' ⟨rfl, rfl⟩
        go_wp2_with fail
        refine (Z3.out _).mono ?_
        rintro e w' ⟨rfl, rfl⟩
        go_wp2_with fail
        refine (P.out _).mono ?_
        rintro e w' ⟨rfl, hb⟩
        go_wp2
        go_ret
        exact ⟨rfl, Gr.trans Hbr.out hb⟩
  · obtain ⟨r, hr, hr2⟩ : ∃ r, r = wrongN n l ∧ (r = 1 ∨ r = 3) := ⟨_, rfl, by rcases wrongN_cases n l with h | h | h <;> omega⟩
    have G4 := Lib.hid g4; have Hr := Lib.hid hr
    rw [← hr] at W
    clear hs hwf hs2 hfw g1 g2 g4 hr
    rcases hr2 with rfl | rfl
    all_goals
      go_enter Try.func10, Try.ntmps10
      go_wp2_with fail
      refine N.out.mono ?_
      rintro e w1 (⟨_, rfl, hb1⟩ | ⟨h0, _⟩)
      rotate_left
      · exact absurd h0 G4.out
      rw [← Hr.out]
      have Hb1 := Lib.hid hb1; clear hb1
      go_wp2_with fail
      refine (W.out _ Hb1.out).mono ?_
      rintro e w2 ⟨rfl, hb2⟩
      have Hb2 := Lib.hid (Gr.trans Hb1.out hb2); clear hb2
      go_wp2_with fail
      refine (P.out _).mono ?_
      rintro e w' ⟨rfl, hb⟩
      go_wp2
      go_ret
      exact ⟨rfl, Gr.trans Hb2.out hb⟩
end Go.Proofs.Ytajlceknahngkaa
