/- Layer 5: the laws PickTurns, PickRows: walks. -/
import Derived.Test.YtajlceknahngkaaPickF
set_option maxRecDepth 100000
namespace Go.Proofs.Ytajlceknahngkaa
open Go.RowKit

theorem wrongN_cases (n : Int) (l : List CallD) : wrongN n l = 0 ∨ wrongN n l = 1 ∨ wrongN n l = 3 := by
  unfold wrongN
  split
  · exact .inr (.inl rfl)
  · split
    · exact .inr (.inr rfl)
    · split
      · exact .inr (.inl rfl)
      · exact .inl rfl

theorem pickTurns_any (n : Int) (l : List CallD) (need picks : List Int) (a a2 a3 : Option Addr) (c c2 c3 : Nat) (w : World) (hs : SlAt w a l.length 6 (callG l)) (hwf : ∀ x ∈ l, (Lit.int .i64 x.thread).wf = true)
    (hs2 : SlAt w a2 need.length 1 (intG need)) (hs3 : SlAt w a3 picks.length 1 (intG picks)) (hpw : ∀ x ∈ picks, (Lit.int .i64 x).wf = true) :
    Calls Try.prog 11 #[.int .i64 n, .slice a l.length c, .agg #[.slice a2 need.length c2, .slice a3 picks.length c3]] w fun e w' => e = .returned (.bool true) ∧ Below w.heap.size w w' := by
  have hm := hs.1; have hm2 := hs2.1; have hm3 := hs3.1
  unfold maxLen at hm hm2 hm3
  have P := Lib.hid pair05
  by_cases g1 : 1100 < l.length
  · have d1 : (1100 : Int) < l.length := by omega
    clear hs hwf hs2 hs3 hpw g1
    go_enter Try.func11, Try.ntmps11
    go_wp2_with fail
    refine (P.out _).mono ?_
    rintro e w' ⟨rfl, hb⟩
    go_wp2
    go_ret
    exact ⟨rfl, Gr.trans (Gr.new _ _) hb⟩
  have d1 : ¬ (1100 : Int) < l.length := by omega
  by_cases g2 : 1100 < need.length
  · have d2 : (1100 : Int) < need.length := by omega
    clear hs hwf hs2 hs3 hpw g1 g2
    go_enter Try.func11, Try.ntmps11
    go_wp2_with fail
    refine (P.out _).mono ?_
    rintro e w' ⟨rfl, hb⟩
    go_wp2
    go_ret
    exact ⟨rfl, Gr.trans (Gr.new _ _) hb⟩
  have d2 : ¬ (1100 : Int) < need.length := by omega
  by_cases g3 : 2000 < picks.length ∧ picks.length ≤ 65536
  · have d3 : (2000 : Int) < picks.length := by omega
    have d4 : (picks.length : Int) ≤ 65536 := by omega
    clear hs hwf hs2 hs3 hpw g1 g2 g3
    go_enter Try.func11, Try.ntmps11
    go_wp2_with fail
    refine (P.out _).mono ?_
    rintro e w' ⟨rfl, hb⟩
    go_wp2
    go_ret
    exact ⟨rfl, Gr.trans (Gr.new _ _) hb⟩
  have W := Lib.hid (fun (w' : World) (h : Below w.heap.size w w') => rwrong_any n l a c w' (hs.grown h))
  by_cases g4 : wrongN n l = 0
  · by_cases g5 : 65536 < picks.length
    · have T := Lib.hid (fun (w' : World) (h : Below w.heap.size w w') => turns_long n l a a2 a3 c need.length c2 picks.length c3 w' (hs.grown h) hwf g4 g5 hs3.1)
      rw [g4] at W
      have d3 : (65536 : Int) < picks.length := by omega
      clear hs hwf hs2 hs3 hpw g1 g2 g3 g4 g5
      go_enter Try.func11, Try.ntmps11
      go_wp2_with fail
      refine (T.out _ (Gr.new _ _)).mono ?_
      rintro e w1 ⟨rfl, hb1⟩
      have k1 := box_cell hb1 1
      have Hb1 := Lib.hid (Gr.trans (Gr.new w _) hb1); clear hb1
      go_wp2_with fail
      refine (W.out _ Hb1.out).mono ?_
      rintro e w2 ⟨rfl, hb2⟩
      have k2 := (hb2.cell (cell_lt k1)).trans k1
      have Hb2 := Lib.hid (Gr.trans Hb1.out hb2); clear hb2 k1
      go_wp2_with fail
      refine (P.out _).mono ?_
      rintro e w' ⟨rfl, hb⟩
      go_wp2
      go_ret
      exact ⟨rfl, Gr.trans Hb2.out hb⟩
    · have d3 : (picks.length : Int) ≤ 2000 := by omega
      obtain ⟨h1, h2, hl, hab⟩ := wrongN_zero g4
      have T := Lib.hid (fun (w' : World) (h : Below w.heap.size w w') => turns_ok n l need picks a a2 a3 c c2 c3 w' (hs.grown h) hwf g4 (hs2.grown h) (hs3.grown h) (by omega) hpw)
      have R := Lib.hid (fun (w' : World) (h : Below w.heap.size w w') => rturns_ok l need picks a a2 a3 c c2 c3 w' (hs.grown h) hl (hs2.grown h) (hs3.grown h) (by omega))
      rw [g4] at W
      clear hs hwf hs2 hs3 hpw g1 g2 g3 g4 g5 h1 h2 hl hab
      go_enter Try.func11, Try.ntmps11
      go_wp2_with fail
      refine (T.out _ (Gr.new _ _)).mono ?_
      rintro e w1 ⟨out, idle, ao, co, ht, rfl, hsl, hb1⟩
      have k0 := box_cell hb1 0
      have k1 := box_cell hb1 1
      have Hb1 := Lib.hid (Gr.trans (Gr.new w _) hb1); have Hsl := Lib.hid hsl; clear hb1 hsl
      go_wp2_with fail
      refine (W.out _ Hb1.out).mono ?_
      rintro e w2 ⟨rfl, hb2⟩
      have k2 := (hb2.cell (cell_lt k1)).trans k1
      have k3 := (hb2.cell (cell_lt k0)).trans k0
      have Hb2 := Lib.hid (Gr.trans Hb1.out hb2); have Hsl1 := Lib.hid (Hsl.out.grown hb2); clear hb2 k1 k0 Hsl
      go_wp2_with fail
      refine (R.out _ Hb2.out).mono ?_
      rintro e w3 ⟨out2, idle2, ao2, co2, ht2, rfl, hsl2, hb2⟩
      obtain ⟨rfl, rfl⟩ : out = out2 ∧ idle = idle2 := by have := ht.out.symm.trans ht2.out; exact ⟨(Prod.mk.inj this).1, (Prod.mk.inj this).2⟩
      have Hsl2 := Lib.hid hsl2; have Hsl3 := Lib.hid (Hsl1.out.grown hb2)
      have hbb := Gr.trans Hb2.out hb2
      have Hbb := Lib.hid hbb
      have hmo := hsl2.1
      unfold maxLen at hmo
      clear hsl2 hb2 hbb k2 k3
      go_wp2
      go_loopw [13, 100] (fun _ i wr => ∃ k : Nat, k ≤ out.length ∧ i = .int .i64 k ∧ Below w3.heap.size w3 wr) (fun _ i _ => out.length - (intOf i).toNat)
      case atStart => exact ⟨0, Nat.zero_le _, rfl, Gr.refl _⟩
      case round =>
        obtain ⟨k, hk, rfl, hbr⟩ := hrel
        by_cases hlt : k < out.length
        · obtain ⟨b4, o4, rfl, h4⟩ := Hsl3.out.elem hbr hlt
          obtain ⟨b5, o5, rfl, h5⟩ := Hsl2.out.elem hbr hlt
          have e4 : wr.cell? ⟨b4, o4 + k, none⟩ = some (.int .i64 ((out.getD k 0 : Nat) : Int)) := by have h0 := h4 0 (by omega); rw [Nat.mul_one, Nat.add_zero] at h0; rw [h0]; rfl
          have e5 : wr.cell? ⟨b5, o5 + k, none⟩ = some (.int .i64 ((out.getD k 0 : Nat) : Int)) := by have h0 := h5 0 (by omega); rw [Nat.mul_one, Nat.add_zero] at h0; rw [h0]; rfl
          have hl1 : (k : Int) < out.length := by omega
          have Hbr := Lib.hid hbr
          obtain ⟨v, hv⟩ : ∃ v : Int, v = ((out.getD k 0 : Nat) : Int) := ⟨_, rfl⟩
          rw [← hv] at e4 e5
          clear h4 h5 hbr hv
          go_wp2_with fail
          go_quiet (fail)
          go_wp2
          go_roundw
          case rel => exact ⟨k + 1, by omega, by go_num, below_drewN Hbr.out _⟩
          case measure => simp [intOf] <;> omega
        · obtain rfl : k = out.length := by omega
          have Hbr := Lib.hid (Gr.trans Hbb.out hbr)
          clear hbr
          go_wp2_with fail
          refine (P.out _).mono ?_
          rintro e w' ⟨rfl, hb⟩
          go_wp2
          go_ret
          exact ⟨rfl, Gr.trans Hbr.out hb⟩
  · have T := Lib.hid (fun (w' : World) (h : Below w.heap.size w w') => turns_bad n l a a2 a3 c need.length c2 picks.length c3 w' (hs.grown h) hwf g4)
    obtain ⟨r, hr, hr2⟩ : ∃ r, r = wrongN n l ∧ (r = 1 ∨ r = 3) := ⟨_, rfl, by rcases wrongN_cases n l with h | h | h <;> omega⟩
    rw [← hr] at T W
    have d3 : (picks.length : Int) ≤ 2000 ∨ (65536 : Int) < picks.length := by omega
    clear hs hwf hs2 hs3 hpw g1 g2 g3 g4 hr
    rcases hr2 with rfl | rfl <;> rcases d3 with d3 | d3
    all_goals
      go_enter Try.func11, Try.ntmps11
      go_wp2_with fail
      refine (T.out _ (Gr.new _ _)).mono ?_
      rintro e w1 ⟨rfl, hb1⟩
      have Hb1 := Lib.hid (Gr.trans (Gr.new w _) hb1); clear hb1
      go_wp2_with fail
      refine (W.out _ Hb1.out).mono ?_
      rintro e w2 ⟨rfl, hb2⟩
      have Hb2 := Lib.hid (Gr.trans Hb1.out hb2); clear hb2
      go_wp2_with fail
      refine (P.out _).mono ?_
      rintro e w' ⟨rfl, hb⟩
      go_wp2
      go_ret
      exact ⟨rfl, Gr.trans Hb2.out hb⟩
end Go.Proofs.Ytajlceknahngkaa
