/- Layer 13: the walk of PoolFull. -/
import Derived.Test.YtjkgfkbanbhkgaaJ40
import Derived.Test.YtjkgfkbanbhkgaaJ41
import Derived.Test.YtjkgfkbanbhkgaaJ28
set_option maxRecDepth 100000
set_option linter.unusedVariables false
set_option linter.unusedSimpArgs false
set_option linter.unnecessarySimpa false
namespace Go.Proofs.Ytjkgfkbanbhkgaa
open Go.RowKit

theorem poCheck_zero {n k : Int} {calls : List CallD} {np : Nat} (h : poCheck n k calls np = 0) : checkN n calls np = 0 ∧ 1 ≤ k ∧ k ≤ 32 := by
  unfold poCheck at h
  by_cases h0 : checkN n calls np = 0
  · rw [if_neg (by simpa using h0)] at h
    by_cases h1 : k < 1 ∨ 32 < k
    · rw [if_pos h1] at h; exact absurd h (by decide)
    · exact ⟨h0, by omega, by omega⟩
  · rw [if_pos h0] at h; exact absurd h h0
theorem CallsAt.sl_at {X : Nat → Prop} {w : World} {ca : Option Addr} {calls : List CallD} (h : CallsAt X w ca calls) : SlAt w ca calls.length 6 (callG calls) := h.sl
set_option maxHeartbeats 16000000 in
theorem poolFull_any (q0 q1 : Int) (calls : List CallD) (picks : List Int) (ca pa : Option Addr) (cc pc : Nat) (w : World) (hc : CallsAt noB w ca calls) (hp : PicksAt w pa picks) :
    Calls Try.prog 14 #[.agg #[.int .i64 q0, .int .i64 q1], .slice ca calls.length cc, .slice pa picks.length pc] w fun e w' => e = .returned (.bool true) ∧ Below w.heap.size w w' := by
  obtain ⟨wz, hwz⟩ : ∃ wz, wz = w.alloc (.cells #[.int .i64 q0, .int .i64 q1] 22) := ⟨_, rfl⟩
  have hgz : Below w.heap.size w wz := by rw [hwz]; exact Gr.new _ _
  have hkz : wz.heap[w.heap.size]? = some (.cells #[.int .i64 q0, .int .i64 q1] 22 (0, 0)) := by rw [hwz]; exact heap_alloc_new _ _
  have z0 : wz.cell? ⟨w.heap.size, 0, none⟩ = some (.int .i64 q0) := by rw [cell_blk hkz]; rfl
  have z1 : wz.cell? ⟨w.heap.size, 1, none⟩ = some (.int .i64 q1) := by rw [cell_blk hkz]; rfl
  have M := many_any ca pa calls.length picks.length cc pc wz hc.sl.1 hp.sl.1
  have T := Lib.hid pool_one
  have Hwz := Lib.hid hwz; have Hgz := Lib.hid hgz
  cases hM : manyB calls.length picks.length with
  | true =>
    rw [hM] at M
    have HM := Lib.hid M
    clear M hc hp hM z0 z1 hwz hgz hkz
    go_enter Try.func14, Try.ntmps14
    go_upto_region 1 with fail
    rw [← Hwz.out]
    go_wp2_with (first | (go_at_call 15; refine (HM.out).mono ?_; rintro e w' ⟨rfl, rfl⟩) | (go_at_call 40; refine (T.out _).mono ?_; rintro e w' ⟨rfl, hb⟩))
    go_ret
    exact ⟨rfl, Gr.trans Hgz.out hb⟩
  | false =>
    rw [hM] at M
    have HM := Lib.hid M
    have P := poolPlay_any noB wz q0 q1 calls picks ca pa cc pc (fun b hb => hb.elim) (hc.grown hgz) (hp.grown hgz)
    obtain ⟨er, her⟩ : ∃ er, er = poCheck q0 q1 calls picks.length := ⟨_, rfl⟩
    rw [← her] at P
    have HP := Lib.hid P; have Her := Lib.hid her; have Hc := Lib.hid (hc.grown hgz)
    have hcm := hc.sl.1
    unfold maxLen at hcm
    have Hkz := Lib.hid hkz
    clear M P hc hp hM her hwz hgz hkz
    by_cases her0 : er = 0
    · obtain ⟨hck, k1, k2⟩ := poCheck_zero (Her.out.symm.trans her0)
      obtain ⟨y1, y2⟩ := n_ok hck
      obtain ⟨m, rfl⟩ : ∃ m : Nat, q0 = (m : Int) := ⟨q0.toNat, by omega⟩
      obtain ⟨kk, rfl⟩ : ∃ kk : Nat, q1 = (kk : Int) := ⟨q1.toNat, by omega⟩
      simp only [Int.toNat_natCast] at HP
      obtain ⟨g1, g2⟩ := po_report (n := m) (k := kk) (by omega) (by omega) hck picks
      have hnp := np_ok hck
      subst her0
      obtain ⟨rr, hrr⟩ : ∃ rr, rr = playD (poolS m kk) () (List.replicate (m * kk) 0) calls picks := ⟨_, rfl⟩
      rw [← hrr] at HP g1 g2
      have Q1 := Lib.hid g1; have Hg := Lib.hid g2; have Hnp := Lib.hid hnp
      have hk1 : ¬ (kk : Int) < 1 := by omega
      have hk32 : ¬ (32 : Int) < (kk : Int) := by omega
      have Hkk := Lib.hid (show 1 ≤ kk ∧ kk ≤ 32 by omega)
      have wk : IntKind.i64.wrap ((kk : Int) + 1) = (kk : Int) + 1 := by rw [IntKind.wrap_i64]; omega
      clear hck hrr Her g1 g2 hnp y1 y2 k1 k2
      go_enter Try.func14, Try.ntmps14
      go_upto_region 1 with fail
      rw [← Hwz.out]
      go_wp2_with (go_at_call 15; refine (HM.out).mono ?_; rintro e w' ⟨rfl, rfl⟩)
      refine HP.out.mono ?_
      rintro e w1 ⟨ea, en, ec, va, vn, vc, rp, rfl, hb1, hr⟩
      rcases hr with ⟨h0, _⟩ | ⟨_, hrp, hen, hvn, ers, hrep⟩
      · exact absurd rfl h0
      subst hrp
      obtain ⟨w2, hw2⟩ : ∃ w2, w2 = w1.alloc (.cells #[.slice ea en ec, .slice va vn vc, .int .i64 (rp.c.read : Int), .int .i64 (rp.c.write : Int), .int .i64 (rp.c.swap : Int), .int .i64 (rp.c.add : Int), .int .i64 (rp.c.fault : Int), .int .i64 (rp.ticks : Int), .int .i64 (rp.idle : Int)] 32) := ⟨_, rfl⟩
      have hb2 : Below w1.heap.size w1 w2 := by rw [hw2]; exact Gr.new _ _
      have hin : RepIn w1 w2 w1.heap.size ea en ec va vn vc rp := ⟨Nat.le_refl _, by rw [hw2]; exact heap_alloc_new _ _⟩
      have hb02 := Gr.trans hb1 hb2
      have hlen : rp.evs.length < 1000000 := by have := Q1.out; have := Hnp.out; omega
      have henl : en ≤ 1000000 := by omega
      have hrep2 := hrep.grown hb2
      have Hrep := Lib.hid hrep2; have Hen := Lib.hid hen; have Hb02 := Lib.hid hb02; have Hw2 := Lib.hid hw2
      have Hc2 := Lib.hid (Hc.out.grown hb02)
      have r0 : w2.cell? ⟨w1.heap.size, 0, none⟩ = some (.slice ea en ec) := hin.cell 0
      have b1 : w2.cell? ⟨w.heap.size, 1, none⟩ = some (.int .i64 (kk : Int)) := (hb02.cell (blk_lt Hkz.out)).trans z1
      have B1 := Lib.hid b1
      have Hbz := Lib.hid (World.block_lt_of_cell? _ _ b1)
      clear hrep hrep2 hb1 hb2 hin hb02 hw2 hvn hen z0 z1
      unfold repV
      go_upto_region 4 with fail
      rw [← Hw2.out]
      go_wp2_with fail
      clear r0 b1
      go_loopw [47] (fun i wr => ∃ k : Nat, k ≤ en ∧ i = .int .i64 k ∧ Below w2.heap.size w2 wr) (fun i _ => en - (intOf i).toNat)
      case atStart => exact ⟨0, Nat.zero_le _, rfl, Gr.refl _⟩
      case round =>
        obtain ⟨k, hk, rfl, hb⟩ := hrel
        obtain ⟨wo, rfl⟩ : ∃ wo, wo = wr := ⟨_, rfl⟩
        by_cases hlt : k < en
        · obtain ⟨g, la, lc, ka, kc, rfl, hgl, e0, e1, e2, e3, e4, e5, e6, e7, _, _, _⟩ := Hrep.out.ev8 Hen.out hlt hb
          have hkl : k < rp.evs.length := by rw [← Hen.out]; exact hlt
          have hcall := Hg.out.call k hkl
          have hstp := Hg.out.steps k hkl
          have hful := Hg.out.full k hkl
          obtain ⟨E, hE⟩ : ∃ E, E = evAt rp.evs k := ⟨_, rfl⟩
          rw [← hE] at e0 e1 e2 e3 e4 e5 e6 e7 hcall hful hstp
          obtain ⟨cI, iv, rs, st, ⟨er, vl, li⟩, ky⟩ := E
          simp only at e0 e1 e2 e3 e4 e5 e6 e7 hcall hful hstp
          obtain ⟨b9, off, rfl, y0, y1, y2, y3, y4, y5⟩ := call_at Hc2.out.sl hcall hb
          obtain ⟨C, hC⟩ : ∃ C, C = calls.getD cI Proofs.Ytjkgfkbanbhkgaa.d0 := ⟨_, rfl⟩
          rw [← hC] at y0 hful
          obtain ⟨th, ob, kd, ca1, cb1, cc1⟩ := C
          simp only at y0 hful
          have b1 : wo.cell? ⟨w.heap.size, 1, none⟩ = some (.int .i64 (kk : Int)) := (hb.cell Hbz.out).trans B1.out
          have l1 : (k : Int) < (en : Int) := by omega
          have l2 : (cI : Int) < (calls.length : Int) := by omega
          have l4 : (0 : Int) ≤ (cI : Int) := by omega
          have l5 : ¬ (kk : Int) + 1 < (st : Int) := by omega
          have l6 : ¬ (cI : Int) < 0 := by omega
          have l7 : ¬ (calls.length : Int) ≤ (cI : Int) := by omega
          have l8 : decide ((cI : Int) < 0) = false := by simp
          have l9 : decide (calls.length ≤ cI) = false := by simp; omega
          have E0 := grown_cell e0; have E1 := grown_cell e1; have E3 := grown_cell e3; have E4 := grown_cell e4; have Y0 := grown_cell y0; have BB := grown_cell b1
          have Hb := Lib.hid hb
          clear e0 e1 e2 e3 e4 e5 e6 e7 y0 y1 y2 y3 y4 y5 b1 hE hC hb hcall hgl hstp
          go_wp2_with fail
          ((with_reducible refine wp_region_grown_lit (by kernel_rfl) (by kernel_rfl) ?_); (repeat ((with_reducible refine wpQuiet_step (fun K hK => ?_)); go_simp; first | ((with_reducible refine hK _ ?_); clear hK K) | ((with_reducible apply Exists.intro); (with_reducible refine ⟨fun _ => ?_, hK _ ?_⟩); (fail); clear hK K))); (with_reducible refine wpQuiet_nil ?_); intro _ hw'; obtain ⟨nq, hw''⟩ := hw'; subst hw'')
          have Hb2 := Lib.hid (Gr.trans Hb.out nq.below)
          have e0 := E0 nq; have e1 := E1 nq; have e4 := E4 nq; have y0 := Y0 nq
          obtain ⟨w4, hw4⟩ : ∃ w4, w4 = nq.u := ⟨_, rfl⟩
          rw [← hw4] at e0 e1 e4 y0 Hb2 ⊢
          clear E0 E1 E3 E4 Y0 BB hw4 nq
          by_cases h6 : er = 6
          · have hf := hful h6
            have Hf := Lib.hid hf
            subst h6
            clear hful hf
            have Ee1 := Lib.hid e1
            go_upto_region 18 with fail
            clear e0 e1 e4 y0
            go_loopw [12, 95] (fun tv i wq => ∃ q : Nat, q ≤ en ∧ i = .int .i64 q ∧ Below w4.heap.size w4 wq ∧ tv = .int .i64 (((cnt (fT calls th iv) (rp.evs.take q) : Nat) : Int) - ((cnt (fG kk calls th iv) (rp.evs.take q) : Nat) : Int))) (fun _ i _ => en - (intOf i).toNat)
            case atStart => exact ⟨0, Nat.zero_le _, rfl, Gr.refl _, by rw [List.take_zero]; rfl⟩
            case round =>
              obtain ⟨q, hq, rfl, hbq, rfl⟩ := hrel
              obtain ⟨wi, rfl⟩ : ∃ wi, wi = wr := ⟨_, rfl⟩
              obtain ⟨D, hD⟩ : ∃ D, D = cnt (fT calls th iv) (rp.evs.take q) := ⟨_, rfl⟩
              obtain ⟨F, hF⟩ : ∃ F, F = cnt (fG kk calls th iv) (rp.evs.take q) := ⟨_, rfl⟩
              rw [← hD, ← hF]
              have hDl : D ≤ 1000000 := by have := cnt_le (fT calls th iv) (rp.evs.take q); rw [List.length_take] at this; omega
              have hFl : F ≤ 1000000 := by have := cnt_le (fG kk calls th iv) (rp.evs.take q); rw [List.length_take] at this; omega
              obtain ⟨X, hX⟩ : ∃ X : Int, X = (D : Int) - (F : Int) := ⟨_, rfl⟩
              rw [← hX]
              have Hbq := Lib.hid hbq
              have i1 : wi.cell? ⟨g, k * 8 + 1, none⟩ = some (.int .i64 (iv : Int)) := (hbq.cell (World.block_lt_of_cell? _ _ Ee1.out)).trans Ee1.out
              by_cases hlq : q < en
              · obtain ⟨g', la1, lc1, ka1, kc1, hgg, hgl, e0, e1, e2, e3, e4, e5, e6, e7, _, _, _⟩ := Hrep.out.ev8 Hen.out hlq (Gr.trans Hb2.out hbq)
                cases hgg
                have hql : q < rp.evs.length := by rw [← Hen.out]; exact hlq
                have hcall := Hg.out.call q hql
                have hplc := Hg.out.place q hql
                have hcT := cnt_take_succ (fT calls th iv) rp.evs q hql
                have hcG := cnt_take_succ (fG kk calls th iv) rp.evs q hql
                rw [← hD] at hcT
                rw [← hF] at hcG
                obtain ⟨E, hE⟩ : ∃ E, E = evAt rp.evs q := ⟨_, rfl⟩
                rw [← hE] at e0 e1 e2 e3 e4 e5 e6 e7 hcall hcT hcG hplc
                obtain ⟨p0, hp0⟩ : ∃ p0, p0 = pIs calls 0 E := ⟨_, rfl⟩
                obtain ⟨p1, hp1⟩ : ∃ p1, p1 = pIs calls 1 E := ⟨_, rfl⟩
                have hpp : p0 = true → p1 = false := fun h => by rw [hp1]; exact pIs_not1 (by rw [← hp0]; exact h)
                have hcT2 : cnt (fT calls th iv) (rp.evs.take (q + 1)) = D + (if (decide (E.resp < iv) && p0 && decide ((calls.getD E.call Proofs.Ytjkgfkbanbhkgaa.d0).thread = th)) = true then 1 else 0) := by rw [hp0]; exact hcT
                have hcG2 : cnt (fG kk calls th iv) (rp.evs.take (q + 1)) = F + (if (decide (E.resp < iv) && p1 && decide ((((calls.getD E.call Proofs.Ytjkgfkbanbhkgaa.d0).a % 1024 - 2) / kk : Nat) = th)) = true then 1 else 0) := by rw [hp1]; exact hcG
                rw [← hp1] at hplc
                obtain ⟨cJ, jv, js, jt, ⟨jr, jl, ji⟩, jy⟩ := E
                have hplc2 : p1 = true → 2 ≤ (calls.getD cJ Proofs.Ytjkgfkbanbhkgaa.d0).a % 1024 := hplc
                simp only at e0 e1 e2 e3 e4 e5 e6 e7 hcall hcT2 hcG2
                obtain ⟨jln, hln⟩ : ∃ ln, ln = ji.length := ⟨_, rfl⟩
                obtain ⟨jkn, hkn⟩ : ∃ kn, kn = jy.length := ⟨_, rfl⟩
                rw [← hln] at e6
                rw [← hkn] at e7
                obtain ⟨b8, off8, hcc, y0, y1, y2, y3, y4, y5⟩ := call_at Hc2.out.sl hcall (Gr.trans Hb2.out hbq)
                cases hcc
                have Is0 := Lib.hid (fun (n : GrownOf wi) => is_any Hc2.out.sl cc cJ jv js jt jr jl (.slice la1 jln lc1) (.slice ka1 jkn kc1) 0 hcall n.u (Gr.trans Hb2.out (Gr.trans hbq n.below)))
                have Is1 := Lib.hid (fun (n : GrownOf wi) => is_any Hc2.out.sl cc cJ jv js jt jr jl (.slice la1 jln lc1) (.slice ka1 jkn kc1) 1 hcall n.u (Gr.trans Hb2.out (Gr.trans hbq n.below)))
                rw [show isV calls cJ js jr 0 = p0 from hp0.symm] at Is0
                rw [show isV calls cJ js jr 1 = p1 from hp1.symm] at Is1
                obtain ⟨C, hC⟩ : ∃ C, C = calls.getD cJ Proofs.Ytjkgfkbanbhkgaa.d0 := ⟨_, rfl⟩
                rw [← hC] at y0 y3 hcT2 hcG2 hplc2
                obtain ⟨th', ob', kd', cA, cb', cc'⟩ := C
                simp only at y0 y3 hcT2 hcG2 hplc2
                have m1 : (q : Int) < (en : Int) := by omega
                have m2 : (cJ : Int) < (calls.length : Int) := by omega
                have m4 : (0 : Int) ≤ (cJ : Int) := by omega
                have wX1 : IntKind.i64.wrap (X + 1) = X + 1 := by rw [IntKind.wrap_i64]; omega
                have wX2 : IntKind.i64.wrap (X - 1) = X - 1 := by rw [IntKind.wrap_i64]; omega
                have b1 : wi.cell? ⟨w.heap.size, 1, none⟩ = some (.int .i64 (kk : Int)) := ((Gr.trans Hb2.out hbq).cell Hbz.out).trans B1.out
                have E0 := grown_cell e0; have E1 := grown_cell e1; have E2 := grown_cell e2; have E3 := grown_cell e3; have E4 := grown_cell e4; have E5 := grown_cell e5; have E6 := grown_cell e6; have E7 := grown_cell e7
                have Y0 := grown_cell y0; have Y3 := grown_cell y3; have I1 := grown_cell i1; have BB := grown_cell b1
                have HX := Lib.hid hX; have HcT := Lib.hid hcT2; have HcG := Lib.hid hcG2
                have hXb : -1000000 ≤ X ∧ X ≤ 1000000 := by omega
                clear e0 e1 e2 e3 e4 e5 e6 e7 y0 y1 y2 y3 y4 y5 i1 b1 hE hC hbq hcall hln hkn hcT hcG hcT2 hcG2 hD hF hql hp0 hp1 hplc hgl hX
                go_wp2_with fail
                ((with_reducible refine wp_region_grown_lit (by kernel_rfl) (by kernel_rfl) ?_); (repeat ((with_reducible refine wpQuiet_step (fun K hK => ?_)); go_simp; first | ((with_reducible refine hK _ ?_); clear hK K) | ((with_reducible apply Exists.intro); (with_reducible refine ⟨fun _ => ?_, hK _ ?_⟩); (fail); clear hK K))); (with_reducible refine wpQuiet_nil ?_); intro _ hw'; obtain ⟨nq, hw''⟩ := hw'; subst hw'')
                obtain ⟨wj, hwj⟩ : ∃ wj, wj = nq := ⟨_, rfl⟩
                have e0 := E0 nq; have e1 := E1 nq; have e2 := E2 nq; have e3 := E3 nq; have e4 := E4 nq; have e5 := E5 nq; have e6 := E6 nq; have e7 := E7 nq; have y0 := Y0 nq; have y3 := Y3 nq; have b1 := BB nq
                have i0 := Is0.out nq
                obtain ⟨w5, hw5⟩ : ∃ w5, w5 = nq.u := ⟨_, rfl⟩
                have Hn := Lib.hid nq.below
                rw [← hw5] at e0 e1 e2 e3 e4 e5 e6 e7 y0 y3 b1 i0 Hn ⊢
                have IS1 := Lib.hid (fun (u : World) (h : Below w5.heap.size w5 u) (n : GrownOf u) => Is1.out ⟨n.u, Gr.trans Hn.out (Gr.trans h n.below)⟩)
                have IS0 := Lib.hid i0
                clear E0 E1 E2 E3 E4 E5 E6 E7 Y0 Y3 I1 BB Is0 Is1 i0 hwj wj hw5 nq
                by_cases hjs : js < iv
                · have s1 : ¬ (iv : Int) ≤ (js : Int) := by omega
                  have s2 : (js : Int) < (iv : Int) := by omega
                  have HJ := Lib.hid hjs
                  go_wp2_with fail
                  refine IS0.out.mono ?_
                  rintro e w6 ⟨rfl, hb6⟩
                  have f0 := (hb6.cell (World.block_lt_of_cell? _ _ e0)).trans e0
                  have f1 := (hb6.cell (World.block_lt_of_cell? _ _ e1)).trans e1
                  have f2 := (hb6.cell (World.block_lt_of_cell? _ _ e2)).trans e2
                  have f3 := (hb6.cell (World.block_lt_of_cell? _ _ e3)).trans e3
                  have f4 := (hb6.cell (World.block_lt_of_cell? _ _ e4)).trans e4
                  have f5 := (hb6.cell (World.block_lt_of_cell? _ _ e5)).trans e5
                  have f6 := (hb6.cell (World.block_lt_of_cell? _ _ e6)).trans e6
                  have f7 := (hb6.cell (World.block_lt_of_cell? _ _ e7)).trans e7
                  have v0 := (hb6.cell (World.block_lt_of_cell? _ _ y0)).trans y0
                  have v3 := (hb6.cell (World.block_lt_of_cell? _ _ y3)).trans y3
                  have vb := (hb6.cell (World.block_lt_of_cell? _ _ b1)).trans b1
                  have Is1 := Lib.hid (IS1.out w6 hb6)
                  have F0 := grown_cell f0; have F1 := grown_cell f1; have F2 := grown_cell f2; have F3 := grown_cell f3; have F4 := grown_cell f4; have F5 := grown_cell f5; have F6 := grown_cell f6; have F7 := grown_cell f7
                  have V0 := grown_cell v0; have V3 := grown_cell v3; have VB := grown_cell vb
                  have Hb6 := Lib.hid (Gr.trans Hbq.out (Gr.trans Hn.out hb6))
                  clear e0 e1 e2 e3 e4 e5 e6 e7 y0 y3 b1 IS0 IS1 hb6 hjs s1 s2
                  cases p0 with
                  | true =>
                    have hq1 : p1 = false := hpp rfl
                    subst hq1
                    by_cases ht : th' = th
                    · have HD := Lib.hid (show cnt (fT calls th iv) (rp.evs.take (q + 1)) = D + 1 by rw [HcT.out, decide_eq_true HJ.out, decide_eq_true ht]; rfl)
                      have HF := Lib.hid (show cnt (fG kk calls th iv) (rp.evs.take (q + 1)) = F by rw [HcG.out]; simp)
                      subst ht
                      clear HcT HcG hpp hplc2
                      go_wp2_with fail
                      ((with_reducible refine wp_region_grown_lit (by kernel_rfl) (by kernel_rfl) ?_); (repeat ((with_reducible refine wpQuiet_step (fun K hK => ?_)); go_simp; first | ((with_reducible refine hK _ ?_); clear hK K) | ((with_reducible apply Exists.intro); (with_reducible refine ⟨fun _ => ?_, hK _ ?_⟩); ((go_at_call 42; first | exact quietG (Is1.out _) | exact quietGS (Is1.out _))); clear hK K))); (with_reducible refine wpQuiet_nil ?_); intro _ hw'; obtain ⟨nq, hw''⟩ := hw'; subst hw'')
                      have Hz := Lib.hid (Gr.trans Hb6.out nq.below)
                      clear F0 F1 F2 F3 F4 F5 F6 F7 V0 V3 VB f0 f1 f2 f3 f4 f5 f6 f7 v0 v3 vb
                      go_wp2
                      go_roundw
                      case rel => exact ⟨q + 1, by omega, by go_num, Hz.out, by rw [HD.out, HF.out, HX.out]; congr 1; omega⟩
                      case measure => simp [intOf] <;> omega
                    · have HD := Lib.hid (show cnt (fT calls th iv) (rp.evs.take (q + 1)) = D by rw [HcT.out, decide_eq_false ht]; simp)
                      have HF := Lib.hid (show cnt (fG kk calls th iv) (rp.evs.take (q + 1)) = F by rw [HcG.out]; simp)
                      have t1 : (th' == th) = false := by simpa using ht
                      clear HcT HcG hpp hplc2
                      go_wp2_with fail
                      ((with_reducible refine wp_region_grown_lit (by kernel_rfl) (by kernel_rfl) ?_); (repeat ((with_reducible refine wpQuiet_step (fun K hK => ?_)); go_simp; first | ((with_reducible refine hK _ ?_); clear hK K) | ((with_reducible apply Exists.intro); (with_reducible refine ⟨fun _ => ?_, hK _ ?_⟩); ((go_at_call 42; first | exact quietG (Is1.out _) | exact quietGS (Is1.out _))); clear hK K))); (with_reducible refine wpQuiet_nil ?_); intro _ hw'; obtain ⟨nq, hw''⟩ := hw'; subst hw'')
                      have Hz := Lib.hid (Gr.trans Hb6.out nq.below)
                      clear F0 F1 F2 F3 F4 F5 F6 F7 V0 V3 VB f0 f1 f2 f3 f4 f5 f6 f7 v0 v3 vb
                      go_wp2
                      go_roundw
                      case rel => exact ⟨q + 1, by omega, by go_num, Hz.out, by rw [HD.out, HF.out, HX.out]⟩
                      case measure => simp [intOf] <;> omega
                  | false =>
                    have HD := Lib.hid (show cnt (fT calls th iv) (rp.evs.take (q + 1)) = D by rw [HcT.out]; simp)
                    cases p1 with
                    | false =>
                      have HF := Lib.hid (show cnt (fG kk calls th iv) (rp.evs.take (q + 1)) = F by rw [HcG.out]; simp)
                      clear HcT HcG hpp hplc2
                      go_wp2_with fail
                      ((with_reducible refine wp_region_grown_lit (by kernel_rfl) (by kernel_rfl) ?_); (repeat ((with_reducible refine wpQuiet_step (fun K hK => ?_)); go_simp; first | ((with_reducible refine hK _ ?_); clear hK K) | ((with_reducible apply Exists.intro); (with_reducible refine ⟨fun _ => ?_, hK _ ?_⟩); ((go_at_call 42; first | exact quietG (Is1.out _) | exact quietGS (Is1.out _))); clear hK K))); (with_reducible refine wpQuiet_nil ?_); intro _ hw'; obtain ⟨nq, hw''⟩ := hw'; subst hw'')
                      have Hz := Lib.hid (Gr.trans Hb6.out nq.below)
                      clear F0 F1 F2 F3 F4 F5 F6 F7 V0 V3 VB f0 f1 f2 f3 f4 f5 f6 f7 v0 v3 vb
                      go_wp2
                      go_roundw
                      case rel => exact ⟨q + 1, by omega, by go_num, Hz.out, by rw [HD.out, HF.out, HX.out]⟩
                      case measure => simp [intOf] <;> omega
                    | true =>
                      have hpl := hplc2 rfl
                      obtain ⟨x, hx⟩ : ∃ x, cA % 1024 = x + 2 := ⟨cA % 1024 - 2, by omega⟩
                      have hxl : x < 1024 := by omega
                      obtain ⟨Y, hY⟩ : ∃ Y, Y = x / kk := ⟨_, rfl⟩
                      have a1 : (cA : Int) % 1024 = (x : Int) + 2 := by omega
                      have a2 : IntKind.i64.wrap ((x : Int) + 2) = (x : Int) + 2 := by rw [IntKind.wrap_i64]; omega
                      have a3 : IntKind.i64.wrap (x : Int) = (x : Int) := by rw [IntKind.wrap_i64]; omega
                      have a7 : IntKind.u64.wrap ((x : Int) + 2) = (x : Int) + 2 := by rw [IntKind.wrap_u64]; omega
                      have hkk := Hkk.out
                      have a4 : ¬ (kk : Int) = 0 := by omega
                      have a4n : ¬ kk = 0 := by omega
                      have a4p : (1 : Int) ≤ (kk : Int) := by omega
                      have a5 : Int.tdiv (x : Int) (kk : Int) = (Y : Int) := by rw [hY]; rfl
                      have hYl : Y ≤ x := by rw [hY]; exact Nat.div_le_self _ _
                      have a6 : IntKind.i64.wrap (Y : Int) = (Y : Int) := by rw [IntKind.wrap_i64]; omega
                      have a8 : (x : Int) / (kk : Int) = (Y : Int) := by rw [hY]; simp
                      have a9 : x / kk = Y := hY.symm
                      have a1t : (cA : Int).tmod 1024 = (x : Int) + 2 := by rw [Int.tmod_eq_emod_of_nonneg (by omega)]; omega
                      have HG2 : cnt (fG kk calls th iv) (rp.evs.take (q + 1)) = F + (if (decide ((Y : Int) = th)) = true then 1 else 0) := by
                        rw [HcG.out, decide_eq_true HJ.out, hx, show x + 2 - 2 = x by omega, ← hY]; simp
                      have HGG := Lib.hid HG2
                      clear HcT HcG hpp hplc2 HG2 hx hY hpl hkk
                      by_cases ht : (Y : Int) = th
                      · have HF := Lib.hid (show cnt (fG kk calls th iv) (rp.evs.take (q + 1)) = F + 1 by rw [HGG.out, decide_eq_true ht]; rfl)
                        subst ht
                        clear HGG
                        go_wp2_with fail
                        ((with_reducible refine wp_region_grown_lit (by kernel_rfl) (by kernel_rfl) ?_); (repeat ((with_reducible refine wpQuiet_step (fun K hK => ?_)); go_simp; first | ((with_reducible refine hK _ ?_); clear hK K) | ((with_reducible apply Exists.intro); (with_reducible refine ⟨fun _ => ?_, hK _ ?_⟩); ((go_at_call 42; first | exact quietG (Is1.out _) | exact quietGS (Is1.out _))); clear hK K))); (with_reducible refine wpQuiet_nil ?_); intro _ hw'; obtain ⟨nq, hw''⟩ := hw'; subst hw'')
                        have Hz := Lib.hid (Gr.trans Hb6.out nq.below)
                        clear F0 F1 F2 F3 F4 F5 F6 F7 V0 V3 VB f0 f1 f2 f3 f4 f5 f6 f7 v0 v3 vb
                        go_wp2
                        go_roundw
                        case rel => exact ⟨q + 1, by omega, by go_num, Hz.out, by rw [HD.out, HF.out, HX.out]; congr 1; omega⟩
                        case measure => simp [intOf] <;> omega
                      · have HF := Lib.hid (show cnt (fG kk calls th iv) (rp.evs.take (q + 1)) = F by rw [HGG.out, decide_eq_false ht]; rfl)
                        have t1 : ((Y : Int) == th) = false := by simpa using ht
                        clear HGG
                        go_wp2_with fail
                        ((with_reducible refine wp_region_grown_lit (by kernel_rfl) (by kernel_rfl) ?_); (repeat ((with_reducible refine wpQuiet_step (fun K hK => ?_)); go_simp; first | ((with_reducible refine hK _ ?_); clear hK K) | ((with_reducible apply Exists.intro); (with_reducible refine ⟨fun _ => ?_, hK _ ?_⟩); ((go_at_call 42; first | exact quietG (Is1.out _) | exact quietGS (Is1.out _))); clear hK K))); (with_reducible refine wpQuiet_nil ?_); intro _ hw'; obtain ⟨nq, hw''⟩ := hw'; subst hw'')
                        have Hz := Lib.hid (Gr.trans Hb6.out nq.below)
                        clear F0 F1 F2 F3 F4 F5 F6 F7 V0 V3 VB f0 f1 f2 f3 f4 f5 f6 f7 v0 v3 vb
                        go_wp2
                        go_roundw
                        case rel => exact ⟨q + 1, by omega, by go_num, Hz.out, by rw [HD.out, HF.out, HX.out]⟩
                        case measure => simp [intOf] <;> omega
                · have s1 : (iv : Int) ≤ (js : Int) := by omega
                  have HD := Lib.hid (show cnt (fT calls th iv) (rp.evs.take (q + 1)) = D by rw [HcT.out, decide_eq_false hjs]; simp)
                  have HF := Lib.hid (show cnt (fG kk calls th iv) (rp.evs.take (q + 1)) = F by rw [HcG.out, decide_eq_false hjs]; simp)
                  have Hz := Lib.hid (Gr.trans Hbq.out Hn.out)
                  clear HcT HcG hpp hplc2 e0 e1 e2 e3 e4 e5 e6 e7 y0 y3 b1 IS0 IS1
                  go_wp2
                  go_roundw
                  case rel => exact ⟨q + 1, by omega, by go_num, Hz.out, by rw [HD.out, HF.out, HX.out]⟩
                  case measure => simp [intOf] <;> omega
              · have m1 : ¬ (q : Int) < (en : Int) := by omega
                obtain rfl : q = en := by omega
                have b1 : wi.cell? ⟨w.heap.size, 1, none⟩ = some (.int .i64 (kk : Int)) := ((Gr.trans Hb2.out hbq).cell Hbz.out).trans B1.out
                have hD2 : D = cnt (fT calls th iv) rp.evs := by rw [hD, List.take_of_length_le (by rw [← Hen.out]; exact Nat.le_refl _)]
                have hF2 : F = cnt (fG kk calls th iv) rp.evs := by rw [hF, List.take_of_length_le (by rw [← Hen.out]; exact Nat.le_refl _)]
                have hXk : X = (kk : Int) := by have := Hf.out; omega
                subst hXk
                clear hD hF hD2 hF2 hbq hDl hFl i1 hX
                go_wp2
                go_roundw
                case rel => exact ⟨k + 1, by omega, by go_num, Gr.trans Hb2.out Hbq.out⟩
                case measure => simp [intOf] <;> omega
          · have h61 : (er != 6) = true := by simpa using h6
            clear hful
            go_wp2
            go_roundw
            case rel => exact ⟨k + 1, by omega, by go_num, Hb2.out⟩
            case measure => simp [intOf] <;> omega
        · have l1 : ¬ (k : Int) < (en : Int) := by omega
          have Hb := Lib.hid hb
          clear hb
          go_wp2_with (go_at_call 40; refine (T.out _).mono ?_; rintro e w' ⟨rfl, hbs⟩)
          go_ret
          exact ⟨rfl, Gr.trans Hgz.out (Gr.trans Hb02.out (Gr.trans Hb.out hbs))⟩
    · have hn0 : ¬ er = 0 := her0
      have Hn0 := Lib.hid her0
      clear z0
      have Z1 := Lib.hid z1
      clear z1
      have z0 : wz.cell? ⟨w.heap.size, 0, none⟩ = some (.int .i64 q0) := by rw [cell_blk Hkz.out]; rfl
      have z1 : wz.cell? ⟨w.heap.size, 1, none⟩ = some (.int .i64 q1) := by rw [cell_blk Hkz.out]; rfl
      go_enter Try.func14, Try.ntmps14
      go_upto_region 1 with fail
      rw [← Hwz.out]
      go_wp2_with (go_at_call 15; refine (HM.out).mono ?_; rintro e w' ⟨rfl, rfl⟩)
      refine HP.out.mono ?_
      rintro e w1 ⟨ea, en, ec, va, vn, vc, rp, rfl, hb1, hr⟩
      rcases hr with ⟨_, rfl, rfl, rfl, rfl, rfl, rfl, rfl⟩ | ⟨h0, _⟩
      · unfold repV
        have N := Lib.hid none_true
        clear z0 z1
        go_wp2_with (first | (go_at_call 18; refine (N.out _).mono ?_; rintro e w2 ⟨rfl, hb2⟩) | (go_at_call 40; refine (T.out _).mono ?_; rintro e w' ⟨rfl, hb⟩))
        go_ret
        exact ⟨rfl, Gr.trans Hgz.out (Gr.trans hb1 (Gr.trans (Gr.new _ _) (Gr.trans hb2 hb)))⟩
      · exact absurd h0 her0
end Go.Proofs.Ytjkgfkbanbhkgaa
