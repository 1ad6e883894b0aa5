/- Layer 12: the walk of DoorRises. -/
import Derived.Test.YtjkgfkbanbhkgaaJ34
import Derived.Test.YtjkgfkbanbhkgaaJ31
import Derived.Test.YtjkgfkbanbhkgaaJ28
import Derived.Test.YtjkgfkbanbhkgaaJ02
import Derived.Test.YtjkgfkbanbhkgaaJ04
set_option maxRecDepth 100000
set_option linter.unusedVariables false
set_option linter.unusedSimpArgs false
set_option linter.unnecessarySimpa false
namespace Go.Proofs.Ytjkgfkbanbhkgaa
section
open Go.RowKit

set_option maxHeartbeats 16000000 in
theorem doorRises_any (n : Int) (calls : List CallD) (picks : List Int) (ca pa : Option Addr) (cc pc : Nat) (w : World) (hc : CallsAt noB w ca calls) (hp : PicksAt w pa picks) :
    Calls Try.prog 12 #[.int .i64 n, .slice ca calls.length cc, .slice pa picks.length pc] w fun e w' => e = .returned (.bool true) ∧ Below w.heap.size w w' := by
  have M := many_any ca pa calls.length picks.length cc pc w hc.sl.1 hp.sl.1
  have T := Lib.hid door_same
  cases hM : manyB calls.length picks.length with
  | true =>
    rw [hM] at M
    have HM := Lib.hid M
    clear M hc hp hM
    go_enter Try.func12, Try.ntmps12
    go_wp2_with (first | (go_at_call 15; refine (HM.out).mono ?_; rintro e w' ⟨rfl, rfl⟩) | (go_at_call 38; refine (T.out _).mono ?_; rintro e w' ⟨rfl, hb⟩))
    go_ret
    exact ⟨rfl, hb⟩
  | false =>
    rw [hM] at M
    have HM := Lib.hid M
    have P := doorPlay_any noB w n calls picks ca pa cc pc (fun b hb => hb.elim) hc hp
    obtain ⟨er, her⟩ : ∃ er, er = checkN n calls picks.length := ⟨_, rfl⟩
    rw [← her] at P
    have HP := Lib.hid P; have Her := Lib.hid her; have Hc := Lib.hid hc
    have hcm := hc.sl.1
    unfold maxLen at hcm
    clear M P hc hp hM her
    by_cases her0 : er = 0
    · have hck : checkN n calls picks.length = 0 := by rw [← Her.out]; exact her0
      obtain ⟨z1, z2⟩ := n_ok hck
      obtain ⟨m, rfl⟩ : ∃ m : Nat, n = (m : Int) := ⟨n.toNat, by omega⟩
      simp only [Int.toNat_natCast] at HP
      obtain ⟨q1, q2⟩ := do_report hck picks
      have hnp := np_ok hck
      subst her0
      obtain ⟨rr, hrr⟩ : ∃ rr, rr = playD (doorS m) () (List.replicate m 0) calls picks := ⟨_, rfl⟩
      rw [← hrr] at HP q1 q2
      have Q1 := Lib.hid q1; have Hg := Lib.hid q2; have Hnp := Lib.hid hnp
      have hm16 : (m : Int) ≤ 16 := by omega
      have wm : IntKind.i64.wrap ((m : Int) + 1) = (m : Int) + 1 := by rw [IntKind.wrap_i64]; omega
      clear hck hrr Her q1 q2 hnp z1 z2
      go_enter Try.func12, Try.ntmps12
      go_wp2_with (go_at_call 15; refine (HM.out).mono ?_; rintro e w' ⟨rfl, rfl⟩)
      refine HP.out.mono ?_
      rintro e w1 ⟨ea, en, ec, va, vn, vc, rp, rfl, hb1, hr⟩
      rcases hr with ⟨h0, _⟩ | ⟨_, hrp, hen, hvn, ers, hrep⟩
      · exact absurd rfl h0
      subst hrp
      obtain ⟨w2, hw2⟩ : ∃ w2, w2 = w1.alloc (.cells #[.slice ea en ec, .slice va vn vc, .int .i64 (rp.c.read : Int), .int .i64 (rp.c.write : Int), .int .i64 (rp.c.swap : Int), .int .i64 (rp.c.add : Int), .int .i64 (rp.c.fault : Int), .int .i64 (rp.ticks : Int), .int .i64 (rp.idle : Int)] 32) := ⟨_, rfl⟩
      have hb2 : Below w1.heap.size w1 w2 := by rw [hw2]; exact Gr.new _ _
      have hin : RepIn w1 w2 w1.heap.size ea en ec va vn vc rp := ⟨Nat.le_refl _, by rw [hw2]; exact heap_alloc_new _ _⟩
      have hb02 := Gr.trans hb1 hb2
      have hlen : rp.evs.length < 1000000 := by have := Q1.out; have := Hnp.out; omega
      have henl : en ≤ 1000000 := by omega
      have hrep2 := hrep.grown hb2
      have Hrep := Lib.hid hrep2; have Hen := Lib.hid hen; have Hin := Lib.hid hin; have Hb02 := Lib.hid hb02; have Hw2 := Lib.hid hw2
      have hc2 := Hc.out.grown hb02
      have Hc2 := Lib.hid hc2
      have A0 := Lib.hid (hin.cell 0)
      have Hlt0 := Lib.hid (show w1.heap.size < w2.heap.size by rw [hw2]; simp)
      have r0 : w2.cell? ⟨w1.heap.size, 0, none⟩ = some (.slice ea en ec) := hin.cell 0
      clear hrep hrep2 hb1 hb2 hin hb02 hw2 hvn hen hc2
      unfold repV
      go_upto_region 4 with fail
      rw [← Hw2.out]
      go_wp2_with fail
      clear r0
      obtain ⟨wa, hwa⟩ : ∃ wa, wa = w2 := ⟨_, rfl⟩
      go_loopw [35] (fun i wr => ∃ k : Nat, k ≤ en ∧ i = .int .i64 k ∧ Below w2.heap.size w2 wr) (fun i _ => en - (intOf i).toNat)
      case atStart => exact ⟨0, Nat.zero_le _, rfl, Gr.refl _⟩
      case round =>
        obtain ⟨k, hk, rfl, hb⟩ := hrel
        obtain ⟨wo, rfl⟩ : ∃ wo, wo = wr := ⟨_, rfl⟩
        have b0 : wo.cell? ⟨w1.heap.size, 0, none⟩ = some (.slice ea en ec) := (hb.cell Hlt0.out).trans A0.out
        have hbw : w1.heap.size < wo.heap.size := Nat.lt_of_lt_of_le Hlt0.out hb.size
        by_cases hlt : k < en
        · obtain ⟨g, la, lc, ka, kc, rfl, hgl, e0, e1, e2, e3, e4, e5, e6, e7, hls, hks, hknil⟩ := Hrep.out.ev8 Hen.out hlt hb
          have hkl : k < rp.evs.length := by rw [← Hen.out]; exact hlt
          have hcall := Hg.out.call k hkl
          have hstp := Hg.out.steps k hkl
          have hrd := Hg.out.takes k hkl
          obtain ⟨E, hE⟩ : ∃ E, E = evAt rp.evs k := ⟨_, rfl⟩
          rw [← hE] at e0 e1 e2 e3 e4 e5 e6 e7 hcall hrd hstp
          obtain ⟨cI, iv, rs, st, ⟨er, vl, li⟩, ky⟩ := E
          simp only at e0 e1 e2 e3 e4 e5 e6 e7 hcall hrd hstp
          obtain ⟨ln, hln⟩ : ∃ ln, ln = li.length := ⟨_, rfl⟩
          obtain ⟨kn, hkn⟩ : ∃ kn, kn = ky.length := ⟨_, rfl⟩
          rw [← hln] at e6
          rw [← hkn] at e7
          obtain ⟨b9, off, rfl, y0, y1, y2, y3, y4, y5⟩ := call_at Hc2.out.sl hcall hb
          have hb9 := World.block_lt_of_cell? _ _ y0
          obtain ⟨C, hC⟩ : ∃ C, C = calls.getD cI Proofs.Ytjkgfkbanbhkgaa.d0 := ⟨_, rfl⟩
          rw [← hC] at y0 y1 y2 y3 y4 y5 hrd
          obtain ⟨th, ob, kd, ca1, cb1, cc1⟩ := C
          simp only at y0 y1 y2 y3 y4 y5 hrd hb9
          have l1 : (k : Int) < (en : Int) := by omega
          have l2 : (cI : Int) < (calls.length : Int) := by omega
          have l4 : (0 : Int) ≤ (cI : Int) := by omega
          have l5 : ¬ (m : Int) + 1 < (st : Int) := by omega
          have l6 : ¬ (cI : Int) < 0 := by omega
          have l7 : ¬ (calls.length : Int) ≤ (cI : Int) := by omega
          have Hb := Lib.hid hb
          clear hls hks hknil hE hC hb hcall hln hkn hstp
          obtain ⟨w4, hw4⟩ : ∃ w4, w4 = wo.alloc (.cells #[.int .i64 (cI : Int), .int .i64 (iv : Int), .int .i64 (rs : Int), .int .i64 (st : Int), .int .i64 er, .int .u64 (vl : Int), .slice la ln lc, .slice ka kn kc] 50) := ⟨_, rfl⟩
          have hb4 : Below wo.heap.size wo w4 := by rw [hw4]; exact Gr.new _ _
          have hx2 : w4.heap[wo.heap.size]? = some (.cells #[.int .i64 (cI : Int), .int .i64 (iv : Int), .int .i64 (rs : Int), .int .i64 (st : Int), .int .i64 er, .int .u64 (vl : Int), .slice la ln lc, .slice ka kn kc] 50 (0, 0)) := by rw [hw4]; exact heap_alloc_new _ _
          have Hw4 := Lib.hid hw4; have Hb2 := Lib.hid (Gr.trans Hb.out hb4); have Hx2 := Lib.hid hx2
          have z0 : w4.cell? ⟨w1.heap.size, 0, none⟩ = some (.slice (some ⟨g, 0, none⟩) en ec) := (hb4.cell hbw).trans b0
          have B0 := Lib.hid z0
          have Hbw := Lib.hid (Nat.lt_of_lt_of_le hbw hb4.size)
          have x0 : w4.cell? ⟨wo.heap.size, 0, none⟩ = some (.int .i64 (cI : Int)) := by rw [cell_blk hx2]; rfl
          have x1 : w4.cell? ⟨wo.heap.size, 1, none⟩ = some (.int .i64 (iv : Int)) := by rw [cell_blk hx2]; rfl
          have x2 : w4.cell? ⟨wo.heap.size, 2, none⟩ = some (.int .i64 (rs : Int)) := by rw [cell_blk hx2]; rfl
          have x3 : w4.cell? ⟨wo.heap.size, 3, none⟩ = some (.int .i64 (st : Int)) := by rw [cell_blk hx2]; rfl
          have x5 : w4.cell? ⟨wo.heap.size, 5, none⟩ = some (.int .u64 (vl : Int)) := by rw [cell_blk hx2]; rfl
          have k1 := (hb4.cell hb9).trans y1
          have k2 := (hb4.cell hb9).trans y2
          clear hw4 hb4 hx2
          go_upto_region 10 with fail
          rw [← Hw4.out]
          clear e0 e1 e2 e3 e4 e5 e6 e7 y0 y1 y2 y3 y4 y5 b0 hbw hgl hb9
          by_cases ho : ob = 0
          · by_cases hk1 : kd = 0
            · by_cases hr0 : rs = 0
              · subst ho hk1 hr0
                clear hrd hkl
                go_wp2
                go_roundw
                case rel => exact ⟨k + 1, by omega, by go_num, Hb2.out⟩
                case measure => simp [intOf] <;> omega
              · obtain ⟨r1, r2, r3⟩ := hrd ho hk1 hr0
                subst ho hk1
                have R1 := Lib.hid r1; have R2 := Lib.hid r2; have R3 := Lib.hid r3
                have hr1 : ¬ ((rs : Int) = 0) := by omega
                have hr2 : ((rs : Int) == 0) = false := by simpa using hr0
                clear hrd r1 r2 r3 hr0 hkl
                go_upto_region 15 with fail
                clear z0 x0 x1 x2 x3 x5 k1 k2
                go_loopw [11, 84] (fun bv i wq => ∃ q : Nat, q ≤ en ∧ i = .int .i64 q ∧ Below w4.heap.size w4 wq ∧ bv = .int .u64 ((cnt (dB calls rs) (rp.evs.take q) : Nat) : Int)) (fun _ i _ => en - (intOf i).toNat)
                case atStart => exact ⟨0, Nat.zero_le _, rfl, Gr.refl _, by rw [List.take_zero]; rfl⟩
                case round =>
                  obtain ⟨q, hq, rfl, hbq, rfl⟩ := hrel
                  obtain ⟨wi, rfl⟩ : ∃ wi, wi = wr := ⟨_, rfl⟩
                  obtain ⟨F, hF⟩ : ∃ F, F = cnt (dB calls rs) (rp.evs.take q) := ⟨_, rfl⟩
                  rw [← hF]
                  have hFl : F ≤ 1000000 := by have := cnt_le (dB calls rs) (rp.evs.take q); rw [List.length_take] at this; omega
                  have b0 : wi.cell? ⟨w1.heap.size, 0, none⟩ = some (.slice (some ⟨g, 0, none⟩) en ec) := (hbq.cell Hbw.out).trans B0.out
                  have hbw : w1.heap.size < wi.heap.size := Nat.lt_of_lt_of_le Hbw.out hbq.size
                  have hx3 := (hbq.block _ (blk_lt Hx2.out)).trans Hx2.out
                  have hxl := blk_lt hx3
                  have Hbq := Lib.hid hbq
                  by_cases hlq : q < en
                  · obtain ⟨g', la1, lc1, ka1, kc1, hgg, hgl, e0, e1, e2, e3, e4, e5, e6, e7, hls, hks, hknil⟩ := Hrep.out.ev8 Hen.out hlq (Gr.trans Hb2.out hbq)
                    cases hgg
                    have hql : q < rp.evs.length := by rw [← Hen.out]; exact hlq
                    have hcall := Hg.out.call q hql
                    have hval := R1.out q hql
                    have hcF := cnt_take_succ (dB calls rs) rp.evs q hql
                    rw [← hF] at hcF
                    obtain ⟨E, hE⟩ : ∃ E, E = evAt rp.evs q := ⟨_, rfl⟩
                    rw [← hE] at e0 e1 e2 e3 e4 e5 e6 e7 hcall hval hcF
                    obtain ⟨cJ, jv, js, jt, ⟨jr, jl, ji⟩, jy⟩ := E
                    simp only at e0 e1 e2 e3 e4 e5 e6 e7 hcall hval
                    obtain ⟨jln, hln⟩ : ∃ ln, ln = ji.length := ⟨_, rfl⟩
                    obtain ⟨jkn, hkn⟩ : ∃ kn, kn = jy.length := ⟨_, rfl⟩
                    rw [← hln] at e6
                    rw [← hkn] at e7
                    obtain ⟨b8, off8, hcc, y0, y1, y2, y3, y4, y5⟩ := call_at Hc2.out.sl hcall (Gr.trans Hb2.out hbq)
                    cases hcc
                    have hb9 := World.block_lt_of_cell? _ _ y1
                    have hcF' : cnt (dB calls rs) (rp.evs.take (q + 1)) = F + (if (decide ((calls.getD cJ Proofs.Ytjkgfkbanbhkgaa.d0).obj = 0) && decide ((calls.getD cJ Proofs.Ytjkgfkbanbhkgaa.d0).kind = 0) && decide (jv < rs)) = true then 1 else 0) := hcF
                    obtain ⟨C, hC⟩ : ∃ C, C = calls.getD cJ Proofs.Ytjkgfkbanbhkgaa.d0 := ⟨_, rfl⟩
                    rw [← hC] at y1 y2 hval hcF'
                    obtain ⟨th', ob, kd, ca', cb', cc'⟩ := C
                    simp only at y1 y2 hval hb9 hcF'
                    have m1 : (q : Int) < (en : Int) := by omega
                    have m2 : (cJ : Int) < (calls.length : Int) := by omega
                    have m4 : (0 : Int) ≤ (cJ : Int) := by omega
                    obtain ⟨w3, hw3⟩ : ∃ w3, w3 = wi.alloc (.cells #[.int .i64 (cJ : Int), .int .i64 (jv : Int), .int .i64 (js : Int), .int .i64 (jt : Int), .int .i64 jr, .int .u64 (jl : Int), .slice la1 jln lc1, .slice ka1 jkn kc1] 50) := ⟨_, rfl⟩
                    have hb3 : Below wi.heap.size wi w3 := by rw [hw3]; exact Gr.new _ _
                    have hj3 : w3.heap[wi.heap.size]? = some (.cells #[.int .i64 (cJ : Int), .int .i64 (jv : Int), .int .i64 (js : Int), .int .i64 (jt : Int), .int .i64 jr, .int .u64 (jl : Int), .slice la1 jln lc1, .slice ka1 jkn kc1] 50 (0, 0)) := by rw [hw3]; exact heap_alloc_new _ _
                    have hx4 := (hb3.block _ hxl).trans hx3
                    have x1 : w3.cell? ⟨wo.heap.size, 1, none⟩ = some (.int .i64 (iv : Int)) := by rw [cell_blk hx4]; rfl
                    have x2 : w3.cell? ⟨wo.heap.size, 2, none⟩ = some (.int .i64 (rs : Int)) := by rw [cell_blk hx4]; rfl
                    have x5 : w3.cell? ⟨wo.heap.size, 5, none⟩ = some (.int .u64 (vl : Int)) := by rw [cell_blk hx4]; rfl
                    have j0 : w3.cell? ⟨wi.heap.size, 0, none⟩ = some (.int .i64 (cJ : Int)) := by rw [cell_blk hj3]; rfl
                    have j1 : w3.cell? ⟨wi.heap.size, 1, none⟩ = some (.int .i64 (jv : Int)) := by rw [cell_blk hj3]; rfl
                    have j2 : w3.cell? ⟨wi.heap.size, 2, none⟩ = some (.int .i64 (js : Int)) := by rw [cell_blk hj3]; rfl
                    have j5 : w3.cell? ⟨wi.heap.size, 5, none⟩ = some (.int .u64 (jl : Int)) := by rw [cell_blk hj3]; rfl
                    have c1 := (hb3.cell hb9).trans y1
                    have c2 := (hb3.cell (World.block_lt_of_cell? _ _ y2)).trans y2
                    have m6 : ¬ (cJ : Int) < 0 := by omega
                    have m7 : ¬ (calls.length : Int) ≤ (cJ : Int) := by omega
                    have Hb3 := Lib.hid (Gr.trans Hbq.out hb3); have Hw3 := Lib.hid hw3
                    clear hls hks hknil hE hC hbq hcall hln hkn hcF hF hql hw3 hj3 hx4 hx3 hb3
                    go_upto_region 18 with fail
                    rw [← Hw3.out]
                    clear e0 e1 e2 e3 e4 e5 e6 e7 b0 hbw hxl hgl hb9 y0 y1 y2 y3 y4 y5
                    by_cases o0 : ob = 0
                    · subst o0
                      by_cases k0 : kd = 0
                      · subst k0
                        by_cases f1 : jv < rs
                        · have f2 : (jv : Int) < (rs : Int) := by omega
                          by_cases s0 : js = 0
                          · subst s0
                            have nF : cnt (dB calls rs) (rp.evs.take (q + 1)) = F + 1 := hcF'.trans (dB1 ⟨rfl, rfl, f1⟩)
                            have NF := Lib.hid nF
                            clear hcF' nF hval f1
                            go_wp2
                            go_roundw
                            case rel => exact ⟨q + 1, by omega, by go_num, Hb3.out, by rw [NF.out]; first | done | rfl⟩
                            case measure => simp [intOf] <;> omega
                          · have s2 : ¬ ((js : Int) = 0) := by omega
                            have s9 : ((js : Int) != 0) = true := by simpa using s0
                            by_cases s1 : js < iv
                            · have hv := hval rfl rfl s0 s1
                              have nF : cnt (dB calls rs) (rp.evs.take (q + 1)) = F + 1 := hcF'.trans (dB1 ⟨rfl, rfl, f1⟩)
                              have NF := Lib.hid nF
                              have s3 : (js : Int) < (iv : Int) := by omega
                              have s4 : ¬ (vl : Int) ≤ (jl : Int) := by omega
                              have s5 : (jl : Int) < (vl : Int) := by omega
                              clear hcF' nF hval hv f1 s0 s1
                              go_wp2
                              go_roundw
                              case rel => exact ⟨q + 1, by omega, by go_num, Hb3.out, by rw [NF.out]; first | done | rfl⟩
                              case measure => simp [intOf] <;> omega
                            · have s3 : ¬ (js : Int) < (iv : Int) := by omega
                              have nF : cnt (dB calls rs) (rp.evs.take (q + 1)) = F + 1 := hcF'.trans (dB1 ⟨rfl, rfl, f1⟩)
                              have NF := Lib.hid nF
                              clear hcF' nF hval f1 s0 s1
                              go_wp2
                              go_roundw
                              case rel => exact ⟨q + 1, by omega, by go_num, Hb3.out, by rw [NF.out]; first | done | rfl⟩
                              case measure => simp [intOf] <;> omega
                        · have f2 : ¬ (jv : Int) < (rs : Int) := by omega
                          by_cases s0 : js = 0
                          · subst s0
                            have nF : cnt (dB calls rs) (rp.evs.take (q + 1)) = F := hcF'.trans (dB0 (fun h => f1 h.2.2))
                            have NF := Lib.hid nF
                            clear hcF' nF hval f1
                            go_wp2
                            go_roundw
                            case rel => exact ⟨q + 1, by omega, by go_num, Hb3.out, by rw [NF.out]; first | done | rfl⟩
                            case measure => simp [intOf] <;> omega
                          · have s2 : ¬ ((js : Int) = 0) := by omega
                            have s9 : ((js : Int) != 0) = true := by simpa using s0
                            by_cases s1 : js < iv
                            · have hv := hval rfl rfl s0 s1
                              have nF : cnt (dB calls rs) (rp.evs.take (q + 1)) = F := hcF'.trans (dB0 (fun h => f1 h.2.2))
                              have NF := Lib.hid nF
                              have s3 : (js : Int) < (iv : Int) := by omega
                              have s4 : ¬ (vl : Int) ≤ (jl : Int) := by omega
                              have s5 : (jl : Int) < (vl : Int) := by omega
                              clear hcF' nF hval hv f1 s0 s1
                              go_wp2
                              go_roundw
                              case rel => exact ⟨q + 1, by omega, by go_num, Hb3.out, by rw [NF.out]; first | done | rfl⟩
                              case measure => simp [intOf] <;> omega
                            · have s3 : ¬ (js : Int) < (iv : Int) := by omega
                              have nF : cnt (dB calls rs) (rp.evs.take (q + 1)) = F := hcF'.trans (dB0 (fun h => f1 h.2.2))
                              have NF := Lib.hid nF
                              clear hcF' nF hval f1 s0 s1
                              go_wp2
                              go_roundw
                              case rel => exact ⟨q + 1, by omega, by go_num, Hb3.out, by rw [NF.out]; first | done | rfl⟩
                              case measure => simp [intOf] <;> omega
                      · skip
                        have nF : cnt (dB calls rs) (rp.evs.take (q + 1)) = F := hcF'.trans (dB0 (fun h => k0 h.2.1))
                        have NF := Lib.hid nF
                        have q1 : (kd != 0) = true := by simp [k0]
                        clear hcF' nF hval 
                        go_wp2
                        go_roundw
                        case rel => exact ⟨q + 1, by omega, by go_num, Hb3.out, by rw [NF.out]; first | done | rfl⟩
                        case measure => simp [intOf] <;> omega
                    · skip
                      have nF : cnt (dB calls rs) (rp.evs.take (q + 1)) = F := hcF'.trans (dB0 (fun h => o0 h.1))
                      have NF := Lib.hid nF
                      have q1 : (ob != 0) = true := by simp [o0]
                      clear hcF' nF hval 
                      go_wp2
                      go_roundw
                      case rel => exact ⟨q + 1, by omega, by go_num, Hb3.out, by rw [NF.out]; first | done | rfl⟩
                      case measure => simp [intOf] <;> omega
                  · have m1 : ¬ (q : Int) < (en : Int) := by omega
                    obtain rfl : q = en := by omega
                    have x5 : wi.cell? ⟨wo.heap.size, 5, none⟩ = some (.int .u64 (vl : Int)) := by rw [cell_blk hx3]; rfl
                    have hF2 : F = cnt (dB calls rs) rp.evs := by rw [hF, List.take_of_length_le (by rw [← Hen.out]; exact Nat.le_refl _)]
                    have n1 : ¬ (vl : Int) < 1 := by have := R2.out; omega
                    have n2 : ¬ (F : Int) < (vl : Int) := by have := R3.out; omega
                    clear hF hF2 hbq hFl hx3
                    go_wp2
                    go_roundw
                    case rel => exact ⟨k + 1, by omega, by go_num, Gr.trans Hb2.out Hbq.out⟩
                    case measure => simp [intOf] <;> omega
            · subst ho
              have q1 : (kd != 0) = true := by simp [hk1]
              clear hrd hkl
              go_wp2
              go_roundw
              case rel => exact ⟨k + 1, by omega, by go_num, Hb2.out⟩
              case measure => simp [intOf] <;> omega
          · have q1 : (ob != 0) = true := by simp [ho]
            clear hrd hkl
            go_wp2
            go_roundw
            case rel => exact ⟨k + 1, by omega, by go_num, Hb2.out⟩
            case measure => simp [intOf] <;> omega
        · have l1 : ¬ (k : Int) < (en : Int) := by omega
          have Hb := Lib.hid hb
          clear hb b0 hbw
          go_wp2_with (go_at_call 38; refine (T.out _).mono ?_; rintro e w' ⟨rfl, hbs⟩)
          go_ret
          exact ⟨rfl, Gr.trans Hb02.out (Gr.trans Hb.out hbs)⟩
    · have hn0 : ¬ er = 0 := her0
      have Hn0 := Lib.hid her0
      go_enter Try.func12, Try.ntmps12
      go_wp2_with (go_at_call 15; refine (HM.out).mono ?_; rintro e w' ⟨rfl, rfl⟩)
      refine HP.out.mono ?_
      rintro e w1 ⟨ea, en, ec, va, vn, vc, rp, rfl, hb1, hr⟩
      rcases hr with ⟨_, rfl, rfl, rfl, rfl, rfl, rfl, rfl⟩ | ⟨h0, _⟩
      · unfold repV
        have N := Lib.hid none_true
        go_wp2_with (first | (go_at_call 18; refine (N.out _).mono ?_; rintro e w2 ⟨rfl, hb2⟩) | (go_at_call 38; refine (T.out _).mono ?_; rintro e w' ⟨rfl, hb⟩))
        go_ret
        exact ⟨rfl, Gr.trans hb1 (Gr.trans (Gr.new _ _) (Gr.trans hb2 hb))⟩
      · exact absurd h0 her0
end
section

/- What the laws' arguments come as: calls. -/
open Go.ChangeShapes Go.WideShapes Go.ChangeAt Go.RowKit

def callV (x : CallD) (f : Nat) : Value :=
  if f = 0 then .int .i64 x.thread else if f = 1 then .int .i64 x.obj else if f = 2 then .int .i64 x.kind else if f = 3 then .int .u64 (x.a : Int) else if f = 4 then .int .u64 (x.b : Int) else .int .u64 (x.c : Int)
structure CallWf (x : CallD) : Prop where
  thread : (Lit.int .i64 x.thread).wf = true
  obj : (Lit.int .i64 x.obj).wf = true
  kind : (Lit.int .i64 x.kind).wf = true
  a : U64 x.a
  b : U64 x.b
  c : U64 x.c

theorem call_of {H : Type} {enc : TypeId × Value → H} {W : World} {n : Nat} {cs : List Value} {x : DataW H × List MemPlace} (hx : DataW.trod enc Try.prog W 0 (fun _ => true) true n 55 cs = some x) :
    ∃ y : CallD, (∀ f, f < 6 → cs[f]? = some (callV y f)) ∧ cs.length = 6 ∧ CallWf y := by
  have hu := Try.underlying55
  have hi := Try.underlying3
  have hq := Try.underlying46
  have ci : Try.prog.cellsOf 3 = 1 := by kernel_rfl
  have cq : Try.prog.cellsOf 46 = 1 := by kernel_rfl
  have hl := trod_len_struct hu hx
  have hc : Try.prog.cellsOf 55 = 6 := by kernel_rfl
  rw [hc] at hl
  obtain ⟨t0, e0, w0⟩ := trod_field_int hu hx (List.getElem_mem (n := 0) (by decide)) hi ci
  obtain ⟨t1, e1, w1⟩ := trod_field_int hu hx (List.getElem_mem (n := 1) (by decide)) hi ci
  obtain ⟨t2, e2, w2⟩ := trod_field_int hu hx (List.getElem_mem (n := 2) (by decide)) hi ci
  obtain ⟨t3, e3, w3⟩ := trod_field_int hu hx (List.getElem_mem (n := 3) (by decide)) hq cq
  obtain ⟨t4, e4, w4⟩ := trod_field_int hu hx (List.getElem_mem (n := 4) (by decide)) hq cq
  obtain ⟨t5, e5, w5⟩ := trod_field_int hu hx (List.getElem_mem (n := 5) (by decide)) hq cq
  obtain ⟨n3, rfl, u3⟩ := u64_of w3
  obtain ⟨n4, rfl, u4⟩ := u64_of w4
  obtain ⟨n5, rfl, u5⟩ := u64_of w5
  refine ⟨⟨t0, t1, t2, n3, n4, n5⟩, fun f hf => ?_, hl, ⟨w0, w1, w2, u3, u4, u5⟩⟩
  obtain rfl | rfl | rfl | rfl | rfl | rfl : f = 0 ∨ f = 1 ∨ f = 2 ∨ f = 3 ∨ f = 4 ∨ f = 5 := by omega
  · exact e0
  · exact e1
  · exact e2
  · exact e3
  · exact e4
  · exact e5

theorem open_calls {H : Type} {enc : TypeId × Value → H} {W : World} {base : Nat} {v : Value} {d : DataW H} {ps : List MemPlace}
    (hv : Value.okWide Try.prog W .any base 23 v) (h : DataW.Trod enc Try.prog W 0 (fun _ => true) true 23 v d ps) (hlt : ∀ p ∈ ps, p.block < W.heap.size) :
    ∃ (a : Option Addr) (c : Nat) (l : List CallD), v = .slice a l.length c ∧ SlAt W a l.length 6 (callG l) ∧ (∀ y ∈ l, CallWf y) := by
  have hc : Try.prog.cellsOf 55 = 6 := by kernel_rfl
  obtain ⟨a, c, l, h1, h2, h3⟩ := open_sl Try.underlying23 hv h hlt (by rw [hc]; omega) (⟨0, 0, 0, 0, 0, 0⟩ : CallD) (fun y cs => (∀ f, f < 6 → cs[f]? = some (callV y f)) ∧ cs.length = 6 ∧ CallWf y)
    (fun n cs x hx => call_of hx) callV (fun y cs hy => by rw [hc]; exact ⟨hy.2.1, hy.1⟩)
  rw [hc] at h2
  exact ⟨a, c, l, h1, h2, fun y hy => by obtain ⟨cs, _, _, hw⟩ := h3 y hy; exact hw⟩
end
end Go.Proofs.Ytjkgfkbanbhkgaa
