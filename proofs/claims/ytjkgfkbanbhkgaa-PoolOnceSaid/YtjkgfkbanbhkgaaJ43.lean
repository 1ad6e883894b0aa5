/- Layer 13: the walk of PoolOnce. -/
import Derived.Test.YtjkgfkbanbhkgaaJ42
import Derived.BigQuiet
import Derived.Deep.CutRange
import Derived.Test.YtjkgfkbanbhkgaaJ41
import Derived.Test.YtjkgfkbanbhkgaaJ28
set_option maxRecDepth 100000
set_option linter.unusedVariables false
set_option linter.unusedSimpArgs false
set_option linter.unnecessarySimpa false
namespace Go.Proofs.Ytjkgfkbanbhkgaa
open Go.RowKit

theorem any_take_succ (P : EvD → Bool) (l : List EvD) (j : Nat) (hj : j < l.length) : (l.take (j + 1)).any P = ((l.take j).any P || P (evAt l j)) := by
  have h : l.take (j + 1) = l.take j ++ [evAt l j] := by
    rw [List.take_add_one]
    congr 1
    unfold evAt
    rw [List.getD_eq_getElem?_getD, List.getElem?_eq_getElem hj]; rfl
  rw [h, List.any_append]
  simp
theorem beqF {a b : Nat} (h : ¬ a = b) : ((a : Int) == (b : Int)) = false := beq_eq_false_iff_ne.2 (by omega)
theorem beqT {a b : Nat} (h : a = b) : ((a : Int) == (b : Int)) = true := by subst h; simp
theorem bneT {a b : Nat} (h : ¬ a = b) : ((a : Int) != (b : Int)) = true := bne_iff_ne.2 (by omega)
theorem bneF {a b : Nat} (h : a = b) : ((a : Int) != (b : Int)) = false := by subst h; simp
theorem any_at {P : EvD → Bool} {l : List EvD} {j : Nat} (hj : j < l.length) (h : P (evAt l j) = true) : l.any P = true := by
  rw [List.any_eq_true]
  refine ⟨evAt l j, ?_, h⟩
  unfold evAt
  rw [List.getD_eq_getElem?_getD, List.getElem?_eq_getElem hj]
  exact List.getElem_mem _
def tkP (calls : List CallD) (A rs : Nat) (e : EvD) : Bool := pIs calls 0 e && decide (e.resp < rs) && decide (e.ans.val = A)
def gvP (calls : List CallD) (V rs : Nat) (e : EvD) : Bool := pIs calls 1 e && decide (argOf calls e = V) && decide (e.resp < rs)
set_option maxHeartbeats 16000000 in
theorem poolOnce_any (q0 q1 : Int) (calls : List CallD) (picks : List Int) (ca pa : Option Addr) (cc pc : Nat) (w : World) (hc : CallsAt noB w ca calls) (hp : PicksAt w pa picks) :
    Calls Try.prog 13 #[.agg #[.int .i64 q0, .int .i64 q1], .slice ca calls.length cc, .slice pa picks.length pc] w fun e w' => e = .returned (.bool true) ∧ Below w.heap.size w w' := by
  obtain ⟨wz, hwz⟩ : ∃ wz, wz = w.alloc (.cells #[.int .i64 q0, .int .i64 q1] 22) := ⟨_, rfl⟩
  have hgz : Below w.heap.size w wz := by rw [hwz]; exact Gr.new _ _
  have hkz : wz.heap[w.heap.size]? = some (.cells #[.int .i64 q0, .int .i64 q1] 22 (0, 0)) := by rw [hwz]; exact heap_alloc_new _ _
  have z0 : wz.cell? ⟨w.heap.size, 0, none⟩ = some (.int .i64 q0) := by rw [cell_blk hkz]; rfl
  have z1 : wz.cell? ⟨w.heap.size, 1, none⟩ = some (.int .i64 q1) := by rw [cell_blk hkz]; rfl
  have M := many_any ca pa calls.length picks.length cc pc wz hc.sl.1 hp.sl.1
  have T := Lib.hid pool_one
  have Hwz := Lib.hid hwz; have Hgz := Lib.hid hgz
  cases hM : manyB calls.length picks.length with
  | true =>
    rw [hM] at M
    have HM := Lib.hid M
    clear M hc hp hM z0 z1 hwz hgz hkz
    go_enter Try.func13, Try.ntmps13
    go_upto_region 1 with fail
    rw [← Hwz.out]
    go_wp2_with (first | (go_at_call 15; refine (HM.out).mono ?_; rintro e w' ⟨rfl, rfl⟩) | (go_at_call 40; refine (T.out _).mono ?_; rintro e w' ⟨rfl, hb⟩))
    go_ret
    exact ⟨rfl, Gr.trans Hgz.out hb⟩
  | false =>
    rw [hM] at M
    have HM := Lib.hid M
    have P := poolPlay_any noB wz q0 q1 calls picks ca pa cc pc (fun b hb => hb.elim) (hc.grown hgz) (hp.grown hgz)
    obtain ⟨er, her⟩ : ∃ er, er = poCheck q0 q1 calls picks.length := ⟨_, rfl⟩
    rw [← her] at P
    have HP := Lib.hid P; have Her := Lib.hid her; have Hc := Lib.hid (hc.grown hgz)
    have hcm := hc.sl.1
    unfold maxLen at hcm
    have Hkz := Lib.hid hkz
    clear M P hc hp hM her hwz hgz hkz
    by_cases her0 : er = 0
    · obtain ⟨hck, k1, k2⟩ := poCheck_zero (Her.out.symm.trans her0)
      obtain ⟨y1, y2⟩ := n_ok hck
      obtain ⟨m, rfl⟩ : ∃ m : Nat, q0 = (m : Int) := ⟨q0.toNat, by omega⟩
      obtain ⟨kk, rfl⟩ : ∃ kk : Nat, q1 = (kk : Int) := ⟨q1.toNat, by omega⟩
      simp only [Int.toNat_natCast] at HP
      obtain ⟨g1, g2⟩ := po_report (n := m) (k := kk) (by omega) (by omega) hck picks
      have hnp := np_ok hck
      subst her0
      obtain ⟨rr, hrr⟩ : ∃ rr, rr = playD (poolS m kk) () (List.replicate (m * kk) 0) calls picks := ⟨_, rfl⟩
      rw [← hrr] at HP g1 g2
      have Q1 := Lib.hid g1; have Hg := Lib.hid g2; have Hnp := Lib.hid hnp
      have hk1 : ¬ (kk : Int) < 1 := by omega
      have hk32 : ¬ (32 : Int) < (kk : Int) := by omega
      have Hkk := Lib.hid (show 1 ≤ kk ∧ kk ≤ 32 by omega)
      have wk : IntKind.i64.wrap ((kk : Int) + 1) = (kk : Int) + 1 := by rw [IntKind.wrap_i64]; omega
      clear hck hrr Her g1 g2 hnp y1 y2 k1 k2
      go_enter Try.func13, Try.ntmps13
      go_upto_region 1 with fail
      rw [← Hwz.out]
      go_wp2_with (go_at_call 15; refine (HM.out).mono ?_; rintro e w' ⟨rfl, rfl⟩)
      refine HP.out.mono ?_
      rintro e w1 ⟨ea, en, ec, va, vn, vc, rp, rfl, hb1, hr⟩
      rcases hr with ⟨h0, _⟩ | ⟨_, hrp, hen, hvn, ers, hrep⟩
      · exact absurd rfl h0
      subst hrp
      obtain ⟨w2, hw2⟩ : ∃ w2, w2 = w1.alloc (.cells #[.slice ea en ec, .slice va vn vc, .int .i64 (rp.c.read : Int), .int .i64 (rp.c.write : Int), .int .i64 (rp.c.swap : Int), .int .i64 (rp.c.add : Int), .int .i64 (rp.c.fault : Int), .int .i64 (rp.ticks : Int), .int .i64 (rp.idle : Int)] 32) := ⟨_, rfl⟩
      have hb2 : Below w1.heap.size w1 w2 := by rw [hw2]; exact Gr.new _ _
      have hin : RepIn w1 w2 w1.heap.size ea en ec va vn vc rp := ⟨Nat.le_refl _, by rw [hw2]; exact heap_alloc_new _ _⟩
      have hb02 := Gr.trans hb1 hb2
      have hlen : rp.evs.length < 1000000 := by have := Q1.out; have := Hnp.out; omega
      have henl : en ≤ 1000000 := by omega
      have hrep2 := hrep.grown hb2
      have Hrep := Lib.hid hrep2; have Hen := Lib.hid hen; have Hb02 := Lib.hid hb02; have Hw2 := Lib.hid hw2
      have Hc2 := Lib.hid (Hc.out.grown hb02)
      have r0 : w2.cell? ⟨w1.heap.size, 0, none⟩ = some (.slice ea en ec) := hin.cell 0
      have b1 : w2.cell? ⟨w.heap.size, 1, none⟩ = some (.int .i64 (kk : Int)) := (hb02.cell (blk_lt Hkz.out)).trans z1
      have B1 := Lib.hid b1
      have Hbz := Lib.hid (World.block_lt_of_cell? _ _ b1)
      clear hrep hrep2 hb1 hb2 hin hb02 hw2 hvn hen z0 z1
      unfold repV
      go_upto_region 4 with fail
      rw [← Hw2.out]
      go_wp2_with fail
      clear r0 b1
      go_loopw [41] (fun i wr => ∃ k : Nat, k ≤ en ∧ i = .int .i64 k ∧ Below w2.heap.size w2 wr) (fun i _ => en - (intOf i).toNat)
      case atStart => exact ⟨0, Nat.zero_le _, rfl, Gr.refl _⟩
      case round =>
        obtain ⟨k, hk, rfl, hb⟩ := hrel
        obtain ⟨wo, rfl⟩ : ∃ wo, wo = wr := ⟨_, rfl⟩
        by_cases hlt : k < en
        · obtain ⟨g, la, lc, ka, kc, rfl, _, e0, e1, e2, e3, e4, e5, e6, e7, _, _, _⟩ := Hrep.out.ev8 Hen.out hlt hb
          have hkl : k < rp.evs.length := by rw [← Hen.out]; exact hlt
          have hcall := Hg.out.call k hkl
          have hgg0 := Hg.out.gg k
          have hgt0 := Hg.out.gt k hkl
          have htt0 := Hg.out.tt k
          obtain ⟨E, hE⟩ : ∃ E, E = evAt rp.evs k := ⟨_, rfl⟩
          rw [← hE] at e0 e1 e2 e3 e4 e5 e6 e7 hcall hgg0 hgt0 htt0
          obtain ⟨pi0, hp0⟩ : ∃ p0, p0 = pIs calls 0 E := ⟨_, rfl⟩
          obtain ⟨pi1, hp1⟩ : ∃ p1, p1 = pIs calls 1 E := ⟨_, rfl⟩
          have hpp : pi1 = true → pi0 = false := fun h => by rw [hp0]; exact pIs_not0 (by rw [← hp1]; exact h)
          rw [← hp1] at hgt0
          have hgg1 : ∀ j, j < rp.evs.length → k ≠ j → pi1 = true → pIs calls 1 (evAt rp.evs j) = true → argOf calls (evAt rp.evs j) ≠ argOf calls E := fun j hj hkj h1 h2 => hgg0 j hkl hj hkj (by rw [← hp1]; exact h1) h2
          have htt1 : ∀ j, j < rp.evs.length → k ≠ j → pi0 = true → pIs calls 0 (evAt rp.evs j) = true → E.ans.val % 1024 = (evAt rp.evs j).ans.val % 1024 → (evAt rp.evs j).ans.val ≠ E.ans.val ∧ (E.resp < (evAt rp.evs j).resp ∨ ∃ m, m < rp.evs.length ∧ pIs calls 1 (evAt rp.evs m) = true ∧ argOf calls (evAt rp.evs m) = (evAt rp.evs j).ans.val ∧ (evAt rp.evs m).resp < E.resp) := fun j hj hkj h1 h2 h3 => htt0 j hkl hj hkj (by rw [← hp0]; exact h1) h2 h3
          clear hgg0 htt0
          obtain ⟨cI, iv, rs, st, ⟨er, vl, li⟩, ky⟩ := E
          simp only at e0 e1 e2 e3 e4 e5 e6 e7 hcall
          have hgt2 : pi1 = true → ∃ j, j < rp.evs.length ∧ pIs calls 0 (evAt rp.evs j) = true ∧ (evAt rp.evs j).resp < rs ∧ (evAt rp.evs j).ans.val = (calls.getD cI Proofs.Ytjkgfkbanbhkgaa.d0).a := hgt0
          have hgg2 : ∀ j, j < rp.evs.length → k ≠ j → pi1 = true → pIs calls 1 (evAt rp.evs j) = true → (calls.getD (evAt rp.evs j).call Proofs.Ytjkgfkbanbhkgaa.d0).a ≠ (calls.getD cI Proofs.Ytjkgfkbanbhkgaa.d0).a := hgg1
          have htt2 : ∀ j, j < rp.evs.length → k ≠ j → pi0 = true → pIs calls 0 (evAt rp.evs j) = true → vl % 1024 = (evAt rp.evs j).ans.val % 1024 → (evAt rp.evs j).ans.val ≠ vl ∧ (rs < (evAt rp.evs j).resp ∨ ∃ m, m < rp.evs.length ∧ pIs calls 1 (evAt rp.evs m) = true ∧ argOf calls (evAt rp.evs m) = (evAt rp.evs j).ans.val ∧ (evAt rp.evs m).resp < rs) := htt1
          clear hgt0 hgg1 htt1
          obtain ⟨ln, hln⟩ : ∃ ln, ln = li.length := ⟨_, rfl⟩
          obtain ⟨kn, hkn⟩ : ∃ kn, kn = ky.length := ⟨_, rfl⟩
          rw [← hln] at e6
          rw [← hkn] at e7
          obtain ⟨b9, off, rfl, _, _, _, y3, _, _⟩ := call_at Hc2.out.sl hcall hb
          have IS0 := Lib.hid (fun (u : World) (h : Below wo.heap.size wo u) => is_any Hc2.out.sl cc cI iv rs st er vl (.slice la ln lc) (.slice ka kn kc) 0 hcall u (Gr.trans hb h))
          have IS1 := Lib.hid (is_any Hc2.out.sl cc cI iv rs st er vl (.slice la ln lc) (.slice ka kn kc) 1 hcall wo hb)
          rw [show isV calls cI rs er 0 = pi0 from hp0.symm] at IS0
          rw [show isV calls cI rs er 1 = pi1 from hp1.symm] at IS1
          obtain ⟨A, hA⟩ : ∃ A, A = (calls.getD cI Proofs.Ytjkgfkbanbhkgaa.d0).a := ⟨_, rfl⟩
          have y3 : wo.cell? ⟨b9, off + cI * 6 + 3, none⟩ = some (.int .u64 (A : Int)) := by rw [hA]; exact y3
          rw [← hA] at hgt2 hgg2
          have l1 : (k : Int) < (en : Int) := by omega
          have l2 : (cI : Int) < (calls.length : Int) := by omega
          have l4 : (0 : Int) ≤ (cI : Int) := by omega
          have Hb := Lib.hid hb; have Hgt := Lib.hid hgt2; have Hgg := Lib.hid hgg2; have Htt := Lib.hid htt2
          have He0 := Lib.hid e0; have He1 := Lib.hid e1; have He2 := Lib.hid e2; have He3 := Lib.hid e3; have He4 := Lib.hid e4; have He5 := Lib.hid e5; have He6 := Lib.hid e6; have He7 := Lib.hid e7; have Hy3 := Lib.hid y3
          clear hb hE hcall hln hkn hp0 hp1 hA hgt2 hgg2 htt2 y3 hkl
          go_wp2_with fail
          refine IS1.out.mono ?_
          rintro e w4 ⟨rfl, hb4⟩
          have Hb4 := Lib.hid hb4
          clear e0 e1 e2 e3 e4 e5 e6 e7 IS1 hb4
          have Hb24 := Lib.hid (Gr.trans Hb.out Hb4.out)
          have T0 := Lib.hid ((Hb4.out.cell (World.block_lt_of_cell? _ _ He0.out)).trans He0.out); have T1 := Lib.hid ((Hb4.out.cell (World.block_lt_of_cell? _ _ He1.out)).trans He1.out); have T2 := Lib.hid ((Hb4.out.cell (World.block_lt_of_cell? _ _ He2.out)).trans He2.out); have T3 := Lib.hid ((Hb4.out.cell (World.block_lt_of_cell? _ _ He3.out)).trans He3.out); have T4 := Lib.hid ((Hb4.out.cell (World.block_lt_of_cell? _ _ He4.out)).trans He4.out); have T5 := Lib.hid ((Hb4.out.cell (World.block_lt_of_cell? _ _ He5.out)).trans He5.out); have T6 := Lib.hid ((Hb4.out.cell (World.block_lt_of_cell? _ _ He6.out)).trans He6.out); have T7 := Lib.hid ((Hb4.out.cell (World.block_lt_of_cell? _ _ He7.out)).trans He7.out); have U3 := Lib.hid ((Hb4.out.cell (World.block_lt_of_cell? _ _ Hy3.out)).trans Hy3.out)
          cases pi1 with
          | true =>
            have hq0 : pi0 = false := hpp rfl
            subst hq0
            clear hpp
            as_aux_lemma =>
            go_upto_region 13 with fail
            go_loopw [11, 52] (fun tv i wq => ∃ q : Nat, q ≤ en ∧ i = .int .i64 q ∧ Below w4.heap.size w4 wq ∧ tv = .bool ((rp.evs.take q).any (tkP calls A rs))) (fun _ i _ => en - (intOf i).toNat)
            case atStart => exact ⟨0, Nat.zero_le _, rfl, Gr.refl _, by rw [List.take_zero]; rfl⟩
            case round =>
              obtain ⟨q, hq, rfl, hbq, rfl⟩ := hrel
              obtain ⟨wi, rfl⟩ : ∃ wi, wi = wr := ⟨_, rfl⟩
              obtain ⟨t, ht⟩ : ∃ t, t = (rp.evs.take q).any (tkP calls A rs) := ⟨_, rfl⟩
              rw [← ht]
              have Hbq := Lib.hid hbq
              by_cases hlq : q < en
              · obtain ⟨g', la1, lc1, ka1, kc1, hgg, _, f0, f1, f2, f3, f4, f5, f6, f7, _, _, _⟩ := Hrep.out.ev8 Hen.out hlq (Gr.trans Hb24.out hbq)
                cases hgg
                have hql : q < rp.evs.length := by rw [← Hen.out]; exact hlq
                have hcall := Hg.out.call q hql
                obtain ⟨E, hE⟩ : ∃ E, E = evAt rp.evs q := ⟨_, rfl⟩
                have hgg := Hgg.out q hql
                have hany := any_take_succ (tkP calls A rs) rp.evs q hql
                rw [← ht] at hany
                rw [← hE] at f0 f1 f2 f3 f4 f5 f6 f7 hcall hgg hany
                obtain ⟨p0, hp0⟩ : ∃ p0, p0 = pIs calls 0 E := ⟨_, rfl⟩
                obtain ⟨p1, hp1⟩ : ∃ p1, p1 = pIs calls 1 E := ⟨_, rfl⟩
                have hpp : p0 = true → p1 = false := fun h => by rw [hp1]; exact pIs_not1 (by rw [← hp0]; exact h)
                have hany2 : (rp.evs.take (q + 1)).any (tkP calls A rs) = (t || (p0 && decide (E.resp < rs) && decide (E.ans.val = A))) := by rw [hp0]; exact hany
                have hgg2 : k ≠ q → p1 = true → (calls.getD E.call Proofs.Ytjkgfkbanbhkgaa.d0).a ≠ A := fun h1 h2 => hgg h1 (by trivial) (by rw [← hp1]; exact h2)
                clear hany hgg
                obtain ⟨cJ, jv, js, jt, ⟨jr, jl, ji⟩, jy⟩ := E
                simp only at f0 f1 f2 f3 f4 f5 f6 f7 hcall
                obtain ⟨jln, hln⟩ : ∃ ln, ln = ji.length := ⟨_, rfl⟩
                obtain ⟨jkn, hkn⟩ : ∃ kn, kn = jy.length := ⟨_, rfl⟩
                rw [← hln] at f6
                rw [← hkn] at f7
                obtain ⟨b8, off8, hcc, _, _, _, v3, _, _⟩ := call_at Hc2.out.sl hcall (Gr.trans Hb24.out hbq)
                cases hcc
                have Is0 := Lib.hid (fun (n : GrownOf wi) => is_any Hc2.out.sl cc cJ jv js jt jr jl (.slice la1 jln lc1) (.slice ka1 jkn kc1) 0 hcall n.u (Gr.trans (Gr.trans Hb24.out hbq) n.below))
                have Is1 := Lib.hid (fun (n : GrownOf wi) => is_any Hc2.out.sl cc cJ jv js jt jr jl (.slice la1 jln lc1) (.slice ka1 jkn kc1) 1 hcall n.u (Gr.trans (Gr.trans Hb24.out hbq) n.below))
                rw [show isV calls cJ js jr 0 = p0 from hp0.symm] at Is0
                rw [show isV calls cJ js jr 1 = p1 from hp1.symm] at Is1
                obtain ⟨B, hB⟩ : ∃ B, B = (calls.getD cJ Proofs.Ytjkgfkbanbhkgaa.d0).a := ⟨_, rfl⟩
                have v3 : wi.cell? ⟨b9, off + cJ * 6 + 3, none⟩ = some (.int .u64 (B : Int)) := by rw [hB]; exact v3
                have m2 : (cJ : Int) < (calls.length : Int) := by omega
                have m4 : (0 : Int) ≤ (cJ : Int) := by omega
                have i0 := (hbq.cell (World.block_lt_of_cell? _ _ T0.out)).trans T0.out; have i2 := (hbq.cell (World.block_lt_of_cell? _ _ T2.out)).trans T2.out
                have i3 := (hbq.cell (World.block_lt_of_cell? _ _ U3.out)).trans U3.out
                simp only at hany2 hgg2
                rw [← hB] at hgg2
                have m1 : (q : Int) < (en : Int) := by omega
                have F0 := grown_cell f0; have F1 := grown_cell f1; have F2 := grown_cell f2; have F3 := grown_cell f3; have F4 := grown_cell f4; have F5 := grown_cell f5; have F6 := grown_cell f6; have F7 := grown_cell f7
                have V3 := grown_cell v3; have I0 := grown_cell i0; have I2 := grown_cell i2; have I3 := grown_cell i3
                have HA := Lib.hid hany2; have HG := Lib.hid hgg2
                clear f0 f1 f2 f3 f4 f5 f6 f7 v3 i0 i2 i3 hE hbq hcall hln hkn hany2 hgg2 ht hql hp0 hp1 hB
                go_wp2_with fail
                go_upto_region 15 with fail
                go_cut [52, 86] from 52 to 127 (fun i v wx => i = .int .i64 (q : Int) ∧ v = .bool false ∧ Below wi.heap.size wi wx)
                case first =>
                  as_aux_lemma =>
                  clear HA
                  by_cases hqk : q = k
                  · subst hqk
                    ((with_reducible refine wp_region_grown_lit (by kernel_rfl) (by kernel_rfl) ?_); (repeat (first | go_big_quiet_skip | (go_big_quiet_want; go_big_quiet_op; first | go_big_quiet_on | ((with_reducible apply Exists.intro); (with_reducible refine ⟨fun _ => ?_, ?_⟩); ((go_at_call 42; first | exact quietG (Is1.out _) | exact quietGS (Is1.out _))); go_big_quiet_on)) | ((with_reducible refine wpQuiet_step (fun K hK => ?_)); go_simp; first | ((with_reducible refine hK _ ?_); clear hK K) | ((with_reducible apply Exists.intro); (with_reducible refine ⟨fun _ => ?_, hK _ ?_⟩); ((go_at_call 42; first | exact quietG (Is1.out _) | exact quietGS (Is1.out _))); clear hK K)))); (with_reducible refine wpQuiet_nil ?_); intro _ hw'; obtain ⟨nq, hw''⟩ := hw'; subst hw'')
                    go_wp2
                    go_meet
                    exact ⟨rfl, rfl, nq.below⟩
                  · have hqk1 : ¬ (q : Int) = (k : Int) := by omega
                    have hqk2 : ((q : Int) != (k : Int)) = true := bneT hqk
                    cases p1 with
                    | true =>
                      have hAB := HG.out (fun h => hqk h.symm) rfl
                      have hAB1 : ((B : Int) == (A : Int)) = false := beqF hAB
                      have hAB2 : ¬ (B : Int) = (A : Int) := by omega
                      clear hAB hqk
                      ((with_reducible refine wp_region_grown_lit (by kernel_rfl) (by kernel_rfl) ?_); (repeat (first | go_big_quiet_skip | (go_big_quiet_want; go_big_quiet_op; first | go_big_quiet_on | ((with_reducible apply Exists.intro); (with_reducible refine ⟨fun _ => ?_, ?_⟩); ((go_at_call 42; first | exact quietG (Is1.out _) | exact quietGS (Is1.out _))); go_big_quiet_on)) | ((with_reducible refine wpQuiet_step (fun K hK => ?_)); go_simp; first | ((with_reducible refine hK _ ?_); clear hK K) | ((with_reducible apply Exists.intro); (with_reducible refine ⟨fun _ => ?_, hK _ ?_⟩); ((go_at_call 42; first | exact quietG (Is1.out _) | exact quietGS (Is1.out _))); clear hK K)))); (with_reducible refine wpQuiet_nil ?_); intro _ hw'; obtain ⟨nq, hw''⟩ := hw'; subst hw'')
                      go_wp2
                      go_meet
                      exact ⟨rfl, rfl, nq.below⟩
                    | false =>
                      clear hqk
                      ((with_reducible refine wp_region_grown_lit (by kernel_rfl) (by kernel_rfl) ?_); (repeat (first | go_big_quiet_skip | (go_big_quiet_want; go_big_quiet_op; first | go_big_quiet_on | ((with_reducible apply Exists.intro); (with_reducible refine ⟨fun _ => ?_, ?_⟩); ((go_at_call 42; first | exact quietG (Is1.out _) | exact quietGS (Is1.out _))); go_big_quiet_on)) | ((with_reducible refine wpQuiet_step (fun K hK => ?_)); go_simp; first | ((with_reducible refine hK _ ?_); clear hK K) | ((with_reducible apply Exists.intro); (with_reducible refine ⟨fun _ => ?_, hK _ ?_⟩); ((go_at_call 42; first | exact quietG (Is1.out _) | exact quietGS (Is1.out _))); clear hK K)))); (with_reducible refine wpQuiet_nil ?_); intro _ hw'; obtain ⟨nq, hw''⟩ := hw'; subst hw'')
                      go_wp2
                      go_meet
                      exact ⟨rfl, rfl, nq.below⟩
                case rest =>
                  obtain ⟨rfl, rfl, hn⟩ := hcut
                  obtain ⟨w5, rfl⟩ : ∃ w5, w5 = wc := ⟨_, rfl⟩
                  have Hn := Lib.hid hn
                  obtain ⟨nq, hnq⟩ : ∃ nq : GrownOf wi, nq.u = w5 := ⟨⟨w5, hn⟩, rfl⟩
                  have f0 := F0 nq; have f1 := F1 nq; have f2 := F2 nq; have f3 := F3 nq; have f4 := F4 nq; have f5 := F5 nq; have f6 := F6 nq; have f7 := F7 nq; have v3 := V3 nq; have i0 := I0 nq; have i2 := I2 nq; have i3 := I3 nq
                  rw [hnq] at f0 f1 f2 f3 f4 f5 f6 f7 v3 i0 i2 i3
                  clear F0 F1 F2 F3 F4 F5 F6 F7 V3 I0 I2 I3 hn hnq nq
                  have IS0b := Lib.hid (fun (n : GrownOf w5) => Is0.out ⟨n.u, Gr.trans Hn.out n.below⟩)
                  have F0 := grown_cell f0; have F1 := grown_cell f1; have F2 := grown_cell f2; have F3 := grown_cell f3; have F4 := grown_cell f4; have F5 := grown_cell f5; have F6 := grown_cell f6; have F7 := grown_cell f7
                  have V3 := grown_cell v3; have I0 := grown_cell i0; have I2 := grown_cell i2; have I3 := grown_cell i3
                  clear f0 f1 f2 f3 f4 f5 f6 f7 v3 i0 i2 i3
                  go_upto_region 17 with fail
                  cases t with
                  | true =>
                    have HR := Lib.hid (show (rp.evs.take (q + 1)).any (tkP calls A rs) = true by rw [HA.out]; first | rfl | (simp; done) | (simp; omega))
                    clear HA HG
                    as_aux_lemma =>
                    ((with_reducible refine wp_region_grown_lit (by kernel_rfl) (by kernel_rfl) ?_); (repeat (first | go_big_quiet_skip | (go_big_quiet_want; go_big_quiet_op; first | go_big_quiet_on | ((with_reducible apply Exists.intro); (with_reducible refine ⟨fun _ => ?_, ?_⟩); ((go_at_call 42; first | exact quietG (IS0b.out _) | exact quietGS (IS0b.out _))); go_big_quiet_on)) | ((with_reducible refine wpQuiet_step (fun K hK => ?_)); go_simp; first | ((with_reducible refine hK _ ?_); clear hK K) | ((with_reducible apply Exists.intro); (with_reducible refine ⟨fun _ => ?_, hK _ ?_⟩); ((go_at_call 42; first | exact quietG (IS0b.out _) | exact quietGS (IS0b.out _))); clear hK K)))); (with_reducible refine wpQuiet_nil ?_); intro _ hw'; obtain ⟨nq, hw''⟩ := hw'; subst hw'')
                    have Hz := Lib.hid (Gr.trans Hbq.out (Gr.trans Hn.out nq.below))
                    clear F0 F1 F2 F3 F4 F5 F6 F7 V3 I0 I2 I3
                    go_wp2
                    go_roundw
                    case rel => first | exact ⟨q + 1, by omega, by go_num, Hz.out, by rw [HR.out]⟩ | ((repeat (with_reducible apply Exists.intro)); exact ⟨⟨q + 1, by omega, by go_num, Hz.out, by rw [HR.out]⟩, rfl⟩)
                    case measure => simp [intOf] <;> omega
                  | false =>
                    cases p0 with
                    | false =>
                      have HR := Lib.hid (show (rp.evs.take (q + 1)).any (tkP calls A rs) = false by rw [HA.out]; first | rfl | (simp; done) | (simp; omega))
                      clear HA HG
                      as_aux_lemma =>
                      ((with_reducible refine wp_region_grown_lit (by kernel_rfl) (by kernel_rfl) ?_); (repeat (first | go_big_quiet_skip | (go_big_quiet_want; go_big_quiet_op; first | go_big_quiet_on | ((with_reducible apply Exists.intro); (with_reducible refine ⟨fun _ => ?_, ?_⟩); ((go_at_call 42; first | exact quietG (IS0b.out _) | exact quietGS (IS0b.out _))); go_big_quiet_on)) | ((with_reducible refine wpQuiet_step (fun K hK => ?_)); go_simp; first | ((with_reducible refine hK _ ?_); clear hK K) | ((with_reducible apply Exists.intro); (with_reducible refine ⟨fun _ => ?_, hK _ ?_⟩); ((go_at_call 42; first | exact quietG (IS0b.out _) | exact quietGS (IS0b.out _))); clear hK K)))); (with_reducible refine wpQuiet_nil ?_); intro _ hw'; obtain ⟨nq, hw''⟩ := hw'; subst hw'')
                      have Hz := Lib.hid (Gr.trans Hbq.out (Gr.trans Hn.out nq.below))
                      clear F0 F1 F2 F3 F4 F5 F6 F7 V3 I0 I2 I3
                      go_wp2
                      go_roundw
                      case rel => first | exact ⟨q + 1, by omega, by go_num, Hz.out, by rw [HR.out]⟩ | ((repeat (with_reducible apply Exists.intro)); exact ⟨⟨q + 1, by omega, by go_num, Hz.out, by rw [HR.out]⟩, rfl⟩)
                      case measure => simp [intOf] <;> omega
                    | true =>
                      by_cases hjs : js < rs
                      · have s1 : (js : Int) < (rs : Int) := by omega
                        by_cases hv : jl = A
                        · have hv1 : ((jl : Int) == (A : Int)) = true := beqT hv
                          have HR0 := Lib.hid (show (true && decide (js < rs) && decide (jl = A)) = true by rw [decide_eq_true hjs, decide_eq_true hv]; rfl)
                          have HA := Lib.hid (HA.out.trans (by rw [HR0.out] : (false || (true && decide (js < rs) && decide (jl = A))) = (false || true)))
                          clear hv hjs
                          have HR := Lib.hid (show (rp.evs.take (q + 1)).any (tkP calls A rs) = true by rw [HA.out]; first | rfl | (simp; done) | (simp; omega))
                          clear HA HG
                          as_aux_lemma =>
                          ((with_reducible refine wp_region_grown_lit (by kernel_rfl) (by kernel_rfl) ?_); (repeat (first | go_big_quiet_skip | (go_big_quiet_want; go_big_quiet_op; first | go_big_quiet_on | ((with_reducible apply Exists.intro); (with_reducible refine ⟨fun _ => ?_, ?_⟩); ((go_at_call 42; first | exact quietG (IS0b.out _) | exact quietGS (IS0b.out _))); go_big_quiet_on)) | ((with_reducible refine wpQuiet_step (fun K hK => ?_)); go_simp; first | ((with_reducible refine hK _ ?_); clear hK K) | ((with_reducible apply Exists.intro); (with_reducible refine ⟨fun _ => ?_, hK _ ?_⟩); ((go_at_call 42; first | exact quietG (IS0b.out _) | exact quietGS (IS0b.out _))); clear hK K)))); (with_reducible refine wpQuiet_nil ?_); intro _ hw'; obtain ⟨nq, hw''⟩ := hw'; subst hw'')
                          have Hz := Lib.hid (Gr.trans Hbq.out (Gr.trans Hn.out nq.below))
                          clear F0 F1 F2 F3 F4 F5 F6 F7 V3 I0 I2 I3
                          go_wp2
                          go_roundw
                          case rel => first | exact ⟨q + 1, by omega, by go_num, Hz.out, by rw [HR.out]⟩ | ((repeat (with_reducible apply Exists.intro)); exact ⟨⟨q + 1, by omega, by go_num, Hz.out, by rw [HR.out]⟩, rfl⟩)
                          case measure => simp [intOf] <;> omega
                        · have hv1 : ((jl : Int) == (A : Int)) = false := beqF hv
                          have HR0 := Lib.hid (show (true && decide (js < rs) && decide (jl = A)) = false by rw [decide_eq_false hv]; simp)
                          have HA := Lib.hid (HA.out.trans (by rw [HR0.out] : (false || (true && decide (js < rs) && decide (jl = A))) = (false || false)))
                          clear hv hjs
                          have HR := Lib.hid (show (rp.evs.take (q + 1)).any (tkP calls A rs) = false by rw [HA.out]; first | rfl | (simp; done) | (simp; omega))
                          clear HA HG
                          as_aux_lemma =>
                          ((with_reducible refine wp_region_grown_lit (by kernel_rfl) (by kernel_rfl) ?_); (repeat (first | go_big_quiet_skip | (go_big_quiet_want; go_big_quiet_op; first | go_big_quiet_on | ((with_reducible apply Exists.intro); (with_reducible refine ⟨fun _ => ?_, ?_⟩); ((go_at_call 42; first | exact quietG (IS0b.out _) | exact quietGS (IS0b.out _))); go_big_quiet_on)) | ((with_reducible refine wpQuiet_step (fun K hK => ?_)); go_simp; first | ((with_reducible refine hK _ ?_); clear hK K) | ((with_reducible apply Exists.intro); (with_reducible refine ⟨fun _ => ?_, hK _ ?_⟩); ((go_at_call 42; first | exact quietG (IS0b.out _) | exact quietGS (IS0b.out _))); clear hK K)))); (with_reducible refine wpQuiet_nil ?_); intro _ hw'; obtain ⟨nq, hw''⟩ := hw'; subst hw'')
                          have Hz := Lib.hid (Gr.trans Hbq.out (Gr.trans Hn.out nq.below))
                          clear F0 F1 F2 F3 F4 F5 F6 F7 V3 I0 I2 I3
                          go_wp2
                          go_roundw
                          case rel => first | exact ⟨q + 1, by omega, by go_num, Hz.out, by rw [HR.out]⟩ | ((repeat (with_reducible apply Exists.intro)); exact ⟨⟨q + 1, by omega, by go_num, Hz.out, by rw [HR.out]⟩, rfl⟩)
                          case measure => simp [intOf] <;> omega
                      · have s1 : ¬ (js : Int) < (rs : Int) := by omega
                        have HR0 := Lib.hid (show (true && decide (js < rs) && decide (jl = A)) = false by rw [decide_eq_false hjs]; simp)
                        have HA := Lib.hid (HA.out.trans (by rw [HR0.out] : (false || (true && decide (js < rs) && decide (jl = A))) = (false || false)))
                        clear hjs
                        have HR := Lib.hid (show (rp.evs.take (q + 1)).any (tkP calls A rs) = false by rw [HA.out]; first | rfl | (simp; done) | (simp; omega))
                        clear HA HG
                        as_aux_lemma =>
                        ((with_reducible refine wp_region_grown_lit (by kernel_rfl) (by kernel_rfl) ?_); (repeat (first | go_big_quiet_skip | (go_big_quiet_want; go_big_quiet_op; first | go_big_quiet_on | ((with_reducible apply Exists.intro); (with_reducible refine ⟨fun _ => ?_, ?_⟩); ((go_at_call 42; first | exact quietG (IS0b.out _) | exact quietGS (IS0b.out _))); go_big_quiet_on)) | ((with_reducible refine wpQuiet_step (fun K hK => ?_)); go_simp; first | ((with_reducible refine hK _ ?_); clear hK K) | ((with_reducible apply Exists.intro); (with_reducible refine ⟨fun _ => ?_, hK _ ?_⟩); ((go_at_call 42; first | exact quietG (IS0b.out _) | exact quietGS (IS0b.out _))); clear hK K)))); (with_reducible refine wpQuiet_nil ?_); intro _ hw'; obtain ⟨nq, hw''⟩ := hw'; subst hw'')
                        have Hz := Lib.hid (Gr.trans Hbq.out (Gr.trans Hn.out nq.below))
                        clear F0 F1 F2 F3 F4 F5 F6 F7 V3 I0 I2 I3
                        go_wp2
                        go_roundw
                        case rel => first | exact ⟨q + 1, by omega, by go_num, Hz.out, by rw [HR.out]⟩ | ((repeat (with_reducible apply Exists.intro)); exact ⟨⟨q + 1, by omega, by go_num, Hz.out, by rw [HR.out]⟩, rfl⟩)
                        case measure => simp [intOf] <;> omega
              · have m1 : ¬ (q : Int) < (en : Int) := by omega
                obtain rfl : q = en := by omega
                have htr : t = true := by
                  rw [ht, List.take_of_length_le (by rw [← Hen.out]; exact Nat.le_refl _)]
                  obtain ⟨j, j1, j2, j3, j4⟩ := Hgt.out (by trivial)
                  exact any_at j1 (by unfold tkP; rw [j2, decide_eq_true j3, decide_eq_true j4]; rfl)
                subst htr
                have Is0 := Lib.hid (IS0.out wi (Gr.trans Hb4.out hbq))
                have e0 := (hbq.cell (World.block_lt_of_cell? _ _ T0.out)).trans T0.out; have e1 := (hbq.cell (World.block_lt_of_cell? _ _ T1.out)).trans T1.out; have e2 := (hbq.cell (World.block_lt_of_cell? _ _ T2.out)).trans T2.out; have e3 := (hbq.cell (World.block_lt_of_cell? _ _ T3.out)).trans T3.out; have e4 := (hbq.cell (World.block_lt_of_cell? _ _ T4.out)).trans T4.out; have e5 := (hbq.cell (World.block_lt_of_cell? _ _ T5.out)).trans T5.out; have e6 := (hbq.cell (World.block_lt_of_cell? _ _ T6.out)).trans T6.out; have e7 := (hbq.cell (World.block_lt_of_cell? _ _ T7.out)).trans T7.out
                have Hz := Lib.hid (Gr.trans Hb24.out hbq)
                clear ht hbq
                go_wp2_with fail
                refine Is0.out.mono ?_
                rintro e w6 ⟨rfl, hb6⟩
                have Hb6 := Lib.hid hb6
                clear e0 e1 e2 e3 e4 e5 e6 e7 Is0 hb6
                go_wp2
                go_roundw
                case rel => first | exact ⟨k + 1, by omega, by go_num, Gr.trans Hz.out Hb6.out⟩ | ((repeat (with_reducible apply Exists.intro)); exact ⟨⟨k + 1, by omega, by go_num, Gr.trans Hz.out Hb6.out⟩, rfl⟩)
                case measure => simp [intOf] <;> omega
          | false =>
            clear hpp
            as_aux_lemma =>
            have Is0 := Lib.hid (IS0.out w4 Hb4.out)
            have e0 := T0.out; have e1 := T1.out; have e2 := T2.out; have e3 := T3.out; have e4 := T4.out; have e5 := T5.out; have e6 := T6.out; have e7 := T7.out
            go_wp2_with fail
            refine Is0.out.mono ?_
            rintro e w6 ⟨rfl, hb6⟩
            have Hb6 := Lib.hid (Gr.trans Hb24.out hb6)
            have Hb64 := Lib.hid hb6
            clear e0 e1 e2 e3 e4 e5 e6 e7 Is0 hb6
            cases pi0 with
            | false =>
              go_wp2
              go_roundw
              case rel => exact ⟨k + 1, by omega, by go_num, Hb6.out⟩
              case measure => simp [intOf] <;> omega
            | true =>
              go_upto_region 23 with fail
              go_loopw [139] (fun i wq => ∃ q : Nat, q ≤ en ∧ i = .int .i64 q ∧ Below w6.heap.size w6 wq) (fun i _ => en - (intOf i).toNat)
              case atStart => exact ⟨0, Nat.zero_le _, rfl, Gr.refl _⟩
              case round =>
                obtain ⟨q, hq, rfl, hbq⟩ := hrel
                obtain ⟨wi, rfl⟩ : ∃ wi, wi = wr := ⟨_, rfl⟩
                have Hbq := Lib.hid hbq
                by_cases hlq : q < en
                · obtain ⟨g', la1, lc1, ka1, kc1, hgg, _, f0, f1, f2, f3, f4, f5, f6, f7, _, _, _⟩ := Hrep.out.ev8 Hen.out hlq (Gr.trans Hb6.out hbq)
                  cases hgg
                  have hql : q < rp.evs.length := by rw [← Hen.out]; exact hlq
                  have hcall := Hg.out.call q hql
                  obtain ⟨E, hE⟩ : ∃ E, E = evAt rp.evs q := ⟨_, rfl⟩
                  have htt := Htt.out q hql
                  rw [← hE] at f0 f1 f2 f3 f4 f5 f6 f7 hcall htt
                  obtain ⟨p0, hp0⟩ : ∃ p0, p0 = pIs calls 0 E := ⟨_, rfl⟩
                  obtain ⟨p1, hp1⟩ : ∃ p1, p1 = pIs calls 1 E := ⟨_, rfl⟩
                  have hpp : p0 = true → p1 = false := fun h => by rw [hp1]; exact pIs_not1 (by rw [← hp0]; exact h)
                  have htt2 : k ≠ q → p0 = true → vl % 1024 = E.ans.val % 1024 → E.ans.val ≠ vl ∧ (rs < E.resp ∨ ∃ m, m < rp.evs.length ∧ pIs calls 1 (evAt rp.evs m) = true ∧ argOf calls (evAt rp.evs m) = E.ans.val ∧ (evAt rp.evs m).resp < rs) := fun h1 h2 => htt h1 (by trivial) (by rw [← hp0]; exact h2)
                  clear htt
                  obtain ⟨cJ, jv, js, jt, ⟨jr, jl, ji⟩, jy⟩ := E
                  simp only at f0 f1 f2 f3 f4 f5 f6 f7 hcall
                  obtain ⟨jln, hln⟩ : ∃ ln, ln = ji.length := ⟨_, rfl⟩
                  obtain ⟨jkn, hkn⟩ : ∃ kn, kn = jy.length := ⟨_, rfl⟩
                  rw [← hln] at f6
                  rw [← hkn] at f7
                  obtain ⟨b8, off8, hcc, _, _, _, v3, _, _⟩ := call_at Hc2.out.sl hcall (Gr.trans Hb6.out hbq)
                  cases hcc
                  have Is0 := Lib.hid (fun (n : GrownOf wi) => is_any Hc2.out.sl cc cJ jv js jt jr jl (.slice la1 jln lc1) (.slice ka1 jkn kc1) 0 hcall n.u (Gr.trans (Gr.trans Hb6.out hbq) n.below))
                  have Is1 := Lib.hid (fun (n : GrownOf wi) => is_any Hc2.out.sl cc cJ jv js jt jr jl (.slice la1 jln lc1) (.slice ka1 jkn kc1) 1 hcall n.u (Gr.trans (Gr.trans Hb6.out hbq) n.below))
                  rw [show isV calls cJ js jr 0 = p0 from hp0.symm] at Is0
                  rw [show isV calls cJ js jr 1 = p1 from hp1.symm] at Is1
                  obtain ⟨B, hB⟩ : ∃ B, B = (calls.getD cJ Proofs.Ytjkgfkbanbhkgaa.d0).a := ⟨_, rfl⟩
                  have v3 : wi.cell? ⟨b9, off + cJ * 6 + 3, none⟩ = some (.int .u64 (B : Int)) := by rw [hB]; exact v3
                  have m2 : (cJ : Int) < (calls.length : Int) := by omega
                  have m4 : (0 : Int) ≤ (cJ : Int) := by omega
                  have hb64q := Gr.trans Hb64.out hbq
                  have i2 := (hb64q.cell (World.block_lt_of_cell? _ _ T2.out)).trans T2.out; have i5 := (hb64q.cell (World.block_lt_of_cell? _ _ T5.out)).trans T5.out
                  simp only at htt2
                  have m1 : (q : Int) < (en : Int) := by omega
                  have F0 := grown_cell f0; have F1 := grown_cell f1; have F2 := grown_cell f2; have F3 := grown_cell f3; have F4 := grown_cell f4; have F5 := grown_cell f5; have F6 := grown_cell f6; have F7 := grown_cell f7
                  have V3 := grown_cell v3; have I2 := grown_cell i2; have I5 := grown_cell i5
                  have HT := Lib.hid htt2
                  clear f0 f1 f2 f3 f4 f5 f6 f7 v3 i2 i5 hE hbq hb64q hcall hln hkn htt2 hql hp0 hp1 hB hpp
                  go_wp2_with fail
                  go_upto_region 25 with fail
                  go_cut [139, 170] from 139 to 243 (fun i v wx => i = .int .i64 (q : Int) ∧ Below wi.heap.size wi wx ∧ ∃ b : Bool, v = .bool b ∧ (b = false → q ≠ k ∧ p0 = true ∧ vl % 1024 = jl % 1024))
                  case first =>
                    as_aux_lemma =>
                    clear HT
                    by_cases hqk : q = k
                    · subst hqk
                      ((with_reducible refine wp_region_grown_lit (by kernel_rfl) (by kernel_rfl) ?_); (repeat (first | go_big_quiet_skip | (go_big_quiet_want; go_big_quiet_op; first | go_big_quiet_on | ((with_reducible apply Exists.intro); (with_reducible refine ⟨fun _ => ?_, ?_⟩); ((go_at_call 42; first | exact quietG (Is0.out _) | exact quietGS (Is0.out _))); go_big_quiet_on)) | ((with_reducible refine wpQuiet_step (fun K hK => ?_)); go_simp; first | ((with_reducible refine hK _ ?_); clear hK K) | ((with_reducible apply Exists.intro); (with_reducible refine ⟨fun _ => ?_, hK _ ?_⟩); ((go_at_call 42; first | exact quietG (Is0.out _) | exact quietGS (Is0.out _))); clear hK K)))); (with_reducible refine wpQuiet_nil ?_); intro _ hw'; obtain ⟨nq, hw''⟩ := hw'; subst hw'')
                      go_wp2
                      go_meet
                      exact ⟨rfl, nq.below, true, rfl, fun h => nomatch h⟩
                    · have hqk1 : ¬ (q : Int) = (k : Int) := by omega
                      have hqk2 : ((q : Int) == (k : Int)) = false := beqF hqk
                      have Hqk := Lib.hid hqk
                      clear hqk
                      cases p0 with
                      | false =>
                        ((with_reducible refine wp_region_grown_lit (by kernel_rfl) (by kernel_rfl) ?_); (repeat (first | go_big_quiet_skip | (go_big_quiet_want; go_big_quiet_op; first | go_big_quiet_on | ((with_reducible apply Exists.intro); (with_reducible refine ⟨fun _ => ?_, ?_⟩); ((go_at_call 42; first | exact quietG (Is0.out _) | exact quietGS (Is0.out _))); go_big_quiet_on)) | ((with_reducible refine wpQuiet_step (fun K hK => ?_)); go_simp; first | ((with_reducible refine hK _ ?_); clear hK K) | ((with_reducible apply Exists.intro); (with_reducible refine ⟨fun _ => ?_, hK _ ?_⟩); ((go_at_call 42; first | exact quietG (Is0.out _) | exact quietGS (Is0.out _))); clear hK K)))); (with_reducible refine wpQuiet_nil ?_); intro _ hw'; obtain ⟨nq, hw''⟩ := hw'; subst hw'')
                        go_wp2
                        go_meet
                        exact ⟨rfl, nq.below, true, rfl, fun h => nomatch h⟩
                      | true =>
                        have a1t : (jl : Int).tmod 1024 = ((jl % 1024 : Nat) : Int) := by rw [Int.tmod_eq_emod_of_nonneg (by omega)]; simp
                        have a2t : (vl : Int).tmod 1024 = ((vl % 1024 : Nat) : Int) := by rw [Int.tmod_eq_emod_of_nonneg (by omega)]; simp
                        obtain ⟨Q1', hQ1⟩ : ∃ x, x = jl % 1024 := ⟨_, rfl⟩
                        obtain ⟨Q2', hQ2⟩ : ∃ x, x = vl % 1024 := ⟨_, rfl⟩
                        rw [← hQ1] at a1t
                        rw [← hQ2] at a2t
                        have hQl : Q1' < 1024 ∧ Q2' < 1024 := by omega
                        have a3 : IntKind.u64.wrap (Q1' : Int) = (Q1' : Int) := by rw [IntKind.wrap_u64]; omega
                        have a4 : IntKind.u64.wrap (Q2' : Int) = (Q2' : Int) := by rw [IntKind.wrap_u64]; omega
                        have a5 : (jl : Int) % 1024 = (Q1' : Int) := by omega
                        have a6 : (vl : Int) % 1024 = (Q2' : Int) := by omega
                        have HQ := Lib.hid (show Q2' = Q1' → vl % 1024 = jl % 1024 by omega)
                        clear hQ1 hQ2 hQl
                        by_cases hQ : Q1' = Q2'
                        · have hQQ : ((Q1' : Int) != (Q2' : Int)) = false := bneF hQ
                          subst hQ
                          ((with_reducible refine wp_region_grown_lit (by kernel_rfl) (by kernel_rfl) ?_); (repeat (first | go_big_quiet_skip | (go_big_quiet_want; go_big_quiet_op; first | go_big_quiet_on | ((with_reducible apply Exists.intro); (with_reducible refine ⟨fun _ => ?_, ?_⟩); ((go_at_call 42; first | exact quietG (Is0.out _) | exact quietGS (Is0.out _))); go_big_quiet_on)) | ((with_reducible refine wpQuiet_step (fun K hK => ?_)); go_simp; first | ((with_reducible refine hK _ ?_); clear hK K) | ((with_reducible apply Exists.intro); (with_reducible refine ⟨fun _ => ?_, hK _ ?_⟩); ((go_at_call 42; first | exact quietG (Is0.out _) | exact quietGS (Is0.out _))); clear hK K)))); (with_reducible refine wpQuiet_nil ?_); intro _ hw'; obtain ⟨nq, hw''⟩ := hw'; subst hw'')
                          go_wp2
                          go_meet
                          exact ⟨rfl, nq.below, false, by first | rfl | simp, fun _ => ⟨Hqk.out, by trivial, HQ.out (by trivial)⟩⟩
                        · have hQQ : ((Q1' : Int) != (Q2' : Int)) = true := bneT hQ
                          have hQ3 : ¬ (Q1' : Int) = (Q2' : Int) := by omega
                          clear hQ
                          ((with_reducible refine wp_region_grown_lit (by kernel_rfl) (by kernel_rfl) ?_); (repeat (first | go_big_quiet_skip | (go_big_quiet_want; go_big_quiet_op; first | go_big_quiet_on | ((with_reducible apply Exists.intro); (with_reducible refine ⟨fun _ => ?_, ?_⟩); ((go_at_call 42; first | exact quietG (Is0.out _) | exact quietGS (Is0.out _))); go_big_quiet_on)) | ((with_reducible refine wpQuiet_step (fun K hK => ?_)); go_simp; first | ((with_reducible refine hK _ ?_); clear hK K) | ((with_reducible apply Exists.intro); (with_reducible refine ⟨fun _ => ?_, hK _ ?_⟩); ((go_at_call 42; first | exact quietG (Is0.out _) | exact quietGS (Is0.out _))); clear hK K)))); (with_reducible refine wpQuiet_nil ?_); intro _ hw'; obtain ⟨nq, hw''⟩ := hw'; subst hw'')
                          go_wp2
                          go_meet
                          exact ⟨rfl, nq.below, true, by first | rfl | simp, fun h => nomatch h⟩
                  case rest =>
                    obtain ⟨rfl, hn, b, rfl, hfacts⟩ := hcut
                    obtain ⟨w7, rfl⟩ : ∃ w7, w7 = wc := ⟨_, rfl⟩
                    have Hn := Lib.hid hn
                    obtain ⟨nq, hnq⟩ : ∃ nq : GrownOf wi, nq.u = w7 := ⟨⟨w7, hn⟩, rfl⟩
                    have f2 := F2 nq; have f5 := F5 nq; have i2 := I2 nq; have i5 := I5 nq
                    rw [hnq] at f2 f5 i2 i5
                    clear F0 F1 F2 F3 F4 F5 F6 F7 V3 I2 I5 hn hnq nq
                    cases b with
                    | true =>
                      have Hz := Lib.hid (Gr.trans Hbq.out Hn.out)
                      clear hfacts f2 f5 i2 i5
                      go_wp2
                      go_roundw
                      case rel => first | exact ⟨q + 1, by omega, by go_num, Hz.out⟩ | ((repeat (with_reducible apply Exists.intro)); exact ⟨⟨q + 1, by omega, by go_num, Hz.out⟩, rfl⟩)
                      case measure => simp [intOf] <;> omega
                    | false =>
                      obtain ⟨h0, hp, hm⟩ := hfacts rfl
                      obtain ⟨h1, h2⟩ := HT.out (fun h => h0 h.symm) hp hm
                      have h3 : ((jl : Int) == (vl : Int)) = false := beqF h1
                      have h4 : ¬ (jl : Int) = (vl : Int) := by omega
                      have Hgv := Lib.hid h2
                      clear hfacts h0 hp hm h1 h2 HT
                      have F2 := grown_cell f2; have F5 := grown_cell f5; have I2 := grown_cell i2; have I5 := grown_cell i5
                      clear f2 f5 i2 i5
                      go_upto_region 26 with fail
                      ((with_reducible refine wp_region_grown_lit (by kernel_rfl) (by kernel_rfl) ?_); (repeat ((with_reducible refine wpQuiet_step (fun K hK => ?_)); go_simp; first | ((with_reducible refine hK _ ?_); clear hK K) | ((with_reducible apply Exists.intro); (with_reducible refine ⟨fun _ => ?_, hK _ ?_⟩); (fail); clear hK K))); (with_reducible refine wpQuiet_nil ?_); intro _ hw'; obtain ⟨nq, hw''⟩ := hw'; subst hw'')
                      obtain ⟨w8, hw8⟩ : ∃ w8, w8 = nq.u := ⟨_, rfl⟩
                      have Hn8 := Lib.hid nq.below
                      have f2 := F2 nq; have f5 := F5 nq; have i2 := I2 nq
                      rw [← hw8] at f2 f5 i2 Hn8 ⊢
                      clear F2 F5 I2 I5 hw8 nq
                      have F2 := grown_cell f2; have F5 := grown_cell f5; have I2 := grown_cell i2
                      clear f2 f5 i2
                      go_upto_region 28 with fail
                      ((with_reducible refine wp_region_grown_lit (by kernel_rfl) (by kernel_rfl) ?_); (repeat ((with_reducible refine wpQuiet_step (fun K hK => ?_)); go_simp; first | ((with_reducible refine hK _ ?_); clear hK K) | ((with_reducible apply Exists.intro); (with_reducible refine ⟨fun _ => ?_, hK _ ?_⟩); (fail); clear hK K))); (with_reducible refine wpQuiet_nil ?_); intro _ hw'; obtain ⟨nq, hw''⟩ := hw'; subst hw'')
                      obtain ⟨w9, hw9⟩ : ∃ w9, w9 = nq.u := ⟨_, rfl⟩
                      have hn9 := nq.below
                      have hf5 := F5 nq; have hi2 := I2 nq
                      rw [← hw9] at hf5 hi2 hn9 ⊢
                      have Hn9 := Lib.hid hn9; have Hf5 := Lib.hid hf5; have Hi2 := Lib.hid hi2
                      clear F2 F5 I2 hw9 hn9 hf5 hi2 nq
                      have Hb9 := Lib.hid (Gr.trans Hbq.out (Gr.trans Hn.out (Gr.trans Hn8.out Hn9.out)))
                      go_upto_region 30 with fail
                      go_loopw [14, 197] (fun tv i wq => ∃ r : Nat, r ≤ en ∧ i = .int .i64 r ∧ Below w9.heap.size w9 wq ∧ tv = .bool (decide (rs < js) || (rp.evs.take r).any (gvP calls jl rs))) (fun _ i _ => en - (intOf i).toNat)
                      case atStart => exact ⟨0, Nat.zero_le _, rfl, Gr.refl _, by rw [List.take_zero]; simp⟩
                      case round =>
                        obtain ⟨r, hr, rfl, hbr, rfl⟩ := hrel
                        obtain ⟨wx, rfl⟩ : ∃ wx, wx = wr := ⟨_, rfl⟩
                        obtain ⟨t, ht⟩ : ∃ t, t = (decide (rs < js) || (rp.evs.take r).any (gvP calls jl rs)) := ⟨_, rfl⟩
                        rw [← ht]
                        have Hbr := Lib.hid hbr
                        have hbx := Gr.trans Hb6.out (Gr.trans Hb9.out hbr)
                        have d5 := (hbr.cell (World.block_lt_of_cell? _ _ Hf5.out)).trans Hf5.out
                        have d2 := (hbr.cell (World.block_lt_of_cell? _ _ Hi2.out)).trans Hi2.out
                        by_cases hlr : r < en
                        · obtain ⟨g', la2, lc2, ka2, kc2, hgg, _, f0, f1, f2, f3, f4, f5, f6, f7, _, _, _⟩ := Hrep.out.ev8 Hen.out hlr hbx
                          cases hgg
                          have hrl : r < rp.evs.length := by rw [← Hen.out]; exact hlr
                          have hcall := Hg.out.call r hrl
                          have hany := any_take_succ (gvP calls jl rs) rp.evs r hrl
                          obtain ⟨E, hE⟩ : ∃ E, E = evAt rp.evs r := ⟨_, rfl⟩
                          rw [← hE] at f0 f1 f2 f3 f4 f5 f6 f7 hcall hany
                          obtain ⟨x1, hx1⟩ : ∃ p1, p1 = pIs calls 1 E := ⟨_, rfl⟩
                          have hany2 : (decide (rs < js) || (rp.evs.take (r + 1)).any (gvP calls jl rs)) = (t || (x1 && decide ((calls.getD E.call Proofs.Ytjkgfkbanbhkgaa.d0).a = jl) && decide (E.resp < rs))) := by
                            rw [hany, ht, hx1, ← Bool.or_assoc]; rfl
                          clear hany
                          obtain ⟨cR, rv, rr', rt, ⟨re, rl, ri⟩, ry⟩ := E
                          simp only at f0 f1 f2 f3 f4 f5 f6 f7 hcall hany2
                          obtain ⟨jln2, hln⟩ : ∃ ln, ln = ri.length := ⟨_, rfl⟩
                          obtain ⟨jkn2, hkn⟩ : ∃ kn, kn = ry.length := ⟨_, rfl⟩
                          rw [← hln] at f6
                          rw [← hkn] at f7
                          obtain ⟨b7, off7, hcc, _, _, _, v3, _, _⟩ := call_at Hc2.out.sl hcall hbx
                          cases hcc
                          have Is1x := Lib.hid (fun (n : GrownOf wx) => is_any Hc2.out.sl cc cR rv rr' rt re rl (.slice la2 jln2 lc2) (.slice ka2 jkn2 kc2) 1 hcall n.u (Gr.trans hbx n.below))
                          rw [show isV calls cR rr' re 1 = x1 from hx1.symm] at Is1x
                          obtain ⟨B2, hB2⟩ : ∃ B, B = (calls.getD cR Proofs.Ytjkgfkbanbhkgaa.d0).a := ⟨_, rfl⟩
                          have v3 : wx.cell? ⟨b9, off + cR * 6 + 3, none⟩ = some (.int .u64 (B2 : Int)) := by rw [hB2]; exact v3
                          rw [← hB2] at hany2
                          have o1 : (r : Int) < (en : Int) := by omega
                          have o2 : (cR : Int) < (calls.length : Int) := by omega
                          have o4 : (0 : Int) ≤ (cR : Int) := by omega
                          have F0 := grown_cell f0; have F1 := grown_cell f1; have F2 := grown_cell f2; have F3 := grown_cell f3; have F4 := grown_cell f4; have F5 := grown_cell f5; have F6 := grown_cell f6; have F7 := grown_cell f7
                          have V3 := grown_cell v3; have D2 := grown_cell d2; have D5 := grown_cell d5
                          have HA := Lib.hid hany2
                          clear f0 f1 f2 f3 f4 f5 f6 f7 v3 d2 d5 hE hbr hbx hcall hln hkn hany2 ht hrl hx1 hB2
                          go_upto_region 32 with fail
                          cases t with
                          | true =>
                            have HR := Lib.hid (show (decide (rs < js) || (rp.evs.take (r + 1)).any (gvP calls jl rs)) = true by rw [HA.out]; first | rfl | (simp; done))
                            clear HA
                            as_aux_lemma =>
                            ((with_reducible refine wp_region_grown_lit (by kernel_rfl) (by kernel_rfl) ?_); (repeat (first | go_big_quiet_skip | (go_big_quiet_want; go_big_quiet_op; first | go_big_quiet_on | ((with_reducible apply Exists.intro); (with_reducible refine ⟨fun _ => ?_, ?_⟩); ((go_at_call 42; first | exact quietG (Is1x.out _) | exact quietGS (Is1x.out _))); go_big_quiet_on)) | ((with_reducible refine wpQuiet_step (fun K hK => ?_)); go_simp; first | ((with_reducible refine hK _ ?_); clear hK K) | ((with_reducible apply Exists.intro); (with_reducible refine ⟨fun _ => ?_, hK _ ?_⟩); ((go_at_call 42; first | exact quietG (Is1x.out _) | exact quietGS (Is1x.out _))); clear hK K)))); (with_reducible refine wpQuiet_nil ?_); intro _ hw'; obtain ⟨nq, hw''⟩ := hw'; subst hw'')
                            have Hz := Lib.hid (Gr.trans Hbr.out nq.below)
                            clear F0 F1 F2 F3 F4 F5 F6 F7 V3 D2 D5
                            go_wp2
                            go_roundw
                            case rel => first | exact ⟨r + 1, by omega, by go_num, Hz.out, by rw [HR.out]⟩ | ((repeat (with_reducible apply Exists.intro)); exact ⟨⟨r + 1, by omega, by go_num, Hz.out, by rw [HR.out]⟩, rfl⟩)
                            case measure => simp [intOf] <;> omega
                          | false =>
                            cases x1 with
                            | false =>
                              have HR := Lib.hid (show (decide (rs < js) || (rp.evs.take (r + 1)).any (gvP calls jl rs)) = false by rw [HA.out]; first | rfl | (simp; done))
                              clear HA
                              as_aux_lemma =>
                              ((with_reducible refine wp_region_grown_lit (by kernel_rfl) (by kernel_rfl) ?_); (repeat (first | go_big_quiet_skip | (go_big_quiet_want; go_big_quiet_op; first | go_big_quiet_on | ((with_reducible apply Exists.intro); (with_reducible refine ⟨fun _ => ?_, ?_⟩); ((go_at_call 42; first | exact quietG (Is1x.out _) | exact quietGS (Is1x.out _))); go_big_quiet_on)) | ((with_reducible refine wpQuiet_step (fun K hK => ?_)); go_simp; first | ((with_reducible refine hK _ ?_); clear hK K) | ((with_reducible apply Exists.intro); (with_reducible refine ⟨fun _ => ?_, hK _ ?_⟩); ((go_at_call 42; first | exact quietG (Is1x.out _) | exact quietGS (Is1x.out _))); clear hK K)))); (with_reducible refine wpQuiet_nil ?_); intro _ hw'; obtain ⟨nq, hw''⟩ := hw'; subst hw'')
                              have Hz := Lib.hid (Gr.trans Hbr.out nq.below)
                              clear F0 F1 F2 F3 F4 F5 F6 F7 V3 D2 D5
                              go_wp2
                              go_roundw
                              case rel => first | exact ⟨r + 1, by omega, by go_num, Hz.out, by rw [HR.out]⟩ | ((repeat (with_reducible apply Exists.intro)); exact ⟨⟨r + 1, by omega, by go_num, Hz.out, by rw [HR.out]⟩, rfl⟩)
                              case measure => simp [intOf] <;> omega
                            | true =>
                              by_cases hv : B2 = jl
                              · have hv1 : ((B2 : Int) == (jl : Int)) = true := beqT hv
                                by_cases hjs : rr' < rs
                                · have s1 : (rr' : Int) < (rs : Int) := by omega
                                  have HA := Lib.hid (HA.out.trans (by rw [decide_eq_true hv, decide_eq_true hjs] : (false || (true && decide (B2 = jl) && decide (rr' < rs))) = (false || (true && true && true))))
                                  clear hv hjs
                                  have HR := Lib.hid (show (decide (rs < js) || (rp.evs.take (r + 1)).any (gvP calls jl rs)) = true by rw [HA.out]; first | rfl | (simp; done))
                                  clear HA
                                  as_aux_lemma =>
                                  ((with_reducible refine wp_region_grown_lit (by kernel_rfl) (by kernel_rfl) ?_); (repeat (first | go_big_quiet_skip | (go_big_quiet_want; go_big_quiet_op; first | go_big_quiet_on | ((with_reducible apply Exists.intro); (with_reducible refine ⟨fun _ => ?_, ?_⟩); ((go_at_call 42; first | exact quietG (Is1x.out _) | exact quietGS (Is1x.out _))); go_big_quiet_on)) | ((with_reducible refine wpQuiet_step (fun K hK => ?_)); go_simp; first | ((with_reducible refine hK _ ?_); clear hK K) | ((with_reducible apply Exists.intro); (with_reducible refine ⟨fun _ => ?_, hK _ ?_⟩); ((go_at_call 42; first | exact quietG (Is1x.out _) | exact quietGS (Is1x.out _))); clear hK K)))); (with_reducible refine wpQuiet_nil ?_); intro _ hw'; obtain ⟨nq, hw''⟩ := hw'; subst hw'')
                                  have Hz := Lib.hid (Gr.trans Hbr.out nq.below)
                                  clear F0 F1 F2 F3 F4 F5 F6 F7 V3 D2 D5
                                  go_wp2
                                  go_roundw
                                  case rel => first | exact ⟨r + 1, by omega, by go_num, Hz.out, by rw [HR.out]⟩ | ((repeat (with_reducible apply Exists.intro)); exact ⟨⟨r + 1, by omega, by go_num, Hz.out, by rw [HR.out]⟩, rfl⟩)
                                  case measure => simp [intOf] <;> omega
                                · have s1 : ¬ (rr' : Int) < (rs : Int) := by omega
                                  have HA := Lib.hid (HA.out.trans (by rw [decide_eq_false hjs] : (false || (true && decide (B2 = jl) && decide (rr' < rs))) = (false || (true && decide (B2 = jl) && false))))
                                  clear hv hjs
                                  have HR := Lib.hid (show (decide (rs < js) || (rp.evs.take (r + 1)).any (gvP calls jl rs)) = false by rw [HA.out]; first | rfl | (simp; done))
                                  clear HA
                                  as_aux_lemma =>
                                  ((with_reducible refine wp_region_grown_lit (by kernel_rfl) (by kernel_rfl) ?_); (repeat (first | go_big_quiet_skip | (go_big_quiet_want; go_big_quiet_op; first | go_big_quiet_on | ((with_reducible apply Exists.intro); (with_reducible refine ⟨fun _ => ?_, ?_⟩); ((go_at_call 42; first | exact quietG (Is1x.out _) | exact quietGS (Is1x.out _))); go_big_quiet_on)) | ((with_reducible refine wpQuiet_step (fun K hK => ?_)); go_simp; first | ((with_reducible refine hK _ ?_); clear hK K) | ((with_reducible apply Exists.intro); (with_reducible refine ⟨fun _ => ?_, hK _ ?_⟩); ((go_at_call 42; first | exact quietG (Is1x.out _) | exact quietGS (Is1x.out _))); clear hK K)))); (with_reducible refine wpQuiet_nil ?_); intro _ hw'; obtain ⟨nq, hw''⟩ := hw'; subst hw'')
                                  have Hz := Lib.hid (Gr.trans Hbr.out nq.below)
                                  clear F0 F1 F2 F3 F4 F5 F6 F7 V3 D2 D5
                                  go_wp2
                                  go_roundw
                                  case rel => first | exact ⟨r + 1, by omega, by go_num, Hz.out, by rw [HR.out]⟩ | ((repeat (with_reducible apply Exists.intro)); exact ⟨⟨r + 1, by omega, by go_num, Hz.out, by rw [HR.out]⟩, rfl⟩)
                                  case measure => simp [intOf] <;> omega
                              · have hv1 : ((B2 : Int) == (jl : Int)) = false := beqF hv
                                have HA := Lib.hid (HA.out.trans (by rw [decide_eq_false hv] : (false || (true && decide (B2 = jl) && decide (rr' < rs))) = (false || (true && false && decide (rr' < rs)))))
                                clear hv
                                have HR := Lib.hid (show (decide (rs < js) || (rp.evs.take (r + 1)).any (gvP calls jl rs)) = false by rw [HA.out]; first | rfl | (simp; done))
                                clear HA
                                as_aux_lemma =>
                                ((with_reducible refine wp_region_grown_lit (by kernel_rfl) (by kernel_rfl) ?_); (repeat (first | go_big_quiet_skip | (go_big_quiet_want; go_big_quiet_op; first | go_big_quiet_on | ((with_reducible apply Exists.intro); (with_reducible refine ⟨fun _ => ?_, ?_⟩); ((go_at_call 42; first | exact quietG (Is1x.out _) | exact quietGS (Is1x.out _))); go_big_quiet_on)) | ((with_reducible refine wpQuiet_step (fun K hK => ?_)); go_simp; first | ((with_reducible refine hK _ ?_); clear hK K) | ((with_reducible apply Exists.intro); (with_reducible refine ⟨fun _ => ?_, hK _ ?_⟩); ((go_at_call 42; first | exact quietG (Is1x.out _) | exact quietGS (Is1x.out _))); clear hK K)))); (with_reducible refine wpQuiet_nil ?_); intro _ hw'; obtain ⟨nq, hw''⟩ := hw'; subst hw'')
                                have Hz := Lib.hid (Gr.trans Hbr.out nq.below)
                                clear F0 F1 F2 F3 F4 F5 F6 F7 V3 D2 D5
                                go_wp2
                                go_roundw
                                case rel => first | exact ⟨r + 1, by omega, by go_num, Hz.out, by rw [HR.out]⟩ | ((repeat (with_reducible apply Exists.intro)); exact ⟨⟨r + 1, by omega, by go_num, Hz.out, by rw [HR.out]⟩, rfl⟩)
                                case measure => simp [intOf] <;> omega
                        · have m1 : ¬ (r : Int) < (en : Int) := by omega
                          obtain rfl : r = en := by omega
                          have htr : t = true := by
                            rw [ht, List.take_of_length_le (by rw [← Hen.out]; exact Nat.le_refl _)]
                            rcases Hgv.out with h9 | ⟨x, x1, x2, x3, x4⟩
                            · rw [decide_eq_true h9]; rfl
                            · rw [any_at x1 (show gvP calls jl rs (evAt rp.evs x) = true by unfold gvP; rw [x2, decide_eq_true x3, decide_eq_true x4]; rfl)]; simp
                          subst htr
                          clear ht d5 d2 hbr hbx
                          go_wp2
                          go_roundw
                          case rel => first | exact ⟨q + 1, by omega, by go_num, Gr.trans Hb9.out Hbr.out⟩ | ((repeat (with_reducible apply Exists.intro)); exact ⟨⟨q + 1, by omega, by go_num, Gr.trans Hb9.out Hbr.out⟩, rfl⟩)
                          case measure => simp [intOf] <;> omega
                · have m1 : ¬ (q : Int) < (en : Int) := by omega
                  clear hbq
                  go_wp2
                  go_roundw
                  case rel => first | exact ⟨k + 1, by omega, by go_num, Gr.trans Hb6.out Hbq.out⟩ | ((repeat (with_reducible apply Exists.intro)); exact ⟨⟨k + 1, by omega, by go_num, Gr.trans Hb6.out Hbq.out⟩, rfl⟩)
                  case measure => simp [intOf] <;> omega
        · have l1 : ¬ (k : Int) < (en : Int) := by omega
          have Hb := Lib.hid hb
          clear hb
          go_wp2_with (go_at_call 40; refine (T.out _).mono ?_; rintro e w' ⟨rfl, hbs⟩)
          go_ret
          exact ⟨rfl, Gr.trans Hgz.out (Gr.trans Hb02.out (Gr.trans Hb.out hbs))⟩
    · have hn0 : ¬ er = 0 := her0
      have Hn0 := Lib.hid her0
      clear z0
      have Z1 := Lib.hid z1
      clear z1
      have z0 : wz.cell? ⟨w.heap.size, 0, none⟩ = some (.int .i64 q0) := by rw [cell_blk Hkz.out]; rfl
      have z1 : wz.cell? ⟨w.heap.size, 1, none⟩ = some (.int .i64 q1) := by rw [cell_blk Hkz.out]; rfl
      go_enter Try.func13, Try.ntmps13
      go_upto_region 1 with fail
      rw [← Hwz.out]
      go_wp2_with (go_at_call 15; refine (HM.out).mono ?_; rintro e w' ⟨rfl, rfl⟩)
      refine HP.out.mono ?_
      rintro e w1 ⟨ea, en, ec, va, vn, vc, rp, rfl, hb1, hr⟩
      rcases hr with ⟨_, rfl, rfl, rfl, rfl, rfl, rfl, rfl⟩ | ⟨h0, _⟩
      · unfold repV
        have N := Lib.hid none_true
        clear z0 z1
        go_wp2_with (first | (go_at_call 18; refine (N.out _).mono ?_; rintro e w2 ⟨rfl, hb2⟩) | (go_at_call 40; refine (T.out _).mono ?_; rintro e w' ⟨rfl, hb⟩))
        go_ret
        exact ⟨rfl, Gr.trans Hgz.out (Gr.trans hb1 (Gr.trans (Gr.new _ _) (Gr.trans hb2 hb)))⟩
      · exact absurd h0 her0
end Go.Proofs.Ytjkgfkbanbhkgaa
