/- Layer 27: the cons as the reference has it. -/
import Derived.Test.YtjkgfkbanbhkgaaJ49
import Derived.Test.YtjkgfkbanbhkgaaJ50
set_option maxRecDepth 100000
set_option linter.unusedVariables false
set_option linter.unusedSimpArgs false
set_option linter.unnecessarySimpa false
namespace Go.Proofs.Ytjkgfkbanbhkgaa
open Go.RowKit

set_option maxHeartbeats 4000000 in
theorem ref_cons (w1 : World) (B q cp v : Nat) (x : CallD) (hv64 : v < 18446744073709551616) (hr : w1.ownsRow B 46 1 (.slice (some ⟨q, 0, none⟩) 1 cp) 1 [.int .u64 (v : Int)]) :
    Calls Try.prog 91 #[.slice (some ⟨q, 0, none⟩) 1 cp, callAgg x] w1 fun e w' => e = .returned (.tuple #[.slice (some ⟨q, 0, none⟩) 1 cp, ansV (consAp [v] x).2.err (consAp [v] x).2.val (.slice none 0 0)]) ∧ Chg (fun b => b = q) w1 w' ∧ ∃ v', (consAp [v] x).1 = [v'] ∧ (consAp [v] x).2.list = [] ∧ SlAt w' (some ⟨q, 0, none⟩) 1 1 (u64G [v']) := by
  obtain ⟨th, ob, kd', ca, cb, cc⟩ := x
  obtain ⟨rq, rf⟩ := row_at hr (j := 0) rfl
  have hql := (hr.lt q rfl).2
  have Hr := Lib.hid hr
  unfold callAgg
  simp only
  clear hr
  have fin : ∀ (kk : Int) (nv : Nat) (er : Int) (vl : Nat) (wb w' : World), wb.heap.size = w1.heap.size → Chg (fun b => b = q) w1 wb → wb.ownsRow B 46 1 (.slice (some ⟨q, 0, none⟩) 1 cp) 1 [.int .u64 (nv : Int)] → w' = (wb.alloc (.cells #[.int .i64 th, .int .i64 ob, .int .i64 kk, .int .u64 (ca : Int), .int .u64 (cb : Int), .int .u64 (cc : Int)] 55)).alloc (.cells #[.int .i64 er, .int .u64 (vl : Int), .slice none 0 0] 48) →
      w'.cell? ⟨w1.heap.size + 1, 0, none⟩ = some (.int .i64 er) ∧ w'.cell? ⟨w1.heap.size + 1, 1, none⟩ = some (.int .u64 (vl : Int)) ∧ w'.cell? ⟨w1.heap.size + 1, 2, none⟩ = some (.slice none 0 0) ∧ Chg (fun b => b = q) w1 w' ∧ w'.ownsRow B 46 1 (.slice (some ⟨q, 0, none⟩) 1 cp) 1 [.int .u64 (nv : Int)] := by
    intro kk nv er vl wb w' hsz hc hrow hw'
    have t1 : w'.heap[w1.heap.size + 1]? = some (.cells #[.int .i64 er, .int .u64 (vl : Int), .slice none 0 0] 48 (0, 0)) := by rw [hw', ← hsz]; exact allocs_get [_, _] wb 1 _ rfl
    have hb : Below wb.heap.size wb w' := by rw [hw']; exact allocs_below wb [_, _]
    exact ⟨by rw [cell_blk t1]; rfl, by rw [cell_blk t1]; rfl, by rw [cell_blk t1]; rfl, hc.trans (Chg.of_below hb), row_below hrow hb⟩
  have put : ∀ nv : Nat, (w1.setCell ⟨q, 0, none⟩ (.int .u64 (nv : Int))).heap.size = w1.heap.size ∧ Chg (fun b => b = q) w1 (w1.setCell ⟨q, 0, none⟩ (.int .u64 (nv : Int))) ∧ (w1.setCell ⟨q, 0, none⟩ (.int .u64 (nv : Int))).ownsRow B 46 1 (.slice (some ⟨q, 0, none⟩) 1 cp) 1 [.int .u64 (nv : Int)] := fun nv =>
    ⟨by simp [World.setCell], (Chg.refl (fun b => b = q) w1).setCell (p := ⟨q, 0, none⟩) (.inl rfl) _, row_put Hr.out 0 _⟩
  have Fin := Lib.hid fin; have Put := Lib.hid put
  clear fin put
  by_cases hk : kd' = 0 ∨ kd' = 1
  · by_cases hbig : kd' = 0 ∧ 4294967296 ≤ ca
    · obtain ⟨rfl, hb⟩ := hbig
      have hap : consAp [v] ⟨th, ob, 0, ca, cb, cc⟩ = ([v], ⟨10, 0, []⟩) := consAp_10 rfl hb
      have hbi : (4294967296 : Int) ≤ (ca : Int) := by omega
      rw [hap]
      clear hk hb hap
      go_enter Try.func91, Try.ntmps91
      go_wp2
      obtain ⟨k0, k1, k2, f1, f2⟩ := Fin.out 0 v 10 0 _ _ rfl (Chg.refl _ w1) Hr.out rfl
      refine bodyPost_ret (v := .tuple #[.slice (some ⟨q, 0, none⟩) 1 cp, ansV 10 0 (.slice none 0 0)]) (by simp [results, Try.results91 , go_sem, ansV, k0, k1, k2]) rfl ?_
      exact ⟨rfl, f1, v, rfl, trivial, sl_row1 f2 rfl⟩
    · by_cases hv : v = 0
      · subst hv
        by_cases h1 : kd' = 1
        · subst h1
          have hap : consAp [0] ⟨th, ob, 1, ca, cb, cc⟩ = ([0], ⟨7, 0, []⟩) := consAp_7 rfl rfl
          rw [hap]
          clear hk hbig hap
          go_enter Try.func91, Try.ntmps91
          go_wp2
          obtain ⟨k0, k1, k2, f1, f2⟩ := Fin.out 1 0 7 0 _ _ rfl (Chg.refl _ w1) Hr.out rfl
          refine bodyPost_ret (v := .tuple #[.slice (some ⟨q, 0, none⟩) 1 cp, ansV 7 0 (.slice none 0 0)]) (by simp [results, Try.results91 , go_sem, ansV, k0, k1, k2]) rfl ?_
          exact ⟨rfl, f1, 0, rfl, trivial, sl_row1 f2 rfl⟩
        · obtain rfl : kd' = 0 := by omega
          have hca : ca < 4294967296 := by
            rcases Nat.lt_or_ge ca 4294967296 with h | h
            · exact h
            · exact absurd ⟨rfl, h⟩ hbig
          have hap : consAp [0] ⟨th, ob, 0, ca, cb, cc⟩ = ([ca + 1], ⟨0, ca, []⟩) := consAp_set rfl (by show ¬ 4294967296 ≤ ca; omega) rfl
          have hci : ¬ (4294967296 : Int) ≤ (ca : Int) := by omega
          have wc : IntKind.u64.wrap ((ca : Int) + 1) = (ca : Int) + 1 := by rw [IntKind.wrap_u64]; omega
          have wc2 : IntKind.u64.wrap (ca : Int) = (ca : Int) := by rw [IntKind.wrap_u64]; omega
          rw [hap]
          have P := Lib.hid (Put.out (ca + 1))
          rw [show (Value.int .u64 ((ca + 1 : Nat) : Int)) = Value.int .u64 ((ca : Int) + 1) by simp] at P
          clear hk hbig hap h1 hca
          go_enter Try.func91, Try.ntmps91
          go_wp2
          obtain ⟨w5, hw5⟩ : ∃ w5, w5 = ((w1.setCell ⟨q, 0, none⟩ (.int .u64 ((ca : Int) + 1))).alloc (.cells #[.int .i64 th, .int .i64 ob, .int .i64 0, .int .u64 (ca : Int), .int .u64 (cb : Int), .int .u64 (cc : Int)] 55)).alloc (.cells #[.int .i64 0, .int .u64 0, .slice none 0 0] 48) := ⟨_, rfl⟩
          rw [← hw5]
          obtain ⟨_, _, _, f1, f2⟩ := Fin.out 0 (ca + 1) 0 0 _ _ P.out.1 P.out.2.1 P.out.2.2 hw5
          have hz5 : w5.heap[w1.heap.size + 1]? = some (.cells #[.int .i64 0, .int .u64 0, .slice none 0 0] 48 (0, 0)) := by
            have h9 := allocs_get [.cells #[.int .i64 th, .int .i64 ob, .int .i64 0, .int .u64 (ca : Int), .int .u64 (cb : Int), .int .u64 (cc : Int)] 55, .cells #[.int .i64 0, .int .u64 0, .slice none 0 0] 48] (w1.setCell ⟨q, 0, none⟩ (.int .u64 ((ca : Int) + 1))) 1 _ rfl
            rw [show (w1.setCell ⟨q, 0, none⟩ (.int .u64 ((ca : Int) + 1))).heap.size = w1.heap.size from P.out.1] at h9
            rw [hw5]; exact h9
          have rq5 : w5.cell? ⟨q, 0, none⟩ = some (.int .u64 ((ca : Int) + 1)) := by
            have h9 := (row_at f2 (j := 0) rfl).1
            rw [show ((ca + 1 : Nat) : Int) = (ca : Int) + 1 by omega] at h9; exact h9
          have a0 : w5.cell? ⟨w1.heap.size + 1, 0, none⟩ = some (.int .i64 0) := by rw [cell_blk hz5]; rfl
          have a1 : w5.cell? ⟨w1.heap.size + 1, 1, none⟩ = some (.int .u64 0) := by rw [cell_blk hz5]; rfl
          have a2 : w5.cell? ⟨w1.heap.size + 1, 2, none⟩ = some (.slice none 0 0) := by rw [cell_blk hz5]; rfl
          have af0 := frozen_blk hz5 0; have af1 := frozen_blk hz5 1; have af2 := frozen_blk hz5 2
          have hne : ¬ q = w1.heap.size + 1 := by omega
          have hne2 : ¬ w1.heap.size + 1 = q := by omega
          have Hz5 := Lib.hid hz5; have F1 := Lib.hid f1; have F2 := Lib.hid f2
          clear hz5 f1 f2 hw5
          go_region_held3 (fun u => u.cell? ⟨q, 0, none⟩ = some (.int .u64 ((ca : Int) + 1))) (first | exact rq5 | exact box_keep (((((Chg.refl (fun k => k = w1.heap.size + 1) w5).setCell (by exact .inl rfl) _).setCell (by exact .inl rfl) _).setCell (by exact .inl rfl) _).drew) hne rq5) (fail)
          clear a0 a1 a2 af0 af1 af2 rq5
          go_wp2_with fail
          obtain ⟨t1, t2, t3⟩ := set3 Hz5.out (.int .i64 0) (.int .u64 (ca : Int)) (.slice none 0 0)
          obtain ⟨w6, hw6⟩ : ∃ w6, w6 = ((((w5.setCell ⟨w1.heap.size + 1, 0, none⟩ (.int .i64 0)).setCell ⟨w1.heap.size + 1, 1, none⟩ (.int .u64 (ca : Int))).setCell ⟨w1.heap.size + 1, 2, none⟩ (.slice none 0 0))).drew := ⟨_, rfl⟩
          have f1 : Chg (fun b => b = q) w1 w6 := by rw [hw6]; exact (((F1.out.setCell (p := ⟨w1.heap.size + 1, 0, none⟩) (.inr (Nat.le_succ _)) _).setCell (p := ⟨w1.heap.size + 1, 1, none⟩) (.inr (Nat.le_succ _)) _).setCell (p := ⟨w1.heap.size + 1, 2, none⟩) (.inr (Nat.le_succ _)) _).drew
          replace t1 : w6.heap[w1.heap.size + 1]? = some (.cells #[.int .i64 0, .int .u64 (ca : Int), .slice none 0 0] 48 (0, 0)) := by rw [hw6]; exact t1
          replace t2 : Chg (fun k => k = w1.heap.size + 1) w5 w6 := by rw [hw6]; exact t2.drew
          rw [← hw6]
          have k0 : w6.cell? ⟨w1.heap.size + 1, 0, none⟩ = some (.int .i64 0) := by rw [cell_blk t1]; rfl
          have k1 : w6.cell? ⟨w1.heap.size + 1, 1, none⟩ = some (.int .u64 (ca : Int)) := by rw [cell_blk t1]; rfl
          have k2 : w6.cell? ⟨w1.heap.size + 1, 2, none⟩ = some (.slice none 0 0) := by rw [cell_blk t1]; rfl
          refine bodyPost_ret (v := .tuple #[.slice (some ⟨q, 0, none⟩) 1 cp, ansV 0 ca (.slice none 0 0)]) (by simp [results, Try.results91 , go_sem, ansV, k0, k1, k2]) rfl ?_
          exact ⟨rfl, f1, (ca + 1), rfl, trivial, (sl_row1 F2.out rfl).chg t2 (fun b off e h => by cases e; omega)⟩
      · obtain ⟨y, rfl⟩ : ∃ y, v = y + 1 := ⟨v - 1, by omega⟩
        have hap : consAp [y + 1] ⟨th, ob, kd', ca, cb, cc⟩ = ([y + 1], ⟨0, y, []⟩) := consAp_got hk (fun h1 h2 => hbig ⟨h1, h2⟩)
        rw [hap]
        have wy : IntKind.u64.wrap (y : Int) = (y : Int) := by rw [IntKind.wrap_u64]; omega
        have ny : ¬ ((y : Int) + 1 = 0) := by omega
        have Rq := Lib.hid rq
        have rq2 : w1.cell? ⟨q, 0, none⟩ = some (.int .u64 ((y : Int) + 1)) := by rw [Rq.out]; simp
        clear rq hap hv hv64
        rcases hk with rfl | rfl
        · have hci : ¬ (4294967296 : Int) ≤ (ca : Int) := fun h => hbig ⟨rfl, by omega⟩
          clear hbig
          go_enter Try.func91, Try.ntmps91
          go_wp2
          obtain ⟨w5, hw5⟩ : ∃ w5, w5 = (w1.alloc (.cells #[.int .i64 th, .int .i64 ob, .int .i64 0, .int .u64 (ca : Int), .int .u64 (cb : Int), .int .u64 (cc : Int)] 55)).alloc (.cells #[.int .i64 0, .int .u64 0, .slice none 0 0] 48) := ⟨_, rfl⟩
          rw [← hw5]
          obtain ⟨_, _, _, f1, f2⟩ := Fin.out 0 (y + 1) 0 0 _ _ (rfl : w1.heap.size = w1.heap.size) (Chg.refl _ w1) Hr.out hw5
          have hz5 : w5.heap[w1.heap.size + 1]? = some (.cells #[.int .i64 0, .int .u64 0, .slice none 0 0] 48 (0, 0)) := by
            have h9 := allocs_get [.cells #[.int .i64 th, .int .i64 ob, .int .i64 0, .int .u64 (ca : Int), .int .u64 (cb : Int), .int .u64 (cc : Int)] 55, .cells #[.int .i64 0, .int .u64 0, .slice none 0 0] 48] w1 1 _ rfl
            rw [show w1.heap.size = w1.heap.size from (rfl : w1.heap.size = w1.heap.size)] at h9
            rw [hw5]; exact h9
          have rq5 : w5.cell? ⟨q, 0, none⟩ = some (.int .u64 ((y : Int) + 1)) := by
            have h9 := (row_at f2 (j := 0) rfl).1
            rw [show ((y + 1 : Nat) : Int) = (y : Int) + 1 by omega] at h9; exact h9
          have a0 : w5.cell? ⟨w1.heap.size + 1, 0, none⟩ = some (.int .i64 0) := by rw [cell_blk hz5]; rfl
          have a1 : w5.cell? ⟨w1.heap.size + 1, 1, none⟩ = some (.int .u64 0) := by rw [cell_blk hz5]; rfl
          have a2 : w5.cell? ⟨w1.heap.size + 1, 2, none⟩ = some (.slice none 0 0) := by rw [cell_blk hz5]; rfl
          have af0 := frozen_blk hz5 0; have af1 := frozen_blk hz5 1; have af2 := frozen_blk hz5 2
          have hne : ¬ q = w1.heap.size + 1 := by omega
          have hne2 : ¬ w1.heap.size + 1 = q := by omega
          have Hz5 := Lib.hid hz5; have F1 := Lib.hid f1; have F2 := Lib.hid f2
          clear hz5 f1 f2 hw5
          go_region_held3 (fun u => u.cell? ⟨q, 0, none⟩ = some (.int .u64 ((y : Int) + 1))) (first | exact rq5 | exact box_keep (((((Chg.refl (fun k => k = w1.heap.size + 1) w5).setCell (by exact .inl rfl) _).setCell (by exact .inl rfl) _).setCell (by exact .inl rfl) _).drew) hne rq5) (fail)
          clear a0 a1 a2 af0 af1 af2 rq5
          go_wp2_with fail
          obtain ⟨t1, t2, t3⟩ := set3 Hz5.out (.int .i64 0) (.int .u64 (y : Int)) (.slice none 0 0)
          obtain ⟨w6, hw6⟩ : ∃ w6, w6 = ((((w5.setCell ⟨w1.heap.size + 1, 0, none⟩ (.int .i64 0)).setCell ⟨w1.heap.size + 1, 1, none⟩ (.int .u64 (y : Int))).setCell ⟨w1.heap.size + 1, 2, none⟩ (.slice none 0 0))).drew := ⟨_, rfl⟩
          have f1 : Chg (fun b => b = q) w1 w6 := by rw [hw6]; exact (((F1.out.setCell (p := ⟨w1.heap.size + 1, 0, none⟩) (.inr (Nat.le_succ _)) _).setCell (p := ⟨w1.heap.size + 1, 1, none⟩) (.inr (Nat.le_succ _)) _).setCell (p := ⟨w1.heap.size + 1, 2, none⟩) (.inr (Nat.le_succ _)) _).drew
          replace t1 : w6.heap[w1.heap.size + 1]? = some (.cells #[.int .i64 0, .int .u64 (y : Int), .slice none 0 0] 48 (0, 0)) := by rw [hw6]; exact t1
          replace t2 : Chg (fun k => k = w1.heap.size + 1) w5 w6 := by rw [hw6]; exact t2.drew
          rw [← hw6]
          have k0 : w6.cell? ⟨w1.heap.size + 1, 0, none⟩ = some (.int .i64 0) := by rw [cell_blk t1]; rfl
          have k1 : w6.cell? ⟨w1.heap.size + 1, 1, none⟩ = some (.int .u64 (y : Int)) := by rw [cell_blk t1]; rfl
          have k2 : w6.cell? ⟨w1.heap.size + 1, 2, none⟩ = some (.slice none 0 0) := by rw [cell_blk t1]; rfl
          refine bodyPost_ret (v := .tuple #[.slice (some ⟨q, 0, none⟩) 1 cp, ansV 0 y (.slice none 0 0)]) (by simp [results, Try.results91 , go_sem, ansV, k0, k1, k2]) rfl ?_
          exact ⟨rfl, f1, (y + 1), rfl, trivial, (sl_row1 F2.out rfl).chg t2 (fun b off e h => by cases e; omega)⟩
        · clear hbig
          go_enter Try.func91, Try.ntmps91
          go_wp2
          obtain ⟨w5, hw5⟩ : ∃ w5, w5 = (w1.alloc (.cells #[.int .i64 th, .int .i64 ob, .int .i64 1, .int .u64 (ca : Int), .int .u64 (cb : Int), .int .u64 (cc : Int)] 55)).alloc (.cells #[.int .i64 0, .int .u64 0, .slice none 0 0] 48) := ⟨_, rfl⟩
          rw [← hw5]
          obtain ⟨_, _, _, f1, f2⟩ := Fin.out 1 (y + 1) 0 0 _ _ (rfl : w1.heap.size = w1.heap.size) (Chg.refl _ w1) Hr.out hw5
          have hz5 : w5.heap[w1.heap.size + 1]? = some (.cells #[.int .i64 0, .int .u64 0, .slice none 0 0] 48 (0, 0)) := by
            have h9 := allocs_get [.cells #[.int .i64 th, .int .i64 ob, .int .i64 1, .int .u64 (ca : Int), .int .u64 (cb : Int), .int .u64 (cc : Int)] 55, .cells #[.int .i64 0, .int .u64 0, .slice none 0 0] 48] w1 1 _ rfl
            rw [show w1.heap.size = w1.heap.size from (rfl : w1.heap.size = w1.heap.size)] at h9
            rw [hw5]; exact h9
          have rq5 : w5.cell? ⟨q, 0, none⟩ = some (.int .u64 ((y : Int) + 1)) := by
            have h9 := (row_at f2 (j := 0) rfl).1
            rw [show ((y + 1 : Nat) : Int) = (y : Int) + 1 by omega] at h9; exact h9
          have a0 : w5.cell? ⟨w1.heap.size + 1, 0, none⟩ = some (.int .i64 0) := by rw [cell_blk hz5]; rfl
          have a1 : w5.cell? ⟨w1.heap.size + 1, 1, none⟩ = some (.int .u64 0) := by rw [cell_blk hz5]; rfl
          have a2 : w5.cell? ⟨w1.heap.size + 1, 2, none⟩ = some (.slice none 0 0) := by rw [cell_blk hz5]; rfl
          have af0 := frozen_blk hz5 0; have af1 := frozen_blk hz5 1; have af2 := frozen_blk hz5 2
          have hne : ¬ q = w1.heap.size + 1 := by omega
          have hne2 : ¬ w1.heap.size + 1 = q := by omega
          have Hz5 := Lib.hid hz5; have F1 := Lib.hid f1; have F2 := Lib.hid f2
          clear hz5 f1 f2 hw5
          go_region_held3 (fun u => u.cell? ⟨q, 0, none⟩ = some (.int .u64 ((y : Int) + 1))) (first | exact rq5 | exact box_keep (((((Chg.refl (fun k => k = w1.heap.size + 1) w5).setCell (by exact .inl rfl) _).setCell (by exact .inl rfl) _).setCell (by exact .inl rfl) _).drew) hne rq5) (fail)
          clear a0 a1 a2 af0 af1 af2 rq5
          go_wp2_with fail
          obtain ⟨t1, t2, t3⟩ := set3 Hz5.out (.int .i64 0) (.int .u64 (y : Int)) (.slice none 0 0)
          obtain ⟨w6, hw6⟩ : ∃ w6, w6 = ((((w5.setCell ⟨w1.heap.size + 1, 0, none⟩ (.int .i64 0)).setCell ⟨w1.heap.size + 1, 1, none⟩ (.int .u64 (y : Int))).setCell ⟨w1.heap.size + 1, 2, none⟩ (.slice none 0 0))).drew := ⟨_, rfl⟩
          have f1 : Chg (fun b => b = q) w1 w6 := by rw [hw6]; exact (((F1.out.setCell (p := ⟨w1.heap.size + 1, 0, none⟩) (.inr (Nat.le_succ _)) _).setCell (p := ⟨w1.heap.size + 1, 1, none⟩) (.inr (Nat.le_succ _)) _).setCell (p := ⟨w1.heap.size + 1, 2, none⟩) (.inr (Nat.le_succ _)) _).drew
          replace t1 : w6.heap[w1.heap.size + 1]? = some (.cells #[.int .i64 0, .int .u64 (y : Int), .slice none 0 0] 48 (0, 0)) := by rw [hw6]; exact t1
          replace t2 : Chg (fun k => k = w1.heap.size + 1) w5 w6 := by rw [hw6]; exact t2.drew
          rw [← hw6]
          have k0 : w6.cell? ⟨w1.heap.size + 1, 0, none⟩ = some (.int .i64 0) := by rw [cell_blk t1]; rfl
          have k1 : w6.cell? ⟨w1.heap.size + 1, 1, none⟩ = some (.int .u64 (y : Int)) := by rw [cell_blk t1]; rfl
          have k2 : w6.cell? ⟨w1.heap.size + 1, 2, none⟩ = some (.slice none 0 0) := by rw [cell_blk t1]; rfl
          refine bodyPost_ret (v := .tuple #[.slice (some ⟨q, 0, none⟩) 1 cp, ansV 0 y (.slice none 0 0)]) (by simp [results, Try.results91 , go_sem, ansV, k0, k1, k2]) rfl ?_
          exact ⟨rfl, f1, (y + 1), rfl, trivial, (sl_row1 F2.out rfl).chg t2 (fun b off e h => by cases e; omega)⟩
  · have hap : consAp [v] ⟨th, ob, kd', ca, cb, cc⟩ = ([v], ⟨9, 0, []⟩) := consAp_9 hk
    have q0 : (kd' != 0) = true := by simp; omega
    have q1 : (kd' != 1) = true := by simp; omega
    rw [hap]
    clear hap hk
    go_enter Try.func91, Try.ntmps91
    go_wp2
    obtain ⟨k0, k1, k2, f1, f2⟩ := Fin.out kd' v 9 0 _ _ rfl (Chg.refl _ w1) Hr.out rfl
    refine bodyPost_ret (v := .tuple #[.slice (some ⟨q, 0, none⟩) 1 cp, ansV 9 0 (.slice none 0 0)]) (by simp [results, Try.results91 , go_sem, ansV, k0, k1, k2]) rfl ?_
    exact ⟨rfl, f1, v, rfl, trivial, sl_row1 f2 rfl⟩
set_option maxHeartbeats 4000000 in
theorem cons_apply (n : Nat) (u : World) (a : Option Addr) (c v : Nat) (x : CallD) (hs : SlAt u a 1 1 (u64G [v])) (hv : v < 18446744073709551616) (hx : CallOk x) :
    Calls Try.prog 73 #[.int .i64 (n : Int), specV 1 0 0, .slice a 1 c, callAgg x] u (ApPost consAp [v] x u) := by
  obtain ⟨b, o, rfl, hb, h4⟩ := hs.2 0 (by omega)
  have e4 : u.cell? ⟨b, o, none⟩ = some (.int .u64 (v : Int)) := by have h0 := h4 0 (by omega); rw [Nat.zero_mul, Nat.add_zero] at h0; exact h0
  obtain ⟨th, ob, kd', ca, cb, cc⟩ := x
  obtain ⟨wa, hwa⟩ : ∃ wa, wa = (((u.alloc (.cells #[.int .i64 1, .int .i64 0, .int .i64 0] 58)).alloc (.cells #[.int .i64 th, .int .i64 ob, .int .i64 kd', .int .u64 (ca : Int), .int .u64 (cb : Int), .int .u64 (cc : Int)] 55)).alloc (.cells #[.int .i64 0, .int .u64 0, .slice none 0 0] 48)).alloc (.cells #[] 46) := ⟨_, rfl⟩
  have hga : Below u.heap.size u wa := by rw [hwa]; exact allocs_below u [_, _, _, _]
  have r0 : wa.heap[u.heap.size]? = some (.cells #[.int .i64 1, .int .i64 0, .int .i64 0] 58 (0, 0)) := by rw [hwa]; exact allocs_get [_, _, _, _] u 0 _ rfl
  have r1 : wa.heap[u.heap.size + 1]? = some (.cells #[.int .i64 th, .int .i64 ob, .int .i64 kd', .int .u64 (ca : Int), .int .u64 (cb : Int), .int .u64 (cc : Int)] 55 (0, 0)) := by rw [hwa]; exact allocs_get [_, _, _, _] u 1 _ rfl
  have r2 : wa.heap[u.heap.size + 2]? = some (.cells #[.int .i64 0, .int .u64 0, .slice none 0 0] 48 (0, 0)) := by rw [hwa]; exact allocs_get [_, _, _, _] u 2 _ rfl
  have r3 : wa.heap[u.heap.size + 3]? = some (.cells #[] 46 (0, 0)) := by rw [hwa]; exact allocs_get [_, _, _, _] u 3 _ rfl
  have hwsz : wa.heap.size = u.heap.size + 4 := by rw [hwa]; simp
  have x4 : wa.cell? ⟨b, o, none⟩ = some (.int .u64 (v : Int)) := (hga.cell hb).trans e4
  obtain ⟨i0, hi, hz0, hz1, hz2⟩ := info_parts uint64_info0
  have hown : wa.ownsRow (u.heap.size + 3) 46 1 (.slice (some ⟨u.heap.size + 3, 0, none⟩) 0 0) 0 [] := ⟨rfl, .inr ⟨u.heap.size + 3, 0, #[], rfl, Nat.le_refl _, r3, Nat.le_refl _, Nat.zero_le _, rfl, rfl⟩⟩
  have hnew : ∀ j w', [Value.int .u64 (v : Int)][j]? = some w' → wa.cell? ((⟨b, o, none⟩ : Addr).add j) = some w' := by
    intro j w' h
    match j, h with
    | 0, h => simp only [List.getElem?_cons_zero, Option.some.injEq] at h; subst h; exact x4
  rw [hwa] at hown hnew
  have Hown := Lib.hid hown; have Hnew := Lib.hid hnew; have Hwa := Lib.hid hwa; have Hga := Lib.hid hga; have R0 := Lib.hid r0; have R1 := Lib.hid r1; have R2 := Lib.hid r2; have Hwsz := Lib.hid hwsz; have Hv64 := Lib.hid hv
  unfold specV callAgg
  simp only
  clear hown hnew hwa hga r0 r1 r2 r3 hs h4 e4 hx hb hwsz x4 hv
  go_enter Try.func73, Try.ntmps73
  go_wp2_with (at_builtin; refine wpList_append_own _ rfl (.tmp 11) (.tmp 12) 28 rfl (u.heap.size + 3) 46 i0 (.int .u64 0) 1 8 Try.underlying28 hi hz0 hz1 hz2 rfl (by decide) (.slice (some ⟨u.heap.size + 3, 0, none⟩) 0 0) 0 [] rfl Hown.out ⟨b, o, none⟩ 1 c [.int .u64 (v : Int)] rfl ?c1 Hnew.out ?c2 ?c3 ?c4 ?c5 ?_)
  case c1 => rfl
  case c2 => intro w' hw'; simp only [List.mem_singleton] at hw'; subst hw'; rfl
  case c3 => unfold maxLen; omega
  case c4 => omega
  case c5 => simp
  intro o' w1 hown1 hgrow _
  obtain ⟨q, cp, rfl, hq1, hq2, hq3⟩ := row_own hown1
  rw [← Hwa.out] at hgrow
  have hch : Chg (fun b => u.heap.size + 3 ≤ b) wa w1 := (Chg.refl _ wa).grown hgrow (fun k hk => by simp only [Value.ownBlock, Option.some.injEq] at hk; exact .inl (by omega))
  have hb1 : Below u.heap.size u w1 := Hga.out.trans (hch.below (fun k h => by omega) Hga.out.size)
  have s0 := (hch.block _ (by rw [Hwsz.out]; omega) (by omega)).trans R0.out
  have s1 := (hch.block _ (by rw [Hwsz.out]; omega) (by omega)).trans R1.out
  have s2 := (hch.block _ (by rw [Hwsz.out]; omega) (by omega)).trans R2.out
  have z0 : w1.cell? ⟨u.heap.size, 0, none⟩ = some (.int .i64 1) := by rw [cell_blk s0]; rfl
  have z2 : w1.cell? ⟨u.heap.size + 1, 2, none⟩ = some (.int .i64 kd') := by rw [cell_blk s1]; rfl
  have a0 : w1.cell? ⟨u.heap.size + 1 + 1, 0, none⟩ = some (.int .i64 0) := by rw [show u.heap.size + 1 + 1 = u.heap.size + 2 from rfl, cell_blk s2]; rfl
  have a1 : w1.cell? ⟨u.heap.size + 1 + 1, 1, none⟩ = some (.int .u64 0) := by rw [show u.heap.size + 1 + 1 = u.heap.size + 2 from rfl, cell_blk s2]; rfl
  have a2 : w1.cell? ⟨u.heap.size + 1 + 1, 2, none⟩ = some (.slice none 0 0) := by rw [show u.heap.size + 1 + 1 = u.heap.size + 2 from rfl, cell_blk s2]; rfl
  have f0 : w1.frozen? ⟨u.heap.size + 1 + 1, 0, none⟩ = false := frozen_blk s2 0
  have f1 : w1.frozen? ⟨u.heap.size + 1 + 1, 1, none⟩ = false := frozen_blk s2 1
  have f2 : w1.frozen? ⟨u.heap.size + 1 + 1, 2, none⟩ = false := frozen_blk s2 2
  have hlt2 : u.heap.size + 1 + 1 < w1.heap.size := blk_lt s2
  have rq := (row_at hown1 (j := 0) rfl).1
  have y0 : w1.cell? ⟨u.heap.size + 1, 0, none⟩ = some (.int .i64 th) := by rw [cell_blk s1]; rfl
  have y1 : w1.cell? ⟨u.heap.size + 1, 1, none⟩ = some (.int .i64 ob) := by rw [cell_blk s1]; rfl
  have y3 : w1.cell? ⟨u.heap.size + 1, 3, none⟩ = some (.int .u64 (ca : Int)) := by rw [cell_blk s1]; rfl
  have y4 : w1.cell? ⟨u.heap.size + 1, 4, none⟩ = some (.int .u64 (cb : Int)) := by rw [cell_blk s1]; rfl
  have y5 : w1.cell? ⟨u.heap.size + 1, 5, none⟩ = some (.int .u64 (cc : Int)) := by rw [cell_blk s1]; rfl
  have Hown1 := Lib.hid hown1; have Hb1 := Lib.hid hb1; have S2 := Lib.hid s2; have Hq1 := Lib.hid hq1; have Hq2 := Lib.hid hq2
  clear hown1 hgrow hch hb1 s0 s1 s2 Hown Hnew Hwa Hga R0 R1 R2 Hwsz hq1 hq2
  have AD := Lib.hid (ref_cons w1 _ q cp v ⟨th, ob, kd', ca, cb, cc⟩ Hv64.out Hown1.out)
  unfold callAgg at AD
  simp only at AD
  clear rq a0 a1 a2 f0 f1 f2
  go_wp2_with fail
  refine AD.out.mono ?_
  rintro e w2 ⟨rfl, hch2, nv, hst, hli, hrow2⟩
  have s3 := (hch2.block _ (blk_lt S2.out) (by have := Hq1.out; omega)).trans S2.out
  have a0 : w2.cell? ⟨u.heap.size + 1 + 1, 0, none⟩ = some (.int .i64 0) := by rw [show u.heap.size + 1 + 1 = u.heap.size + 2 from rfl, cell_blk s3]; rfl
  have a1 : w2.cell? ⟨u.heap.size + 1 + 1, 1, none⟩ = some (.int .u64 0) := by rw [show u.heap.size + 1 + 1 = u.heap.size + 2 from rfl, cell_blk s3]; rfl
  have a2 : w2.cell? ⟨u.heap.size + 1 + 1, 2, none⟩ = some (.slice none 0 0) := by rw [show u.heap.size + 1 + 1 = u.heap.size + 2 from rfl, cell_blk s3]; rfl
  have f0 : w2.frozen? ⟨u.heap.size + 1 + 1, 0, none⟩ = false := frozen_blk s3 0
  have f1 : w2.frozen? ⟨u.heap.size + 1 + 1, 1, none⟩ = false := frozen_blk s3 1
  have f2 : w2.frozen? ⟨u.heap.size + 1 + 1, 2, none⟩ = false := frozen_blk s3 2
  have hlt3 : u.heap.size + 1 + 1 < w2.heap.size := blk_lt s3
  have S3 := Lib.hid s3; have Hch2 := Lib.hid hch2; have Hrow2 := Lib.hid hrow2; have Hst := Lib.hid hst; have Hli := Lib.hid hli
  obtain ⟨ar, har⟩ : ∃ ar, ar = consAp [v] ⟨th, ob, kd', ca, cb, cc⟩ := ⟨_, rfl⟩
  rw [← har] at Hst Hli ⊢
  have Har := Lib.hid har
  obtain ⟨st', er, vl, li⟩ := ar
  unfold ansV
  simp only
  clear s3 hch2 hrow2 hst hli z0 z2 y0 y1 y3 y4 y5 har
  go_wp2
  obtain ⟨t1, t2, t3⟩ := set3 S3.out (.int .i64 er) (.int .u64 (vl : Int)) (.slice none 0 0)
  obtain ⟨w3, hw3⟩ : ∃ w3, w3 = (((w2.setCell ⟨u.heap.size + 2, 0, none⟩ (.int .i64 er)).setCell ⟨u.heap.size + 2, 1, none⟩ (.int .u64 (vl : Int))).setCell ⟨u.heap.size + 2, 2, none⟩ (.slice none 0 0)) := ⟨_, rfl⟩
  rw [← hw3] at t1 t2 t3
  rw [show u.heap.size + 1 + 1 = u.heap.size + 2 from rfl, ← hw3]
  have k0 : w3.cell? ⟨u.heap.size + 2, 0, none⟩ = some (.int .i64 er) := by rw [cell_blk t1]; rfl
  have k1 : w3.cell? ⟨u.heap.size + 2, 1, none⟩ = some (.int .u64 (vl : Int)) := by rw [cell_blk t1]; rfl
  have k2 : w3.cell? ⟨u.heap.size + 2, 2, none⟩ = some (.slice none 0 0) := by rw [cell_blk t1]; rfl
  refine bodyPost_ret (v := .tuple #[.slice (some ⟨q, 0, none⟩) 1 cp, ansV er vl (.slice none 0 0)]) (by simp [results, Try.results73 , go_sem, ansV, k0, k1, k2]) rfl ?_
  have hq1 := Hq1.out; have hq2 := Hq2.out; have hc2 := Hch2.out.size; have hs3 := t2.size
  have e1 : st' = [nv] := Hst.out
  have e2 : li = [] := Hli.out
  subst e1 e2
  unfold ApPost
  rw [← Har.out]
  refine ⟨some ⟨q, 0, none⟩, cp, none, 0, rfl, ⟨Hrow2.out.chg t2 (fun b off e h => by cases e; omega), fun b off e => ?_⟩, SlAt.nil _ _ _ _, (Hb1.out.trans (Hch2.out.below (fun k h => by omega) Hb1.out.size)).trans (t2.below (fun k h => by omega) (Nat.le_trans Hb1.out.size hc2))⟩
  cases e
  omega

theorem size_cons (n : Nat) (u : World) : Calls Try.prog 71 #[.int .i64 (n : Int), specV 1 0 0] u fun e u' => ∃ z : Int, e = .returned (.int .i64 z) ∧ 0 ≤ z ∧ Below u.heap.size u u' := by
  unfold specV
  go_enter Try.func71, Try.ntmps71
  go_wp2
  go_ret
  exact ⟨1, rfl, by omega, Gr.new _ _⟩
theorem cons_spec (n : Nat) : SpecOk 1 0 0 n consAp [0] oneInv where
  size := size_cons n
  new := new_one 1 (by omega) n 0 0
  apply := by
    rintro u a c st x hs ⟨v, rfl, hv⟩ hx
    exact cons_apply n u a c v x hs hv hx
  inv0 := ⟨0, rfl, by omega⟩
  invS := by
    rintro st x ⟨v, rfl, hv⟩ hx
    have ha := hx.a
    unfold consAp
    split
    · exact ⟨v, rfl, hv⟩
    · split
      · exact ⟨v, rfl, hv⟩
      · split
        · exact ⟨v, rfl, hv⟩
        · split
          · rename_i h0 h1 h2 h3
            refine ⟨_, rfl, ?_⟩
            have : x.kind = 0 := by omega
            omega
          · exact ⟨v, rfl, hv⟩
  queue := by omega
end Go.Proofs.Ytjkgfkbanbhkgaa
