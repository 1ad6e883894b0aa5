/- Layer 2: contracts of package mem. -/
import Derived.Test.YtkocgeedpinplaaJ01
import Derived.Test.YtkocgeedpinplaaJ02
import Derived.Test.YtkocgeedpinplaaJ05
import Derived.StillTailTactics
set_option maxRecDepth 100000
set_option linter.unusedVariables false
set_option linter.unusedSimpArgs false
set_option linter.unnecessarySimpa false
namespace Go.Proofs.Ytkocgeedpinplaa
open Go.RowKit

theorem cell_set_other {w : World} {p q : Addr} (v : Value) (h : q.block ≠ p.block) : (w.setCell p v).cell? q = w.cell? q := World.cell?_of_block (w := w) (Below.heap_setCell _ _ _ _ h)
theorem frozen_set_other {w : World} {p q : Addr} (v : Value) (h : q.block ≠ p.block) : (w.setCell p v).frozen? q = w.frozen? q := by
  have := Below.heap_setCell w p v _ h
  simp only [World.frozen?, this]

theorem cnt_read (b : Nat) (w : World) : Calls Try.prog 50 #[.pointer (some ⟨b, 1, none⟩)] w fun e w' => e = .returned (.pointer (some ⟨b, 1, none⟩)) ∧ w = w' := by
  go_enter Try.func50, Try.ntmps50
  go_wp2
  go_ret
  exact ⟨rfl, rfl⟩
theorem do_read (b j b2 j2 : Nat) (x o : Int) (w : World) (h : w.cell? ⟨b, j, none⟩ = some (.int .u64 x)) (ho : w.cell? ⟨b2, j2, none⟩ = some (.int .u64 o)) (hf : w.frozen? ⟨b2, j2, none⟩ = false) :
    Calls Try.prog 51 #[.pointer (some ⟨b, j, none⟩), .pointer (some ⟨b2, j2, none⟩)] w fun e w' => e = .returned (.tuple #[]) ∧ w' = w.setCell ⟨b2, j2, none⟩ (.int .u64 x) := by
  go_enter Try.func51, Try.ntmps51
  go_wp2
  go_end0
  exact ⟨rfl, rfl⟩
theorem neq_nilFunc (u : World) : Sem.run Try.prog (binOp BinOp.neq 94 Value.nilFunc Value.nilFunc) u = Result.ok (.bool false) u := by
  first
  | kernel_rfl
  | rfl
theorem access_read (bm bw j b2 j2 : Nat) (len cap : Nat) (n x o : Int) (w : World) (h0 : w.cell? ⟨bm, 0, none⟩ = some (.slice (some ⟨bw, 0, none⟩) len cap)) (h1 : w.cell? ⟨bm, 1, none⟩ = some (.int .i64 n)) (hn : 0 ≤ n) (hn2 : n < 1000000000000)
    (h6 : w.cell? ⟨bm, 6, none⟩ = some .nilFunc) (hw : w.cell? ⟨bw, j, none⟩ = some (.int .u64 x)) (hj : j < len) (hlen : len ≤ 1048576) (hbw : bw ≠ bm) (ho : w.cell? ⟨b2, j2, none⟩ = some (.int .u64 o)) (hf : w.frozen? ⟨b2, j2, none⟩ = false) (hf1 : w.frozen? ⟨bm, 1, none⟩ = false) (hb2 : b2 ≠ bm) (hb3 : b2 ≠ bw) :
    Calls Try.prog 47 #[.pointer (some ⟨bm, 0, none⟩), .int .i64 0, .int .i64 (j : Int), .func (.func 50) #[] #[], .func (.func 51) #[] #[.pointer (some ⟨b2, j2, none⟩)]] w fun e w' =>
      e = .returned (.tuple #[]) ∧ w' = (w.setCell ⟨bm, 1, none⟩ (.int .i64 (n + 1))).setCell ⟨b2, j2, none⟩ (.int .u64 x) := by
  have hj1 : (j : Int) < len := by omega
  have C := Lib.hid (cnt_read bm)
  have hnn := neq_nilFunc
  go_enter Try.func47, Try.ntmps47
  go_wp2_with fail
  refine (C.out _).mono ?_
  rintro e w1 ⟨rfl, rfl⟩
  have ho2 : (w.setCell ⟨bm, 1, none⟩ (.int .i64 (n + 1))).cell? ⟨b2, j2, none⟩ = some (.int .u64 o) := by rw [cell_set_other _ (by exact hb2)]; exact ho
  have hf2 : (w.setCell ⟨bm, 1, none⟩ (.int .i64 (n + 1))).frozen? ⟨b2, j2, none⟩ = false := by rw [frozen_set_other _ (by exact hb2)]; exact hf
  have hw2 : (w.setCell ⟨bm, 1, none⟩ (.int .i64 (n + 1))).cell? ⟨bw, j, none⟩ = some (.int .u64 x) := by rw [cell_set_other _ (by exact hbw)]; exact hw
  go_wp2_with fail
  refine (do_read bw j b2 j2 x o _ hw2 ho2 hf2).mono ?_
  rintro e w1 ⟨rfl, rfl⟩
  go_wp2
  go_end0
  exact ⟨rfl, rfl⟩
theorem cnt_write (b : Nat) (w : World) : Calls Try.prog 48 #[.pointer (some ⟨b, 1, none⟩)] w fun e w' => e = .returned (.pointer (some ⟨b, 2, none⟩)) ∧ w = w' := by
  go_enter Try.func48, Try.ntmps48
  go_wp2
  go_ret
  exact ⟨rfl, rfl⟩
theorem cnt_swap (b : Nat) (w : World) : Calls Try.prog 52 #[.pointer (some ⟨b, 1, none⟩)] w fun e w' => e = .returned (.pointer (some ⟨b, 3, none⟩)) ∧ w = w' := by
  go_enter Try.func52, Try.ntmps52
  go_wp2
  go_ret
  exact ⟨rfl, rfl⟩
theorem cnt_add (b : Nat) (w : World) : Calls Try.prog 54 #[.pointer (some ⟨b, 1, none⟩)] w fun e w' => e = .returned (.pointer (some ⟨b, 4, none⟩)) ∧ w = w' := by
  go_enter Try.func54, Try.ntmps54
  go_wp2
  go_ret
  exact ⟨rfl, rfl⟩
theorem do_write (b j b2 j2 : Nat) (v o : Int) (w : World) (h : w.cell? ⟨b, j, none⟩ = some (.int .u64 o)) (hf : w.frozen? ⟨b, j, none⟩ = false) (hv : w.cell? ⟨b2, j2, none⟩ = some (.int .u64 v)) :
    Calls Try.prog 49 #[.pointer (some ⟨b, j, none⟩), .pointer (some ⟨b2, j2, none⟩)] w fun e w' => e = .returned (.tuple #[]) ∧ w' = w.setCell ⟨b, j, none⟩ (.int .u64 v) := by
  go_enter Try.func49, Try.ntmps49
  go_wp2
  go_end0
  exact ⟨rfl, rfl⟩
theorem do_swap (b j b2 b3 b4 : Nat) (o old fresh : Int) (w : World) (h : w.cell? ⟨b, j, none⟩ = some (.int .u64 o)) (hf : w.frozen? ⟨b, j, none⟩ = false) (h2 : w.cell? ⟨b2, 0, none⟩ = some (.int .u64 old)) (h3 : w.cell? ⟨b3, 0, none⟩ = some (.int .u64 fresh)) (h4 : w.cell? ⟨b4, 0, none⟩ = some (.bool false)) (hf4 : w.frozen? ⟨b4, 0, none⟩ = false) (hb4 : b4 ≠ b) :
    Calls Try.prog 53 #[.pointer (some ⟨b, j, none⟩), .pointer (some ⟨b2, 0, none⟩), .pointer (some ⟨b3, 0, none⟩), .pointer (some ⟨b4, 0, none⟩)] w fun e w' => e = .returned (.tuple #[]) ∧
      ∃ nq, w' = if o = old then ((w.drewN nq).setCell ⟨b, j, none⟩ (.int .u64 fresh)).setCell ⟨b4, 0, none⟩ (.bool true) else w.drewN nq := by
  have h5 : ∀ nq, ((w.drewN nq).setCell ⟨b, j, none⟩ (.int .u64 fresh)).cell? ⟨b4, 0, none⟩ = some (.bool false) := fun nq => by rw [cell_set_other _ (by exact hb4)]; exact h4
  have h6 : ∀ nq, ((w.drewN nq).setCell ⟨b, j, none⟩ (.int .u64 fresh)).frozen? ⟨b4, 0, none⟩ = false := fun nq => by rw [frozen_set_other _ (by exact hb4)]; exact hf4
  by_cases ho : o = old
  · simp only [if_pos ho]
    subst ho
    go_enter Try.func53, Try.ntmps53
    go_wp2_with fail
    go_quiet (fail)
    have g0 : (w.drewN nq).cell? ⟨b, j, none⟩ = some (.int .u64 o) := h
    have g1 : (w.drewN nq).frozen? ⟨b, j, none⟩ = false := hf
    have g3 : (w.drewN nq).cell? ⟨b3, 0, none⟩ = some (.int .u64 fresh) := h3
    have g5 := h5 nq; have g6 := h6 nq
    clear h5 h6
    go_wp2
    go_end0
    exact ⟨rfl, nq, rfl⟩
  · simp only [if_neg ho]
    have hne : (o == old) = false := by simpa using ho
    go_enter Try.func53, Try.ntmps53
    go_wp2_with fail
    go_quiet (fail)
    go_wp2
    go_end0
    exact ⟨rfl, nq, rfl⟩
theorem do_add (b j b2 b3 : Nat) (o d z : Int) (w : World) (h : w.cell? ⟨b, j, none⟩ = some (.int .u64 o)) (hf : w.frozen? ⟨b, j, none⟩ = false) (h2 : w.cell? ⟨b2, 0, none⟩ = some (.int .u64 z)) (hf2 : w.frozen? ⟨b2, 0, none⟩ = false) (h3 : w.cell? ⟨b3, 0, none⟩ = some (.int .u64 d)) (hb2 : b2 ≠ b) (hb3 : b3 ≠ b) (hb23 : b3 ≠ b2) :
    Calls Try.prog 55 #[.pointer (some ⟨b, j, none⟩), .pointer (some ⟨b2, 0, none⟩), .pointer (some ⟨b3, 0, none⟩)] w fun e w' => e = .returned (.tuple #[]) ∧
      w' = ((w.setCell ⟨b2, 0, none⟩ (.int .u64 o)).setCell ⟨b, j, none⟩ (.int .u64 (IntKind.u64.wrap (o + d)))).drew := by
  have h5 : (w.setCell ⟨b2, 0, none⟩ (.int .u64 o)).cell? ⟨b, j, none⟩ = some (.int .u64 o) := by rw [cell_set_other _ (by exact Ne.symm hb2)]; exact h
  have h6 : (w.setCell ⟨b2, 0, none⟩ (.int .u64 o)).frozen? ⟨b, j, none⟩ = false := by rw [frozen_set_other _ (by exact Ne.symm hb2)]; exact hf
  have h7 : (w.setCell ⟨b2, 0, none⟩ (.int .u64 o)).cell? ⟨b3, 0, none⟩ = some (.int .u64 d) := by rw [cell_set_other _ (by exact hb23)]; exact h3
  go_enter Try.func55, Try.ntmps55
  go_wp2
  obtain ⟨wA, hA⟩ : ∃ wA, wA = w.setCell ⟨b2, 0, none⟩ (.int .u64 o) := ⟨_, rfl⟩
  rw [← hA] at h5 h6 h7
  rw [← hA]
  have HA := Lib.hid hA; clear hA
  have k5 : wA.drew.cell? ⟨b, j, none⟩ = some (.int .u64 o) := h5
  have k6 : wA.drew.frozen? ⟨b, j, none⟩ = false := h6
  have k7 : wA.drew.cell? ⟨b3, 0, none⟩ = some (.int .u64 d) := h7
  go_still_tail 6, (by kernel_rfl)
  change wpList _ _ _ _ _ wA.drew
  go_wp2
  go_end0
  exact ⟨rfl, by rw [HA.out]⟩

theorem access_write (bm bw j b2 j2 : Nat) (len cap : Nat) (n x o : Int) (w : World) (h0 : w.cell? ⟨bm, 0, none⟩ = some (.slice (some ⟨bw, 0, none⟩) len cap)) (h1 : w.cell? ⟨bm, 2, none⟩ = some (.int .i64 n)) (hn : 0 ≤ n) (hn2 : n < 1000000000000)
    (h6 : w.cell? ⟨bm, 6, none⟩ = some .nilFunc) (hw : w.cell? ⟨bw, j, none⟩ = some (.int .u64 x)) (hfw : w.frozen? ⟨bw, j, none⟩ = false) (hj : j < len) (hlen : len ≤ 1048576) (hbw : bw ≠ bm) (ho : w.cell? ⟨b2, j2, none⟩ = some (.int .u64 o)) (hf1 : w.frozen? ⟨bm, 2, none⟩ = false) (hb2 : b2 ≠ bm) :
    Calls Try.prog 47 #[.pointer (some ⟨bm, 0, none⟩), .int .i64 1, .int .i64 (j : Int), .func (.func 48) #[] #[], .func (.func 49) #[] #[.pointer (some ⟨b2, j2, none⟩)]] w fun e w' =>
      e = .returned (.tuple #[]) ∧ w' = (w.setCell ⟨bm, 2, none⟩ (.int .i64 (n + 1))).setCell ⟨bw, j, none⟩ (.int .u64 o) := by
  have hj1 : (j : Int) < len := by omega
  have C := Lib.hid (cnt_write bm)
  have hnn := neq_nilFunc
  go_enter Try.func47, Try.ntmps47
  go_wp2_with fail
  refine (C.out _).mono ?_
  rintro e w1 ⟨rfl, rfl⟩
  have ho2 : (w.setCell ⟨bm, 2, none⟩ (.int .i64 (n + 1))).cell? ⟨b2, j2, none⟩ = some (.int .u64 o) := by rw [cell_set_other _ (by exact hb2)]; exact ho
  have hw2 : (w.setCell ⟨bm, 2, none⟩ (.int .i64 (n + 1))).cell? ⟨bw, j, none⟩ = some (.int .u64 x) := by rw [cell_set_other _ (by exact hbw)]; exact hw
  have hf2 : (w.setCell ⟨bm, 2, none⟩ (.int .i64 (n + 1))).frozen? ⟨bw, j, none⟩ = false := by rw [frozen_set_other _ (by exact hbw)]; exact hfw
  go_wp2_with fail
  refine (do_write bw j b2 j2 o x _ hw2 hf2 ho2).mono ?_
  rintro e w1 ⟨rfl, rfl⟩
  go_wp2
  go_end0
  exact ⟨rfl, rfl⟩
theorem access_add (bm bw j b2 b3 : Nat) (len cap : Nat) (n x z d : Int) (w : World) (h0 : w.cell? ⟨bm, 0, none⟩ = some (.slice (some ⟨bw, 0, none⟩) len cap)) (h1 : w.cell? ⟨bm, 4, none⟩ = some (.int .i64 n)) (hn : 0 ≤ n) (hn2 : n < 1000000000000)
    (h6 : w.cell? ⟨bm, 6, none⟩ = some .nilFunc) (hw : w.cell? ⟨bw, j, none⟩ = some (.int .u64 x)) (hfw : w.frozen? ⟨bw, j, none⟩ = false) (hj : j < len) (hlen : len ≤ 1048576) (hbw : bw ≠ bm) (ho : w.cell? ⟨b2, 0, none⟩ = some (.int .u64 z)) (hfo : w.frozen? ⟨b2, 0, none⟩ = false) (hd : w.cell? ⟨b3, 0, none⟩ = some (.int .u64 d)) (hf1 : w.frozen? ⟨bm, 4, none⟩ = false) (hb2 : b2 ≠ bm) (hb3 : b3 ≠ bm) (hb2w : b2 ≠ bw) (hb3w : b3 ≠ bw) (hb32 : b3 ≠ b2) :
    Calls Try.prog 47 #[.pointer (some ⟨bm, 0, none⟩), .int .i64 3, .int .i64 (j : Int), .func (.func 54) #[] #[], .func (.func 55) #[] #[.pointer (some ⟨b2, 0, none⟩), .pointer (some ⟨b3, 0, none⟩)]] w fun e w' =>
      e = .returned (.tuple #[]) ∧ w' = (((w.setCell ⟨bm, 4, none⟩ (.int .i64 (n + 1))).setCell ⟨b2, 0, none⟩ (.int .u64 x)).setCell ⟨bw, j, none⟩ (.int .u64 (IntKind.u64.wrap (x + d)))).drew := by
  have hj1 : (j : Int) < len := by omega
  have C := Lib.hid (cnt_add bm)
  have hnn := neq_nilFunc
  go_enter Try.func47, Try.ntmps47
  go_wp2_with fail
  refine (C.out _).mono ?_
  rintro e w1 ⟨rfl, rfl⟩
  have ho2 : (w.setCell ⟨bm, 4, none⟩ (.int .i64 (n + 1))).cell? ⟨b2, 0, none⟩ = some (.int .u64 z) := by rw [cell_set_other _ (by exact hb2)]; exact ho
  have hd2 : (w.setCell ⟨bm, 4, none⟩ (.int .i64 (n + 1))).cell? ⟨b3, 0, none⟩ = some (.int .u64 d) := by rw [cell_set_other _ (by exact hb3)]; exact hd
  have hfo2 : (w.setCell ⟨bm, 4, none⟩ (.int .i64 (n + 1))).frozen? ⟨b2, 0, none⟩ = false := by rw [frozen_set_other _ (by exact hb2)]; exact hfo
  have hw2 : (w.setCell ⟨bm, 4, none⟩ (.int .i64 (n + 1))).cell? ⟨bw, j, none⟩ = some (.int .u64 x) := by rw [cell_set_other _ (by exact hbw)]; exact hw
  have hf2 : (w.setCell ⟨bm, 4, none⟩ (.int .i64 (n + 1))).frozen? ⟨bw, j, none⟩ = false := by rw [frozen_set_other _ (by exact hbw)]; exact hfw
  go_wp2_with fail
  refine (do_add bw j b2 b3 x d z _ hw2 hf2 ho2 hfo2 hd2 hb2w hb3w hb32).mono ?_
  rintro e w1 ⟨rfl, rfl⟩
  obtain ⟨y, hy⟩ : ∃ y, y = IntKind.u64.wrap (x + d) := ⟨_, rfl⟩
  rw [← hy]
  have Hy := Lib.hid hy; clear hy
  go_wp2
  go_end0
  exact ⟨rfl, by rw [Hy.out]⟩
set_option maxHeartbeats 1000000 in
theorem access_swap (bm bw j b2 b3 b4 : Nat) (len cap : Nat) (n x old fresh : Int) (w : World) (h0 : w.cell? ⟨bm, 0, none⟩ = some (.slice (some ⟨bw, 0, none⟩) len cap)) (h1 : w.cell? ⟨bm, 3, none⟩ = some (.int .i64 n)) (hn : 0 ≤ n) (hn2 : n < 1000000000000)
    (h6 : w.cell? ⟨bm, 6, none⟩ = some .nilFunc) (hw : w.cell? ⟨bw, j, none⟩ = some (.int .u64 x)) (hfw : w.frozen? ⟨bw, j, none⟩ = false) (hj : j < len) (hlen : len ≤ 1048576) (hbw : bw ≠ bm) (hold : w.cell? ⟨b2, 0, none⟩ = some (.int .u64 old)) (hfresh : w.cell? ⟨b3, 0, none⟩ = some (.int .u64 fresh)) (hb : w.cell? ⟨b4, 0, none⟩ = some (.bool false)) (hfb : w.frozen? ⟨b4, 0, none⟩ = false) (hf1 : w.frozen? ⟨bm, 3, none⟩ = false) (hb2 : b2 ≠ bm) (hb3 : b3 ≠ bm) (hb4 : b4 ≠ bm) (hb4w : b4 ≠ bw) :
    Calls Try.prog 47 #[.pointer (some ⟨bm, 0, none⟩), .int .i64 2, .int .i64 (j : Int), .func (.func 52) #[] #[], .func (.func 53) #[] #[.pointer (some ⟨b2, 0, none⟩), .pointer (some ⟨b3, 0, none⟩), .pointer (some ⟨b4, 0, none⟩)]] w fun e w' =>
      e = .returned (.tuple #[]) ∧ ∃ nq, w' = if x = old then (((w.setCell ⟨bm, 3, none⟩ (.int .i64 (n + 1))).drewN nq).setCell ⟨bw, j, none⟩ (.int .u64 fresh)).setCell ⟨b4, 0, none⟩ (.bool true) else (w.setCell ⟨bm, 3, none⟩ (.int .i64 (n + 1))).drewN nq := by
  have hj1 : (j : Int) < len := by omega
  have C := Lib.hid (cnt_swap bm)
  have hnn := neq_nilFunc
  obtain ⟨w2, hw2e⟩ : ∃ w2, w2 = w.setCell ⟨bm, 3, none⟩ (.int .i64 (n + 1)) := ⟨_, rfl⟩
  have e0 : w2.cell? ⟨bm, 0, none⟩ = some (.slice (some ⟨bw, 0, none⟩) len cap) := by rw [hw2e, World.cell?_setCell_other _ _ _ _ (by simp)]; exact h0
  have e6 : w2.cell? ⟨bm, 6, none⟩ = some .nilFunc := by rw [hw2e, World.cell?_setCell_other _ _ _ _ (by simp)]; exact h6
  have e2 : w2.cell? ⟨b2, 0, none⟩ = some (.int .u64 old) := by rw [hw2e, cell_set_other _ (by exact hb2)]; exact hold
  have e3 : w2.cell? ⟨b3, 0, none⟩ = some (.int .u64 fresh) := by rw [hw2e, cell_set_other _ (by exact hb3)]; exact hfresh
  have e4 : w2.cell? ⟨b4, 0, none⟩ = some (.bool false) := by rw [hw2e, cell_set_other _ (by exact hb4)]; exact hb
  have e5 : w2.frozen? ⟨b4, 0, none⟩ = false := by rw [hw2e, frozen_set_other _ (by exact hb4)]; exact hfb
  have ew : w2.cell? ⟨bw, j, none⟩ = some (.int .u64 x) := by rw [hw2e, cell_set_other _ (by exact hbw)]; exact hw
  have ef : w2.frozen? ⟨bw, j, none⟩ = false := by rw [hw2e, frozen_set_other _ (by exact hbw)]; exact hfw
  have D := Lib.hid (do_swap bw j b2 b3 b4 x old fresh w2 ew ef e2 e3 e4 e5 hb4w)
  have HW := Lib.hid hw2e
  rw [← hw2e]
  by_cases hx : x = old
  · simp only [if_pos hx] at D ⊢
    clear hx hw2e
    go_enter Try.func47, Try.ntmps47
    go_wp2_with fail
    refine (C.out _).mono ?_
    rintro e w1 ⟨rfl, rfl⟩
    go_wp2_with fail
    rw [← HW.out]
    refine D.out.mono ?_
    rintro e w1 ⟨rfl, nq, hw1⟩
    have a6 : w1.cell? ⟨bm, 6, none⟩ = some .nilFunc := by rw [hw1, cell_set_other _ (by exact hb4.symm), cell_set_other _ (by exact hbw.symm)]; exact e6
    have H1 := Lib.hid hw1; clear hw1
    go_wp2
    go_end0
    exact ⟨rfl, nq, H1.out⟩
  · simp only [if_neg hx] at D ⊢
    clear hx hw2e
    go_enter Try.func47, Try.ntmps47
    go_wp2_with fail
    refine (C.out _).mono ?_
    rintro e w1 ⟨rfl, rfl⟩
    go_wp2_with fail
    rw [← HW.out]
    refine D.out.mono ?_
    rintro e w1 ⟨rfl, nq, hw1⟩
    have a6 : w1.cell? ⟨bm, 6, none⟩ = some .nilFunc := by rw [hw1]; exact e6
    have H1 := Lib.hid hw1; clear hw1
    go_wp2
    go_end0
    exact ⟨rfl, nq, H1.out⟩
end Go.Proofs.Ytkocgeedpinplaa
