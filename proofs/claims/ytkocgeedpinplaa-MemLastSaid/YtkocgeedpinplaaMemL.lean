/- Layer 2: the law MemLast: walk. -/
import Derived.Test.YtkocgeedpinplaaMemD
import Derived.Deep.RegionHeld3
set_option maxRecDepth 100000
namespace Go.Proofs.Ytkocgeedpinplaa
open Go.RowKit

theorem box_keep {S : Nat → Prop} {a b : World} {k j : Nat} {v : Value} (hc : Chg S a b) (hk : ¬ S k) (h : a.cell? ⟨k, j, none⟩ = some v) : b.cell? ⟨k, j, none⟩ = some v := (hc.cell (cell_lt h) hk).trans h

/-- Which way the law goes where it has nothing to try. -/
def lastOut (n : Nat) (q0 q1 : Int) : Prop := 65536 < n ∨ q0 < 0 ∨ (n : Int) ≤ q0 ∨ q1 < 0 ∨ (n : Int) ≤ q1

theorem memLast_out (ws : List Nat) (q0 q1 v0 v1 : Int) (a : Option Addr) (c : Nat) (w : World) (hs : SlAt w a ws.length 1 (u64G ws)) (hc : a = none → c = 0) (hv : ∀ x ∈ ws, x < 18446744073709551616) (ho : lastOut ws.length q0 q1) :
    Calls Try.prog 3 #[.slice a ws.length c, .agg #[.int .i64 q0, .int .i64 q1], .agg #[.int .u64 v0, .int .u64 v1]] w fun e w' => e = .returned (.bool true) ∧ Below w.heap.size w w' := by
  have hm := hs.1
  unfold maxLen at hm
  have T := Lib.hid two_true
  obtain ⟨w0, hw0⟩ : ∃ w0, w0 = (w.alloc (.cells #[.int .i64 q0, .int .i64 q1] 23)).alloc (.cells #[.int .u64 v0, .int .u64 v1] 25) := ⟨_, rfl⟩
  have hgr : Below w.heap.size w w0 := by rw [hw0]; exact Gr.alloc (Gr.new w _) _
  by_cases h1 : 65536 < ws.length
  · have N := Lib.hid (new_long a ws.length c w0 hs.1 h1)
    rw [hw0] at N
    clear hs hv ho hw0 hgr w0
    go_enter Try.func3, Try.ntmps3
    go_wp2_with fail
    refine N.out.mono ?_
    rintro e w1 ⟨rfl, rfl⟩
    go_wp2_with fail
    refine (T.out _).mono ?_
    rintro e w1 ⟨rfl, hb⟩
    have Hb := Lib.hid hb; clear hb
    go_wp2
    go_ret
    exact ⟨rfl, Gr.trans (Gr.alloc (Gr.new w _) _) Hb.out⟩
  · have N := Lib.hid (new_mem a c ws w0 (hs.grown hgr) (by omega) hc hv)
    have k0 : w0.cell? ⟨w.heap.size, 0, none⟩ = some (.int .i64 q0) := by rw [hw0, World.cell?_alloc_lt _ _ _ (by simp), cell_new]; rfl
    have k1 : w0.cell? ⟨w.heap.size, 1, none⟩ = some (.int .i64 q1) := by rw [hw0, World.cell?_alloc_lt _ _ _ (by simp), cell_new]; rfl
    have l0 : w.heap.size < w0.heap.size := by rw [hw0]; simp; omega
    have Hgr := Lib.hid hgr; have K0 := Lib.hid k0; have K1 := Lib.hid k1; have L0 := Lib.hid l0
    have ho2 : q0 < 0 ∨ (0 ≤ q0 ∧ (ws.length : Int) ≤ q0) ∨ (0 ≤ q0 ∧ q0 < ws.length ∧ q1 < 0) ∨ (0 ≤ q0 ∧ q0 < ws.length ∧ 0 ≤ q1 ∧ (ws.length : Int) ≤ q1) := by unfold lastOut at ho; omega
    rw [hw0] at N
    have H0 := Lib.hid hw0
    clear hs hv ho hw0 hgr h1 hc k0 k1 l0
    rcases ho2 with h | ⟨g, h⟩ | ⟨g1, g2, h⟩ | ⟨g1, g2, g3, h⟩
    all_goals
      go_enter Try.func3, Try.ntmps3
      go_wp2_with fail
      refine N.out.mono ?_
      rintro e w1 ⟨bm, bw, rfl, _, hb, _⟩
      rw [← H0.out] at hb
      have k0 := (hb.cell (p := ⟨w.heap.size, 0, none⟩) L0.out).trans K0.out
      have k1 := (hb.cell (p := ⟨w.heap.size, 1, none⟩) L0.out).trans K1.out
      have Hb := Lib.hid hb; clear hb
      go_wp2_with fail
      refine (T.out _).mono ?_
      rintro e w2 ⟨rfl, hb⟩
      have Hb2 := Lib.hid hb; clear hb
      go_wp2
      go_ret
      exact ⟨rfl, Gr.trans (Gr.trans Hgr.out Hb.out) Hb2.out⟩

theorem getD_set_same {l : List Nat} {i v : Nat} (h : i < l.length) : (l.set i v).getD i 0 = v := by simp [List.getD_eq_getElem?_getD, h]
theorem getD_set_ne {l : List Nat} {i j v : Nat} (h : i ≠ j) : (l.set i v).getD j 0 = l.getD j 0 := by simp [List.getD_eq_getElem?_getD, List.getElem?_set, h]

set_option maxHeartbeats 4000000 in
theorem memLast_in (ws : List Nat) (i j v0 v1 : Nat) (a : Option Addr) (c : Nat) (w : World) (hs : SlAt w a ws.length 1 (u64G ws)) (hc : a = none → c = 0) (hv : ∀ x ∈ ws, x < 18446744073709551616) (hl : ws.length ≤ 65536) (hi : i < ws.length) (hj : j < ws.length) (hv0 : v0 < 18446744073709551616) (hv1 : v1 < 18446744073709551616) :
    Calls Try.prog 3 #[.slice a ws.length c, .agg #[.int .i64 i, .int .i64 j], .agg #[.int .u64 v0, .int .u64 v1]] w fun e w' => e = .returned (.bool true) ∧ Below w.heap.size w w' := by
  have hm := hs.1
  unfold maxLen at hm
  have T := Lib.hid two_true
  obtain ⟨w0, hw0⟩ : ∃ w0, w0 = (w.alloc (.cells #[.int .i64 i, .int .i64 j] 23)).alloc (.cells #[.int .u64 v0, .int .u64 v1] 25) := ⟨_, rfl⟩
  have hgr : Below w.heap.size w w0 := by rw [hw0]; exact Gr.alloc (Gr.new w _) _
  have N := Lib.hid (new_mem a c ws w0 (hs.grown hgr) hl hc hv)
  have k0 : w0.cell? ⟨w.heap.size, 0, none⟩ = some (.int .i64 i) := by rw [hw0, World.cell?_alloc_lt _ _ _ (by simp), cell_new]; rfl
  have k1 : w0.cell? ⟨w.heap.size, 1, none⟩ = some (.int .i64 j) := by rw [hw0, World.cell?_alloc_lt _ _ _ (by simp), cell_new]; rfl
  have e2 : ∀ t, w0.cell? ⟨w.heap.size + 1, t, none⟩ = (#[.int .u64 v0, .int .u64 v1] : Array Value)[t]? := fun t => by
    rw [hw0]
    have := cell_new (w.alloc (.cells #[.int .i64 (i : Int), .int .i64 (j : Int)] 23)) #[.int .u64 v0, .int .u64 v1] 25 (0, 0) t
    rw [World.size_alloc] at this; exact this
  have k2 : w0.cell? ⟨w.heap.size + 1, 0, none⟩ = some (.int .u64 v0) := by rw [e2]; rfl
  have k3 : w0.cell? ⟨w.heap.size + 1, 1, none⟩ = some (.int .u64 v1) := by rw [e2]; rfl
  have l0 : w0.heap.size = w.heap.size + 2 := by rw [hw0]; simp
  have Hgr := Lib.hid hgr; have K0 := Lib.hid k0; have K1 := Lib.hid k1; have K2 := Lib.hid k2; have K3 := Lib.hid k3; have L0 := Lib.hid l0
  rw [hw0] at N
  have H0 := Lib.hid hw0
  have li : (i : Int) < ws.length := by omega
  have lj : (j : Int) < ws.length := by omega
  have Hl := Lib.hid hl; have Hi := Lib.hid hi; have Hj := Lib.hid hj; have Hv0 := Lib.hid hv0; have Hv1 := Lib.hid hv1
  clear hs hv hw0 hgr hc k0 k1 l0 k2 k3 e2 hl hi hj hv0 hv1
  go_enter Try.func3, Try.ntmps3
  go_wp2_with fail
  refine N.out.mono ?_
  rintro e w1 ⟨bm, bw, rfl, hm0, hb, hq1, hq2⟩
  rw [← H0.out] at hb hq1 hq2
  have k0 := (hb.cell (p := ⟨w.heap.size, 0, none⟩) (by have := L0.out; simp; omega)).trans K0.out
  have k1 := (hb.cell (p := ⟨w.heap.size, 1, none⟩) (by have := L0.out; simp; omega)).trans K1.out
  have k2 := (hb.cell (p := ⟨w.heap.size + 1, 0, none⟩) (by have := L0.out; simp; omega)).trans K2.out
  have k3 := (hb.cell (p := ⟨w.heap.size + 1, 1, none⟩) (by have := L0.out; simp; omega)).trans K3.out
  have n4 : ¬ MemSet bm bw w.heap.size := by
    have := L0.out
    rintro (h | h)
    · omega
    · have := hq2 _ h.symm; omega
  have n5 : ¬ MemSet bm bw (w.heap.size + 1) := by
    have := L0.out
    rintro (h | h)
    · omega
    · have := hq2 _ h.symm; omega
  have Hbel := Lib.hid (fun (w' : World) (h : Chg (MemSet bm bw) w1 w') => show Below w.heap.size w w' from
    ((Chg.of_below (Gr.trans Hgr.out hb)).trans h).below (fun k hk => by
      have := L0.out
      rcases hk with rfl | hk
      · omega
      · have := hq2 _ hk.symm; omega) (Nat.le_refl _))
  have N4 := Lib.hid n4; have N5 := Lib.hid n5
  have W1 := Lib.hid (write_any bm bw ⟨ws, c0⟩ i v0 w1 hm0 Hv0.out (by simp [CountsD.all, c0]))
  clear hb hm0 hq1 hq2 n4 n5
  go_wp2_with fail
  refine W1.out.mono ?_
  rintro e w2 ⟨rfl, hm1, hc⟩
  have Hc := Lib.hid hc
  replace k0 := box_keep hc N4.out k0
  replace k1 := box_keep hc N4.out k1
  replace k2 := box_keep hc N5.out k2
  replace k3 := box_keep hc N5.out k3
  have q1 : memWrite ⟨ws, c0⟩ (i : Int) v0 = ⟨ws.set i v0, ⟨0, 1, 0, 0, 0⟩⟩ := by unfold memWrite memOut; rw [if_neg (by simp; have := Hi.out; omega)]; rfl
  rw [q1] at hm1
  have W2 := Lib.hid (write_any bm bw _ j v1 w2 hm1 Hv1.out (by simp [CountsD.all]))
  have q2 : memWrite ⟨ws.set i v0, ⟨0, 1, 0, 0, 0⟩⟩ (j : Int) v1 = ⟨(ws.set i v0).set j v1, ⟨0, 2, 0, 0, 0⟩⟩ := by unfold memWrite memOut; rw [if_neg (by simp; have := Hj.out; omega)]; rfl
  rw [q2] at W2
  clear hc hm1 q1 q2
  go_wp2_with fail
  refine W2.out.mono ?_
  rintro e w3 ⟨rfl, hm2, hc⟩
  have Hc2 := Lib.hid (Hc.out.trans hc)
  replace k0 := box_keep hc N4.out k0
  replace k1 := box_keep hc N4.out k1
  replace k2 := box_keep hc N5.out k2
  replace k3 := box_keep hc N5.out k3
  clear hc
  by_cases hij : i = j
  · subst hij
    have R := Lib.hid (fun (u : World) (h : Chg (fun _ => False) w3 u) => read_any bm bw _ i u (hm2.chg h (fun h => h) (fun _ _ h => h)) (by simp [CountsD.all]))
    have q3 : (memRead ⟨(ws.set i v0).set i v1, ⟨0, 2, 0, 0, 0⟩⟩ (i : Int)).2 = v1 := by unfold memRead memOut; rw [if_neg (by simp; have := Hj.out; omega)]; simp only [Int.toNat_natCast]; rw [getD_set_same (by simp; exact Hj.out)]
    rw [q3] at R
    clear hm2 q3
    go_wp2_with fail
    go_region_held3 (fun x => x.cell? ⟨w.heap.size, 0, none⟩ = some (.int .i64 i) ∧ x.cell? ⟨w.heap.size + 1, 1, none⟩ = some (.int .u64 v1))
      (first | exact ⟨k0, k3⟩ | exact ⟨box_keep hc N4.out k0, box_keep hc N5.out k3⟩ | exact ⟨box_keep (Chg.of_below (S := MemSet bm bw) hbt) N4.out (box_keep hc N4.out k0), box_keep (Chg.of_below (S := MemSet bm bw) hbt) N5.out (box_keep hc N5.out k3)⟩ | go_keep)
      (first | (go_at_call 18; refine (R.out _ ?_).mono ?_; (exact (Chg.refl _ _).drew); rintro e w4 ⟨rfl, hm, hc⟩) | (go_at_call 16; refine (T.out _).mono ?_; rintro e w5 ⟨rfl, hbt⟩))
    have Hf := Lib.hid (Hbel.out _ (((Hc2.out.drew).trans hc).trans (Chg.of_below hbt)))
    clear hm hc hbt
    go_wp2
    go_ret
    exact ⟨rfl, Hf.out⟩
  · obtain ⟨ws2, hws2⟩ : ∃ ws2, ws2 = (ws.set i v0).set j v1 := ⟨_, rfl⟩
    have li2 : i < ws2.length := by rw [hws2]; simpa using Hi.out
    have lj2 : j < ws2.length := by rw [hws2]; simpa using Hj.out
    have g1 : ws2.getD i 0 = v0 := by rw [hws2, getD_set_ne (Ne.symm hij), getD_set_same (by have := Hi.out; simpa using this)]
    have g2 : ws2.getD j 0 = v1 := by rw [hws2, getD_set_same (by have := Hj.out; simpa using this)]
    rw [← hws2] at hm2
    have hwr : IntKind.u64.wrap ((v1 : Int) + v0) = (((v1 + v0) % 18446744073709551616 : Nat) : Int) := by simp [IntKind.wrap, IntKind.bits, IntKind.signed]
    have R1 := Lib.hid (fun (u : World) (h : MemAt u bm bw ⟨ws2, ⟨0, 2, 0, 0, 0⟩⟩) => show Calls Try.prog 18 #[.pointer (some ⟨bm, 0, none⟩), .int .i64 i] u fun e w' => e = .returned (.int .u64 v0) ∧ MemAt w' bm bw ⟨ws2, ⟨1, 2, 0, 0, 0⟩⟩ ∧ Chg (MemSet bm bw) u w' from read_in bm bw _ i v0 u h li2 g1 (by simp [CountsD.all]))
    have R2 := Lib.hid (fun (u : World) (h : MemAt u bm bw ⟨ws2, ⟨1, 2, 0, 0, 0⟩⟩) => show Calls Try.prog 18 #[.pointer (some ⟨bm, 0, none⟩), .int .i64 j] u fun e w' => e = .returned (.int .u64 v1) ∧ MemAt w' bm bw ⟨ws2, ⟨2, 2, 0, 0, 0⟩⟩ ∧ Chg (MemSet bm bw) u w' from read_in bm bw _ j v1 u h lj2 g2 (by simp [CountsD.all]))
    have R3 := Lib.hid (fun (u : World) (h : MemAt u bm bw ⟨ws2, ⟨2, 2, 0, 0, 0⟩⟩) => show Calls Try.prog 19 #[.pointer (some ⟨bm, 0, none⟩), .int .i64 i, .int .u64 v0, .int .u64 v1] u fun e w' => e = .returned (.bool true) ∧ MemAt w' bm bw ⟨ws2.set i v1, ⟨2, 2, 1, 0, 0⟩⟩ ∧ Chg (MemSet bm bw) u w' from swap_in bm bw _ i v0 v1 v0 u h li2 g1 Hv1.out (by simp [CountsD.all]) true (by simp))
    have R4 := Lib.hid (fun (u : World) (h : MemAt u bm bw ⟨ws2.set i v1, ⟨2, 2, 1, 0, 0⟩⟩) => show Calls Try.prog 20 #[.pointer (some ⟨bm, 0, none⟩), .int .i64 i, .int .u64 v0] u fun e w' => e = .returned (.int .u64 v1) ∧ MemAt w' bm bw ⟨(ws2.set i v1).set i ((v1 + v0) % 18446744073709551616), ⟨2, 2, 1, 1, 0⟩⟩ ∧ Chg (MemSet bm bw) u w' from add_in bm bw _ i v0 v1 u h (by simpa using li2) (getD_set_same li2) (by simp [CountsD.all]))
    have R5 := Lib.hid (fun (u : World) (h : MemAt u bm bw ⟨(ws2.set i v1).set i ((v1 + v0) % 18446744073709551616), ⟨2, 2, 1, 1, 0⟩⟩) => show Calls Try.prog 18 #[.pointer (some ⟨bm, 0, none⟩), .int .i64 i] u fun e w' => e = .returned (.int .u64 (IntKind.u64.wrap ((v1 : Int) + v0))) ∧ MemAt w' bm bw ⟨(ws2.set i v1).set i ((v1 + v0) % 18446744073709551616), ⟨3, 2, 1, 1, 0⟩⟩ ∧ Chg (MemSet bm bw) u w' from by
      rw [hwr]; exact read_in bm bw _ i _ u h (by simpa using li2) (getD_set_same (by simpa using li2)) (by simp [CountsD.all]))
    have R6 := Lib.hid (fun (u : World) (h : MemAt u bm bw ⟨(ws2.set i v1).set i ((v1 + v0) % 18446744073709551616), ⟨3, 2, 1, 1, 0⟩⟩) => show Calls Try.prog 18 #[.pointer (some ⟨bm, 0, none⟩), .int .i64 j] u fun e w' => e = .returned (.int .u64 v1) ∧ MemAt w' bm bw ⟨(ws2.set i v1).set i ((v1 + v0) % 18446744073709551616), ⟨4, 2, 1, 1, 0⟩⟩ ∧ Chg (MemSet bm bw) u w' from read_in bm bw _ j v1 u h (by simpa using lj2) (by rw [getD_set_ne hij, getD_set_ne hij]; exact g2) (by simp [CountsD.all]))
    have hne : ((i : Int) == (j : Int)) = false := by simp; omega
    have hm := hm2.chg (S := fun _ => False) ((Chg.refl _ w3).drew) (fun h => h) (fun _ _ h => h)
    have Ha := Lib.hid (Hc2.out.drew)
    clear hm2 hws2 li2 lj2 g1 g2 hij hwr
    go_wp2_with fail
    go_region_held3 (fun x => x.cell? ⟨w.heap.size, 0, none⟩ = some (.int .i64 i) ∧ x.cell? ⟨w.heap.size, 1, none⟩ = some (.int .i64 j) ∧ x.cell? ⟨w.heap.size + 1, 0, none⟩ = some (.int .u64 v0) ∧ x.cell? ⟨w.heap.size + 1, 1, none⟩ = some (.int .u64 v1))
      (first | exact ⟨k0, k1, k2, k3⟩ | (go_split_ands; exact ⟨box_keep (Chg.of_below (S := MemSet bm bw) hbt) N4.out (by assumption), box_keep (Chg.of_below (S := MemSet bm bw) hbt) N4.out (by assumption), box_keep (Chg.of_below (S := MemSet bm bw) hbt) N5.out (by assumption), box_keep (Chg.of_below (S := MemSet bm bw) hbt) N5.out (by assumption)⟩) | (go_split_ands; exact ⟨box_keep hc N4.out (by assumption), box_keep hc N4.out (by assumption), box_keep hc N5.out (by assumption), box_keep hc N5.out (by assumption)⟩) | go_keep)
      (first | (go_at_call 18; (with_reducible refine (R1.out _ hm).mono ?_); rintro e w4 ⟨rfl, hm, hc⟩; replace Ha := Lib.hid (Ha.out.trans hc)) | (go_at_call 18; (with_reducible refine (R2.out _ hm).mono ?_); rintro e w4 ⟨rfl, hm, hc⟩; replace Ha := Lib.hid (Ha.out.trans hc)) | (go_at_call 19; (with_reducible refine (R3.out _ hm).mono ?_); rintro e w4 ⟨rfl, hm, hc⟩; replace Ha := Lib.hid (Ha.out.trans hc)) | (go_at_call 20; (with_reducible refine (R4.out _ hm).mono ?_); rintro e w4 ⟨rfl, hm, hc⟩; replace Ha := Lib.hid (Ha.out.trans hc)) | (go_at_call 18; (with_reducible refine (R5.out _ hm).mono ?_); rintro e w4 ⟨rfl, hm, hc⟩; replace Ha := Lib.hid (Ha.out.trans hc)) | (go_at_call 18; (with_reducible refine (R6.out _ hm).mono ?_); rintro e w4 ⟨rfl, hm, hc⟩; replace Ha := Lib.hid (Ha.out.trans hc)) | (go_at_call 16; (with_reducible refine (T.out _).mono ?_); rintro e w5 ⟨rfl, hbt⟩))
    have Hf := Lib.hid (Hbel.out _ (Ha.out.trans (Chg.of_below hbt)))
    clear hm hbt
    go_wp2
    go_ret
    exact ⟨rfl, Hf.out⟩

theorem memLast_any (ws : List Nat) (q0 q1 : Int) (v0 v1 : Nat) (a : Option Addr) (c : Nat) (w : World) (hs : SlAt w a ws.length 1 (u64G ws)) (hc : a = none → c = 0) (hv : ∀ x ∈ ws, x < 18446744073709551616) (hv0 : v0 < 18446744073709551616) (hv1 : v1 < 18446744073709551616) :
    Calls Try.prog 3 #[.slice a ws.length c, .agg #[.int .i64 q0, .int .i64 q1], .agg #[.int .u64 v0, .int .u64 v1]] w fun e w' => e = .returned (.bool true) ∧ Below w.heap.size w w' := by
  by_cases h : lastOut ws.length q0 q1
  · exact memLast_out ws q0 q1 v0 v1 a c w hs hc hv h
  · unfold lastOut at h
    obtain ⟨i, rfl⟩ : ∃ i : Nat, q0 = (i : Int) := ⟨q0.toNat, by omega⟩
    obtain ⟨j, rfl⟩ : ∃ j : Nat, q1 = (j : Int) := ⟨q1.toNat, by omega⟩
    exact memLast_in ws i j v0 v1 a c w hs hc hv (by omega) (by omega) (by omega) hv0 hv1
end Go.Proofs.Ytkocgeedpinplaa
