/- Contracts of package desc: what a word tells. -/
import Derived.Test.YtajlceknahngkaaDescA
import Derived.StillTailTactics
set_option maxRecDepth 100000
namespace Go.Proofs.Ytajlceknahngkaa
open Go.RowKit

def dP (x : Nat) : Bool := x % 2 == 1
def dT (x : Nat) : Bool := x / 2 % 2 == 1
def dL (x : Nat) : Nat := x / 4 % 1073741824
def dPh (x : Nat) : Nat := x / 4294967296
def descV (p t : Bool) (l ph : Nat) : Value := .agg #[.bool p, .bool t, .int .u64 (l : Int), .int .u64 (ph : Int)]

theorem unpack19 {x : Nat} (hx : U64 x) : unpackGo x [1, 1, 30, 32] 0 = some [x % 2, x / 2 % 2, dL x, dPh x] := by
  have h := hx.lt
  simp [unpackGo, isB, dL, dPh]
  omega

theorem descUnpack_any (x : Nat) (w : World) (hx : U64 x) :
    Calls Try.prog 53 #[.int .u64 (x : Int)] w fun e w' => e = .returned (.agg #[.bool (dP x), .bool (dT x), .int .u64 (dL x : Int), .int .u64 (dPh x : Int)]) ∧ Below w.heap.size w w' := by
  have hu := unpack19 hx
  obtain ⟨P, hP⟩ : ∃ P, P = x % 2 := ⟨_, rfl⟩
  obtain ⟨T, hT⟩ : ∃ T, T = x / 2 % 2 := ⟨_, rfl⟩
  obtain ⟨l, hl⟩ : ∃ l, l = dL x := ⟨_, rfl⟩
  obtain ⟨ph, hph⟩ : ∃ ph, ph = dPh x := ⟨_, rfl⟩
  obtain ⟨pb, hpb⟩ : ∃ pb, pb = dP x := ⟨_, rfl⟩
  obtain ⟨tb, htb⟩ : ∃ tb, tb = dT x := ⟨_, rfl⟩
  have q1 : ((P : Int) == 1) = pb := by rw [hpb, hP]; unfold dP; rw [Bool.eq_iff_iff]; simp; omega
  have q2 : ((T : Int) == 1) = tb := by rw [htb, hT]; unfold dT; rw [Bool.eq_iff_iff]; simp; omega
  rw [← hP, ← hT, ← hl, ← hph] at hu
  rw [← hl, ← hph, ← hpb, ← htb]
  have Hu := Lib.hid hu
  clear hu hP hT hl hph hpb htb
  go_enter Try.func53, Try.ntmps53
  go_wp2_with fail
  have hs : SlAt ((w.alloc (.cells #[.bool false, .bool false, .int .u64 0, .int .u64 0] 84)).alloc (.cells #[.int .i64 1, .int .i64 1, .int .i64 30, .int .i64 32] 3)) (some ⟨w.heap.size + 1, 0, none⟩) ([1, 1, 30, 32] : List Int).length 1 (intG [1, 1, 30, 32]) := by
    have := sl_alloc (w.alloc (.cells #[.bool false, .bool false, .int .u64 0, .int .u64 0] 84)) #[.int .i64 1, .int .i64 1, .int .i64 30, .int .i64 32] 3 (n := 4) (k := 1) (g := intG [1, 1, 30, 32]) (by unfold maxLen; simp) (fun j hj f hf => by
      obtain rfl : f = 0 := by omega
      obtain rfl | rfl | rfl | rfl : j = 0 ∨ j = 1 ∨ j = 2 ∨ j = 3 := by omega
      all_goals rfl)
    simpa using this
  refine (unpack_any x [1, 1, 30, 32] _ _ _ hs hx (by simp)).mono ?_
  rintro e w2 ⟨hb2, ⟨hn, _⟩ | ⟨r, a', c', hr, rfl, hsl, hfr⟩⟩
  · have := hn.out; rw [Hu.out] at this; cases this
  obtain rfl : r = [P, T, l, ph] := by have := hr.out; rw [Hu.out] at this; simpa using this.symm
  clear hr hs
  obtain ⟨_, hc⟩ := hsl
  obtain ⟨b, off, rfl, hbs, hc0⟩ := hc 0 (by simp)
  obtain ⟨b1, off1, h1, _, hc1⟩ := hc 1 (by simp)
  obtain ⟨b2, off2, h2, _, hc2⟩ := hc 2 (by simp)
  obtain ⟨b3, off3, h3, _, hc3⟩ := hc 3 (by simp)
  cases h1; cases h2; cases h3
  have hfb := hfr b off rfl
  have k0 : w2.cell? ⟨b, off, none⟩ = some (.int .u64 (P : Int)) := by simpa [u64G] using hc0 0 (by omega)
  have k1 : w2.cell? ⟨b, off + 1, none⟩ = some (.int .u64 (T : Int)) := by simpa [u64G] using hc1 0 (by omega)
  have k2 : w2.cell? ⟨b, off + 2, none⟩ = some (.int .u64 (l : Int)) := by simpa [u64G] using hc2 0 (by omega)
  have k3 : w2.cell? ⟨b, off + 3, none⟩ = some (.int .u64 (ph : Int)) := by simpa [u64G] using hc3 0 (by omega)
  have hd : w2.heap[w.heap.size]? = some (.cells #[.bool false, .bool false, .int .u64 0, .int .u64 0] 84 (0, 0)) := by
    rw [hb2.block _ (by simp; omega), Below.heap_alloc _ _ _ (by simp)]
    exact heap_alloc_new _ _
  have Hd := Lib.hid hd; have Hb2 := Lib.hid hb2
  have m0 : w2.cell? ⟨w.heap.size, 0, none⟩ = some (.bool false) := by rw [cell_blk hd]; rfl
  have m1 : w2.cell? ⟨w.heap.size, 1, none⟩ = some (.bool false) := by rw [cell_blk hd]; rfl
  have m2 : w2.cell? ⟨w.heap.size, 2, none⟩ = some (.int .u64 0) := by rw [cell_blk hd]; rfl
  have m3 : w2.cell? ⟨w.heap.size, 3, none⟩ = some (.int .u64 0) := by rw [cell_blk hd]; rfl
  have f0 : w2.frozen? ⟨w.heap.size, 0, none⟩ = false := frozen_blk hd 0
  have f1 : w2.frozen? ⟨w.heap.size, 1, none⟩ = false := frozen_blk hd 1
  have f2 : w2.frozen? ⟨w.heap.size, 2, none⟩ = false := frozen_blk hd 2
  have f3 : w2.frozen? ⟨w.heap.size, 3, none⟩ = false := frozen_blk hd 3
  clear hc0 hc1 hc2 hc3 hc hfr hd hb2
  go_wp2
  go_still_tail 15, (by kernel_rfl)
  change wpList _ _ _ _ _ w2.drew
  go_wp2
  have hfin : Below w.heap.size w w2 := Gr.trans (Gr.alloc (Gr.new _ _) _) Hb2.out
  refine bodyPost_ret (v := .agg #[.bool pb, .bool tb, .int .u64 (l : Int), .int .u64 (ph : Int)]) (by simp [results, Try.results53, go_sem, m0, m1, m2, m3]) rfl ⟨rfl, ?_⟩
  exact (((((hfin.setCell (Nat.le_refl _) _).setCell (Nat.le_refl _) _).setCell (Nat.le_refl _) _).setCell (Nat.le_refl _) _).drew)

/-- The word with another load. -/
theorem load_yes (x l : Nat) (w : World) (hx : U64 x) (hl : l < 1073741824) :
    Calls Try.prog 60 #[.int .u64 (x : Int), .int .u64 (l : Int)] w fun e w' => e = .returned (.tuple #[.int .u64 (putN x 2 30 l : Nat), .int .i64 0]) ∧ w = w' := by
  have H := Lib.hid (put_yes x 2 30 l w (by decide) hx (by unfold U64; omega) (by simpa using hl))
  generalize putN x 2 30 l = y at H
  clear hl
  go_enter Try.func60, Try.ntmps60
  go_wp2_with fail
  refine (H.out).mono ?_
  rintro e w' ⟨rfl, rfl⟩
  go_wp2
  go_ret2
  exact ⟨rfl, rfl⟩
theorem load_no (x l : Nat) (w : World) (hl : 1073741824 ≤ l) (hlU : U64 l) :
    Calls Try.prog 60 #[.int .u64 (x : Int), .int .u64 (l : Int)] w fun e w' => e = .returned (.tuple #[.int .u64 0, .int .i64 10]) ∧ w = w' := by
  have H := Lib.hid (put_over x 2 30 l w (by decide) hlU (by simpa using hl))
  clear hl
  go_enter Try.func60, Try.ntmps60
  go_wp2_with fail
  refine (H.out).mono ?_
  rintro e w' ⟨rfl, rfl⟩
  go_wp2
  go_ret2
  exact ⟨rfl, rfl⟩

theorem clr_val {x : Nat} (hx : U64 x) : bits BinOp.andNot IntKind.u64 (x : Int) 1 = ((x / 2 * 2 : Nat) : Int) := by
  have h := hx.lt
  have := u64_andNot_nat x 1 h (by omega)
  rw [show ((1 : Nat) : Int) = 1 from rfl] at this
  rw [this]
  congr 1
  apply Nat.eq_of_testBit_eq
  intro i
  rw [Nat.testBit_and, show 18446744073709551615 - 1 = 2 ^ 64 - (1 + 1) by decide, Nat.testBit_two_pow_sub_succ (by decide), Nat.mul_comm, show 2 * (x / 2) = 2 ^ 1 * (x / 2) by simp, Nat.testBit_two_pow_mul]
  by_cases c : 1 ≤ i
  · have e1 : Nat.testBit 1 i = false := Nat.testBit_lt_two_pow (Nat.lt_of_lt_of_le (show 1 < 2 ^ 1 by decide) (Nat.pow_le_pow_right (by decide) c))
    have e2 : (x / 2).testBit (i - 1) = x.testBit i := by
      have := Nat.testBit_div_two_pow (n := 1) x (i := i - 1)
      rw [show i - 1 + 1 = i by omega] at this
      simpa using this
    by_cases c3 : i < 64
    · simp [c, e1, e2, c3]
    · have e3 : x.testBit i = false := Nat.testBit_lt_two_pow (Nat.lt_of_lt_of_le (show x < 2 ^ 64 by omega) (Nat.pow_le_pow_right (by omega) (by omega)))
      simp [c, e1, e2, e3]
  · obtain rfl : i = 0 := by omega
    simp

theorem descFinish_yes (x l : Nat) (w : World) (hx : U64 x) (hl : l < 1073741824) :
    Calls Try.prog 59 #[.int .u64 (x : Int), .int .u64 (l : Int)] w fun e w' => e = .returned (.tuple #[.int .u64 (putN (x / 2 * 2) 2 30 l : Nat), .int .i64 0]) ∧ w = w' := by
  have H := load_yes (x / 2 * 2) l w (by have := hx.lt; unfold U64; omega) hl
  rw [← clr_val hx] at H
  generalize putN (x / 2 * 2) 2 30 l = y at H
  have H := Lib.hid H
  clear hl
  go_enter Try.func59, Try.ntmps59
  go_wp2_with fail
  refine (H.out).mono ?_
  rintro e w' ⟨rfl, rfl⟩
  go_wp2
  go_ret2
  exact ⟨rfl, rfl⟩
theorem descFinish_no (x l : Nat) (w : World) (hx : U64 x) (hl : 1073741824 ≤ l) (hlU : U64 l) :
    Calls Try.prog 59 #[.int .u64 (x : Int), .int .u64 (l : Int)] w fun e w' => e = .returned (.tuple #[.int .u64 0, .int .i64 10]) ∧ w = w' := by
  have H := load_no (x / 2 * 2) l w hl hlU
  rw [← clr_val hx] at H
  have H := Lib.hid H
  clear hl
  go_enter Try.func59, Try.ntmps59
  go_wp2_with fail
  refine (H.out).mono ?_
  rintro e w' ⟨rfl, rfl⟩
  go_wp2
  go_ret2
  exact ⟨rfl, rfl⟩
end Go.Proofs.Ytajlceknahngkaa
