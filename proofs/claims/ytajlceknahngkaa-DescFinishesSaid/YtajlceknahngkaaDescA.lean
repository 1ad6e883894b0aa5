/- Contracts of package desc, and of its reference. -/
import Derived.Test.YtajlceknahngkaaNodeB
import Derived.Deep.RegionHeld3
import Derived.Deep.AppendLies
import Derived.Test.YtajlceknahngkaaChg
namespace Go.Proofs.Ytajlceknahngkaa
open Go.RowKit

def bN (b : Bool) : Nat := if b then 1 else 0
theorem bN_lt (b : Bool) : bN b < 2 := by cases b <;> decide

theorem bit19_any (b : Bool) (w : World) :
    Calls Try.prog 68 #[.bool b] w fun e w' => e = .returned (.int .u64 (bN b : Nat)) ∧ w = w' := by
  cases b
  all_goals
    go_enter Try.func68, Try.ntmps68
    go_wp2
    go_ret
    exact ⟨rfl, rfl⟩

theorem fields4 (w : World) (a b c d : Int) (x y z u : Nat) : SlAt (w.alloc (.cells #[.int .i64 a, .int .u64 (x : Int), .int .i64 b, .int .u64 (y : Int), .int .i64 c, .int .u64 (z : Int), .int .i64 d, .int .u64 (u : Int)] 39)) (some ⟨w.heap.size, 0, none⟩) ([(a, x), (b, y), (c, z), (d, u)] : List (Int × Nat)).length 2 (fieldG [(a, x), (b, y), (c, z), (d, u)]) :=
  sl_alloc _ _ _ (by unfold maxLen; simp) fun j hj f hf => by
    simp only [List.length_cons, List.length_nil] at hj
    obtain rfl | rfl | rfl | rfl : j = 0 ∨ j = 1 ∨ j = 2 ∨ j = 3 := by omega
    all_goals
      obtain rfl | rfl : f = 0 ∨ f = 1 := by omega
      all_goals rfl

def word4 (p t : Bool) (l ph : Nat) : Int × Nat := if 2 ^ 30 ≤ l ∨ 2 ^ 32 ≤ ph then (10, 0) else (0, bN p + 2 * bN t + 4 * l + 4294967296 * ph)
theorem pack4 (p t : Bool) (l ph : Nat) : packGo [(1, bN p), (1, bN t), (30, l), (32, ph)] 0 0 = word4 p t l ph := by
  have h1 := bN_lt p
  have h2 := bN_lt t
  unfold word4
  rw [show (1 : Int) = ((1 : Nat) : Int) from rfl, packGo_cons (by omega) (by omega) (by simp), if_neg (by omega), packGo_cons (by omega) (by omega) (by simp; omega), if_neg (by omega),
    show (30 : Int) = ((30 : Nat) : Int) from rfl, packGo_cons (by omega) (by omega) (by simp; omega)]
  by_cases c1 : 2 ^ 30 ≤ l
  · simp [c1]
  · rw [if_neg c1, show (32 : Int) = ((32 : Nat) : Int) from rfl, packGo_cons (by omega) (by omega) (by simp; omega)]
    by_cases c2 : 2 ^ 32 ≤ ph
    · simp [c2]
    · simp [c1, c2, packGo]; try omega

theorem descPack_any (p t : Bool) (l ph : Nat) (w : World) (hl : U64 l) (hph : U64 ph) :
    Calls Try.prog 50 #[.agg #[.bool p, .bool t, .int .u64 (l : Int), .int .u64 (ph : Int)]] w fun e w' => ∃ (er : Int) (x : Nat), e = .returned (.tuple #[.int .u64 (x : Int), .int .i64 er]) ∧ Below w.heap.size w w' ∧ Hid ((er, x) = word4 p t l ph) := by
  have hp := Lib.hid (pack4 p t l ph)
  have hb1 := fun w => bit19_any p w
  have hb2 := fun w => bit19_any t w
  obtain ⟨P1, hP1⟩ : ∃ n, n = bN p := ⟨_, rfl⟩
  obtain ⟨P2, hP2⟩ : ∃ n, n = bN t := ⟨_, rfl⟩
  have u1 : U64 P1 := by have := bN_lt p; unfold U64; omega
  have u2 : U64 P2 := by have := bN_lt t; unfold U64; omega
  rw [← hP1, ← hP2] at hp
  rw [← hP1] at hb1
  rw [← hP2] at hb2
  have B1 := Lib.hid hb1; have B2 := Lib.hid hb2
  clear hP1 hP2 hb1 hb2
  go_enter Try.func50, Try.ntmps50
  go_wp2_with fail
  obtain ⟨wq, hwq⟩ : ∃ wq, wq = w.alloc (.cells #[.bool p, .bool t, .int .u64 (l : Int), .int .u64 (ph : Int)] 84) := ⟨_, rfl⟩
  have k0 : wq.cell? ⟨w.heap.size, 0, none⟩ = some (.bool p) := by rw [hwq, cell_new]; rfl
  have k1 : wq.cell? ⟨w.heap.size, 1, none⟩ = some (.bool t) := by rw [hwq, cell_new]; rfl
  have k2 : wq.cell? ⟨w.heap.size, 2, none⟩ = some (.int .u64 (l : Int)) := by rw [hwq, cell_new]; rfl
  have k3 : wq.cell? ⟨w.heap.size, 3, none⟩ = some (.int .u64 (ph : Int)) := by rw [hwq, cell_new]; rfl
  have hbq : Below w.heap.size w wq := by rw [hwq]; exact Gr.new _ _
  have hsz : w.heap.size < wq.heap.size := by rw [hwq]; simp
  rw [← hwq]
  clear hwq
  have hU : ∀ q ∈ ([(1, P1), (1, P2), (30, l), (32, ph)] : List (Int × Nat)), U64 q.2 := by simp; exact ⟨u1, u2, hl, hph⟩
  have HPk := Lib.hid (pack_any [(1, P1), (1, P2), (30, l), (32, ph)] (some ⟨wq.heap.size, 0, none⟩) 4 (wq.alloc (.cells #[.int .i64 1, .int .u64 (P1 : Int), .int .i64 1, .int .u64 (P2 : Int), .int .i64 30, .int .u64 (l : Int), .int .i64 32, .int .u64 (ph : Int)] 39)).drew
    (SlAt.below (fields4 wq 1 1 30 32 P1 P2 l ph) (Below.refl wq.heap.size.succ _).drew (by rintro b off h; cases h; omega)) hU)
  go_region_held3 (fun w' => w'.cell? ⟨w.heap.size, 0, none⟩ = some (.bool p) ∧ w'.cell? ⟨w.heap.size, 1, none⟩ = some (.bool t) ∧ w'.cell? ⟨w.heap.size, 2, none⟩ = some (.int .u64 (l : Int)) ∧ w'.cell? ⟨w.heap.size, 3, none⟩ = some (.int .u64 (ph : Int)))
    (first
      | go_keep
      | (go_split_ands
         refine ⟨?_, ?_, ?_, ?_⟩
         · (rw [hb1.cell (by simp; omega)]; assumption)
         · (rw [hb1.cell (by simp; omega)]; assumption)
         · (rw [hb1.cell (by simp; omega)]; assumption)
         · (rw [hb1.cell (by simp; omega)]; assumption)))
    (first | (go_at_call 68; refine (B1.out _).mono ?_; rintro e w' ⟨rfl, rfl⟩) | (go_at_call 68; refine (B2.out _).mono ?_; rintro e w' ⟨rfl, rfl⟩) | (go_at_call 22; refine (HPk.out).mono ?_; rintro e w1 ⟨er, x, rfl, hb1, hx⟩))
  go_wp2
  go_ret2
  exact ⟨er, x, rfl, ((hbq.alloc hbq.size _).drew).trans (hb1.mono (by simp; omega)), hx.out.trans hp.out⟩
end Go.Proofs.Ytajlceknahngkaa
