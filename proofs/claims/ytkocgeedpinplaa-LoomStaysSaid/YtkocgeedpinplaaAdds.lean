/- Layer 6: two threads that add to a cell. -/
import Derived.Test.YtkocgeedpinplaaCellsP
import Derived.Test.YtkocgeedpinplaaTickW
set_option maxRecDepth 100000
namespace Go.Proofs.Ytkocgeedpinplaa
open Go.RowKit

def addsCalls : List CallD := [⟨0, 0, 3, 0, 5, 0⟩, ⟨1, 0, 3, 0, 7, 0⟩]
theorem adds_rep : playD (cellsS 1) () [0] addsCalls [1, 0, 1] = ⟨[⟨1, 1, 1, 1, ⟨0, 0, []⟩, [2]⟩, ⟨0, 2, 2, 1, ⟨0, 7, []⟩, [4]⟩], [12], ⟨0, 0, 0, 2, 0⟩, 2, 1⟩ := by rfl
theorem adds_check : cellsN 2 1 addsCalls 3 = 0 := by rfl

set_option maxHeartbeats 4000000 in
theorem adds_true (w : World) : Calls Try.prog 29 #[] w fun e w' => e = .returned (.bool true) ∧ Below w.heap.size w w' := by
  obtain ⟨wa, hwa⟩ : ∃ wa, wa = (w.alloc (.cells #[.int .i64 0, .int .i64 0, .int .i64 3, .int .u64 0, .int .u64 5, .int .u64 0, .int .i64 1, .int .i64 0, .int .i64 3, .int .u64 0, .int .u64 7, .int .u64 0] 80)).alloc (.cells #[.int .i64 1, .int .i64 0, .int .i64 1] 3) := ⟨_, rfl⟩
  have hga : Below w.heap.size w wa := by rw [hwa]; exact Gr.alloc (Gr.new _ _) _
  have h1 : wa.heap[w.heap.size]? = some (.cells (addsCalls.flatMap callL).toArray 80 (0, 0)) := by rw [hwa, Below.heap_alloc _ _ _ (by simp), heap_alloc_new]; rfl
  have h2 : wa.heap[w.heap.size + 1]? = some (.cells (([1, 0, 1] : List Int).map (Value.int .i64)).toArray 3 (0, 0)) := by
    rw [hwa]
    have := heap_alloc_new (w.alloc (.cells #[.int .i64 0, .int .i64 0, .int .i64 3, .int .u64 0, .int .u64 5, .int .u64 0, .int .i64 1, .int .i64 0, .int .i64 3, .int .u64 0, .int .u64 7, .int .u64 0] 80)) (.cells #[.int .i64 1, .int .i64 0, .int .i64 1] 3 (0, 0))
    simp only [World.size_alloc] at this
    exact this
  have P := cellsPlay_any noB wa 2 1 addsCalls [1, 0, 1] (some ⟨w.heap.size, 0, none⟩) (some ⟨w.heap.size + 1, 0, none⟩) 2 3 (fun b hb => hb.elim) ⟨calls_block h1 (by decide), (by
      intro x hx
      simp only [addsCalls, List.mem_cons, List.not_mem_nil, or_false] at hx
      rcases hx with rfl | rfl <;> exact callOk_small (by decide) (by decide) (by decide) (by decide) (by decide) (by decide) (by decide)), fun _ _ _ _ h => h⟩ ⟨ints_block h2 (by decide), by intro x hx; simp only [List.mem_cons, List.not_mem_nil, or_false] at hx; rcases hx with rfl | rfl | rfl <;> rfl⟩
  rw [show ([1, 0, 1] : List Int).length = 3 from rfl, adds_check, show addsCalls.length = 2 from rfl, show (1 : Int).toNat = 1 from rfl, show List.replicate 1 0 = [0] from rfl, adds_rep] at P
  have HP := Lib.hid P; have Hwa := Lib.hid hwa; have Hga := Lib.hid hga
  clear P h1 h2 hwa hga
  go_enter Try.func29, Try.ntmps29
  go_wp2_with fail
  rw [← Hwa.out]
  refine HP.out.mono ?_
  rintro e w1 ⟨ea, en, ec, va, vn, vc, rp, rfl, hb, hr⟩
  rcases hr with ⟨h0, _⟩ | ⟨_, hrp, hen, hvn, ers, hrep⟩
  · exact absurd rfl h0
  obtain ⟨g, rfl, hg, hev⟩ := hrep.event hen (by rw [hen]; decide)
  obtain ⟨q, rfl, hq, hwd⟩ := hrep.word hvn (by rw [hvn]; decide)
  have hen2 : en = 2 := hen
  have hvn2 : vn = 1 := hvn
  subst hen2 hvn2 hrp
  have c0 : w1.cell? ⟨g, 0, none⟩ = some (.int .i64 1) := hev 0 0 (by omega) (by omega)
  have c5 : w1.cell? ⟨g, 5, none⟩ = some (.int .u64 0) := hev 0 5 (by omega) (by omega)
  have c13 : w1.cell? ⟨g, 13, none⟩ = some (.int .u64 7) := hev 1 5 (by omega) (by omega)
  have d0 : w1.cell? ⟨q, 0, none⟩ = some (.int .u64 12) := hwd 0 (by omega)
  have Hb := Lib.hid hb
  clear hrep hev hwd hb hen hvn
  unfold repV
  go_wp2
  go_ret
  exact ⟨rfl, Gr.trans Hga.out (Gr.trans Hb.out (Gr.new _ _))⟩
end Go.Proofs.Ytkocgeedpinplaa
