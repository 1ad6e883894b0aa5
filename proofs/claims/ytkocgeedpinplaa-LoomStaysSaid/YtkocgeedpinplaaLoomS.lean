/- Layer 6: machines of one step; operations that are refused; calls through interfaces. -/
import Derived.Test.YtkocgeedpinplaaLoomR
set_option maxRecDepth 100000
namespace Go.Proofs.Ytkocgeedpinplaa
open Go.RowKit

/-- What a call of a method through an interface value comes to. -/
structure Meth (T : TypeId) (x : Value) (name : String) (K : FuncId) (recv : Value) : Prop where
  ahead : ∀ (F : Nat) (w : World), (nilAhead (F + 1) T x name).run Try.prog w = .ok (some false) w
  meth : ∀ (F : Nat) (w : World), (method (F + 1) T x name).run Try.prog w = .ok (K, recv) w
  enter : ∀ (args : Array Value) (w : World), (callFunc K args).run Try.prog w = .ok (.enter K args) w

theorem once_step_m (a : Addr) : Meth 189 (.pointer (some a)) "Step" 138 (.pointer (some a)) := ⟨fun _ _ => by kernel_rfl, fun _ _ => by kernel_rfl, fun _ _ => by kernel_rfl⟩
theorem once_answer_m (a : Addr) : Meth 189 (.pointer (some a)) "Answer" 137 (.pointer (some a)) := ⟨fun _ _ => by kernel_rfl, fun _ _ => by kernel_rfl, fun _ _ => by kernel_rfl⟩

def ansV (er : Int) (vl : Nat) (lv : Value) : Value := .agg #[.int .i64 er, .int .u64 (vl : Int), lv]
/-- A machine of one step. -/
def onceCells (K : FuncId) (cap : Array Value) (er : Int) (vl : Nat) : Array Value := #[.func (.func K) #[] cap, .int .i64 er, .int .u64 (vl : Int), .slice none 0 0]

def OncePost (b K : Nat) (cap : Array Value) (Q : Int → Nat → World → Prop) (e : Ending) (w' : World) : Prop :=
  e = .returned (.bool true) ∧ ∃ er vl w1, Q er vl w1 ∧ w'.heap[b]? = some (.cells (onceCells K cap er vl) 191 (0, 0)) ∧ Chg (fun k => k = b) w1 w'
def OnceIn (b : Nat) (w : World) (Q : Int → Nat → World → Prop) (e : Ending) (w1 : World) : Prop := ∃ (er : Int) (vl : Nat), e = .returned (ansV er vl (.slice none 0 0)) ∧ w1.heap[b]? = w.heap[b]? ∧ Q er vl w1

theorem once_step (b K : Nat) (cap : Array Value) (pw : Value) (w : World) (Q : Int → Nat → World → Prop) {er0 : Int} {vl0 : Nat} (h : w.heap[b]? = some (.cells (onceCells K cap er0 vl0) 191 (0, 0)))
    (hK : ∀ (args : Array Value) (u : World), (callFunc K args).run Try.prog u = .ok (.enter K args) u) (hC : Calls Try.prog K (#[pw] ++ cap) w (OnceIn b w Q)) :
    Calls Try.prog 138 #[.pointer (some ⟨b, 0, none⟩), pw] w (OncePost b K cap Q) := by
  have c0 : w.cell? ⟨b, 0, none⟩ = some (.func (.func K) #[] cap) := by rw [cell_blk h]; rfl
  have HC := Lib.hid hC; have Hh := Lib.hid h
  clear hC h
  go_enter Try.func138, Try.ntmps138
  go_wp2_with fail
  refine HC.out.mono ?_
  rintro e w1 ⟨er, vl, rfl, hb, hq⟩
  have hb1 := hb.trans Hh.out
  have c1 : w1.cell? ⟨b, 1, none⟩ = some (.int .i64 er0) := by rw [cell_blk hb1]; rfl
  have c2 : w1.cell? ⟨b, 2, none⟩ = some (.int .u64 (vl0 : Int)) := by rw [cell_blk hb1]; rfl
  have c3 : w1.cell? ⟨b, 3, none⟩ = some (.slice none 0 0) := by rw [cell_blk hb1]; rfl
  have f1 : w1.frozen? ⟨b, 1, none⟩ = false := frozen_blk hb1 1
  have f2 : w1.frozen? ⟨b, 2, none⟩ = false := frozen_blk hb1 2
  have f3 : w1.frozen? ⟨b, 3, none⟩ = false := frozen_blk hb1 3
  have Hq := Lib.hid hq; have Hb1 := Lib.hid hb1
  unfold ansV
  clear hb hq hb1
  go_wp2
  go_ret
  refine ⟨rfl, er, vl, w1, Hq.out, ?_, ?_⟩
  · rw [blk_set (blk_set (blk_set Hb1.out _ _) _ _)]
    rfl
  · exact (((Chg.refl (fun k => k = b) w1).setCell (p := ⟨b, 1, none⟩) (.inl rfl) _).setCell (p := ⟨b, 2, none⟩) (.inl rfl) _).setCell (p := ⟨b, 3, none⟩) (.inl rfl) _

theorem once_answer (b K : Nat) (cap : Array Value) (er : Int) (vl : Nat) (w : World) (h : w.heap[b]? = some (.cells (onceCells K cap er vl) 191 (0, 0))) :
    Calls Try.prog 137 #[.pointer (some ⟨b, 0, none⟩)] w fun e w' => e = .returned (.tuple #[ansV er vl (.slice none 0 0), .slice none 0 0]) ∧ Below w.heap.size w w' := by
  have hlt := blk_lt h
  have hb2 : (w.alloc (.cells #[.int .i64 0, .int .u64 0, .slice none 0 0] 65)).heap[b]? = some (.cells (onceCells K cap er vl) 191 (0, 0)) := by rw [Below.heap_alloc _ _ _ hlt]; exact h
  have c1 : (w.alloc (.cells #[.int .i64 0, .int .u64 0, .slice none 0 0] 65)).cell? ⟨b, 1, none⟩ = some (.int .i64 er) := by rw [cell_blk hb2]; rfl
  have c2 : (w.alloc (.cells #[.int .i64 0, .int .u64 0, .slice none 0 0] 65)).cell? ⟨b, 2, none⟩ = some (.int .u64 (vl : Int)) := by rw [cell_blk hb2]; rfl
  have c3 : (w.alloc (.cells #[.int .i64 0, .int .u64 0, .slice none 0 0] 65)).cell? ⟨b, 3, none⟩ = some (.slice none 0 0) := by rw [cell_blk hb2]; rfl
  clear h hb2
  unfold ansV
  go_enter Try.func137, Try.ntmps137
  go_wp2
  exact bodyPost_ret (v := .tuple #[.agg #[.int .i64 er, .int .u64 (vl : Int), .slice none 0 0], .slice none 0 0]) (by simp [results, Try.results137 , go_sem]) rfl ⟨rfl, Gr.new _ _⟩

theorem enter_refuse (args : Array Value) (u : World) : (callFunc 109 args).run Try.prog u = .ok (.enter 109 args) u := by kernel_rfl
/-- An operation that is refused: made, not yet stepped. -/
def RefuseAt (w : World) (b be : Nat) (e : Int) : Prop :=
  w.heap[b]? = some (.cells (onceCells 109 #[.pointer (some ⟨be, 0, none⟩)] 0 0) 191 (0, 0)) ∧ w.cell? ⟨be, 0, none⟩ = some (.int .i64 e) ∧ be ≠ b
theorem refuse_any (er : Int) (w : World) :
    Calls Try.prog 105 #[.int .i64 er] w fun e w' => e = .returned (.iface 189 (.pointer (some ⟨w.heap.size + 1, 0, none⟩))) ∧ RefuseAt w' (w.heap.size + 1) w.heap.size er ∧ Below w.heap.size w w' := by
  go_enter Try.func105, Try.ntmps105
  go_wp2
  go_ret
  refine ⟨rfl, ⟨?_, ?_, by omega⟩, Gr.alloc (Gr.new _ _) _⟩
  · have := heap_alloc_new (w.alloc (.cells #[.int .i64 er] 27)) (.cells (onceCells 109 #[.pointer (some ⟨w.heap.size, 0, none⟩)] 0 0) 191 (0, 0))
    rw [World.size_alloc] at this
    exact this
  · rw [World.cell?_alloc_lt _ _ _ (by simp), cell_new]; rfl
theorem refuse_in (b be : Nat) (er : Int) (pw : Value) (w : World) (h : RefuseAt w b be er) :
    Calls Try.prog 109 (#[pw] ++ #[.pointer (some ⟨be, 0, none⟩)]) w (OnceIn b w fun e v w1 => e = er ∧ v = 0 ∧ Below w.heap.size w w1) := by
  obtain ⟨h1, h2, h3⟩ := h
  have hlt := blk_lt h1
  have hlt2 := World.block_lt_of_cell? _ _ h2
  show Calls Try.prog 109 #[pw, .pointer (some ⟨be, 0, none⟩)] w _
  have c2 : (w.alloc (.cells #[.int .i64 0, .int .u64 0, .slice none 0 0] 65)).cell? ⟨be, 0, none⟩ = some (.int .i64 er) := by rw [World.cell?_alloc_lt _ _ _ hlt2]; exact h2
  clear h1 h2 h3
  go_enter Try.func109, Try.ntmps109
  go_wp2
  exact bodyPost_ret (v := ansV er 0 (.slice none 0 0)) (by simp [results, Try.results109 , go_sem, ansV]) rfl ⟨er, 0, rfl, Below.heap_alloc _ _ _ hlt, rfl, rfl, Gr.new _ _⟩
end Go.Proofs.Ytkocgeedpinplaa
