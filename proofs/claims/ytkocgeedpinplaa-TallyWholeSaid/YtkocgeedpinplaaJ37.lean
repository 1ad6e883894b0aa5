/- Layer 6: the walk of LoomStays. -/
import Derived.Test.YtkocgeedpinplaaJ34
import Derived.Test.YtkocgeedpinplaaJ35
import Derived.Test.YtkocgeedpinplaaJ36
import Derived.Deep.DeepCutAuto
set_option maxRecDepth 100000
set_option linter.unusedVariables false
set_option linter.unusedSimpArgs false
set_option linter.unnecessarySimpa false
namespace Go.Proofs.Ytkocgeedpinplaa
open Go.RowKit

theorem cells_now (size : Nat) : ∀ (o : (cellsS size).ω) (wd : WD) (p : Nat) (s : (cellsS size).σ), ((cellsS size).step o wd p s).2.1.now = wd.now := by
  intro o wd p s
  show (cellsAct s.1 wd).1.now = wd.now
  unfold cellsAct
  split
  · rfl
  · split
    · rfl
    · split <;> rfl
theorem cellsN_mono {n sz : Int} {calls : List CallD} {k m : Nat} (h : k ≤ m) (hk : cellsN n sz calls k ≠ 0) : cellsN n sz calls m ≠ 0 := by
  intro hm
  apply hk
  unfold cellsN checkN at hm ⊢
  by_cases h1 : n < 1 ∨ 16 < n
  · simp [h1] at hm
  · by_cases h2 : 1000 < calls.length ∨ 65536 < m
    · simp [h1, h2] at hm
    · have h3 : ¬ (1000 < calls.length ∨ 65536 < k) := by omega
      simp only [h1, h2, h3, if_false] at hm ⊢
      exact hm
theorem cellsN_zero {n sz : Int} {calls : List CallD} {m : Nat} (h : cellsN n sz calls m = 0) : checkN n calls m = 0 ∧ 1 ≤ sz ∧ sz ≤ 64 := by
  unfold cellsN at h
  by_cases h1 : checkN n calls m = 0
  · rw [if_neg (by simp [h1])] at h
    split at h
    · cases h
    · exact ⟨h1, by omega, by omega⟩
  · rw [if_pos h1] at h; exact absurd h h1
theorem thr_ok {n : Int} {calls : List CallD} {np : Nat} (hck : checkN n calls np = 0) : ∀ c, c < calls.length → 0 ≤ (calls.getD c d0).thread ∧ (calls.getD c d0).thread < n := by
  obtain ⟨hw0, _⟩ := checkN_zero hck
  obtain ⟨z1, z2, z3, z4⟩ := wrongN_zero hw0
  intro c hcl
  unfold anyBad at z4
  rw [List.any_eq_false] at z4
  have e : calls.getD c d0 = calls[c] := by simp [List.getD_eq_getElem?_getD, hcl]
  have h9 : badT n calls[c] = false := by simpa using z4 calls[c] (List.getElem_mem hcl)
  rw [e]
  obtain ⟨y, hy⟩ : ∃ y, y = calls[c] := ⟨_, rfl⟩
  rw [← hy] at h9 ⊢
  unfold badT at h9
  simp at h9
  omega
theorem thr_16 {n : Int} {calls : List CallD} {np : Nat} (hck : checkN n calls np = 0) : ∀ c, c < calls.length → 0 ≤ (calls.getD c d0).thread ∧ (calls.getD c d0).thread < 16 := by
  obtain ⟨hw0, _⟩ := checkN_zero hck
  obtain ⟨z1, z2, z3, z4⟩ := wrongN_zero hw0
  intro c hc
  have := thr_ok hck c hc
  omega

/-- The beginning of a slice. -/
theorem SlAt.take {w : World} {a : Option Addr} {l : List Int} (h : SlAt w a l.length 1 (intG l)) (k : Nat) (hk : k ≤ l.length) : SlAt w a (l.take k).length 1 (intG (l.take k)) := by
  have e : (l.take k).length = k := by simp; omega
  rw [e]
  refine ⟨Nat.le_trans hk h.1, fun j hj => ?_⟩
  obtain ⟨b, off, h1, h2, h3⟩ := h.2 j (by omega)
  refine ⟨b, off, h1, h2, fun f hf => ?_⟩
  rw [h3 f hf]
  unfold intG
  congr 2
  simp [List.getD_eq_getElem?_getD, List.getElem?_take, hj]
theorem run_slice_take (W : World) (a : Option Addr) (len cap k : Nat) (hk : k ≤ cap) :
    (Instr.slice 53 (.slice a len cap) none (some (.int .i64 (k : Int))) none).run Try.prog W = .ok (.slice a k cap) W := by
  have hu := Try.underlying53
  have ht' : Try.prog.underlying 53 = some (.slice (Try.prog.elem 53)) := by simp [Program.elem, hu]
  have he : Try.prog.elem 53 = 3 := by simp [Program.elem, hu]
  rw [run_slice_h W 53 _ _ _ ht' .i64 _ (by omega) (by omega), he]
  rw [show (Go.sizeOf 3).run Try.prog W = .ok 1 W from by first | rfl | simp [Go.sizeOf]]
  have e1 : (if cap = 0 then a else Option.map (fun x : Addr => x.add (0 * 1)) a) = a := by
    cases a with
    | none => split <;> rfl
    | some x => split <;> simp [Addr.add]
  simp [Result.andThen, sliced, e1]
  try (cases a <;> simp [Addr.add])

/-- A report that a variable holds. -/
structure RepIn (w u : World) (b : Nat) (ea : Option Addr) (en ec : Nat) (va : Option Addr) (vn vc : Nat) (rp : RepD) : Prop where
  ge : w.heap.size ≤ b
  blk : u.heap[b]? = some (.cells #[.slice ea en ec, .slice va vn vc, .int .i64 (rp.c.read : Int), .int .i64 (rp.c.write : Int), .int .i64 (rp.c.swap : Int), .int .i64 (rp.c.add : Int), .int .i64 (rp.c.fault : Int), .int .i64 (rp.ticks : Int), .int .i64 (rp.idle : Int)] 57 (0, 0))
theorem RepIn.grown {w u u' : World} {b : Nat} {ea : Option Addr} {en ec : Nat} {va : Option Addr} {vn vc : Nat} {rp : RepD} (h : RepIn w u b ea en ec va vn vc rp) (hb : Below u.heap.size u u') : RepIn w u' b ea en ec va vn vc rp := ⟨h.ge, (hb.block b (blk_lt h.blk)).trans h.blk⟩
theorem RepIn.cell {w u : World} {b : Nat} {ea : Option Addr} {en ec : Nat} {va : Option Addr} {vn vc : Nat} {rp : RepD} (h : RepIn w u b ea en ec va vn vc rp) (j : Nat) : u.cell? ⟨b, j, none⟩ = (#[.slice ea en ec, .slice va vn vc, .int .i64 (rp.c.read : Int), .int .i64 (rp.c.write : Int), .int .i64 (rp.c.swap : Int), .int .i64 (rp.c.add : Int), .int .i64 (rp.c.fault : Int), .int .i64 (rp.ticks : Int), .int .i64 (rp.idle : Int)] : Array Value)[j]? := cell_blk h.blk j
end Go.Proofs.Ytkocgeedpinplaa
