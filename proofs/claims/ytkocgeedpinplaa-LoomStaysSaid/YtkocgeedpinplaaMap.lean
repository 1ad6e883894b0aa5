/- Maps from ints to slices of ints, read as functions on keys. -/
import Derived.Test.YtkocgeedpinplaaSl
import Derived.Maps.OwnOps
import Derived.Maps.Views
namespace Go.Proofs.Ytkocgeedpinplaa
open Go.RowKit

def RV (v : Value) : Option (DataW Value × List MemPlace) := some (.held v, [])
def upd (M : Int → Value) (k : Int) (v : Value) : Int → Value := fun x => if x = k then v else M x
theorem upd_same (M : Int → Value) (k : Int) (v : Value) : upd M k v k = v := by simp [upd]
theorem upd_other (M : Int → Value) {k x : Int} (v : Value) (h : x ≠ k) : upd M k v x = M x := by simp [upd, h]

/-- Block b is a map, of n entries at the most, that holds M k at each key k (nil where it has none). -/
def MapAt (w : World) (b n : Nat) (M : Int → Value) : Prop :=
  ∃ D : DataW Value, w.ownsMap Try.prog 3 RV b n D ∧ Maps.IsMap D ∧ ∀ key, D.atKey (.int .i64 key) (.held (.slice none 0 0)) = .held (M key)

theorem keyedInt : Maps.Keyed Try.prog 3 := Maps.int_keyed Try.underlying3
theorem keyInt {key : Int} (hw : (Lit.int .i64 key).wf = true) : keyOf Try.prog 3 (.int .i64 key) = some (.int .i64 key) := Maps.keyOf_int_mk Try.underlying3 hw

theorem zeroInts (w : World) : (zeroValue 53).run Try.prog w = .ok (.slice none 0 0) w := by kernel_rfl

theorem MapAt.made (w : World) : MapAt (w.alloc (.map #[] 0)) w.heap.size 0 (fun _ => .slice none 0 0) :=
  ⟨.map [], World.ownsMap_made _ _ _ _, Maps.isMap_empty, fun _ => rfl⟩
theorem MapAt.lt {w : World} {b n : Nat} {M : Int → Value} (h : MapAt w b n M) : b < w.heap.size := by obtain ⟨D, h1, _⟩ := h; exact h1.lt
theorem MapAt.mono {w : World} {b n n' : Nat} {M : Int → Value} (h : MapAt w b n M) (hn : n ≤ n') : MapAt w b n' M := by obtain ⟨D, h1, h2⟩ := h; exact ⟨D, h1.mono hn, h2⟩
theorem MapAt.block {w w' : World} {b n : Nat} {M : Int → Value} (h : MapAt w b n M) (hb : w'.heap[b]? = w.heap[b]?) : MapAt w' b n M := by
  obtain ⟨D, ⟨es, clock, h1, h3⟩, h2⟩ := h
  exact ⟨D, ⟨es, clock, hb.trans h1, h3⟩, h2⟩

theorem MapAt.look {w : World} {b n : Nat} {M : Int → Value} (h : MapAt w b n M) {key : Int} (hw : (Lit.int .i64 key).wf = true) :
    (Instr.lookup 141 (.map (some b)) (.int .i64 key) false).run Try.prog w = .ok (M key) w := by
  obtain ⟨D, h1, _, h2⟩ := h
  obtain ⟨v, ps, hrun, hv⟩ := h1.lookup keyedInt Try.underlying141 (zeroInts w) (zd := .held (.slice none 0 0)) (zp := []) rfl (keyInt hw)
  rw [h2] at hv
  simp only [RV, Option.some.injEq, Prod.mk.injEq, DataW.held.injEq] at hv
  rw [hrun, hv.1]

theorem isKeyInt {key : Int} : WideAt.IsKeyLit (.int .i64 key) := by trivial

theorem MapAt.put {w : World} {b n : Nat} {M : Int → Value} (h : MapAt w b n M) (hn : n < maxLen) {key : Int} (hw : (Lit.int .i64 key).wf = true) (val : Value) :
    ∃ w', (Instr.mapUpdate 141 (.map (some b)) (.int .i64 key) val).run Try.prog w = .ok () w' ∧ MapAt w' b (n + 1) (upd M key val) ∧ w.grownBy w' (some b) := by
  obtain ⟨D, h1, h3, h2⟩ := h
  obtain ⟨w', hrun, h4, h5⟩ := h1.update keyedInt Try.underlying141 hn (keyInt hw) (val := val) (d := .held val) (ps := []) rfl
  refine ⟨w', hrun, ⟨_, h4, h3.put _ _, fun k => ?_⟩, h5⟩
  by_cases hk : k = key
  · subst hk
    rw [Maps.atKey_put_same h3 isKeyInt, upd_same]
  · rw [Maps.atKey_put_other (by simpa using hk), upd_other _ _ hk, h2]

theorem wpList_mapUpdate_at (w : World) {ops : Array Oper} {rest : List Oper} {o : Oper} {a : Act} {Q : Exit → Act → World → Prop}
    (hg : o.guard = none) (m x v : Operand) (hop : o.op = Op.mapUpdate 141 m x v) (b n : Nat) (M : Int → Value)
    (hm : a.eval m = .map (some b)) (hown : MapAt w b n M) (hn : n < maxLen) (key : Int) (val : Value) (hx : a.eval x = .int .i64 key) (hv : a.eval v = val) (hw : (Lit.int .i64 key).wf = true)
    (hK : ∀ w', MapAt w' b (n + 1) (upd M key val) → w.grownBy w' (some b) → wpList Try.prog ops Q rest (a.put o.dst undef) w') :
    wpList Try.prog ops Q (o :: rest) a w := by
  refine wpList_plain hg fun K' hK' => ?_
  obtain ⟨w', hrun, r1, r2⟩ := hown.put hn hw val
  unfold Oper.wp
  simp [execOp, hop, hm, hx, hv, hrun, Result.andThen]
  exact hK' _ _ (hK w' r1 r2)
end Go.Proofs.Ytkocgeedpinplaa
