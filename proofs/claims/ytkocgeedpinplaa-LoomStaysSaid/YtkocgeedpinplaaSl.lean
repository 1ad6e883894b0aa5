/- Slices that are read, whatever memory they lie in. -/
import Derived.Test.YtkocgeedpinplaaRows
import Derived.WalkKit
import Derived.WalkSpells
import Derived.WalkLawsBesides
import Derived.Handy
import Derived.Lib.Hide
import Derived.Deep.QuietTactic
import Derived.BigQuiet
namespace Go.Proofs.Ytkocgeedpinplaa
open Go.RowKit

/-- n elements of k cells each stand from a on: the f-th cell of the j-th one is g j f. -/
def SlAt (w : World) (a : Option Addr) (n k : Nat) (g : Nat → Nat → Value) : Prop :=
  n ≤ maxLen ∧ ∀ j, j < n → ∃ b off, a = some ⟨b, off, none⟩ ∧ b < w.heap.size ∧ ∀ f, f < k → w.cell? ⟨b, off + (j * k + f), none⟩ = some (g j f)

theorem SlAt.below {w w' : World} {a : Option Addr} {n k : Nat} {g : Nat → Nat → Value} (h : SlAt w a n k g) {B : Nat} (hb : Below B w w') (hB : ∀ b off, a = some ⟨b, off, none⟩ → b < B) : SlAt w' a n k g := by
  refine ⟨h.1, fun j hj => ?_⟩
  obtain ⟨b, off, ha, hs, hc⟩ := h.2 j hj
  exact ⟨b, off, ha, Nat.lt_of_lt_of_le hs hb.size, fun f hf => by rw [hb.cell (hB b off ha)]; exact hc f hf⟩

theorem SlAt.grown {w w' : World} {a : Option Addr} {n k : Nat} {g : Nat → Nat → Value} (h : SlAt w a n k g) (hb : Below w.heap.size w w') : SlAt w' a n k g := by
  refine ⟨h.1, fun j hj => ?_⟩
  obtain ⟨b, off, ha, hs, hc⟩ := h.2 j hj
  exact ⟨b, off, ha, Nat.lt_of_lt_of_le hs hb.size, fun f hf => by rw [hb.cell hs]; exact hc f hf⟩

theorem SlAt.nil (w : World) (a : Option Addr) (k : Nat) (g : Nat → Nat → Value) : SlAt w a 0 k g := ⟨Nat.zero_le _, fun j hj => absurd hj (Nat.not_lt_zero j)⟩

theorem cell_new (w : World) (c : Array Value) (e : TypeId) (fz : Nat × Nat) (j : Nat) : (w.alloc (.cells c e fz)).cell? ⟨w.heap.size, j, none⟩ = c[j]? := by
  have e1 : (w.alloc (.cells c e fz)).heap[w.heap.size]? = some (.cells c e fz) := by
    show (w.heap.push _)[w.heap.size]? = _
    rw [Array.getElem?_push_size]
  simp only [World.cell?, e1]
  rfl

/-- A box's cells behind a call that turned nothing. -/
theorem box_cell {w w1 : World} {c : Array Value} {e : TypeId} (hb : Below (w.alloc (.cells c e)).heap.size (w.alloc (.cells c e)) w1) (j : Nat) : w1.cell? ⟨w.heap.size, j, none⟩ = c[j]? := by
  rw [hb.cell (by simp), cell_new]

/-- Nothing that was there has turned. -/
theorem Gr.trans {a b c : World} (h : Below a.heap.size a b) (k : Below b.heap.size b c) : Below a.heap.size a c := h.trans (k.mono h.size)
theorem Gr.refl (a : World) : Below a.heap.size a a := Below.refl _ _
theorem Gr.alloc {a b : World} (h : Below a.heap.size a b) (o : Obj) : Below a.heap.size a (b.alloc o) := h.alloc h.size o
theorem Gr.new (a : World) (o : Obj) : Below a.heap.size a (a.alloc o) := Gr.alloc (Gr.refl a) o

theorem addr_add0 (g j : Nat) : (⟨g, 0, none⟩ : Addr).add j = ⟨g, j, none⟩ := by
  unfold Addr.add
  split <;> simp_all

/-- An owned row of elements of one cell reads as a slice. -/
theorem sl_of_row {w : World} {B : Nat} {v : Value} {e : TypeId} {n : Nat} {xs : List Value} {g : Nat → Nat → Value} (h : w.ownsRow B e 1 v n xs) (hm : n ≤ maxLen) (hg : ∀ j, j < n → xs[j]? = some (g j 0)) :
    ∃ a c, v = .slice a n c ∧ SlAt w a n 1 g ∧ (∀ b off, a = some ⟨b, off, none⟩ → B ≤ b) := by
  have hl := h.lt
  have hcs := h
  obtain ⟨_, h2⟩ := h
  rcases h2 with ⟨rfl, h0⟩ | ⟨q, cap, cur, rfl, hq, hh, _, _, _, _⟩
  · exact ⟨none, 0, by rw [h0], by rw [h0]; exact SlAt.nil _ _ _ _, fun b off h => by cases h⟩
  · refine ⟨_, cap, rfl, ⟨hm, fun j hj => ⟨q, 0, rfl, (hl q rfl).2, fun f hf => ?_⟩⟩, fun b off h => by cases h; exact hq⟩
    obtain rfl : f = 0 := by omega
    have := hcs.cells (g := q) rfl j _ (hg j hj)
    rw [addr_add0] at this
    simpa using this

/-- Likewise, of elements of several cells. -/
theorem sl_of_rows {w : World} {B : Nat} {v : Value} {e : TypeId} {n k : Nat} {xs : List Value} {g : Nat → Nat → Value} (h : w.ownsRow B e k v n xs) (hm : n ≤ maxLen) (hg : ∀ j, j < n → ∀ f, f < k → xs[j * k + f]? = some (g j f)) :
    ∃ a c, v = .slice a n c ∧ SlAt w a n k g ∧ (∀ b off, a = some ⟨b, off, none⟩ → B ≤ b) := by
  have hl := h.lt
  have hcs := h
  obtain ⟨_, h2⟩ := h
  rcases h2 with ⟨rfl, h0⟩ | ⟨q, cap, cur, rfl, hq, hh, _, _, _, _⟩
  · exact ⟨none, 0, by rw [h0], by rw [h0]; exact SlAt.nil _ _ _ _, fun b off h => by cases h⟩
  · refine ⟨_, cap, rfl, ⟨hm, fun j hj => ⟨q, 0, rfl, (hl q rfl).2, fun f hf => ?_⟩⟩, fun b off h => by cases h; exact hq⟩
    have := hcs.cells (g := q) rfl (j * k + f) _ (hg j hj f hf)
    rw [addr_add0] at this
    simpa using this

/-- Two owned rows of different element types lie in different blocks. -/
theorem rows_apart {w : World} {B B' : Nat} {v v' : Value} {e e' : TypeId} {k k' n n' : Nat} {xs xs' : List Value} (h : w.ownsRow B e k v n xs) (h' : w.ownsRow B' e' k' v' n' xs') (he : e ≠ e') : v.ownBlock = none ∨ v.ownBlock ≠ v'.ownBlock := by
  obtain ⟨_, h2⟩ := h
  obtain ⟨_, h2'⟩ := h'
  rcases h2 with ⟨rfl, h0⟩ | ⟨q, cap, cur, rfl, hq, hh, _⟩
  · exact .inl rfl
  · right
    rcases h2' with ⟨rfl, h0'⟩ | ⟨q', cap', cur', rfl, hq', hh', _⟩
    · simp [Value.ownBlock]
    · simp only [Value.ownBlock, ne_eq, Option.some.injEq]
      rintro rfl
      rw [hh] at hh'
      simp at hh'
      exact he hh'.2

theorem below_drewN {B : Nat} {a w : World} (h : Below B a w) (n : Nat) : Below B a (w.drewN n) := ⟨h.os, h.tape, h.output, h.size, h.block⟩
theorem quietS {P : Program} {f : FuncId} {args : Array Value} {w : World} {n : Nat} {v : Value}
    (h : Calls P f args (w.drewN n) fun e w' => e = .returned v ∧ w.drewN n = w') : Calls P f args (w.drewN n) fun e w'' => e = .returned v ∧ ∃ m, w'' = w.drewN m :=
  h.mono fun _ _ ⟨he, hm⟩ => ⟨he, n, hm.symm⟩
theorem quietA {P : Program} {f : FuncId} {args : Array Value} {w : World} {a n : Nat} {v : Value}
    (h : Calls P f args (w.drewN (a + n)) fun e w' => e = .returned v ∧ w.drewN (a + n) = w') : Calls P f args (w.drewN (a + n)) fun e w'' => e = .returned v ∧ ∃ m, w'' = w.drewN (a + m) :=
  h.mono fun _ _ ⟨he, hm⟩ => ⟨he, n, hm.symm⟩
theorem SlAt.elem {w : World} {a : Option Addr} {n k : Nat} {g : Nat → Nat → Value} (h : SlAt w a n k g) {w' : World} (hb : Below w.heap.size w w') {j : Nat} (hj : j < n) :
    ∃ b off, a = some ⟨b, off, none⟩ ∧ ∀ f, f < k → w'.cell? ⟨b, off + (j * k + f), none⟩ = some (g j f) := by
  obtain ⟨b, off, ha, hs, hc⟩ := (h.grown hb).2 j hj
  exact ⟨b, off, ha, hc⟩
end Go.Proofs.Ytkocgeedpinplaa
