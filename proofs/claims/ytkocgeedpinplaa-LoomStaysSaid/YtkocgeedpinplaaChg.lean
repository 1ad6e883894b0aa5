/- Worlds of which only some blocks have turned. -/
import Derived.Test.YtkocgeedpinplaaSl
namespace Go.Proofs.Ytkocgeedpinplaa
open Go.RowKit

/-- Nothing has turned but blocks of S, and blocks that are new. -/
structure Chg (S : Nat → Prop) (w w' : World) : Prop where
  os : w'.os = w.os
  tape : w'.tape = w.tape
  output : w'.output = w.output
  size : w.heap.size ≤ w'.heap.size
  block : ∀ k, k < w.heap.size → ¬ S k → w'.heap[k]? = w.heap[k]?

theorem Chg.refl (S : Nat → Prop) (w : World) : Chg S w w := ⟨rfl, rfl, rfl, Nat.le_refl _, fun _ _ _ => rfl⟩
theorem Chg.trans {S : Nat → Prop} {a b c : World} (h : Chg S a b) (k : Chg S b c) : Chg S a c :=
  ⟨k.os.trans h.os, k.tape.trans h.tape, k.output.trans h.output, Nat.le_trans h.size k.size, fun i hi hs => (k.block i (Nat.lt_of_lt_of_le hi h.size) hs).trans (h.block i hi hs)⟩
theorem Chg.mono {S S' : Nat → Prop} {a b : World} (h : Chg S a b) (hs : ∀ k, k < a.heap.size → S k → S' k) : Chg S' a b :=
  ⟨h.os, h.tape, h.output, h.size, fun i hi hn => h.block i hi (fun x => hn (hs i hi x))⟩
theorem Chg.of_below {S : Nat → Prop} {a b : World} (h : Below a.heap.size a b) : Chg S a b := ⟨h.os, h.tape, h.output, h.size, fun i hi _ => h.block i hi⟩
theorem Chg.below {S : Nat → Prop} {B : Nat} {a b : World} (h : Chg S a b) (hS : ∀ k, S k → B ≤ k) (hB : B ≤ a.heap.size) : Below B a b :=
  ⟨h.os, h.tape, h.output, h.size, fun i hi => h.block i (by omega) (fun x => by have := hS i x; omega)⟩
theorem Chg.cell {S : Nat → Prop} {a b : World} (h : Chg S a b) {p : Addr} (hp : p.block < a.heap.size) (hS : ¬ S p.block) : b.cell? p = a.cell? p := World.cell?_of_block (w := a) (h.block _ hp hS)
theorem Chg.setCell {S : Nat → Prop} {a b : World} (h : Chg S a b) {p : Addr} (hp : S p.block ∨ a.heap.size ≤ p.block) (u : Value) : Chg S a (b.setCell p u) :=
  ⟨h.os, h.tape, h.output, by simpa [World.setCell] using h.size, fun k hk hs => by
    rw [Below.heap_setCell _ _ _ _ (by rintro rfl; rcases hp with hp | hp; exact hs hp; omega)]
    exact h.block k hk hs⟩
theorem Chg.alloc {S : Nat → Prop} {a b : World} (h : Chg S a b) (o : Obj) : Chg S a (b.alloc o) :=
  ⟨h.os, h.tape, h.output, by have := h.size; simp; omega, fun k hk hs => (Below.heap_alloc _ _ _ (by have := h.size; omega)).trans (h.block k hk hs)⟩
theorem Chg.drew {S : Nat → Prop} {a b : World} (h : Chg S a b) : Chg S a b.drew := ⟨h.os, h.tape, h.output, h.size, h.block⟩
theorem Chg.drewN {S : Nat → Prop} {a b : World} (h : Chg S a b) (n : Nat) : Chg S a (b.drewN n) := ⟨h.os, h.tape, h.output, h.size, h.block⟩
theorem Chg.grown {S : Nat → Prop} {a b c : World} {row : Option Nat} (h : Chg S a b) (hg : b.grownBy c row) (hr : ∀ k, row = some k → S k ∨ a.heap.size ≤ k) : Chg S a c :=
  ⟨hg.os.trans h.os, hg.tape.trans h.tape, hg.output.trans h.output, Nat.le_trans h.size hg.size, fun k hk hs =>
    (hg.block k (by have := h.size; omega) (fun e => by rcases hr k e.symm with h1 | h1; exact hs h1; omega)).trans (h.block k hk hs)⟩
theorem SlAt.chg {S : Nat → Prop} {w w' : World} {a : Option Addr} {n k : Nat} {g : Nat → Nat → Value} (h : SlAt w a n k g) (hc : Chg S w w') (ha : ∀ b off, a = some ⟨b, off, none⟩ → ¬ S b) : SlAt w' a n k g := by
  refine ⟨h.1, fun j hj => ?_⟩
  obtain ⟨b, off, hab, hs, hcell⟩ := h.2 j hj
  exact ⟨b, off, hab, Nat.lt_of_lt_of_le hs hc.size, fun f hf => by rw [hc.cell hs (ha b off hab)]; exact hcell f hf⟩
/-- A known block's cell. -/
theorem cell_blk {w : World} {b : Nat} {c : Array Value} {e : TypeId} {fz : Nat × Nat} (h : w.heap[b]? = some (.cells c e fz)) (j : Nat) : w.cell? ⟨b, j, none⟩ = c[j]? := by
  simp only [World.cell?, h]
  rfl
theorem frozen_blk {w : World} {b : Nat} {c : Array Value} {e : TypeId} (h : w.heap[b]? = some (.cells c e (0, 0))) (j : Nat) : w.frozen? ⟨b, j, none⟩ = false := by
  simp [World.frozen?, h]
theorem blk_lt {w : World} {b : Nat} {o : Obj} (h : w.heap[b]? = some o) : b < w.heap.size := by
  rcases Nat.lt_or_ge b w.heap.size with h' | h'
  · exact h'
  · rw [Array.getElem?_eq_none h'] at h; cases h
theorem blk_set {w : World} {b : Nat} {c : Array Value} {e : TypeId} (h : w.heap[b]? = some (.cells c e (0, 0))) (j : Nat) (v : Value) : (w.setCell ⟨b, j, none⟩ v).heap[b]? = some (.cells (c.setIfInBounds j v) e (0, 0)) := by
  simp [World.setCell, Array.getElem?_modify, h]
theorem blk_set_other {w : World} {b b' : Nat} (hne : b' ≠ b) (j : Nat) (v : Value) : (w.setCell ⟨b, j, none⟩ v).heap[b']? = w.heap[b']? := Below.heap_setCell _ _ _ _ hne
theorem row_form {w : World} {B : Nat} {v : Value} {e : TypeId} {k n : Nat} {xs : List Value} (h : w.ownsRow B e k v n xs) : ∃ a c, v = .slice a n c := by
  rcases h.2 with ⟨h1, h0⟩ | ⟨q, cap, cur, h1, _⟩
  · exact ⟨none, 0, by rw [h1, h0]⟩
  · exact ⟨_, _, h1⟩
theorem row_chg {S : Nat → Prop} {w w' : World} {B : Nat} {v : Value} {e : TypeId} {k n : Nat} {xs : List Value} (h : w.ownsRow B e k v n xs) (hc : Chg S w w') (hS : ∀ b, v.ownBlock = some b → ¬ S b) : w'.ownsRow B e k v n xs := by
  obtain ⟨h1, h2⟩ := h
  refine ⟨h1, ?_⟩
  rcases h2 with h2 | ⟨g, cap, cur, hv, hg, hh, r⟩
  · exact .inl h2
  · exact .inr ⟨g, cap, cur, hv, hg, (hc.block g (blk_lt hh) (hS g (by rw [hv]; rfl))).trans hh, r⟩
theorem row_base {w : World} {B B' : Nat} {v : Value} {e : TypeId} {k n : Nat} {xs : List Value} (h : w.ownsRow B e k v n xs) (hB : B' ≤ B) : w.ownsRow B' e k v n xs := by
  obtain ⟨h1, h2⟩ := h
  refine ⟨h1, ?_⟩
  rcases h2 with h2 | ⟨g, cap, cur, hv, hg, r⟩
  · exact .inl h2
  · exact .inr ⟨g, cap, cur, hv, by omega, r⟩
theorem row_sl {w : World} {B : Nat} {a : Option Addr} {c : Nat} {e : TypeId} {n : Nat} {xs : List Value} {g : Nat → Nat → Value} (h : w.ownsRow B e 1 (.slice a n c) n xs) (hm : n ≤ maxLen) (hg : ∀ j, j < n → xs[j]? = some (g j 0)) :
    SlAt w a n 1 g ∧ (∀ b off, a = some ⟨b, off, none⟩ → B ≤ b) := by
  obtain ⟨a', c', h1, h2, h3⟩ := sl_of_row h hm hg
  cases h1
  exact ⟨h2, h3⟩
theorem undrew {w u : World} (h : Below w.drew.heap.size w.drew u) : Below w.heap.size w u := ⟨h.os, h.tape, h.output, h.size, h.block⟩
theorem undrewN {w u : World} {n : Nat} (h : Below (w.drewN n).heap.size (w.drewN n) u) : Below w.heap.size w u := ⟨h.os, h.tape, h.output, h.size, h.block⟩
theorem row_below {w w' : World} {B : Nat} {v : Value} {e : TypeId} {k n : Nat} {xs : List Value} (h : w.ownsRow B e k v n xs) (hb : Below w.heap.size w w') : w'.ownsRow B e k v n xs :=
  h.kept (row := none) ⟨hb.os, hb.tape, hb.output, hb.size, fun i hi _ => hb.block i hi⟩ (by cases v.ownBlock <;> simp)
theorem box_keep {S : Nat → Prop} {a b : World} {k j : Nat} {v : Value} (hc : Chg S a b) (hk : ¬ S k) (h : a.cell? ⟨k, j, none⟩ = some v) : b.cell? ⟨k, j, none⟩ = some v := by
  refine (hc.cell ?_ hk).trans h
  exact World.block_lt_of_cell? _ _ h
end Go.Proofs.Ytkocgeedpinplaa
