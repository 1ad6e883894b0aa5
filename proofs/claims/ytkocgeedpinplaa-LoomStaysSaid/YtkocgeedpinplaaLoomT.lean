/- Layer 6: where a play under way lies in memory. -/
import Derived.Test.YtkocgeedpinplaaLoomQ
set_option maxRecDepth 100000
namespace Go.Proofs.Ytkocgeedpinplaa
open Go.RowKit

/-- The blocks of a play. -/
structure PIds where
  W : WIds
  bP : Nat
  bl : Nat
  blm : Nat
  old : Nat → Prop
/-- What memory holds beside the numbers: which blocks may be written to, whose they are, values that are addresses. -/
structure PG where
  Mut : Nat → Prop
  MB : Nat → Nat → Prop
  hs : List (Value × Nat)
  ev : Value
  ers : List (Value × Value)
  turn : Int
  N : Nat
def PSet (J : PIds) (ev : Value) (b : Nat) : Prop := b = J.bP ∨ b = J.bl ∨ b = J.blm ∨ ev.ownBlock = some b

/-- What a play was handed: it stays. -/
structure ImmAt {S : Sys} (R : Real S) (w : World) (Mut : Nat → Prop) (calls : List CallD) (ov cv : Value) : Prop where
  cs : ∃ ca cc, cv = .slice ca calls.length cc ∧ SlAt w ca calls.length 6 (callG calls) ∧ (0 < calls.length → ∀ b off, ca = some ⟨b, off, none⟩ → ¬ Mut b)
  ok : ∀ x ∈ calls, CallOk x ∧ 0 ≤ x.thread ∧ x.thread < 16
  clen : calls.length ≤ 1000
  objs : ∃ bo oo oc, ov = .slice (some ⟨bo, oo, none⟩) 1 oc ∧ w.cell? ⟨bo, oo, none⟩ = some (.iface R.T R.x) ∧ ¬ Mut bo
/-- The events. -/
structure EvAt (w : World) (Mut : Nat → Prop) (B0 : Nat) (ev : Value) (ers : List (Value × Value)) (evs : List EvD) : Prop where
  row : w.ownsRow B0 67 8 ev evs.length (evRow evs ers)
  elen : ers.length = evs.length
  ans : ∀ i, i < evs.length → LstU w Mut (ers.getD i vv0).1 (evs.getD i ev0).ans.list ∧ Lst w Mut (ers.getD i vv0).2 (evs.getD i ev0).key

variable {S : Sys} {R : Real S}
def HandRep (R : Real S) (w : World) (Mut B : Nat → Prop) (p : Nat) (hv : Value × Nat) (hd : Option (Mh S.σ) × Nat) : Prop :=
  hv.2 = hd.2 ∧ match hd.1 with
  | none => hv.1 = .nilIface
  | some m => ∃ T x, hv.1 = .iface T x ∧ MhRep R w Mut B T x p m

theorem ImmAt.keep {w w' : World} {Q Mut Mut' : Nat → Prop} {calls : List CallD} {ov cv : Value} (h : ImmAt R w Mut calls ov cv) (hc : Chg Q w w') (hQ : ∀ b, Q b → Mut b) (hm : MutUp Mut w Mut') : ImmAt R w' Mut' calls ov cv := by
  obtain ⟨⟨ca, cc, h1, h2, h3⟩, h4, h9, ⟨bo, oo, oc, h5, h6, h7⟩⟩ := h
  have hlt := World.block_lt_of_cell? _ _ h6
  refine ⟨⟨ca, cc, h1, ?_, fun hp b off e hx => ?_⟩, h4, h9, ⟨bo, oo, oc, h5, box_keep hc (fun hq => h7 (hQ _ hq)) h6, fun hx => ?_⟩⟩
  · rcases Nat.eq_zero_or_pos calls.length with h0 | h0
    · rw [h0]; exact SlAt.nil _ _ _ _
    · exact h2.chg hc (fun b off e hq => h3 h0 b off e (hQ b hq))
  · obtain ⟨b0, off0, e0, hb0⟩ := h2.lt hp
    rw [e0] at e; cases e
    rcases hm _ hx with hy | hy
    · exact h3 hp _ _ e0 hy
    · omega
  · rcases hm _ hx with hy | hy
    · exact h7 hy
    · simp only at hlt; omega

theorem EvAt.keep {w w' : World} {Q Mut Mut' : Nat → Prop} {B0 : Nat} {ev : Value} {ers : List (Value × Value)} {evs : List EvD} (h : EvAt w Mut B0 ev ers evs) (hc : Chg Q w w') (hQ : ∀ b, Q b → Mut b) (hm : MutUp Mut w Mut') (he : ∀ b, ev.ownBlock = some b → ¬ Q b) : EvAt w' Mut' B0 ev ers evs :=
  ⟨row_chg h.row hc he, h.elen, fun i hi => ⟨(h.ans i hi).1.keep hc hQ hm, (h.ans i hi).2.keep hc hQ hm⟩⟩

theorem HandRep.keep (ok : RealOk R) {w w' : World} {Q Mut Mut' B : Nat → Prop} {p : Nat} {hv : Value × Nat} {hd : Option (Mh S.σ) × Nat} (h : HandRep R w Mut B p hv hd) (hc : Chg Q w w') (hQ : ∀ b, Q b → Mut b) (hB : ∀ b, B b → ¬ Q b) (hm : MutUp Mut w Mut') : HandRep R w' Mut' B p hv hd := by
  obtain ⟨h1, h2⟩ := h
  refine ⟨h1, ?_⟩
  cases hd1 : hd.1 with
  | none => rw [hd1] at h2; exact h2
  | some m =>
    rw [hd1] at h2
    obtain ⟨T, x, h3, h4⟩ := h2
    exact ⟨T, x, h3, h4.keep ok hc hQ hB hm⟩

theorem LineAt.keepP {w w' : World} {Q Mut Mut' : Nat → Prop} {bl bm n : Nat} {M : Int → Value} {q : Int → List Nat} {left : Int} (h : LineAt w (fun b => b < w.heap.size ∧ ¬ Mut b) bl bm n M q left) (hc : Chg Q w w') (hQ : ∀ b, Q b → Mut b) (hl : ¬ Q bl) (hb : ¬ Q bm) (hm : MutUp Mut w Mut') :
    LineAt w' (fun b => b < w'.heap.size ∧ ¬ Mut' b) bl bm n M q left := by
  refine (h.chg hc hl hb (fun b hz hq => hz.2 (hQ b hq))).mono (fun b hz => ⟨Nat.lt_of_lt_of_le hz.1 hc.size, fun hx => ?_⟩)
  rcases hm b hx with hy | hy
  · exact hz.2 hy
  · omega

structure PlayAt (R : Real S) (calls : List CallD) (w : World) (J : PIds) (ov cv : Value) (B0 : Nat) (G : PG) (wd : WD) (o : S.ω) (fin : List Bool) (hands : List (Option (Mh S.σ) × Nat)) (evs : List EvD) (idle : Nat) : Prop where
  blk : w.heap[J.bP]? = some (.cells (playerCells J.W.bW J.bl ov cv G.turn G.hs G.ev idle) 155 (0, 0))
  h1 : G.hs.length = 16
  h2 : hands.length = 16
  hand : ∀ p, p < 16 → HandRep R w G.Mut (G.MB p) p (G.hs.getD p (undef, 0)) (hands.getD p (none, 0))
  world : WorldAt w G.Mut J.W G.N wd
  obj : R.ORep w G.Mut o
  inv : R.inv o wd
  line : ∃ n M left, LineAt w (fun b => b < w.heap.size ∧ ¬ G.Mut b) J.bl J.blm n M (qF calls fin) left ∧ n ≤ 1000 + fin.count true ∧ left = (calls.length : Int) - (fin.count true : Int)
  flen : fin.length = calls.length
  eva : EvAt w G.Mut B0 G.ev G.ers evs
  ele : evs.length ≤ wd.now
  at_ : ∀ p, p < 16 → ∀ m, (hands.getD p (none, 0)).1 = some m → (hands.getD p (none, 0)).2 < evs.length
  imm : ImmAt R w G.Mut calls ov cv
  pmut : ∀ b, PSet J G.ev b → G.Mut b ∧ ¬ WSet J.W b ∧ ¬ R.OB b
  ow : ∀ b, R.OB b → ¬ WSet J.W b
  psep : J.bP ≠ J.bl ∧ J.bP ≠ J.blm ∧ G.ev.ownBlock ≠ some J.bP ∧ G.ev.ownBlock ≠ some J.bl ∧ G.ev.ownBlock ≠ some J.blm
  mb : ∀ p b, p < 16 → G.MB p b → G.Mut b ∧ ¬ WSet J.W b ∧ ¬ R.OB b ∧ ¬ PSet J G.ev b
  mbd : ∀ p q b, p < 16 → q < 16 → p ≠ q → G.MB p b → ¬ G.MB q b
  cnt : wd.mem.c.all ≤ wd.now
  nowb : wd.now ≤ 70000
  nb : G.N ≤ R.dN * wd.now
  base : B0 ≤ w.heap.size ∧ B0 ≤ J.bP ∧ (∀ b, WSet J.W b → B0 ≤ b) ∧ B0 ≤ J.bl ∧ B0 ≤ J.blm ∧ (∀ b, R.OB b → B0 ≤ b) ∧ (∀ p b, p < 16 → G.MB p b → B0 ≤ b)
  stp : ∀ i, (evs.getD i ev0).steps ≤ wd.now
  oldm : ∀ b, J.old b → G.Mut b ∧ b < B0
end Go.Proofs.Ytkocgeedpinplaa
