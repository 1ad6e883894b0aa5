/- Layer 6: objects whose operations have one step each. -/
import Derived.Test.YteffgpcjfnjlkaaGreatJ15
set_option maxRecDepth 100000
set_option linter.unusedVariables false
set_option linter.unusedSimpArgs false
set_option linter.unnecessarySimpa false
namespace Go.Proofs.YteffgpcjfnjlkaaGreat
section
open Go.RowKit
def onceSys (ref : CallD → Option Int) (act : CallD → WD → WD × (Int × Nat)) : Sys where
  σ := CallD × (Int × Nat)
  ω := Unit
  start := fun _ _ _ c => match ref c with | some e => .refuse e | none => .run (c, (0, 0))
  step := fun _ wd _ s => ((), (act s.1 wd).1, (s.1, (act s.1 wd).2), true)
  answer := fun s => (⟨s.2.1, s.2.2, []⟩, [])
  late := fun _ _ _ _ => none
def onceReal (ref : CallD → Option Int) (act : CallD → WD → WD × (Int × Nat)) (Cap : CapRep) (T : TypeId) (x : Value) : Real (onceSys ref act) where
  T := T
  x := x
  OB := noB
  ORep := fun _ _ _ => True
  MRep := fun w Mut B T x _ s => OnceM Cap w Mut B T x s.1 s.2
  inv := fun _ _ => True
  dN := 0
def OnceStart (ref : CallD → Option Int) (act : CallD → WD → WD × (Int × Nat)) (Cap : CapRep) (T : TypeId) (x : Value) : Prop :=
  ∃ K recv, Meth T x "Start" K recv ∧ ∀ w Mut I N wd (p : Nat) c, WorldAt w Mut I N wd → p < 16 → CallOk c →
    Calls Tryz.prog K #[recv, .pointer (some ⟨I.bW, 0, none⟩), .int .i64 (p : Int), callAgg c] w (StartPost (onceReal ref act Cap T x) w Mut I wd () p c)
theorem once_real_ok {ref : CallD → Option Int} {act : CallD → WD → WD × (Int × Nat)} {Cap : CapRep} {T : TypeId} {x : Value} (ck : CapGo Cap act) (hs : OnceStart ref act Cap T x)
    (hnow : ∀ c wd, (act c wd).1.now = wd.now) (hcnt : ∀ c wd, (act c wd).1.mem.c.all ≤ wd.mem.c.all + 1) : RealOk (onceReal ref act Cap T x) where
  keepM := fun w w' Q Mut Mut' B T x p s h hc hQ hB hm => OnceM.keep ck h hc hQ hB hm
  keepO := fun _ _ _ _ _ _ _ _ _ _ _ => trivial
  lowO := fun _ _ _ _ b hb => hb.elim
  start := by
    obtain ⟨K, recv, h1, h2⟩ := hs
    exact ⟨K, recv, h1, fun w Mut I N wd o p c hw _ _ hp hc => h2 w Mut I N wd p c hw hp hc⟩
  step := by
    intro w Mut B I N wd o T' x' p s hw _ hm _ hp hN hc hB _
    obtain ⟨K, recv, h1, h2⟩ := onceM_step ck hw hm hc (fun b hb => ⟨(hB b hb).1, (hB b hb).2.1⟩)
    refine ⟨K, recv, h1, h2.mono ?_⟩
    rintro e w' ⟨rfl, hch, B', b1, b2, b3, b4⟩
    exact ⟨rfl, hch.mono (fun b _ hb => by rcases hb with hb | hb; exact .inl hb; exact .inr (.inr hb)), B', fun b hb => .inl (b1 b hb), b2, b3, trivial, b4⟩
  answer := by
    intro w Mut B T' x' p s hm
    exact onceM_answer hm
  now := fun _ wd _ s => hnow s.1 wd
  cnt := fun _ wd _ s => hcnt s.1 wd
  invStep := fun _ _ _ _ _ => trivial
  invTick := fun _ _ _ => trivial
  invBegin := fun _ _ _ _ => trivial
theorem once_nolate {ref : CallD → Option Int} {act : CallD → WD → WD × (Int × Nat)} {Cap : CapRep} {T : TypeId} {x : Value} : NoLate (onceReal ref act Cap T x) where
  late := fun _ _ _ _ => rfl
  kind := by
    rintro w Mut B T' x' p s ⟨rfl, _⟩ v u
    exact once_kind v u
theorem memRead_cnt (m : MemD) (a : Int) : (memRead m a).1.c.all ≤ m.c.all + 1 := by unfold memRead; split <;> simp [MemD.fault, CountsD.all] <;> omega
theorem memWrite_cnt (m : MemD) (a : Int) (v : Nat) : (memWrite m a v).c.all ≤ m.c.all + 1 := by unfold memWrite; split <;> simp [MemD.fault, CountsD.all] <;> omega
theorem memSwap_cnt (m : MemD) (a : Int) (x y : Nat) : (memSwap m a x y).1.c.all ≤ m.c.all + 1 := by unfold memSwap; split <;> (try split) <;> simp [MemD.fault, CountsD.all] <;> omega
theorem memAdd_cnt (m : MemD) (a : Int) (d : Nat) : (memAdd m a d).1.c.all ≤ m.c.all + 1 := by unfold memAdd; split <;> simp [MemD.fault, CountsD.all] <;> omega
end
section

/- Layer 9: the adder as the loom's object. -/
open Go.RowKit
def adderRef (c : CallD) : Option Int := if c.kind = 0 ∨ c.kind = 1 ∨ c.kind = 2 then none else some 9
def adderD (c : CallD) : Nat := if c.kind = 2 then 1 else c.a
def adderAct (c : CallD) (wd : WD) : WD × (Int × Nat) :=
  if c.kind = 1 then ({ wd with mem := (memRead wd.mem 0).1 }, (0, (memRead wd.mem 0).2)) else ({ wd with mem := (memAdd wd.mem 0 (adderD c)).1 }, (0, (memAdd wd.mem 0 (adderD c)).2))
theorem notMut_keep {w : World} {Mut Mut' : Nat → Prop} {b : Nat} {v : Value} (h : w.cell? ⟨b, 0, none⟩ = some v) (hn : ¬ Mut b) (hm : MutUp Mut w Mut') : ¬ Mut' b := fun hx => by
  have hlt := World.block_lt_of_cell? _ _ h
  rcases hm b hx with hy | hy
  · exact hn hy
  · simp only at hlt; omega
theorem memSet_sub {w : World} {Mut : Nat → Prop} {I : WIds} {N : Nat} {wd : WD} (h : WorldAt w Mut I N wd) : (∀ b, MemSet I.bm I.bw b → Mut b) ∧ ¬ MemSet I.bm I.bw I.bW ∧ (∀ b, MemSet I.bm I.bw b → WSet I b ∧ b < w.heap.size) := by
  have hS : ∀ b, MemSet I.bm I.bw b → WSet I b := by
    rintro b (rfl | e)
    · exact .inr (.inl rfl)
    · exact .inr (.inr (.inr e))
  refine ⟨fun b hb => h.muts b (hS b hb), ?_, fun b hb => ⟨hS b hb, h.low b (h.muts b (hS b hb))⟩⟩
  rintro (e | e)
  · exact h.sep.1 e
  · exact h.sep.2.2.2.1 e.symm
end
section

/- Layer 7: the cons as the loom's object. -/
open Go.RowKit
inductive CoS where
  | once (c : CallD) (r : Int × Nat)
  | prop (v : Nat) (pc : Bool)
def consAct (_ : CallD) (wd : WD) : WD × (Int × Nat) := ({ wd with mem := (memRead wd.mem 0).1 }, if (memRead wd.mem 0).2 = 0 then (7, 0) else (0, (memRead wd.mem 0).2 - 1))
def consDec (x : Nat) : Nat := if x = 0 then 18446744073709551615 else x - 1
def consSwap (wd : WD) (p v : Nat) : WD := { wd with mem := (memSwap wd.mem 0 0 (v + 1)).1, marks := wd.marks.set p (tickKey wd) }
def consRead (wd : WD) : WD := { wd with mem := (memRead wd.mem 0).1 }
def consS : Sys where
  σ := CoS
  ω := Unit
  start := fun _ _ _ c => if c.kind = 1 then .run (.once c (0, 0)) else if c.kind ≠ 0 then .refuse 9 else if 4294967296 ≤ c.a then .refuse 10 else .run (.prop c.a false)
  step := fun _ wd p s => match s with
    | .once c _ => ((), (consAct c wd).1, .once c (consAct c wd).2, true)
    | .prop v false => ((), consSwap wd p v, .prop v true, false)
    | .prop _ true => ((), consRead wd, .prop (consDec (memRead wd.mem 0).2) true, true)
  answer := fun s => match s with
    | .once _ r => (⟨r.1, r.2, []⟩, [])
    | .prop v _ => (⟨0, v, []⟩, [])
  late := fun _ _ _ _ => none
end
end Go.Proofs.YteffgpcjfnjlkaaGreat
