/- Layer 6: objects whose operations have one step each. -/
import Derived.Test.YtkocgeedpinplaaOnce
import Derived.Test.YtkocgeedpinplaaLoomZ
set_option maxRecDepth 100000
namespace Go.Proofs.Ytkocgeedpinplaa
open Go.RowKit

def onceSys (ref : CallD → Option Int) (act : CallD → WD → WD × (Int × Nat)) : Sys where
  σ := CallD × (Int × Nat)
  ω := Unit
  start := fun _ _ _ c => match ref c with | some e => .refuse e | none => .run (c, (0, 0))
  step := fun _ wd _ s => ((), (act s.1 wd).1, (s.1, (act s.1 wd).2), true)
  answer := fun s => (⟨s.2.1, s.2.2, []⟩, [])
  late := fun _ _ _ _ => none
def onceReal (ref : CallD → Option Int) (act : CallD → WD → WD × (Int × Nat)) (Cap : CapRep) (T : TypeId) (x : Value) : Real (onceSys ref act) where
  T := T
  x := x
  OB := noB
  ORep := fun _ _ _ => True
  MRep := fun w Mut B T x _ s => OnceM Cap w Mut B T x s.1 s.2
  inv := fun _ _ => True
  dN := 0

def OnceStart (ref : CallD → Option Int) (act : CallD → WD → WD × (Int × Nat)) (Cap : CapRep) (T : TypeId) (x : Value) : Prop :=
  ∃ K recv, Meth T x "Start" K recv ∧ ∀ w Mut I N wd (p : Nat) c, WorldAt w Mut I N wd → p < 16 → CallOk c →
    Calls Try.prog K #[recv, .pointer (some ⟨I.bW, 0, none⟩), .int .i64 (p : Int), callAgg c] w (StartPost (onceReal ref act Cap T x) w Mut I wd () p c)

theorem once_real_ok {ref : CallD → Option Int} {act : CallD → WD → WD × (Int × Nat)} {Cap : CapRep} {T : TypeId} {x : Value} (ck : CapGo Cap act) (hs : OnceStart ref act Cap T x)
    (hnow : ∀ c wd, (act c wd).1.now = wd.now) (hcnt : ∀ c wd, (act c wd).1.mem.c.all ≤ wd.mem.c.all + 1) : RealOk (onceReal ref act Cap T x) where
  keepM := fun w w' Q Mut Mut' B T x p s h hc hQ hB hm => OnceM.keep ck h hc hQ hB hm
  keepO := fun _ _ _ _ _ _ _ _ _ _ _ => trivial
  lowO := fun _ _ _ _ b hb => hb.elim
  start := by
    obtain ⟨K, recv, h1, h2⟩ := hs
    exact ⟨K, recv, h1, fun w Mut I N wd o p c hw _ _ hp hc => h2 w Mut I N wd p c hw hp hc⟩
  step := by
    intro w Mut B I N wd o T' x' p s hw _ hm _ hp hN hc hB
    obtain ⟨K, recv, h1, h2⟩ := onceM_step ck hw hm hc (fun b hb => ⟨(hB b hb).1, (hB b hb).2.1⟩)
    refine ⟨K, recv, h1, h2.mono ?_⟩
    rintro e w' ⟨rfl, hch, B', b1, b2, b3, b4⟩
    exact ⟨rfl, hch.mono (fun b _ hb => by rcases hb with hb | hb; exact .inl hb; exact .inr (.inr hb)), B', fun b hb => .inl (b1 b hb), b2, b3, trivial, b4⟩
  answer := by
    intro w Mut B T' x' p s hm
    exact onceM_answer hm
  now := fun _ wd _ s => hnow s.1 wd
  cnt := fun _ wd _ s => hcnt s.1 wd
  invStep := fun _ _ _ _ _ => trivial
  invTick := fun _ _ _ => trivial
  invBegin := fun _ _ _ _ => trivial
theorem once_nolate {ref : CallD → Option Int} {act : CallD → WD → WD × (Int × Nat)} {Cap : CapRep} {T : TypeId} {x : Value} : NoLate (onceReal ref act Cap T x) where
  late := fun _ _ _ _ => rfl
  kind := by
    rintro w Mut B T' x' p s ⟨rfl, _⟩ v u
    exact once_kind v u

theorem memRead_cnt (m : MemD) (a : Int) : (memRead m a).1.c.all ≤ m.c.all + 1 := by unfold memRead; split <;> simp [MemD.fault, CountsD.all] <;> omega
theorem memWrite_cnt (m : MemD) (a : Int) (v : Nat) : (memWrite m a v).c.all ≤ m.c.all + 1 := by unfold memWrite; split <;> simp [MemD.fault, CountsD.all] <;> omega
theorem memSwap_cnt (m : MemD) (a : Int) (x y : Nat) : (memSwap m a x y).1.c.all ≤ m.c.all + 1 := by unfold memSwap; split <;> (try split) <;> simp [MemD.fault, CountsD.all] <;> omega
theorem memAdd_cnt (m : MemD) (a : Int) (d : Nat) : (memAdd m a d).1.c.all ≤ m.c.all + 1 := by unfold memAdd; split <;> simp [MemD.fault, CountsD.all] <;> omega
end Go.Proofs.Ytkocgeedpinplaa
