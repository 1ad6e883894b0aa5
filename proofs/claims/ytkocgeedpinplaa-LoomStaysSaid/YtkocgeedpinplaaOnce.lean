/- Layer 6: machines of one step, whatever the step is. -/
import Derived.Test.YtkocgeedpinplaaLoomX
set_option maxRecDepth 100000
namespace Go.Proofs.Ytkocgeedpinplaa
open Go.RowKit

/-- The memory alone has turned. -/
theorem WorldAt.mems {w w' : World} {Mut : Nat → Prop} {I : WIds} {N : Nat} {wd : WD} {m' : MemD} (h : WorldAt w Mut I N wd) (hc : Chg (MemSet I.bm I.bw) w w') (hm : MemAt w' I.bm I.bw m') : WorldAt w' Mut I N { wd with mem := m' } ∧ Chg (WSet I) w w' := by
  obtain ⟨⟨mks, h1, h2, h3⟩, h4, h5, h6, ⟨n, M, h7, h8, h9⟩, h10, h11, h12, h13, h14⟩ := h
  have hS : ∀ b, MemSet I.bm I.bw b → WSet I b := by
    rintro b (rfl | e)
    · exact .inr (.inl rfl)
    · exact .inr (.inr (.inr e))
  have hSM : ∀ b, MemSet I.bm I.bw b → Mut b := fun b hb => h11 b (hS b hb)
  have n1 : ¬ MemSet I.bm I.bw I.bW := by
    rintro (e | e)
    · exact h10.1 e
    · exact h10.2.2.2.1 e.symm
  have n2 : ¬ MemSet I.bm I.bw I.bt := by
    rintro (e | e)
    · exact h10.2.2.1 e.symm
    · exact h10.2.2.2.2 e.symm
  exact ⟨⟨⟨mks, (hc.block _ (blk_lt h1) n1).trans h1, h2, fun p hp => (h3 p hp).keep hc hSM (MutUp.refl _ _)⟩, h4, h5, hm, ⟨n, M, h7.block (hc.block _ h7.lt n2), h8, fun k => (h9 k).keep hc hSM (MutUp.refl _ _)⟩, h10, h11, fun b hb => Nat.lt_of_lt_of_le (h12 b hb) hc.size, h13, h14⟩, hc.mono (fun b _ hb => hS b hb)⟩

abbrev CapRep := World → (Nat → Prop) → FuncId → Array Value → CallD → Prop
/-- A machine of one step: its call, and what its answer is so far. -/
def OnceM (Cap : CapRep) (w : World) (Mut B : Nat → Prop) (T : TypeId) (x : Value) (c : CallD) (r : Int × Nat) : Prop :=
  T = 189 ∧ ∃ b K cap, x = .pointer (some ⟨b, 0, none⟩) ∧ w.heap[b]? = some (.cells (onceCells K cap r.1 r.2) 191 (0, 0)) ∧ B b ∧
    (∀ (args : Array Value) (u : World), (callFunc K args).run Try.prog u = .ok (.enter K args) u) ∧ Cap w Mut K cap c
/-- What the closures must do. -/
structure CapGo (Cap : CapRep) (act : CallD → WD → WD × (Int × Nat)) : Prop where
  keep : ∀ w w' Q Mut Mut' K cap c, Cap w Mut K cap c → Chg Q w w' → (∀ b, Q b → Mut b) → MutUp Mut w Mut' → Cap w' Mut' K cap c
  go : ∀ w Mut I N wd b K cap c, WorldAt w Mut I N wd → Cap w Mut K cap c → ¬ WSet I b → b < w.heap.size → wd.mem.c.all + 1 < 1000000000000 →
    Calls Try.prog K (#[.pointer (some ⟨I.bW, 0, none⟩)] ++ cap) w (OnceIn b w fun e v w1 => (act c wd).2 = (e, v) ∧ Chg (WSet I) w w1 ∧ WorldAt w1 Mut I N (act c wd).1)

variable {Cap : CapRep} {act : CallD → WD → WD × (Int × Nat)}
theorem OnceM.keep (ck : CapGo Cap act) {w w' : World} {Q Mut Mut' B : Nat → Prop} {T : TypeId} {x : Value} {c : CallD} {r : Int × Nat} (h : OnceM Cap w Mut B T x c r) (hc : Chg Q w w') (hQ : ∀ b, Q b → Mut b) (hB : ∀ b, B b → ¬ Q b) (hm : MutUp Mut w Mut') : OnceM Cap w' Mut' B T x c r := by
  obtain ⟨h1, b, K, cap, h2, h3, h4, h5, h6⟩ := h
  exact ⟨h1, b, K, cap, h2, (hc.block _ (blk_lt h3) (hB b h4)).trans h3, h4, h5, ck.keep _ _ _ _ _ _ _ _ h6 hc hQ hm⟩

def OncePost2 (Cap : CapRep) (act : CallD → WD → WD × (Int × Nat)) (w : World) (Mut B : Nat → Prop) (I : WIds) (N : Nat) (wd : WD) (T : TypeId) (x : Value) (c : CallD) (e : Ending) (w' : World) : Prop :=
  e = .returned (.bool true) ∧ Chg (fun b => WSet I b ∨ B b) w w' ∧ ∃ B' : Nat → Prop, (∀ b, B' b → B b) ∧ (∀ b, B' b → b < w'.heap.size) ∧ WorldAt w' (mutTo Mut B B') I N (act c wd).1 ∧ OnceM Cap w' (mutTo Mut B B') B' T x c (act c wd).2

theorem onceM_step (ck : CapGo Cap act) {w : World} {Mut B : Nat → Prop} {I : WIds} {N : Nat} {wd : WD} {T : TypeId} {x : Value} {c : CallD} {r : Int × Nat} (hw : WorldAt w Mut I N wd) (h : OnceM Cap w Mut B T x c r) (hc : wd.mem.c.all + 1 < 1000000000000) (hB : ∀ b, B b → Mut b ∧ ¬ WSet I b) :
    ∃ K recv, Meth T x "Step" K recv ∧ Calls Try.prog K #[recv, .pointer (some ⟨I.bW, 0, none⟩)] w (OncePost2 Cap act w Mut B I N wd T x c) := by
  obtain ⟨rfl, b, K, cap, rfl, h3, h6, hK, hcap⟩ := h
  refine ⟨_, _, once_step_m _, ?_⟩
  have hlt := blk_lt h3
  refine (once_step b K cap (.pointer (some ⟨I.bW, 0, none⟩)) w _ h3 hK (ck.go w Mut I N wd b K cap c hw hcap (hB _ h6).2 hlt hc)).mono ?_
  rintro e' w' ⟨rfl, er, vl, w1, ⟨he, hch1, hw1⟩, hblk, hch⟩
  have hcb : Chg (fun k => WSet I k ∨ B k) w w' := (hch1.mono (fun k _ hk => .inl hk)).trans (hch.mono (fun k _ hk => by cases hk; exact .inr h6))
  have hsub : ∀ k, (fun k => k = b) k → Mut k := by rintro k rfl; exact (hB _ h6).1
  have hup : MutUp Mut w (mutTo Mut B (fun k => k = b)) := mutTo_up (fun k hk => by cases hk; exact .inl h6) (fun k hk => (hB k hk).1)
  have hup1 : MutUp Mut w1 (mutTo Mut B (fun k => k = b)) := mutTo_up (fun k hk => by cases hk; exact .inl h6) (fun k hk => (hB k hk).1)
  refine ⟨rfl, hcb, fun k => k = b, (fun k hk => by cases hk; exact h6), (fun k hk => by cases hk; exact Nat.lt_of_lt_of_le hlt hcb.size), ?_, rfl, b, K, cap, rfl, by rw [he]; exact hblk, rfl, hK, ?_⟩
  · refine hw1.keep hch hsub (by rintro k rfl; exact (hB _ h6).2) hup1 ?_ ?_
    · rintro k (⟨h1, _⟩ | h1)
      · exact Nat.lt_of_lt_of_le (hw.low k h1) hcb.size
      · cases h1; exact Nat.lt_of_lt_of_le hlt hcb.size
    · intro k hk
      by_cases hkb : B k
      · exact absurd hk (hB k hkb).2
      · exact .inl ⟨hw.muts k hk, hkb⟩
  · exact ck.keep _ _ _ _ _ _ _ _ hcap hcb (fun k hk => by rcases hk with hk | hk; exact hw.muts k hk; exact (hB k hk).1) hup

theorem onceM_answer {w : World} {Mut B : Nat → Prop} {T : TypeId} {x : Value} {c : CallD} {r : Int × Nat} (h : OnceM Cap w Mut B T x c r) :
    ∃ K recv, Meth T x "Answer" K recv ∧ Calls Try.prog K #[recv] w (AnswerPost w Mut ⟨r.1, r.2, []⟩ []) := by
  obtain ⟨rfl, b, K, cap, rfl, h3, h6, _, _⟩ := h
  refine ⟨_, _, once_answer_m _, (once_answer b K cap r.1 r.2 w h3).mono ?_⟩
  rintro e' w' ⟨rfl, hb⟩
  exact ⟨none, 0, .slice none 0 0, rfl, LstU.nil _ _, Lst.nil _ _, hb⟩
end Go.Proofs.Ytkocgeedpinplaa
