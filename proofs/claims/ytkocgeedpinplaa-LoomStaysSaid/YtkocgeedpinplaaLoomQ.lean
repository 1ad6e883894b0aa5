/- Layer 6: machines whatever they are: how they step, and answer. -/
import Derived.Test.YtkocgeedpinplaaLoomP
set_option maxRecDepth 100000
namespace Go.Proofs.Ytkocgeedpinplaa
open Go.RowKit

inductive Mh (σ : Type) where
  | refuse (e : Int)
  | refused (e : Int)
  | run (s : σ)
def Mh.of {σ : Type} : Mc σ → Mh σ
  | .refuse e => .refuse e
  | .run s => .run s
def mhStep (S : Sys) (o : S.ω) (wd : WD) (p : Nat) : Mh S.σ → S.ω × WD × Mh S.σ × Bool
  | .refuse e => (o, wd, .refused e, true)
  | .refused e => (o, wd, .refused e, true)
  | .run s => let r := S.step o wd p s; (r.1, r.2.1, .run r.2.2.1, r.2.2.2)
def mhAnswer (S : Sys) : Mh S.σ → AnsD × List Int
  | .refuse e => (⟨e, 0, []⟩, [])
  | .refused e => (⟨e, 0, []⟩, [])
  | .run s => S.answer s

def MhRep {S : Sys} (R : Real S) (w : World) (Mut B : Nat → Prop) (T : TypeId) (x : Value) (p : Nat) : Mh S.σ → Prop
  | .refuse e => T = 189 ∧ ∃ b be, x = .pointer (some ⟨b, 0, none⟩) ∧ RefuseAt w b be e ∧ B b ∧ ¬ Mut be
  | .refused e => T = 189 ∧ ∃ b K cap, x = .pointer (some ⟨b, 0, none⟩) ∧ w.heap[b]? = some (.cells (onceCells K cap e 0) 191 (0, 0)) ∧ B b
  | .run s => R.MRep w Mut B T x p s

variable {S : Sys} {R : Real S}
theorem MhRep.of_mc {w : World} {Mut B : Nat → Prop} {T : TypeId} {x : Value} {p : Nat} {m : Mc S.σ} (h : McRep R w Mut B T x p m) : MhRep R w Mut B T x p (Mh.of m) := by
  cases m <;> exact h

theorem MhRep.keep (ok : RealOk R) {w w' : World} {Q Mut Mut' B : Nat → Prop} {T : TypeId} {x : Value} {p : Nat} {m : Mh S.σ} (h : MhRep R w Mut B T x p m) (hc : Chg Q w w') (hQ : ∀ b, Q b → Mut b) (hB : ∀ b, B b → ¬ Q b) (hm : MutUp Mut w Mut') : MhRep R w' Mut' B T x p m := by
  cases m with
  | run s => exact ok.keepM _ _ _ _ _ _ _ _ _ _ h hc hQ hB hm
  | refuse e =>
    obtain ⟨h1, b, be, h2, ⟨h3, h4, h5⟩, h6, h7⟩ := h
    have hlt := World.block_lt_of_cell? _ _ h4
    refine ⟨h1, b, be, h2, ⟨(hc.block _ (blk_lt h3) (hB b h6)).trans h3, box_keep hc (fun hq => h7 (hQ _ hq)) h4, h5⟩, h6, fun hx => ?_⟩
    rcases hm _ hx with hy | hy
    · exact h7 hy
    · simp only at hlt; omega
  | refused e =>
    obtain ⟨h1, b, K, cap, h2, h3, h6⟩ := h
    exact ⟨h1, b, K, cap, h2, (hc.block _ (blk_lt h3) (hB b h6)).trans h3, h6⟩

/-- What a step leaves. -/
def MhPost (R : Real S) (w : World) (Mut B : Nat → Prop) (I : WIds) (N : Nat) (wd : WD) (o : S.ω) (T : TypeId) (x : Value) (p : Nat) (m : Mh S.σ) (e : Ending) (w' : World) : Prop :=
  e = .returned (.bool (mhStep S o wd p m).2.2.2) ∧ Chg (fun b => WSet I b ∨ R.OB b ∨ B b) w w' ∧ ∃ B', (∀ b, B' b → B b ∨ w.heap.size ≤ b) ∧ (∀ b, B' b → b < w'.heap.size) ∧
    WorldAt w' (mutTo Mut B B') I (N + R.dN) (mhStep S o wd p m).2.1 ∧ R.ORep w' (mutTo Mut B B') (mhStep S o wd p m).1 ∧ MhRep R w' (mutTo Mut B B') B' T x p (mhStep S o wd p m).2.2.1

theorem mutTo_up {Mut B B' : Nat → Prop} {w : World} (h : ∀ b, B' b → B b ∨ w.heap.size ≤ b) (hB : ∀ b, B b → Mut b) : MutUp Mut w (mutTo Mut B B') := by
  rintro b (⟨h1, _⟩ | h1)
  · exact .inl h1
  · rcases h b h1 with h2 | h2
    · exact .inl (hB b h2)
    · exact .inr h2

theorem WorldAt.more {w : World} {Mut : Nat → Prop} {I : WIds} {N N' : Nat} {wd : WD} (h : WorldAt w Mut I N wd) (hN : N ≤ N') (hl : N' < 1000000000) : WorldAt w Mut I N' wd := by
  obtain ⟨h1, h4, h5, h6, ⟨n, M, h7, h8, h9⟩, h10, h11, h12, h13, h14⟩ := h
  exact ⟨h1, h4, h5, h6, ⟨n, M, h7, by omega, h9⟩, h10, h11, h12, h13, hl⟩

theorem mh_step (ok : RealOk R) {w : World} {Mut B : Nat → Prop} {I : WIds} {N : Nat} {wd : WD} {o : S.ω} {T : TypeId} {x : Value} {p : Nat} {m : Mh S.σ} (hw : WorldAt w Mut I N wd) (ho : R.ORep w Mut o) (hm : MhRep R w Mut B T x p m) (hi : R.inv o wd) (hp : p < 16)
    (hN : N + R.dN < 1000000000) (hc : wd.mem.c.all + 1 < 1000000000000) (hB : ∀ b, B b → Mut b ∧ ¬ WSet I b ∧ ¬ R.OB b) (hr : ∀ e, m ≠ .refused e) :
    ∃ K recv, Meth T x "Step" K recv ∧ Calls Try.prog K #[recv, .pointer (some ⟨I.bW, 0, none⟩)] w (MhPost R w Mut B I N wd o T x p m) := by
  cases m with
  | run s => exact ok.step w Mut B I N wd o T x p s hw ho hm hi hp hN hc hB
  | refused e => exact absurd rfl (hr e)
  | refuse e =>
    obtain ⟨rfl, b, be, rfl, h3, h6, h7⟩ := hm
    refine ⟨_, _, once_step_m _, ?_⟩
    refine (once_step b _ _ (.pointer (some ⟨I.bW, 0, none⟩)) w _ h3.1 enter_refuse (refuse_in b be e _ w h3)).mono ?_
    rintro e' w' ⟨rfl, er, vl, w1, ⟨rfl, rfl, hb1⟩, hblk, hch⟩
    have hcb : Chg (fun k => k = b) w w' := (Chg.of_below hb1).trans hch
    have hlt := blk_lt h3.1
    have hsub : ∀ k, (fun k => k = b) k → Mut k := by rintro k rfl; exact (hB _ h6).1
    have hup : MutUp Mut w (mutTo Mut B (fun k => k = b)) := mutTo_up (fun k hk => by cases hk; exact .inl h6) (fun k hk => (hB k hk).1)
    refine ⟨rfl, hcb.mono (fun k _ hk => by cases hk; exact .inr (.inr h6)), fun k => k = b, (fun k hk => by cases hk; exact .inl h6), (fun k hk => by cases hk; exact Nat.lt_of_lt_of_le hlt hcb.size), ?_, ?_, rfl, b, _, _, rfl, hblk, rfl⟩
    · refine (hw.keep hcb hsub (by rintro k rfl; exact (hB _ h6).2.1) hup ?_ ?_).more (by omega) hN
      · rintro k (⟨h1, _⟩ | h1)
        · exact Nat.lt_of_lt_of_le (hw.low k h1) hcb.size
        · cases h1; exact Nat.lt_of_lt_of_le hlt hcb.size
      · intro k hk
        by_cases hkb : B k
        · exact absurd hk (hB k hkb).2.1
        · exact .inl ⟨hw.muts k hk, hkb⟩
    · exact ok.keepO _ _ _ _ _ _ ho hcb hsub (by rintro k hk rfl; exact (hB _ h6).2.2 hk) hup

theorem mh_answer (ok : RealOk R) {w : World} {Mut B : Nat → Prop} {T : TypeId} {x : Value} {p : Nat} {m : Mh S.σ} (hm : MhRep R w Mut B T x p m) (hr : ∀ e, m ≠ .refuse e) :
    ∃ K recv, Meth T x "Answer" K recv ∧ Calls Try.prog K #[recv] w (AnswerPost w Mut (mhAnswer S m).1 (mhAnswer S m).2) := by
  cases m with
  | run s => exact ok.answer w Mut B T x p s hm
  | refuse e => exact absurd rfl (hr e)
  | refused e =>
    obtain ⟨rfl, b, K, cap, rfl, h3, h6⟩ := hm
    refine ⟨_, _, once_answer_m _, (once_answer b K cap e 0 w h3).mono ?_⟩
    rintro e' w' ⟨rfl, hb⟩
    exact ⟨none, 0, .slice none 0 0, rfl, LstU.nil _ _, Lst.nil _ _, hb⟩
end Go.Proofs.Ytkocgeedpinplaa
