/- Layer 5's reference: Wrong, and Now: the first call of a thread that is not finished. -/
import Derived.Test.YteffgpcjfnjlkaaGreatJ09
set_option maxRecDepth 100000
set_option linter.unusedVariables false
set_option linter.unusedSimpArgs false
set_option linter.unnecessarySimpa false
namespace Go.Proofs.YteffgpcjfnjlkaaGreat
open Go.RowKit
theorem rwrong_any (n : Int) (l : List CallD) (a : Option Addr) (c : Nat) (w : World) (hs : SlAt w a l.length 6 (callG l)) :
    Calls Tryz.prog 68 #[.int .i64 n, .slice a l.length c] w fun e w' => e = .returned (.int .i64 (wrongN n l)) ∧ Below w.heap.size w w' := by
  have hm := hs.1
  unfold maxLen at hm
  have Hs := Lib.hid hs; clear hs
  obtain ⟨R, hR⟩ : ∃ R, R = wrongN n l := ⟨_, rfl⟩
  rw [← hR]
  have HR := Lib.hid hR; clear hR
  by_cases h1 : n < 1
  · have hr : R = 1 := by rw [HR.out]; unfold wrongN; rw [if_pos (.inl h1)]
    subst hr
    go_enter Tryz.func68, Tryz.ntmps68
    go_wp2
    go_ret
    exact ⟨rfl, Gr.refl _⟩
  by_cases h2 : 16 < n
  · have hr : R = 1 := by rw [HR.out]; unfold wrongN; rw [if_pos (.inr h2)]
    subst hr
    go_enter Tryz.func68, Tryz.ntmps68
    go_wp2
    go_ret
    exact ⟨rfl, Gr.refl _⟩
  by_cases h3 : 1000 < l.length
  · have hr : R = 3 := by rw [HR.out]; unfold wrongN; rw [if_neg (by omega), if_pos h3]
    subst hr
    have h4 : (1000 : Int) < l.length := by omega
    go_enter Tryz.func68, Tryz.ntmps68
    go_wp2
    go_ret
    exact ⟨rfl, Gr.refl _⟩
  have hr : R = if anyBad n l = true then 1 else 0 := by rw [HR.out]; unfold wrongN; rw [if_neg (by omega), if_neg h3]; rfl
  have HR2 := Lib.hid hr
  clear hr HR
  go_enter Tryz.func68, Tryz.ntmps68
  go_wp2
  go_loopw [5, 17] (fun _ i wr => ∃ k : Nat, k ≤ l.length ∧ i = .int .i64 k ∧ Hid (∀ j, (h : j < k) → (hl : j < l.length) → badT n l[j] = false) ∧ Below w.heap.size w wr) (fun _ i _ => l.length - (intOf i).toNat)
  case atStart => exact ⟨0, Nat.zero_le _, rfl, fun j h => absurd h (Nat.not_lt_zero j), Gr.refl _⟩
  case round =>
    obtain ⟨k, hk, rfl, hok, hb⟩ := hrel
    by_cases hlt : k < l.length
    · obtain ⟨b, off, rfl, c0, _⟩ := call_cells Hs.out hb hlt
      obtain ⟨t, ht⟩ : ∃ t, t = l[k].thread := ⟨_, rfl⟩
      rw [← ht] at c0
      have Ht := Lib.hid ht; clear ht
      have hl1 : (k : Int) < l.length := by omega
      by_cases hb1 : t < 0
      · have hbad : R = 1 := by rw [HR2.out, if_pos (by unfold anyBad; exact List.any_eq_true.2 ⟨l[k], List.getElem_mem hlt, by unfold badT; rw [← Ht.out]; simp [hb1]⟩)]
        subst hbad
        have hd : decide (t < 0) = true := by simpa using hb1
        go_wp2
        all_goals go_ret
        all_goals exact ⟨rfl, hb⟩
      · by_cases hb2 : n ≤ t
        · have hbad : R = 1 := by rw [HR2.out, if_pos (by unfold anyBad; exact List.any_eq_true.2 ⟨l[k], List.getElem_mem hlt, by unfold badT; rw [← Ht.out]; simp [hb2]⟩)]
          subst hbad
          go_wp2
          all_goals go_ret
          all_goals exact ⟨rfl, hb⟩
        · go_wp2
          go_roundw
          case rel =>
            refine ⟨k + 1, by omega, by go_num, ?_, hb⟩
            intro j h hl
            rcases Nat.lt_succ_iff_lt_or_eq.1 h with h | rfl
            · exact hok.out j h hl
            · unfold badT; rw [← Ht.out]; simp; omega
          case measure => simp [intOf] <;> omega
    · obtain rfl : k = l.length := by omega
      have hz : R = 0 := by
        rw [HR2.out, if_neg]
        unfold anyBad
        rw [List.any_eq_true]
        rintro ⟨x, hx, hbx⟩
        obtain ⟨j, hj, rfl⟩ := List.getElem_of_mem hx
        rw [hok.out j hj hj] at hbx
        cases hbx
      subst hz
      go_wp2
      go_ret
      exact ⟨rfl, hb⟩
theorem rnow_any (l : List CallD) (fin : List Bool) (p : Int) (a a2 : Option Addr) (c c2 : Nat) (w : World) (hs : SlAt w a l.length 6 (callG l)) (hs2 : SlAt w a2 l.length 1 (boolG fin)) :
    Calls Tryz.prog 54 #[.slice a l.length c, .slice a2 l.length c2, .int .i64 p] w fun e w' => e = .returned (.int .i64 (nowI (nowN l fin p))) ∧ w = w' := by
  have hm := hs.1
  unfold maxLen at hm
  have Hs := Lib.hid hs; have Hs2 := Lib.hid hs2; clear hs hs2
  obtain ⟨R, hR⟩ : ∃ R, R = nowI (nowN l fin p) := ⟨_, rfl⟩
  rw [← hR]
  have HR := Lib.hid hR; clear hR
  go_enter Tryz.func54, Tryz.ntmps54
  go_wp2
  go_loop [7, 10] (fun _ i => ∃ k : Nat, k ≤ l.length ∧ i = .int .i64 k ∧ Hid (∀ j, (h : j < k) → nowIs l fin p j = false)) (fun _ i => l.length - (intOf i).toNat)
  case atStart => exact ⟨0, Nat.zero_le _, rfl, fun j h => absurd h (Nat.not_lt_zero j)⟩
  case round =>
    obtain ⟨k, hk, rfl, hok⟩ := hrel
    by_cases hlt : k < l.length
    · obtain ⟨b, off, rfl, c0, _⟩ := call_cells Hs.out (Gr.refl w) hlt
      obtain ⟨b2, off2, rfl, hc2⟩ := Hs2.out.elem (Gr.refl w) hlt
      obtain ⟨f, hf⟩ : ∃ f, f = fin.getD k false := ⟨_, rfl⟩
      have c1 : w.cell? ⟨b2, off2 + k, none⟩ = some (.bool f) := by have h0 := hc2 0 (by omega); rw [Nat.mul_one, Nat.add_zero] at h0; rw [h0, hf]; rfl
      obtain ⟨t, ht⟩ : ∃ t, t = l[k].thread := ⟨_, rfl⟩
      rw [← ht] at c0
      have hns : nowIs l fin p k = (decide (t = p) && !f) := by unfold nowIs; rw [← hf, List.getD_eq_getElem?_getD]; simp [hlt, ← ht]
      have Hns := Lib.hid hns
      have hl1 : (k : Int) < l.length := by omega
      clear hc2 hf ht hns
      have hstep : nowIs l fin p k = false → Hid (∀ j, (h : j < k + 1) → nowIs l fin p j = false) := fun hn j h => by
        rcases Nat.lt_succ_iff_lt_or_eq.1 h with h | rfl
        · exact hok.out j h
        · exact hn
      by_cases h1 : t = p
      · have hbeq : (t == p) = true := by simpa using h1
        cases f with
        | false =>
          have hfound : R = (k : Int) := by
            rw [HR.out]
            unfold nowN
            rw [find_range_split _ _ k hk hok.out, show l.length - k = (l.length - k - 1) + 1 by omega, List.range_succ_eq_map]
            simp [Hns.out, h1, nowI]
          have Hf := Lib.hid hfound
          clear hstep h1 hfound
          go_wp2
          go_ret
          exact ⟨ret_i64 Hf.out.symm, rfl⟩
        | true =>
          have Hst := Lib.hid (hstep (by rw [Hns.out]; simp))
          clear hstep h1
          go_wp2
          go_round
          case rel => exact ⟨k + 1, by omega, by go_num, Hst.out⟩
          case measure => simp [intOf] <;> omega
      · have hbeq : (t == p) = false := by simpa using h1
        have Hst := Lib.hid (hstep (by rw [Hns.out]; simp [h1]))
        clear hstep h1
        go_wp2
        go_round
        case rel => exact ⟨k + 1, by omega, by go_num, Hst.out⟩
        case measure => simp [intOf] <;> omega
    · obtain rfl : k = l.length := by omega
      have hnone : R = -1 := by
        rw [HR.out]
        unfold nowN
        rw [find_range_split _ _ l.length (Nat.le_refl _) hok.out]
        simp [nowI]
      subst hnone
      go_wp2
      go_ret
      exact ⟨rfl, rfl⟩
end Go.Proofs.YteffgpcjfnjlkaaGreat
