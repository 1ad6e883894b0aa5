/- Layer 19: the laws: the walks. -/
import Derived.Test.YtajlceknahngkaaDescC
set_option maxRecDepth 100000
namespace Go.Proofs.Ytajlceknahngkaa
open Go.RowKit

theorem put19 (w : World) :
    Calls Try.prog 58 #[] w fun e w' => e = .returned (.bool true) ∧ Below w.heap.size w w' := by
  have hw : word4 true false 3 1 = (0, 4294967309) := by decide
  have hU : U64 4294967309 := by unfold U64; omega
  have hwt : waitsB 4294967309 1 false = true := by decide
  have H1 := Lib.hid (fun w => descUnpack_any 4294967309 w hU)
  have e1 : dP 4294967309 = true := by decide
  have e2 : dT 4294967309 = false := by decide
  have e3 : dL 4294967309 = 3 := by decide
  have e4 : dPh 4294967309 = 1 := by decide
  rw [e1, e2, e3, e4] at H1
  have H2 := fun w => descWaits_any 4294967309 1 false w hU
  rw [hwt] at H2
  have H2 := Lib.hid H2
  clear e1 e2 e3 e4 hwt
  go_enter Try.func58, Try.ntmps58
  go_wp2_with fail
  refine (descPack_any true false 3 1 _ (by unfold U64; omega) (by unfold U64; omega)).mono ?_
  rintro e w1 ⟨er, x, rfl, hb1, hx⟩
  obtain ⟨rfl, rfl⟩ : er = 0 ∧ x = 4294967309 := by have := hx.out; rw [hw] at this; simpa using this
  clear hx hw
  go_wp2_with fail
  refine (H1.out _).mono ?_
  rintro e w2 ⟨rfl, hb2⟩
  go_wp2_with fail
  refine (H2.out _).mono ?_
  rintro e w3 ⟨rfl, hb3⟩
  go_wp2
  go_ret
  exact ⟨rfl, Gr.trans (Gr.trans hb1 hb2) hb3⟩

theorem word_back {x : Nat} (hx : U64 x) : word4 (dP x) (dT x) (dL x) (dPh x) = (0, x) := by
  have h := hx.lt
  have e1 : bN (dP x) = x % 2 := by unfold dP bN; by_cases c : x % 2 = 1 <;> simp [c] <;> omega
  have e2 : bN (dT x) = x / 2 % 2 := by unfold dT bN; by_cases c : x / 2 % 2 = 1 <;> simp [c] <;> omega
  unfold word4
  rw [if_neg (by unfold dL dPh; omega), e1, e2]
  unfold dL dPh
  simp
  omega
theorem wordN_parts {p t : Bool} {l ph : Nat} (hl : l < 1073741824) (hph : ph < 4294967296) : U64 (wordN p t l ph) ∧ dP (wordN p t l ph) = p ∧ dT (wordN p t l ph) = t ∧ dL (wordN p t l ph) = l ∧ dPh (wordN p t l ph) = ph := by
  unfold wordN U64 dP dT dL dPh
  cases p <;> cases t <;> simp [bN] <;> omega
theorem word4_yes {p t : Bool} {l ph : Nat} (hl : l < 1073741824) (hph : ph < 4294967296) : word4 p t l ph = (0, wordN p t l ph) := by
  unfold word4 wordN
  rw [if_neg (by omega)]
theorem word4_no {p t : Bool} {l ph : Nat} (h : 1073741824 ≤ l ∨ 4294967296 ≤ ph) : word4 p t l ph = (10, 0) := by
  unfold word4
  rw [if_pos (by omega)]


set_option maxHeartbeats 4000000 in
theorem descPacks_yes (p t : Bool) (l ph x : Nat) (w : World) (hl : l < 1073741824) (hph : ph < 4294967296) (hx : U64 x) :
    Calls Try.prog 13 #[.agg #[.bool p, .bool t, .int .u64 (l : Int), .int .u64 (ph : Int)], .int .u64 (x : Int)] w fun e w' => e = .returned (.bool true) ∧ Below w.heap.size w w' := by
  obtain ⟨y, hy⟩ : ∃ y, y = wordN p t l ph := ⟨_, rfl⟩
  have hparts := wordN_parts (p := p) (t := t) hl hph
  rw [← hy] at hparts
  obtain ⟨hyU, y1, y2, y3, y4⟩ := hparts
  have g1 := fun w => descUnpack_any y w hyU
  rw [y1, y2, y3, y4] at g1
  have g2 := fun w => rword19 p t l ph w hl hph
  rw [← hy] at g2
  have hw4 := word4_yes (p := p) (t := t) hl hph
  rw [← hy] at hw4
  have G1 := Lib.hid g1; have G2 := Lib.hid g2; have HW4 := Lib.hid hw4
  have hlU : U64 l := by unfold U64; omega
  have hphU : U64 ph := by unfold U64; omega
  have G3 := Lib.hid (fun w => descPack_any p t l ph w hlU hphU)
  have G4 := Lib.hid (fun w => rright19 l ph w true (.inl ⟨rfl, hl, hph⟩))
  clear g1 g2 hw4 y1 y2 y3 y4 hy hl hph
  have g5 := fun w => descUnpack_any x w hx
  have hback := word_back hx
  have g7 := fun w => rpending19 x w hx
  have g8 := fun w => rtake19 x w hx
  have g9 := fun w => rload19 x w hx
  have g10 := fun w => rphase19 x w hx
  have hLU : U64 (dL x) := by have := hx.lt; unfold U64 dL; omega
  have hPU : U64 (dPh x) := by have := hx.lt; unfold U64 dPh; omega
  have g6 := fun w => descPack_any (dP x) (dT x) (dL x) (dPh x) w hLU hPU
  generalize dP x = xp at *
  generalize dT x = xt at *
  generalize dL x = xl at *
  generalize dPh x = xph at *
  have G5 := Lib.hid g5; have G6 := Lib.hid g6; have G7 := Lib.hid g7; have G8 := Lib.hid g8; have G9 := Lib.hid g9; have G10 := Lib.hid g10; have Hback := Lib.hid hback
  clear g5 g6 g7 g8 g9 g10 hback hLU hPU
  go_enter Try.func13, Try.ntmps13
  go_wp2_with fail
  refine (G3.out _).mono ?_
  rintro e w1 ⟨er, z, rfl, hb1, hz⟩
  obtain ⟨rfl, rfl⟩ : er = 0 ∧ z = y := by have := hz.out; rw [HW4.out] at this; simpa using this
  clear hz
  have k0 := box_cell hb1 0; have k1 := box_cell hb1 1; have k2 := box_cell hb1 2; have k3 := box_cell hb1 3
  simp only [List.getElem?_toArray, List.getElem?_cons_zero, List.getElem?_cons_succ] at k0 k1 k2 k3
  go_wp2_with (go_at_call 51; refine (G4.out _).mono ?_; rintro e w' ⟨rfl, rfl⟩)
  have hsz := hb1.size
  simp only [World.size_alloc] at hsz
  go_region_held3 (fun w' => w'.cell? ⟨w.heap.size, 0, none⟩ = some (.bool p) ∧ w'.cell? ⟨w.heap.size, 1, none⟩ = some (.bool t) ∧ w'.cell? ⟨w.heap.size, 2, none⟩ = some (.int .u64 (l : Int)) ∧ w'.cell? ⟨w.heap.size, 3, none⟩ = some (.int .u64 (ph : Int)))
    (first
      | go_keep
      | (go_split_ands
         refine ⟨?_, ?_, ?_, ?_⟩
         · (rw [hb2.cell (by simp; omega)]; assumption)
         · (rw [hb2.cell (by simp; omega)]; assumption)
         · (rw [hb2.cell (by simp; omega)]; assumption)
         · (rw [hb2.cell (by simp; omega)]; assumption)))
    (first | (go_at_call 52; refine (G2.out _).mono ?_; rintro e w' ⟨rfl, rfl⟩) | (go_at_call 53; refine (G1.out _).mono ?_; rintro e w2 ⟨rfl, hb2⟩))
  rename_i hHeld
  have Hhb : Below w1.heap.size w1 w2 := (Below.refl _ _).drew.trans hb2
  have hsz2 := Hhb.size
  have HB2 := Lib.hid Hhb
  clear hHeld hb2 k0 k1 k2 k3 Hhb
  go_wp2_with fail
  refine (G5.out _).mono ?_
  rintro e w3 ⟨rfl, hb3⟩
  have hsz3 := hb3.size
  go_wp2_with fail
  refine (G6.out _).mono ?_
  rintro e w4 ⟨er, z2, rfl, hb4, hz⟩
  obtain ⟨rfl, rfl⟩ : er = 0 ∧ z2 = x := by have := hz.out; rw [Hback.out] at this; simpa using this
  clear hz
  have k0 := box_cell hb4 0; have k1 := box_cell hb4 1; have k2 := box_cell hb4 2; have k3 := box_cell hb4 3
  simp only [List.getElem?_toArray, List.getElem?_cons_zero, List.getElem?_cons_succ] at k0 k1 k2 k3
  have hsz4 := hb4.size
  simp only [World.size_alloc] at hsz4
  go_wp2_with fail
  go_region_held3 (fun w' => w'.cell? ⟨w3.heap.size, 0, none⟩ = some (.bool xp) ∧ w'.cell? ⟨w3.heap.size, 1, none⟩ = some (.bool xt) ∧ w'.cell? ⟨w3.heap.size, 2, none⟩ = some (.int .u64 (xl : Int)) ∧ w'.cell? ⟨w3.heap.size, 3, none⟩ = some (.int .u64 (xph : Int)))
    (first
      | go_keep
      | (go_split_ands
         refine ⟨?_, ?_, ?_, ?_⟩
         · (rw [hb5.cell (by simp; omega)]; assumption)
         · (rw [hb5.cell (by simp; omega)]; assumption)
         · (rw [hb5.cell (by simp; omega)]; assumption)
         · (rw [hb5.cell (by simp; omega)]; assumption)))
    (first | (go_at_call 54; refine (G7.out _).mono ?_; rintro e w' ⟨rfl, rfl⟩) | (go_at_call 55; refine (G8.out _).mono ?_; rintro e w' ⟨rfl, rfl⟩) | (go_at_call 56; refine (G9.out _).mono ?_; rintro e w' ⟨rfl, rfl⟩) | (go_at_call 57; refine (G10.out _).mono ?_; rintro e w' ⟨rfl, rfl⟩) | (go_at_call 58; refine (put19 _).mono ?_; rintro e w5 ⟨rfl, hb5⟩))
  clear k0 k1 k2 k3
  go_wp2
  go_ret
  refine ⟨rfl, ?_⟩
  have f1 : Below w.heap.size w w3 := Gr.trans (Gr.trans (Gr.trans (Gr.new _ _) hb1) HB2.out) hb3
  have f2 : Below w.heap.size w w4 := Gr.trans (Gr.trans f1 (Gr.new _ _)) hb4
  exact Gr.trans f2 ((Below.refl _ _).drew.trans hb5)
set_option maxHeartbeats 4000000 in
theorem descPacks_no (p t : Bool) (l ph x : Nat) (w : World) (hlU : U64 l) (hphU : U64 ph) (h : 1073741824 ≤ l ∨ l < 1073741824 ∧ 4294967296 ≤ ph) (hx : U64 x) :
    Calls Try.prog 13 #[.agg #[.bool p, .bool t, .int .u64 (l : Int), .int .u64 (ph : Int)], .int .u64 (x : Int)] w fun e w' => e = .returned (.bool true) ∧ Below w.heap.size w w' := by
  have HW4 := Lib.hid (word4_no (p := p) (t := t) (l := l) (ph := ph) (by omega))
  have G3 := Lib.hid (fun w => descPack_any p t l ph w hlU hphU)
  have G4 := Lib.hid (fun w => rright19 l ph w false (by rcases h with h | h; exact .inr (.inl ⟨rfl, h⟩); exact .inr (.inr ⟨rfl, h⟩)))
  clear h
  have g5 := fun w => descUnpack_any x w hx
  have hback := word_back hx
  have g7 := fun w => rpending19 x w hx
  have g8 := fun w => rtake19 x w hx
  have g9 := fun w => rload19 x w hx
  have g10 := fun w => rphase19 x w hx
  have hLU : U64 (dL x) := by have := hx.lt; unfold U64 dL; omega
  have hPU : U64 (dPh x) := by have := hx.lt; unfold U64 dPh; omega
  have g6 := fun w => descPack_any (dP x) (dT x) (dL x) (dPh x) w hLU hPU
  generalize dP x = xp at *
  generalize dT x = xt at *
  generalize dL x = xl at *
  generalize dPh x = xph at *
  have G5 := Lib.hid g5; have G6 := Lib.hid g6; have G7 := Lib.hid g7; have G8 := Lib.hid g8; have G9 := Lib.hid g9; have G10 := Lib.hid g10; have Hback := Lib.hid hback
  clear g5 g6 g7 g8 g9 g10 hback hLU hPU
  go_enter Try.func13, Try.ntmps13
  go_wp2_with fail
  refine (G3.out _).mono ?_
  rintro e w1 ⟨er, z, rfl, hb1, hz⟩
  obtain ⟨rfl, rfl⟩ : er = 10 ∧ z = 0 := by have := hz.out; rw [HW4.out] at this; simpa using this
  clear hz
  have k2 := box_cell hb1 2; have k3 := box_cell hb1 3
  simp only [List.getElem?_toArray, List.getElem?_cons_zero, List.getElem?_cons_succ] at k2 k3
  go_wp2_with fail
  refine (G4.out _).mono ?_
  rintro e w' ⟨rfl, rfl⟩
  go_wp2_with fail
  refine (G5.out _).mono ?_
  rintro e w3 ⟨rfl, hb3⟩
  have hsz3 := hb3.size
  go_wp2_with fail
  refine (G6.out _).mono ?_
  rintro e w4 ⟨er, z2, rfl, hb4, hz⟩
  obtain ⟨rfl, rfl⟩ : er = 0 ∧ z2 = x := by have := hz.out; rw [Hback.out] at this; simpa using this
  clear hz
  have k0 := box_cell hb4 0; have k1 := box_cell hb4 1; have k2 := box_cell hb4 2; have k3 := box_cell hb4 3
  simp only [List.getElem?_toArray, List.getElem?_cons_zero, List.getElem?_cons_succ] at k0 k1 k2 k3
  have hsz4 := hb4.size
  simp only [World.size_alloc] at hsz4
  go_wp2_with fail
  go_region_held3 (fun w' => w'.cell? ⟨w3.heap.size, 0, none⟩ = some (.bool xp) ∧ w'.cell? ⟨w3.heap.size, 1, none⟩ = some (.bool xt) ∧ w'.cell? ⟨w3.heap.size, 2, none⟩ = some (.int .u64 (xl : Int)) ∧ w'.cell? ⟨w3.heap.size, 3, none⟩ = some (.int .u64 (xph : Int)))
    (first
      | go_keep
      | (go_split_ands
         refine ⟨?_, ?_, ?_, ?_⟩
         · (rw [hb5.cell (by simp; omega)]; assumption)
         · (rw [hb5.cell (by simp; omega)]; assumption)
         · (rw [hb5.cell (by simp; omega)]; assumption)
         · (rw [hb5.cell (by simp; omega)]; assumption)))
    (first | (go_at_call 54; refine (G7.out _).mono ?_; rintro e w' ⟨rfl, rfl⟩) | (go_at_call 55; refine (G8.out _).mono ?_; rintro e w' ⟨rfl, rfl⟩) | (go_at_call 56; refine (G9.out _).mono ?_; rintro e w' ⟨rfl, rfl⟩) | (go_at_call 57; refine (G10.out _).mono ?_; rintro e w' ⟨rfl, rfl⟩) | (go_at_call 58; refine (put19 _).mono ?_; rintro e w5 ⟨rfl, hb5⟩))
  clear k0 k1 k2 k3
  go_wp2
  go_ret
  refine ⟨rfl, ?_⟩
  have f1 : Below w.heap.size w w3 := Gr.trans (Gr.trans (Gr.new _ _) hb1) hb3
  have f2 : Below w.heap.size w w4 := Gr.trans (Gr.trans f1 (Gr.new _ _)) hb4
  exact Gr.trans f2 ((Below.refl _ _).drew.trans hb5)

theorem descPacks_any (p t : Bool) (l ph x : Nat) (w : World) (hlU : U64 l) (hphU : U64 ph) (hx : U64 x) :
    Calls Try.prog 13 #[.agg #[.bool p, .bool t, .int .u64 (l : Int), .int .u64 (ph : Int)], .int .u64 (x : Int)] w fun e w' => e = .returned (.bool true) ∧ Below w.heap.size w w' := by
  by_cases h : l < 1073741824 ∧ ph < 4294967296
  · exact descPacks_yes p t l ph x w h.1 h.2 hx
  · exact descPacks_no p t l ph x w hlU hphU (by omega) hx

end Go.Proofs.Ytajlceknahngkaa
