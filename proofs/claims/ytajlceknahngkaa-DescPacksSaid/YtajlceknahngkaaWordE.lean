/- Layer 1: the reference's Pack and Sizes; the laws WordPacks, WordBack: the walks. -/
import Derived.Test.YtajlceknahngkaaWordC
import Derived.Deep.QuietTactic
import Derived.BigQuiet
namespace Go.Proofs.Ytajlceknahngkaa
open Go.RowKit

theorem rpack_any (l : List (Int × Nat)) (a a2 : Option Addr) (c c2 : Nat) (w : World) (hs : SlAt w a l.length 1 (intG (l.map (·.1)))) (hs2 : SlAt w a2 l.length 1 (u64G (l.map (·.2)))) (hv : ∀ x ∈ l, U64 x.2) :
    Calls Try.prog 23 #[.slice a l.length c, .slice a2 l.length c2] w fun e w' => ∃ (er : Int) (x : Nat), e = .returned (.tuple #[.int .i64 er, .int .u64 (x : Int)]) ∧ Below w.heap.size w w' ∧ Hid ((er, x) = packGo l 0 0) := by
  have hm := hs.1
  unfold maxLen at hm
  have Hs := Lib.hid hs; have Hs2 := Lib.hid hs2; clear hs hs2
  go_enter Try.func23, Try.ntmps23
  go_wp2
  go_loopw [6, 7, 8] (fun p x i wr => ∃ k pn xn : Nat, k ≤ l.length ∧ i = .int .i64 k ∧ p = .int .i64 pn ∧ x = .int .u64 (xn : Int) ∧ pn ≤ 64 ∧ U64 xn ∧ Hid (packGo (l.drop k) pn xn = packGo l 0 0) ∧ Below w.heap.size w wr) (fun _ _ i _ => l.length - (intOf i).toNat)
  case atStart => exact ⟨0, 0, 0, Nat.zero_le _, rfl, rfl, rfl, by omega, by unfold U64; omega, rfl, Below.refl _ _⟩
  case round =>
    obtain ⟨k, pn, xn, hk, rfl, rfl, rfl, hp, hx, hg, hb⟩ := hrel
    by_cases hlt : k < l.length
    · obtain ⟨b, off, rfl, hc⟩ := Hs.out.elem hb hlt
      obtain ⟨b2, off2, rfl, hc2⟩ := Hs2.out.elem hb hlt
      obtain ⟨s, v, hsv⟩ : ∃ s v, l[k] = (s, v) := ⟨_, _, rfl⟩
      have hd : List.drop k l = (s, v) :: List.drop (k + 1) l := by rw [List.drop_eq_getElem_cons hlt, hsv]
      have hvU : U64 v := by have := hv _ (List.getElem_mem hlt); rw [hsv] at this; exact this
      have h0' : wr.cell? ⟨b, off + k, none⟩ = some (.int .i64 s) := by have h0 := hc 0 (by omega); rw [Nat.mul_one, Nat.add_zero] at h0; rw [h0]; simp [intG, List.getD_eq_getElem?_getD, hlt, hsv]
      have h1' : wr.cell? ⟨b2, off2 + k, none⟩ = some (.int .u64 (v : Int)) := by have h0 := hc2 0 (by omega); rw [Nat.mul_one, Nat.add_zero] at h0; rw [h0]; simp [u64G, List.getD_eq_getElem?_getD, hlt, hsv]
      have hg2 := hg.out
      rw [hd] at hg2
      clear hd hg hc hc2 hv hsv
      by_cases hB : isB pn s = true
      · have hb3 := isB_pos hB
        obtain ⟨sn, rfl⟩ := Int.eq_ofNat_of_zero_le (show 0 ≤ s by omega)
        have hfit := rfits_any v sn
        have hl1 : (k : Int) < l.length := by omega
        by_cases ho : v < 2 ^ sn
        · have hft : fitsB v sn = true := by simpa [fitsB] using ho
          have Ho := Lib.hid ho; clear ho
          have hg3 : packGo (List.drop (k + 1) l) (pn + sn) (putN xn pn sn v) = packGo l 0 0 := by rw [← hg2]; simp [packGo, hB, Ho.out, show ¬ 2 ^ sn ≤ v from by have := Ho.out; omega]
          have Hg := Lib.hid hg3; clear hg3 hg2
          go_wp2
          go_quiet ((go_at_call 20; first | exact quietS (hfit _ (by omega) hvU) | exact quietA (hfit _ (by omega) hvU)))
          go_wp2
          obtain ⟨x2, hx2⟩ : ∃ x2, x2 = putN xn pn sn v := ⟨_, rfl⟩
          have hput := fun w => rput_any xn pn sn v w (by omega) hx hvU Ho.out
          rw [← hx2] at hput
          have Hput := Lib.hid hput; clear hput
          have hx2U : U64 x2 := by rw [hx2]; exact putN_lt hx (by omega) Ho.out
          rw [← hx2] at Hg
          clear hx2
          go_quiet ((go_at_call 21; first | exact quietS (Hput.out _) | exact quietA (Hput.out _)))
          go_wp2
          go_roundw
          case rel => exact ⟨k + 1, pn + sn, x2, by omega, by go_num, by go_num, rfl, by omega, hx2U, Hg, below_drewN hb _⟩
          case measure => simp [intOf] <;> omega
        · have hft : fitsB v sn = false := by simp [fitsB]; omega
          have Ho := Lib.hid (Nat.le_of_not_lt ho); clear ho
          have hg3 : ((10 : Int), 0) = packGo l 0 0 := by rw [← hg2]; simp [packGo, hB, Ho.out]
          have Hg := Lib.hid hg3; clear hg3 hg2
          go_wp2
          go_quiet ((go_at_call 20; first | exact quietS (hfit _ (by omega) hvU) | exact quietA (hfit _ (by omega) hvU)))
          go_wp2
          go_ret2
          exact ⟨10, 0, rfl, below_drewN hb _, Hg⟩
      · have hB' : isB pn s = false := by simpa using hB
        have hg3 : ((1 : Int), 0) = packGo l 0 0 := by rw [← hg2]; simp [packGo, hB']
        have Hg := Lib.hid hg3; clear hg3 hg2
        have hno : ¬ (1 ≤ s ∧ s ≤ 64 - (pn : Int)) := by intro hc; apply hB; unfold isB; simp; omega
        clear hB hB'
        by_cases h1 : s < 1
        · go_wp2
          all_goals go_ret2
          all_goals exact ⟨1, 0, rfl, hb, Hg⟩
        · have h2 : 64 - (pn : Int) < s := by omega
          go_wp2
          all_goals go_ret2
          all_goals exact ⟨1, 0, rfl, hb, Hg⟩
    · go_wp2
      go_ret2
      obtain rfl : k = l.length := by omega
      exact ⟨0, xn, rfl, hb, by have h := hg.out; rw [List.drop_length] at h; simpa [packGo, Hid] using h⟩

def sizesGo : List Int → Nat → Bool
  | [], _ => true
  | s :: l, a => isB a s && sizesGo l (a + s.toNat)
theorem sizesGo_none (x : Nat) : ∀ (l : List Int) (a : Nat), unpackGo x l a = none ↔ sizesGo l a = false
  | [], a => by simp [unpackGo, sizesGo]
  | s :: l, a => by
    have ih := sizesGo_none x l (a + s.toNat)
    by_cases h : isB a s = true
    · simp [unpackGo, sizesGo, h, ih]
    · simp [unpackGo, sizesGo, h]

theorem rsizes_any (l : List Int) (a : Option Addr) (c : Nat) (w : World) (hs : SlAt w a l.length 1 (intG l)) :
    Calls Try.prog 25 #[.slice a l.length c] w fun e w' => e = .returned (.bool (sizesGo l 0)) ∧ w = w' := by
  have hm := hs.1
  unfold maxLen at hm
  have Hs := Lib.hid hs; clear hs
  obtain ⟨R, hR⟩ : ∃ R, R = sizesGo l 0 := ⟨_, rfl⟩
  rw [← hR]
  have HR := Lib.hid hR; clear hR
  go_enter Try.func25, Try.ntmps25
  go_wp2
  go_loop [3, 4] (fun p i => ∃ k pn : Nat, k ≤ l.length ∧ i = .int .i64 k ∧ p = .int .i64 pn ∧ pn ≤ 64 ∧ Hid (sizesGo (l.drop k) pn = R)) (fun _ i => l.length - (intOf i).toNat)
  case atStart => exact ⟨0, 0, Nat.zero_le _, rfl, rfl, by omega, HR.out.symm⟩
  case round =>
    obtain ⟨k, pn, hk, rfl, rfl, hp, hg⟩ := hrel
    by_cases hlt : k < l.length
    · obtain ⟨b, off, rfl, hc⟩ := Hs.out.elem (Below.refl _ _) hlt
      obtain ⟨s, hsv⟩ : ∃ s, l[k] = s := ⟨_, rfl⟩
      have hd : List.drop k l = s :: List.drop (k + 1) l := by rw [List.drop_eq_getElem_cons hlt, hsv]
      have h0' : w.cell? ⟨b, off + k, none⟩ = some (.int .i64 s) := by have h0 := hc 0 (by omega); rw [Nat.mul_one, Nat.add_zero] at h0; rw [h0]; simp [intG, List.getD_eq_getElem?_getD, hlt, hsv]
      have hg2 := hg.out
      rw [hd] at hg2
      simp only [sizesGo] at hg2
      clear hd hg hc hsv
      by_cases hB : isB pn s = true
      · have hb3 := isB_pos hB
        obtain ⟨sn, rfl⟩ := Int.eq_ofNat_of_zero_le (show 0 ≤ s by omega)
        have hg3 : sizesGo (List.drop (k + 1) l) (pn + sn) = R := by rw [← hg2, hB]; simp
        have Hg := Lib.hid hg3; clear hg3 hg2 hB
        go_wp2
        go_round
        case rel => exact ⟨k + 1, pn + sn, by omega, by go_num, by go_num, by omega, Hg⟩
        case measure => simp [intOf] <;> omega
      · have hB' : isB pn s = false := by simpa using hB
        have hg3 : false = R := by rw [← hg2, hB']; simp
        have Hg := Lib.hid hg3; clear hg3 hg2
        have hno : ¬ (1 ≤ s ∧ s ≤ 64 - (pn : Int)) := by intro hc; apply hB; unfold isB; simp; omega
        clear hB hB'
        by_cases h1 : s < 1
        · go_wp2
          all_goals go_ret
          all_goals exact ⟨ret_bool Hg.out, rfl⟩
        · have h2 : 64 - (pn : Int) < s := by omega
          go_wp2
          all_goals go_ret
          all_goals exact ⟨ret_bool Hg.out, rfl⟩
    · go_wp2
      go_ret
      obtain rfl : k = l.length := by omega
      exact ⟨ret_bool (by have h := hg.out; rw [List.drop_length] at h; simpa [sizesGo] using h), rfl⟩

theorem int_info : (Try.prog.info? 3).map (fun i => (i.zero, i.size, i.bytes)) = some (some (.int .i64 0), 1, 8) := by kernel_rfl

set_option maxRecDepth 100000 in
theorem wordPacks_any (l : List (Int × Nat)) (a : Option Addr) (c : Nat) (w : World) (hs : SlAt w a l.length 2 (fieldG l)) (hv : ∀ x ∈ l, U64 x.2) :
    Calls Try.prog 5 #[.slice a l.length c] w fun e w' => e = .returned (.bool true) ∧ Below w.heap.size w w' := by
  have hm := hs.1
  unfold maxLen at hm
  have Hs := Lib.hid hs; clear hs
  by_cases hbig : 100 < l.length
  · go_enter Try.func5, Try.ntmps5
    go_wp2_with (go_at_call 17; refine (packed_any _).mono ?_; rintro e w' ⟨rfl, hw⟩)
    go_ret
    exact ⟨rfl, hw⟩
  obtain ⟨i0, hi, hz0, hz1, hz2⟩ := info_parts u64_info
  obtain ⟨j0, hj, hy0, hy1, hy2⟩ := info_parts int_info
  go_enter Try.func5, Try.ntmps5
  go_wp2
  go_loopw [3, 4, 5] (fun s v i wr => ∃ k : Nat, k ≤ l.length ∧ i = .int .i64 k ∧ wr.ownsRow w.heap.size 3 1 s k ((l.take k).map fun x => Value.int .i64 x.1) ∧ wr.ownsRow w.heap.size 22 1 v k ((l.take k).map fun x => Value.int .u64 (x.2 : Int)) ∧ Below w.heap.size w wr) (fun _ _ i _ => l.length - (intOf i).toNat)
  case atStart => exact ⟨0, Nat.zero_le _, rfl, World.ownsRow_nil _ _ _ _, World.ownsRow_nil _ _ _ _, Below.refl _ _⟩
  case round =>
    obtain ⟨k, hk, rfl, ho1, ho2, hb⟩ := hrel
    by_cases hlt : k < l.length
    · obtain ⟨b, off, rfl, hc⟩ := Hs.out.elem hb hlt
      obtain ⟨s, v, hsv⟩ : ∃ s v, l[k] = (s, v) := ⟨_, _, rfl⟩
      have ht := Lib.hid (show l.take (k + 1) = l.take k ++ [(s, v)] by rw [List.take_succ_eq_append_getElem hlt, hsv])
      have h0' : wr.cell? ⟨b, off + k * 2, none⟩ = some (.int .i64 s) := by have h0 := hc 0 (by omega); rw [Nat.add_zero] at h0; rw [h0]; simp [fieldG, List.getD_eq_getElem?_getD, hlt, hsv]
      have h1' : wr.cell? ⟨b, off + k * 2 + 1, none⟩ = some (.int .u64 (v : Int)) := by have h0 := hc 1 (by omega); rw [← Nat.add_assoc] at h0; rw [h0]; simp [fieldG, List.getD_eq_getElem?_getD, hlt, hsv]
      have Ho1 := Lib.hid ho1; have Ho2 := Lib.hid ho2; clear ho1 ho2 hc
      have Hsv := Lib.hid hsv; clear hsv
      go_wp2_with (at_builtin; refine wpList_append_own _ rfl (.tmp 20) (.tmp 26) 36 rfl w.heap.size 3 j0 (.int .i64 0) 1 8 Try.underlying36 hj hy0 hy1 hy2 rfl (by decide) _ _ _ rfl (Ho1.out.alloc _) ⟨wr.heap.size, 0, none⟩ 1 1 [.int .i64 s] rfl rfl ?c1 ?c2 ?c3 ?c4 ?c5 ?_)
      case c1 => exact cell_one_new _ _ _
      case c2 => simp [Value.oneCell']
      case c3 => unfold maxLen; omega
      case c4 => omega
      case c5 => have := hb.size; simp; omega
      intro v' w1 hown' hgrow _
      have hb1 : Below w.heap.size w w1 := (hb.alloc hb.size _).grown hgrow (by have := hb.size; simp; omega) (fun q hq => (Ho1.out.lt q hq).1)
      have Ho2' := Lib.hid ((Ho2.out.alloc (.cells #[.int .i64 s] 3)).kept hgrow (rows_apart Ho2.out Ho1.out (by decide)))
      have Hown' := Lib.hid (show w1.ownsRow w.heap.size 3 1 v' (k + 1) ((l.take (k + 1)).map fun x => Value.int .i64 x.1) by rw [ht.out]; simpa using hown')
      have h1'' : w1.cell? ⟨b, off + k * 2 + 1, none⟩ = some (.int .u64 (v : Int)) := by
        have h0 := (Hs.out.grown hb1).2 k hlt
        obtain ⟨b', off', e, _, hc⟩ := h0
        cases e
        have h0 := hc 1 (by omega)
        rw [← Nat.add_assoc] at h0; rw [h0]
        simp [fieldG, List.getD_eq_getElem?_getD, hlt, Hsv.out]
      clear hown' hgrow h0' h1'
      go_wp2_with (at_builtin; refine wpList_append_own _ rfl (.tmp 28) (.tmp 34) 37 rfl w.heap.size 22 i0 (.int .u64 0) 1 8 Try.underlying37 hi hz0 hz1 hz2 rfl (by decide) _ _ _ rfl (Ho2'.out.alloc _) ⟨w1.heap.size, 0, none⟩ 1 1 [.int .u64 (v : Int)] rfl rfl ?c1 ?c2 ?c3 ?c4 ?c5 ?_)
      case c1 => exact cell_one_new _ _ _
      case c2 => simp [Value.oneCell']
      case c3 => unfold maxLen; omega
      case c4 => omega
      case c5 => have := hb1.size; simp; omega
      intro v2 w2 hown2 hgrow2 _
      have hb2 : Below w.heap.size w w2 := (hb1.alloc hb1.size _).grown hgrow2 (by have := hb1.size; simp; omega) (fun q hq => (Ho2'.out.lt q hq).1)
      have Ho3 := Lib.hid ((Hown'.out.alloc (.cells #[.int .u64 (v : Int)] 22)).kept hgrow2 (rows_apart Hown'.out Ho2'.out (by decide)))
      have Hown2 := Lib.hid (show w2.ownsRow w.heap.size 22 1 v2 (k + 1) ((l.take (k + 1)).map fun x => Value.int .u64 (x.2 : Int)) by rw [ht.out]; simpa using hown2)
      clear hown2 hgrow2 h1''
      go_wp2
      go_roundw
      case rel => exact ⟨k + 1, by omega, by go_num, Ho3.out, Hown2.out, hb2⟩
      case measure => simp [intOf] <;> omega
    · obtain rfl : k = l.length := by omega
      rw [List.take_length] at ho1 ho2
      obtain ⟨a1, c1, rfl, hsl1, hf1⟩ := sl_of_row (g := intG (l.map (·.1))) ho1 (by unfold maxLen; omega) (by intro j hj; simp [intG, List.getD_eq_getElem?_getD, hj])
      obtain ⟨a2, c2, rfl, hsl2, hf2⟩ := sl_of_row (g := u64G (l.map (·.2))) ho2 (by unfold maxLen; omega) (by intro j hj; simp [u64G, List.getD_eq_getElem?_getD, hj])
      clear ho1 ho2
      have hslw := Hs.out.grown hb
      have K1 := Lib.hid hsl1; have K2 := Lib.hid hsl2; have K3 := Lib.hid hslw; clear hsl1 hsl2 hslw hf1 hf2
      go_wp2_with fail
      refine (pack_any l _ _ _ K3.out hv).mono ?_
      rintro e w1 ⟨er, x, rfl, hb1, hx1⟩
      have K1' := Lib.hid (K1.out.grown hb1); have K2' := Lib.hid (K2.out.grown hb1); clear K1 K2
      go_wp2_with fail
      refine (rpack_any l _ _ _ _ _ K1'.out K2'.out hv).mono ?_
      rintro e w2 ⟨er2, x2, rfl, hb2, hx2⟩
      have he := hx1.out.trans hx2.out.symm
      simp only [Prod.mk.injEq] at he
      obtain ⟨rfl, rfl⟩ := he
      clear hx1 hx2
      go_wp2_with (go_at_call 17; refine (packed_any _).mono ?_; rintro e w' ⟨rfl, hw⟩)
      go_ret
      exact ⟨rfl, Gr.trans (Gr.trans (Gr.trans hb hb1) hb2) hw⟩
end Go.Proofs.Ytajlceknahngkaa
