/- Contracts of word.Pack, word.Unpack. -/
import Derived.Test.YtajlceknahngkaaWordA
import Derived.Test.YtajlceknahngkaaLaw
namespace Go.Proofs.Ytajlceknahngkaa
open Go.RowKit

def packGo : List (Int × Nat) → Nat → Nat → Int × Nat
  | [], _, w => (0, w)
  | (s, v) :: l, a, w => if isB a s = false then (1, 0) else if 2 ^ s.toNat ≤ v then (10, 0) else packGo l (a + s.toNat) (putN w a s.toNat v)

def fieldG (l : List (Int × Nat)) (j f : Nat) : Value := if f = 0 then .int .i64 (l.getD j (0, 0)).1 else .int .u64 ((l.getD j (0, 0)).2 : Int)

theorem pack_any (l : List (Int × Nat)) (a : Option Addr) (c : Nat) (w : World) (hs : SlAt w a l.length 2 (fieldG l)) (hv : ∀ x ∈ l, U64 x.2) :
    Calls Try.prog 22 #[.slice a l.length c] w fun e w' => ∃ (er : Int) (x : Nat), e = .returned (.tuple #[.int .u64 (x : Int), .int .i64 er]) ∧ Below w.heap.size w w' ∧ Hid ((er, x) = packGo l 0 0) := by
  obtain ⟨hm, hc⟩ := hs
  unfold maxLen at hm
  go_enter Try.func22, Try.ntmps22
  go_wp2
  go_loopw [4, 5, 12] (fun x p i wr => ∃ k pn xn : Nat, k ≤ l.length ∧ i = .int .i64 k ∧ p = .int .i64 pn ∧ x = .int .u64 (xn : Int) ∧ pn ≤ 64 ∧ U64 xn ∧ Hid (packGo (l.drop k) pn xn = packGo l 0 0) ∧ Below w.heap.size w wr) (fun _ _ i _ => l.length - (intOf i).toNat)
  case atStart => exact ⟨0, 0, 0, Nat.zero_le _, rfl, rfl, rfl, by omega, by unfold U64; omega, rfl, Below.refl _ _⟩
  case round =>
    obtain ⟨k, pn, xn, hk, rfl, rfl, rfl, hp, hx, hg, hb⟩ := hrel
    by_cases hlt : k < l.length
    · obtain ⟨b, off, rfl, hbs, hcell⟩ := hc k hlt
      have h0 := (hb.cell (p := ⟨b, off + (k * 2 + 0), none⟩) hbs).trans (hcell 0 (by omega))
      have h1 := (hb.cell (p := ⟨b, off + (k * 2 + 1), none⟩) hbs).trans (hcell 1 (by omega))
      obtain ⟨s, v, hsv⟩ : ∃ s v, l[k] = (s, v) := ⟨_, _, rfl⟩
      have hd : List.drop k l = (s, v) :: List.drop (k + 1) l := by rw [List.drop_eq_getElem_cons hlt, hsv]
      have hvU : U64 v := by have := hv _ (List.getElem_mem hlt); rw [hsv] at this; exact this
      have h0' : wr.cell? ⟨b, off + k * 2, none⟩ = some (.int .i64 s) := by rw [Nat.add_zero] at h0; rw [h0]; simp [fieldG, List.getD_eq_getElem?_getD, hlt, hsv]
      have h1' : wr.cell? ⟨b, off + k * 2 + 1, none⟩ = some (.int .u64 (v : Int)) := by rw [← Nat.add_assoc] at h1; rw [h1]; simp [fieldG, List.getD_eq_getElem?_getD, hlt, hsv]
      have hg2 := hg.out
      rw [hd] at hg2
      have HD := Lib.hid hd
      clear h0 h1 hd hg hcell hc
      by_cases hB : isB pn s = true
      · have hb3 := isB_pos hB
        obtain ⟨sn, rfl⟩ := Int.eq_ofNat_of_zero_le (show 0 ≤ s by omega)
        by_cases ho : v < 2 ^ sn
        · have Ho := Lib.hid ho; clear ho
          have hg3 : packGo (List.drop (k + 1) l) (pn + sn) (putN xn pn sn v) = packGo l 0 0 := by rw [← hg2]; simp [packGo, hB, Ho.out, show ¬ 2 ^ sn ≤ v from by have := Ho.out; omega]
          have Hg := Lib.hid hg3; clear hg3 hg2
          go_wp2_with (go_at_call 19; refine (put_yes _ _ _ _ _ hB hx hvU Ho.out).mono ?_; rintro e w' ⟨rfl, rfl⟩)
          go_roundw
          case rel => exact ⟨k + 1, pn + sn, putN xn pn sn v, by omega, by go_num, by go_num, rfl, by omega, putN_lt hx (by omega) Ho.out, Hg, hb.alloc hb.size _⟩
          case measure => simp [intOf] <;> omega
        · have Ho := Lib.hid (Nat.le_of_not_lt ho); clear ho
          have hg3 : ((10 : Int), 0) = packGo l 0 0 := by rw [← hg2]; simp [packGo, hB, Ho.out]
          have Hg := Lib.hid hg3; clear hg3 hg2
          go_wp2_with (go_at_call 19; refine (put_over _ _ _ _ _ hB hvU Ho.out).mono ?_; rintro e w' ⟨rfl, rfl⟩)
          go_ret2
          exact ⟨10, 0, rfl, hb.alloc hb.size _, Hg⟩
      · have hB' : isB pn s = false := by simpa using hB
        have hg3 : ((1 : Int), 0) = packGo l 0 0 := by rw [← hg2]; simp [packGo, hB']
        have Hg := Lib.hid hg3; clear hg3 hg2
        go_wp2_with (go_at_call 19; refine (put_no _ _ _ _ _ hB').mono ?_; rintro e w' ⟨rfl, rfl⟩)
        go_ret2
        exact ⟨1, 0, rfl, hb.alloc hb.size _, Hg⟩
    · go_wp2
      go_ret2
      obtain rfl : k = l.length := by omega
      exact ⟨0, xn, rfl, hb, by have h := hg.out; rw [List.drop_length] at h; simpa [packGo, Hid] using h⟩

theorem u64_info : (Try.prog.info? 22).map (fun i => (i.zero, i.size, i.bytes)) = some (some (.int .u64 0), 1, 8) := by kernel_rfl

/-- The numbers of fields, or that there are none. -/
def unpackGo (x : Nat) : List Int → Nat → Option (List Nat)
  | [], _ => some []
  | s :: l, a => if isB a s = false then none else (unpackGo x l (a + s.toNat)).map (fun r => x / 2 ^ a % 2 ^ s.toNat :: r)

def u64G (l : List Nat) (j _f : Nat) : Value := .int .u64 ((l.getD j 0 : Nat) : Int)

/-- An owned row of words reads as a slice. -/
theorem sl_of_owns {w : World} {B : Nat} {v : Value} {r : List Nat} (h : w.ownsRow B 22 1 v r.length (r.map fun (y : Nat) => Value.int .u64 (y : Int))) (hm : r.length ≤ maxLen) :
    ∃ a c, v = .slice a r.length c ∧ SlAt w a r.length 1 (u64G r) ∧ (∀ b off, a = some ⟨b, off, none⟩ → B ≤ b) := by
  have hl := h.lt
  have hcs := h
  obtain ⟨_, h2⟩ := h
  rcases h2 with ⟨rfl, h0⟩ | ⟨g, cap, cur, rfl, hg, hh, _, _, _, _⟩
  · exact ⟨none, 0, by rw [h0], by rw [h0]; exact SlAt.nil _ _ _ _, fun b off h => by cases h⟩
  · refine ⟨_, cap, rfl, ⟨hm, fun j hj => ⟨g, 0, rfl, (hl g rfl).2, fun f hf => ?_⟩⟩, fun b off h => by cases h; exact hg⟩
    obtain rfl : f = 0 := by omega
    have := hcs.cells (g := g) rfl j (.int .u64 ((r.getD j 0 : Nat) : Int)) (by simp [List.getD_eq_getElem?_getD, hj])
    rw [addr_add0] at this
    simpa [u64G] using this

theorem unpack_any (x : Nat) (l : List Int) (a : Option Addr) (c : Nat) (w : World) (hs : SlAt w a l.length 1 (intG l)) (hx : U64 x) (hbig : l.length ≤ 100000) :
    Calls Try.prog 24 #[.int .u64 (x : Int), .slice a l.length c] w fun e w' => Below w.heap.size w w' ∧
      ((Hid (unpackGo x l 0 = none) ∧ e = .returned (.tuple #[.slice none 0 0, .int .i64 1])) ∨
       ∃ (r : List Nat) (a' : Option Addr) (c' : Nat), Hid (unpackGo x l 0 = some r) ∧ e = .returned (.tuple #[.slice a' r.length c', .int .i64 0]) ∧ SlAt w' a' r.length 1 (u64G r) ∧ (∀ b off, a' = some ⟨b, off, none⟩ → w.heap.size ≤ b)) := by
  obtain ⟨hm, hc⟩ := hs
  unfold maxLen at hm
  obtain ⟨i0, hi, hz0, hz1, hz2⟩ := info_parts u64_info
  go_enter Try.func24, Try.ntmps24
  go_wp2
  go_loopw [6, 7, 14] (fun o p i wr => ∃ (k pn : Nat) (r : List Nat), k ≤ l.length ∧ i = .int .i64 k ∧ p = .int .i64 pn ∧ pn ≤ 64 ∧ wr.ownsRow w.heap.size 22 1 o r.length (r.map fun (y : Nat) => Value.int .u64 (y : Int)) ∧ r.length = k ∧ Hid ((unpackGo x (l.drop k) pn).map (fun q => r ++ q) = unpackGo x l 0) ∧ Below w.heap.size w wr) (fun _ _ i _ => l.length - (intOf i).toNat)
  case atStart => exact ⟨0, 0, [], Nat.zero_le _, rfl, rfl, by omega, World.ownsRow_nil _ _ _ _, rfl, by unfold Hid; rw [List.drop_zero]; cases unpackGo x l 0 <;> simp, Below.refl _ _⟩
  case round =>
    obtain ⟨k, pn, r, hk, rfl, rfl, hp, hown, hr, hg, hb⟩ := hrel
    by_cases hlt : k < l.length
    · obtain ⟨b, off, rfl, hbs, hcell⟩ := hc k hlt
      have h0 := (hb.cell (p := ⟨b, off + (k * 1 + 0), none⟩) hbs).trans (hcell 0 (by omega))
      obtain ⟨s, hsv⟩ : ∃ s, l[k] = s := ⟨_, rfl⟩
      have hd : List.drop k l = s :: List.drop (k + 1) l := by rw [List.drop_eq_getElem_cons hlt, hsv]
      have h0' : wr.cell? ⟨b, off + k, none⟩ = some (.int .i64 s) := by rw [Nat.mul_one, Nat.add_zero] at h0; rw [h0]; simp [intG, List.getD_eq_getElem?_getD, hlt, hsv]
      have hg2 := hg.out
      rw [hd] at hg2
      clear h0 hd hg hcell hc
      have Hr := Lib.hid hr; clear hr
      by_cases hB : isB pn s = true
      · have hb3 := isB_pos hB
        obtain ⟨sn, rfl⟩ := Int.eq_ofNat_of_zero_le (show 0 ≤ s by omega)
        have hg3 : (unpackGo x (List.drop (k + 1) l) (pn + sn)).map (fun q => (r ++ [x / 2 ^ pn % 2 ^ sn]) ++ q) = unpackGo x l 0 := by
          rw [← hg2]; simp [unpackGo, hB, Function.comp_def]
        have Hg := Lib.hid hg3; clear hg3 hg2
        obtain ⟨y, hy⟩ : ∃ y : Nat, y = x / 2 ^ pn % 2 ^ sn := ⟨_, rfl⟩
        rw [← hy] at Hg
        have hget := get_yes x pn sn wr hx hB
        rw [← hy] at hget
        have Hget := Lib.hid hget; have Hy := Lib.hid hy; clear hget hy
        have Hown := Lib.hid hown; clear hown
        go_wp2_with (first | (go_at_call 15; refine (Hget.out).mono ?_; rintro e w' ⟨rfl, rfl⟩) | (at_builtin; refine wpList_append_own _ rfl _ _ 37 rfl w.heap.size 22 i0 (.int .u64 0) 1 8 Try.underlying37 hi hz0 hz1 hz2 rfl (by decide) _ _ _ rfl (Hown.out.alloc _) ⟨wr.heap.size, 0, none⟩ 1 1 [.int .u64 (y : Int)] rfl rfl ?c1 ?c2 ?c3 ?c4 ?c5 ?_))
        case c1 => exact cell_one_new _ _ _
        case c2 => simp [Value.oneCell']
        case c3 => have := Hr.out; unfold maxLen; omega
        case c4 => have := Hr.out; omega
        case c5 => have := hb.size; simp; omega
        intro v' w1 hown' hgrow _
        have Hown' := Hown; clear Hown
        go_wp2
        go_roundw
        case rel =>
          have hr := Hr.out
          refine ⟨k + 1, pn + sn, r ++ [y], by omega, by go_num, by go_num, by omega, ?_, by simp [hr], Hg, ?_⟩
          · simpa using hown'
          · exact (hb.alloc hb.size _).grown hgrow (by have := hb.size; simp; omega) (fun q hq => (Hown'.out.lt q hq).1)
        case measure => simp [intOf] <;> omega
      · have hB' : isB pn s = false := by simpa using hB
        have hg3 : none = unpackGo x l 0 := by rw [← hg2]; simp [unpackGo, hB']
        have Hg := Lib.hid hg3; clear hg3 hg2
        go_wp2_with (go_at_call 15; refine (get_no _ _ _ _ hB').mono ?_; rintro e w' ⟨rfl, rfl⟩)
        go_ret2
        exact ⟨hb, .inl ⟨Hg.out.symm, rfl⟩⟩
    · go_wp2
      go_ret2
      obtain rfl : k = l.length := by omega
      refine ⟨hb, .inr ?_⟩
      have hfin : some r = unpackGo x l 0 := by have h := hg.out; rw [List.drop_length] at h; simpa [unpackGo] using h
      obtain ⟨a', c', rfl, h1, h2⟩ := sl_of_owns hown (by rw [hr]; exact hm)
      exact ⟨r, a', c', hfin.symm, rfl, h1, h2⟩
end Go.Proofs.Ytajlceknahngkaa
