/- Layer 1: the law WordBack: the walk. -/
import Derived.Test.YtajlceknahngkaaWordE
import Derived.Deep.RegionHeld3
import Derived.Deep.AppendLies
namespace Go.Proofs.Ytajlceknahngkaa
open Go.RowKit

theorem flat_get {α β : Type} (f : α → List β) (k : Nat) (hf : ∀ a, (f a).length = k) : ∀ (l : List α) (j i : Nat) (hj : j < l.length), i < k → (l.flatMap f)[j * k + i]? = (f l[j])[i]?
  | [], j, i, hj, _ => absurd hj (Nat.not_lt_zero j)
  | a :: l, 0, i, _, hi => by simp [List.getElem?_append, hf, hi]
  | a :: l, j + 1, i, hj, hi => by
    have ih := flat_get f k hf l j i (by simpa using hj) hi
    rw [List.flatMap_cons, List.getElem?_append_right (by rw [hf, Nat.add_mul]; omega), hf, show (j + 1) * k + i - k = j * k + i by rw [Nat.add_mul]; omega, ih]
    rfl

def sumS (l : List Int) : Nat := (l.map Int.toNat).sum
theorem sumS_snoc (l : List Int) (s : Int) : sumS (l ++ [s]) = sumS l + s.toNat := by simp [sumS]

theorem unpackGo_len {x : Nat} : ∀ {l : List Int} {a : Nat} {r : List Nat}, unpackGo x l a = some r → r.length = l.length
  | [], a, r, h => by simp [unpackGo] at h; simp [← h]
  | s :: l, a, r, h => by
    unfold unpackGo at h
    split at h
    · cases h
    · rw [Option.map_eq_some_iff] at h
      obtain ⟨r', h1, rfl⟩ := h
      simp [unpackGo_len h1]

theorem put_mod {x a s : Nat} : putN (x % 2 ^ a) a s (x / 2 ^ a % 2 ^ s) = x % 2 ^ (a + s) := by
  have hv : x / 2 ^ a % 2 ^ s < 2 ^ s := Nat.mod_lt _ (pow1 s)
  apply Nat.eq_of_testBit_eq
  intro i
  rw [putN_bit hv, Nat.testBit_mod_two_pow, Nat.testBit_mod_two_pow, Nat.testBit_mod_two_pow, Nat.testBit_div_two_pow]
  by_cases c1 : a ≤ i
  · by_cases c2 : i < a + s
    · have c3 : i - a < s := by omega
      have c4 : i - a + a = i := by omega
      simp [c1, c2, c3, c4]
    · have c3 : ¬ i < a := by omega
      simp [c1, c2, c3]
  · have c2 : i < a + s := by omega
    have c3 : i < a := by omega
    simp [c1, c2, c3]

theorem pack_unpack (x : Nat) : ∀ (l : List Int) (a : Nat) (r : List Nat), unpackGo x l a = some r → packGo (l.zip r) a (x % 2 ^ a) = (0, x % 2 ^ (a + sumS l))
  | [], a, r, h => by simp [packGo, sumS]
  | s :: l, a, r, h => by
    unfold unpackGo at h
    split at h
    · cases h
    · rename_i hB
      rw [Option.map_eq_some_iff] at h
      obtain ⟨r', h1, rfl⟩ := h
      have hv : x / 2 ^ a % 2 ^ s.toNat < 2 ^ s.toNat := Nat.mod_lt _ (pow1 _)
      have ih := pack_unpack x l (a + s.toNat) r' h1
      simp only [List.zip_cons_cons, packGo, hB]
      rw [if_neg (by simp), if_neg (by omega), put_mod, ih]
      simp [sumS, Nat.add_assoc]

theorem unpackGo_U {x : Nat} (hx : U64 x) : ∀ {l : List Int} {a : Nat} {r : List Nat}, unpackGo x l a = some r → ∀ y ∈ r, U64 y
  | [], a, r, h, y, hy => by simp [unpackGo] at h; subst h; cases hy
  | s :: l, a, r, h, y, hy => by
    unfold unpackGo at h
    split at h
    · cases h
    · rw [Option.map_eq_some_iff] at h
      obtain ⟨r', h1, rfl⟩ := h
      rcases List.mem_cons.1 hy with rfl | hy
      · exact getU hx _ _
      · exact unpackGo_U hx h1 y hy

def cellsF (q : Int × Nat) : List Value := [.int .i64 q.1, .int .u64 (q.2 : Int)]
theorem cellsF_get (L : List (Int × Nat)) {j f : Nat} (hj : j < L.length) (hf : f < 2) : (L.flatMap cellsF)[j * 2 + f]? = some (fieldG L j f) := by
  rw [flat_get cellsF 2 (fun _ => rfl) L j f hj hf]
  obtain rfl | rfl : f = 0 ∨ f = 1 := by omega
  all_goals simp [cellsF, fieldG, List.getD_eq_getElem?_getD, hj]

theorem field_info : (Try.prog.info? 39).map (fun i => (i.zero, i.size, i.bytes)) = some (some (.agg #[.int .i64 0, .int .u64 0]), 2, 16) := by kernel_rfl

set_option maxRecDepth 100000 in
theorem wordBack_any (x : Nat) (l : List Int) (a : Option Addr) (c : Nat) (w : World) (hs : SlAt w a l.length 1 (intG l)) (hx : U64 x) :
    Calls Try.prog 6 #[.int .u64 (x : Int), .slice a l.length c] w fun e w' => e = .returned (.bool true) ∧ Below w.heap.size w w' := by
  have hm := hs.1
  unfold maxLen at hm
  have Hs := Lib.hid hs; clear hs
  by_cases hbig : 100 < l.length
  · go_enter Try.func6, Try.ntmps6
    go_wp2_with (go_at_call 17; refine (packed_any _).mono ?_; rintro e w' ⟨rfl, hw⟩)
    go_ret
    exact ⟨rfl, hw⟩
  obtain ⟨i0, hi, hz0, hz1, hz2⟩ := info_parts field_info
  go_enter Try.func6, Try.ntmps6
  go_wp2_with fail
  refine (unpack_any x l _ _ _ Hs.out hx (by omega)).mono ?_
  rintro e w1 ⟨hb1, ⟨hn, rfl⟩ | ⟨r, a', c', hr, rfl, hsl, hfr⟩⟩
  · have hsz := (sizesGo_none x l 0).1 hn.out
    have K := Lib.hid (Hs.out.grown hb1)
    clear hn
    go_wp2_with fail
    refine (rsizes_any l _ _ _ K.out).mono ?_
    rintro e w2 ⟨rfl, rfl⟩
    go_wp2_with (go_at_call 17; refine (packed_any _).mono ?_; rintro e w' ⟨rfl, hw⟩)
    go_ret
    exact ⟨rfl, Gr.trans hb1 hw⟩
  have hlen := unpackGo_len hr.out
  have hsz : sizesGo l 0 = true := by
    cases hc : sizesGo l 0 with
    | true => rfl
    | false => have := (sizesGo_none x l 0).2 hc; rw [hr.out] at this; cases this
  have K := Lib.hid (Hs.out.grown hb1)
  have Kr := Lib.hid hsl
  rw [hlen]
  have Hlen := Lib.hid hlen
  clear hsl hlen hfr
  go_wp2_with fail
  refine (rsizes_any l _ _ _ K.out).mono ?_
  rintro e w2 ⟨rfl, rfl⟩
  go_wp2
  go_loopw [7, 8, 9] (fun fs p i wr => ∃ k pn : Nat, k ≤ l.length ∧ i = .int .i64 k ∧ p = .int .i64 pn ∧ pn ≤ 64 ∧ Hid (unpackGo x (l.drop k) pn = some (r.drop k)) ∧ Hid (pn = sumS (l.take k)) ∧ wr.ownsRow w1.heap.size 39 2 fs k (((l.zip r).take k).flatMap cellsF) ∧ Below w1.heap.size w1 wr) (fun _ _ i _ => l.length - (intOf i).toNat)
  case atStart => exact ⟨0, 0, Nat.zero_le _, rfl, rfl, by omega, hr, rfl, World.ownsRow_nil _ _ _ _, Below.refl _ _⟩
  case round =>
    obtain ⟨k, pn, hk, rfl, rfl, hp, hu, hps, ho, hb⟩ := hrel
    by_cases hlt : k < l.length
    · obtain ⟨b, off, rfl, hc⟩ := K.out.elem hb hlt
      obtain ⟨b2, off2, rfl, hc2⟩ := Kr.out.elem hb (j := k) (by rw [Hlen.out]; exact hlt)
      have hltr : k < r.length := by rw [Hlen.out]; exact hlt
      obtain ⟨s, hsv⟩ : ∃ s, l[k] = s := ⟨_, rfl⟩
      obtain ⟨y, hyv⟩ : ∃ y, r[k] = y := ⟨_, rfl⟩
      have hd : List.drop k l = s :: List.drop (k + 1) l := by rw [List.drop_eq_getElem_cons hlt, hsv]
      have hdr : List.drop k r = y :: List.drop (k + 1) r := by rw [List.drop_eq_getElem_cons hltr, hyv]
      have hu2 := hu.out
      rw [hd, hdr] at hu2
      unfold unpackGo at hu2
      split at hu2
      · cases hu2
      rename_i hB0
      have hB : isB pn s = true := by simpa using hB0
      rw [Option.map_eq_some_iff] at hu2
      obtain ⟨q, hq1, hq2⟩ := hu2
      simp only [List.cons.injEq] at hq2
      obtain ⟨hy, rfl⟩ := hq2
      have Hy := Lib.hid hy; have Hu := Lib.hid hq1
      have h0' : wr.cell? ⟨b, off + k, none⟩ = some (.int .i64 s) := by have h0 := hc 0 (by omega); rw [Nat.mul_one, Nat.add_zero] at h0; rw [h0]; simp [intG, List.getD_eq_getElem?_getD, hlt, hsv]
      have h1' : wr.cell? ⟨b2, off2 + k, none⟩ = some (.int .u64 (y : Int)) := by have h0 := hc2 0 (by omega); rw [Nat.mul_one, Nat.add_zero] at h0; rw [h0]; simp [u64G, List.getD_eq_getElem?_getD, hltr, hyv]
      have hb3 := isB_pos hB
      obtain ⟨sn, rfl⟩ := Int.eq_ofNat_of_zero_le (show 0 ≤ s by omega)
      have hget := fun w => rget_any x pn sn w (by omega) (by omega) hx
      rw [show x / 2 ^ pn % 2 ^ sn = y from hy] at hget
      have Hget := Lib.hid hget
      have Ho := Lib.hid ho
      have ht := Lib.hid (show (l.zip r).take (k + 1) = (l.zip r).take k ++ [((sn : Int), y)] by rw [List.take_succ_eq_append_getElem (by simp; omega)]; simp [hsv, hyv])
      have hts := Lib.hid (show sumS (l.take (k + 1)) = sumS (l.take k) + sn by rw [List.take_succ_eq_append_getElem hlt, sumS_snoc, hsv]; rfl)
      have hl1 : (k : Int) < l.length := by omega
      have hl2 : (k : Int) < r.length := by omega
      clear hu hd hdr hc hc2 hB0 hB hq1 hy hget ho hsv hyv
      go_wp2
      go_quiet ((go_at_call 18; first | exact quietS (Hget.out _) | exact quietA (Hget.out _)))
      go_wp2
      obtain ⟨wq, hwq⟩ : ∃ wq, wq = wr.drewN nq := ⟨_, rfl⟩
      have g0 : wq.cell? ⟨b, off + k, none⟩ = some (.int .i64 (sn : Int)) := by rw [hwq]; exact h0'
      have g1 : wq.cell? ⟨b2, off2 + k, none⟩ = some (.int .u64 (y : Int)) := by rw [hwq]; exact h1'
      have Ho' := Lib.hid (show wq.ownsRow w1.heap.size 39 2 u7 k (List.flatMap cellsF (List.take k (l.zip r))) by rw [hwq]; exact Ho.out)
      have hbq : Below w1.heap.size w1 wq := by rw [hwq]; exact below_drewN hb _
      rw [← hwq]
      clear hwq h0' h1' Ho hb hl1 hl2
      have hl1 : (k : Int) < l.length := by omega
      have hl2 : (k : Int) < r.length := by omega
      have hk0 : (0 : Int) ≤ (k : Int) := by omega
      have lb : b < w1.heap.size := by obtain ⟨b', off', e, hbs, _⟩ := K.out.2 k hlt; cases e; exact hbs
      have lb2 : b2 < w1.heap.size := by obtain ⟨b', off', e, hbs, _⟩ := Kr.out.2 k hltr; cases e; exact hbs
      have ak : u7.ownBlock ≠ some b := fun h => by have := (Ho'.out.lt b h).1; omega
      have av : u7.ownBlock ≠ some b2 := fun h => by have := (Ho'.out.lt b2 h).1; omega
      have ls := hbq.size
      go_region_held3 (fun w' => w'.cell? ⟨b, off + k, none⟩ = some (.int .i64 (sn : Int)) ∧ w'.cell? ⟨b2, off2 + k, none⟩ = some (.int .u64 (y : Int)))
        (first
          | go_keep
          | (go_split_ands
             refine ⟨?_, ?_⟩
             · (rw [hgrow.cell_far _ (by simp; omega) (Ne.symm ak)]; assumption)
             · (rw [hgrow.cell_far _ (by simp; omega) (Ne.symm av)]; assumption)))
        ((refine step_append_lies _ (by rfl) _ _ _ (by rfl) w1.heap.size 39 i0 _ 2 16 Try.underlying35 hi hz0 hz1 hz2 rfl (by omega) _ _ _ (by rfl) ((Ho'.out.alloc _).drew)
            ⟨wq.heap.size, 0, none⟩ 1 1 [.int .i64 (sn : Int), .int .u64 (y : Int)] (by rfl) (by rfl) (World.news_of_block (cs := #[.int .i64 (sn : Int), .int .u64 (y : Int)]) (t := 39) (fr := (0, 0)) (heap_alloc_new wq _)) (by simp [Value.oneCell'])
            (by omega) (by unfold maxLen; omega) (by omega) (by simp; omega) (wq.heap.size + 1) (by simp) ?_; intro gg cap w3 hown' hgrow hat hltg))
      have hb3 : Below w1.heap.size w1 w3 := ((hbq.alloc ls _).drew).grown hgrow (by simp; omega) (fun q hq => (Ho'.out.lt q hq).1)
      have Hown' := Lib.hid (show w3.ownsRow w1.heap.size 39 2 (.slice (some ⟨gg, 0, none⟩) (k + 1) cap) (k + 1) (List.flatMap cellsF (List.take (k + 1) (l.zip r))) by rw [ht.out]; simpa [cellsF] using hown')
      have g0 : w3.cell? ⟨b, off + k, none⟩ = some (.int .i64 (sn : Int)) := by
        obtain ⟨b', off', e, hc⟩ := K.out.elem hb3 hlt
        obtain ⟨b'', off'', e2, hc2⟩ := K.out.elem hbq hlt
        cases e; cases e2
        have h1 := hc 0 (by omega); have h2 := hc2 0 (by omega)
        rw [Nat.mul_one, Nat.add_zero] at h1 h2
        rw [h1, ← h2]; exact g0
      clear hown' hgrow Ho' g1 ak av hat
      go_wp2
      go_roundw
      case rel => exact ⟨k + 1, pn + sn, by omega, by go_num, by go_num, by omega, Hu, by unfold Hid; rw [hts.out, hps.out], Hown'.out, hb3⟩
      case measure => simp [intOf] <;> omega
    · obtain rfl : k = l.length := by omega
      have hlen := Hlen.out
      obtain ⟨L, hL⟩ : ∃ L, L = l.zip r := ⟨_, rfl⟩
      have hz : L.length = l.length := by rw [hL]; simp [hlen]
      have hpk := pack_unpack x l 0 r hr.out
      rw [List.take_length] at hps
      rw [Nat.pow_zero, Nat.mod_one, Nat.zero_add, ← hps.out, ← hL] at hpk
      rw [← hL, ← hz, List.take_length] at ho
      obtain ⟨a1, c1, rfl, hsl1, hf1⟩ := sl_of_rows (g := fieldG L) ho (by unfold maxLen; omega) (by intro j hj f hf; exact cellsF_get _ hj hf)
      have K1 := Lib.hid hsl1
      have hzU : ∀ q ∈ L, U64 q.2 := by
        intro q hq
        rw [hL] at hq
        exact unpackGo_U hx hr.out _ (List.of_mem_zip hq).2
      have Hpack := Lib.hid (pack_any L a1 c1 wr hsl1 hzU)
      have hpk2 : pn = 0 → x % 2 ^ pn = 0 := by rintro rfl; simp [Nat.mod_one]
      have hget := fun w => rget_any x 0 pn w (by omega) hp hx
      rw [show x / 2 ^ 0 = x by simp] at hget
      obtain ⟨z, hzz⟩ : ∃ z, z = x % 2 ^ pn := ⟨_, rfl⟩
      rw [← hzz] at hget hpk2 hpk
      have Hpk := Lib.hid hpk
      have Hget := Lib.hid hget
      have Hps := Lib.hid hzz
      clear ho hsl1 hf1 hpk hu hz hps hlen hL hzU hget K1 hzz
      by_cases hp0 : pn = 0
      · have hz0' := hpk2 hp0
        subst hz0'; subst hp0
        clear hpk2
        go_wp2_with fail
        refine Hpack.out.mono ?_
        rintro e w3 ⟨er, y, rfl, hb3, hy⟩
        have he := hy.out.trans Hpk.out
        simp only [Prod.mk.injEq] at he
        obtain ⟨rfl, rfl⟩ := he
        clear hy
        go_wp2_with (go_at_call 17; refine (packed_any _).mono ?_; rintro e w' ⟨rfl, hw⟩)
        go_ret
        exact ⟨rfl, Gr.trans (Gr.trans (Gr.trans hb1 hb) hb3) hw⟩
      · clear hpk2
        go_wp2_with fail
        refine Hpack.out.mono ?_
        rintro e w3 ⟨er, y, rfl, hb3, hy⟩
        have he := hy.out.trans Hpk.out
        simp only [Prod.mk.injEq] at he
        obtain ⟨rfl, rfl⟩ := he
        clear hy
        have hp1 : (0 : Int) < pn := by omega
        go_wp2_with (first | (go_at_call 18; refine (Hget.out _).mono ?_; rintro e w' ⟨rfl, rfl⟩) | (go_at_call 17; refine (packed_any _).mono ?_; rintro e w' ⟨rfl, hw⟩))
        go_ret
        exact ⟨rfl, Gr.trans (Gr.trans (Gr.trans hb1 hb) hb3) hw⟩
end Go.Proofs.Ytajlceknahngkaa
