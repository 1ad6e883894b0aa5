/- A door in the reference's play: what its function does. -/
import Derived.Test.YteffgpcjfnjlkaaGreatT40
import Derived.Test.YteffgpcjfnjlkaaGreatT41
import Derived.Test.YteffgpcjfnjlkaaGreatT39
import Derived.Test.YteffgpcjfnjlkaaGreatT32
import Derived.Test.YteffgpcjfnjlkaaGreatT42
import Derived.Test.YteffgpcjfnjlkaaGreatT22
import Derived.Test.YteffgpcjfnjlkaaGreatT03
import Derived.Test.YteffgpcjfnjlkaaGreatT02
set_option maxRecDepth 100000
set_option linter.unusedVariables false
set_option linter.unusedSimpArgs false
set_option linter.unnecessarySimpa false
namespace Go.Proofs.YteffgpcjfnjlkaaGreat
section
open Go.RowKit
variable {B : RBase} {w w' : World} {t : TapeP} {r : RWD}
end
section

/- Layer 12: the door's machine: taking a phase. -/
open Go.RowKit
end
section

/- Layer 12: the door as the loom's object. -/
open Go.RowKit
end
section

/- Layer 8: tally.Play. -/
open Go.RowKit
theorem tally_new (m : Nat) (w : World) : Calls Tryz.prog 38 #[.int .i64 0, .int .i64 (m : Int)] w fun e w' => e = .returned (.agg #[.int .i64 0, .int .i64 (m : Int)]) ∧ Below w.heap.size w w' := by
 go_enter Tryz.func38, Tryz.ntmps38
 go_wp2
 exact bodyPost_ret (v := .agg #[.int .i64 0, .int .i64 (m : Int)]) (by simp [results, Tryz.results38 , go_sem]) rfl ⟨rfl, Gr.new _ _⟩
theorem made_blk3 {u w1 : World} {size : Nat} (hk : ∀ (b : Nat) (o : Obj), (u.alloc (.cells (madeCells #[.int .u64 0] size) 46)).heap[b]? = some o → w1.heap[b]? = some o) (o : Obj) (b : Nat) (hb : b = u.heap.size) : (w1.alloc o).heap[b]? = some (.cells (madeCells #[.int .u64 0] size) 46 (0, 0)) := by
 have h1 := hk u.heap.size _ (heap_alloc_new u (.cells (madeCells #[.int .u64 0] size) 46 (0, 0)))
 rw [hb, Below.heap_alloc _ _ _ (blk_lt h1)]; exact h1
set_option maxHeartbeats 4000000 in
theorem tallyPlay_any (X : Nat → Prop) (w : World) (n : Int) (calls : List CallD) (picks : List Int) (ca pa : Option Addr) (cc pc : Nat) (hX : ∀ b, X b → b < w.heap.size) (hc : CallsAt X w ca calls) (hp : PicksAt w pa picks) :
  Calls Tryz.prog 19 #[.int .i64 n, .slice ca calls.length cc, .slice pa picks.length pc] w fun e w' => PlayRet X w w' (checkN n calls picks.length) (playD (tallyS n.toNat) () (List.replicate n.toNat 0) calls picks) e := by
 obtain ⟨wa, hwa⟩ : ∃ wa, wa = w.alloc (.cells #[.slice none 0 0, .slice none 0 0, .int .i64 0, .int .i64 0, .int .i64 0, .int .i64 0, .int .i64 0, .int .i64 0, .int .i64 0] 32) := ⟨_, rfl⟩
 have hga : Below w.heap.size w wa := by rw [hwa]; exact Gr.new _ _
 have hra : wa.heap[w.heap.size]? = some (.cells #[.slice none 0 0, .slice none 0 0, .int .i64 0, .int .i64 0, .int .i64 0, .int .i64 0, .int .i64 0, .int .i64 0, .int .i64 0] 32 (0, 0)) := by rw [hwa]; exact heap_alloc_new _ _
 have hsa : w.heap.size < wa.heap.size := by rw [hwa]; simp
 have C := Lib.hid (check_any n calls picks.length ca pa cc pc wa (hc.sl.grown hga) hp.sl.1 (fun x hx => (hc.ok x hx).thread))
 have Hc := Lib.hid hc; have Hp := Lib.hid hp; have HX := Lib.hid hX
 have Hwa := Lib.hid hwa; have Hga := Lib.hid hga; have Hra := Lib.hid hra
 have hpl := hp.sl.1
 unfold maxLen at hpl
 clear hc hp hX hwa hga hra
 obtain ⟨ck, hck⟩ : ∃ ck, ck = checkN n calls picks.length := ⟨_, rfl⟩
 rw [← hck] at C
 have Hck := Lib.hid hck
 clear hck
 by_cases hc0 : ck = 0
 ·obtain ⟨hn1, hn16⟩ := n_ok (hc0 ▸ Hck.out).symm
  obtain ⟨sz, rfl⟩ : ∃ sz : Nat, n = (sz : Int) := ⟨n.toNat, by omega⟩
  have hs1 : 1 ≤ sz := by omega
  have hs64 : sz ≤ 64 := by omega
  have hs16 : sz ≤ 16 := by omega
  simp only [Int.toNat_natCast]
  have P := Lib.hid (fun (w1 : World) (hb1 : Below wa.heap.size wa w1) (u : World) (bo bw : Nat) (hu : Below w1.heap.size w1 u) (h1 : u.cell? ⟨bo, 0, none⟩ = some (.iface 68 (.agg #[.int .i64 0, .int .i64 (sz : Int)]))) (h2 : u.heap[bw]? = some (.cells (madeCells #[.int .u64 0] sz) 46 (0, 0))) (hbo : w1.heap.size ≤ bo) =>
   (play_any (X := fun b => X b ∨ b = w.heap.size) (R := tallyR sz) (tally_ok sz hs16) (tally_nolate sz) (by show 1 ≤ 1000; omega) u () sz calls (List.replicate sz 0) picks (.slice (some ⟨bo, 0, none⟩) 1 1) (.slice ca calls.length cc) (.slice (some ⟨bw, 0, none⟩) (List.replicate sz 0).length sz) pa pc
    ⟨⟨ca, cc, rfl, Hc.out.sl.grown (Gr.trans Hga.out (Gr.trans hb1 hu)), fun hl b off e hx => by
     rcases hx with hx | hx
     ·exact Hc.out.nx hl b off e hx
     ·obtain ⟨b0, off0, e0, hb0⟩ := Hc.out.sl.lt hl
      rw [e0] at e; cases e; omega⟩, Hc.out.ok, ⟨bo, 0, 1, rfl, h1, fun hx => by have := hb1.size; rcases hx with hx | hx; have := HX.out bo hx; omega; omega⟩, ⟨_, sz, rfl, zeros_sl h2 hs64, fun e => by cases e⟩, by rw [List.length_replicate]; omega, fun x hx => by rw [(List.mem_replicate.1 hx).2]; omega, fun b hb => hb, fun _ _ => trivial, trivial, fun b hx => by have := hu.size; have := hb1.size; rcases hx with hx | hx; have := HX.out b hx; omega; omega⟩ (Hp.out.sl.grown (Gr.trans Hga.out (Gr.trans hb1 hu))) Hp.out.ok (tally_safe sz calls picks)).mono (fun e w' h => (⟨PlayTo.ret h, Gr.trans hb1 hu⟩ : PlayRet (fun b => X b ∨ b = w.heap.size) u w' (checkN sz calls picks.length) (playD (tallyS sz) () (List.replicate sz 0) calls picks) e ∧ Below wa.heap.size wa u)))
  have N := Lib.hid (fun (u w0 : World) (h : Below w0.heap.size w0 u) => (tally_new sz u).mono (fun e w' h' => (⟨h'.1, Gr.trans h h'.2, (fun b o hb => (h'.2.block b (blk_lt hb)).trans hb)⟩ : e = .returned (.agg #[.int .i64 0, .int .i64 (sz : Int)]) ∧ Below w0.heap.size w0 w' ∧ (∀ (b : Nat) (o : Obj), u.heap[b]? = some o → w'.heap[b]? = some o))))
  have hmk := make_size sz hs64
  obtain ⟨rr, hrr⟩ : ∃ rr, rr = playD (tallyS sz) () (List.replicate sz 0) calls picks := ⟨_, rfl⟩
  rw [← Hck.out, hc0, ← hrr] at P
  rw [← hrr, ← Hck.out, hc0]
  simp only [List.length_replicate] at P
  subst hc0
  clear hrr
  go_enter Tryz.func19, Tryz.ntmps19
  go_wp2_with fail
  rw [← Hwa.out]
  refine C.out.mono ?_
  rintro e w1 ⟨rfl, hb1⟩
  replace P := Lib.hid (P.out w1 hb1)
  replace N := Lib.hid (fun (u : World) (h : Below w1.heap.size w1 u) => N.out u w1 h)
  have Hb1 := Lib.hid hb1
  clear hb1
  go_wp2_with fail
  go_region_held3 (fun u => True)
   (exact True.intro)
   (first | (go_at_call 38; refine (N.out _ ?_).mono ?_; (first | exact (Gr.refl _).drew | exact Gr.alloc (Gr.refl _).drew _); rintro e w2 ⟨rfl, hb2, hk2⟩) | (go_at_call 32; refine (P.out _ _ _ ?_ ?_ ?_ ?_).mono ?_; (first | with_reducible exact Gr.alloc (Gr.alloc hb2 _) _ | with_reducible exact Gr.alloc hb2 _); (first | with_reducible exact objs_cell _ _ _ _ | exact cell_new2 _ _ _ _ _ (by simp) | with_reducible exact cell_new1 _ _ _); (first | with_reducible exact made_blk1 _ _ _ _ (by simp) | with_reducible exact made_blk2 _ _ _ | exact made_blk3 hk2 _ _ (by simp)); (have := hb2.size; simp; omega); rintro e w4 ⟨⟨ea, en, ec, va, vn, vc, rp, rfl, hrest⟩, hu⟩; have hr4 := (hrest.1.block w.heap.size (by have := hu.size; omega)).trans ((hu.block w.heap.size (by omega)).trans Hra.out); obtain ⟨cs, w7, hcs, hsz, hst, hbk7, hch7⟩ := rep_store w4 w.heap.size (.slice ea en ec) (.slice va vn vc) rp hr4 rfl rfl; rw [hcs]; have Hcs := Lib.hid hcs; have Hbk7 := Lib.hid hbk7; have Hch7 := Lib.hid hch7; have Hrest := Lib.hid hrest; have Hu := Lib.hid hu; clear hr4 hrest hu hcs hbk7 hch7 hb2 hk2))
  all_goals
   go_wp2
   have hld := rep_load w7 w.heap.size cs Hbk7.out hsz
   refine bodyPost_ret (v := .tuple #[.agg cs, .int .i64 0]) (by simp [results, Tryz.results19 , Sem.run_bind, Sem.run_pure, asAddr, hld]) rfl ?_
   refine ⟨ea, en, ec, va, vn, vc, rp, by rw [Hcs.out], PlayRest.chg Hrest.out Hch7.out (fun b hb => ?_) (Gr.trans Hga.out Hu.out) (fun b hb => .inl hb)⟩
   have hb' : b = w.heap.size := hb
   exact ⟨.inr hb', by omega, by have := Hu.out.size; omega⟩
 ·rw [← Hck.out]
  have Her0 := Lib.hid hc0
  go_enter Tryz.func19, Tryz.ntmps19
  go_wp2_with fail
  rw [← Hwa.out]
  refine C.out.mono ?_
  rintro e w1 ⟨rfl, hb1⟩
  have hr1 := (hb1.block _ (blk_lt Hra.out)).trans Hra.out
  have Hb1 := Lib.hid hb1; have Hr1 := Lib.hid hr1
  have g0 : w1.cell? ⟨w.heap.size, 0, none⟩ = some (.slice none 0 0) := by rw [cell_blk hr1]; rfl
  have gf0 : w1.frozen? ⟨w.heap.size, 0, none⟩ = false := frozen_blk hr1 0
  have g1 : w1.cell? ⟨w.heap.size, 1, none⟩ = some (.slice none 0 0) := by rw [cell_blk hr1]; rfl
  have gf1 : w1.frozen? ⟨w.heap.size, 1, none⟩ = false := frozen_blk hr1 1
  have g2 : w1.cell? ⟨w.heap.size, 2, none⟩ = some (.int .i64 0) := by rw [cell_blk hr1]; rfl
  have gf2 : w1.frozen? ⟨w.heap.size, 2, none⟩ = false := frozen_blk hr1 2
  have g3 : w1.cell? ⟨w.heap.size, 3, none⟩ = some (.int .i64 0) := by rw [cell_blk hr1]; rfl
  have gf3 : w1.frozen? ⟨w.heap.size, 3, none⟩ = false := frozen_blk hr1 3
  have g4 : w1.cell? ⟨w.heap.size, 4, none⟩ = some (.int .i64 0) := by rw [cell_blk hr1]; rfl
  have gf4 : w1.frozen? ⟨w.heap.size, 4, none⟩ = false := frozen_blk hr1 4
  have g5 : w1.cell? ⟨w.heap.size, 5, none⟩ = some (.int .i64 0) := by rw [cell_blk hr1]; rfl
  have gf5 : w1.frozen? ⟨w.heap.size, 5, none⟩ = false := frozen_blk hr1 5
  have g6 : w1.cell? ⟨w.heap.size, 6, none⟩ = some (.int .i64 0) := by rw [cell_blk hr1]; rfl
  have gf6 : w1.frozen? ⟨w.heap.size, 6, none⟩ = false := frozen_blk hr1 6
  have g7 : w1.cell? ⟨w.heap.size, 7, none⟩ = some (.int .i64 0) := by rw [cell_blk hr1]; rfl
  have gf7 : w1.frozen? ⟨w.heap.size, 7, none⟩ = false := frozen_blk hr1 7
  have g8 : w1.cell? ⟨w.heap.size, 8, none⟩ = some (.int .i64 0) := by rw [cell_blk hr1]; rfl
  have gf8 : w1.frozen? ⟨w.heap.size, 8, none⟩ = false := frozen_blk hr1 8
  clear hr1 hb1
  go_wp2
  obtain ⟨w7, hw7⟩ : ∃ w7, w7 = (((((((((w1.setCell ⟨w.heap.size, 0, none⟩ (.slice none 0 0)).setCell ⟨w.heap.size, 1, none⟩ (.slice none 0 0)).setCell ⟨w.heap.size, 2, none⟩ (.int .i64 0)).setCell ⟨w.heap.size, 3, none⟩ (.int .i64 0)).setCell ⟨w.heap.size, 4, none⟩ (.int .i64 0)).setCell ⟨w.heap.size, 5, none⟩ (.int .i64 0)).setCell ⟨w.heap.size, 6, none⟩ (.int .i64 0)).setCell ⟨w.heap.size, 7, none⟩ (.int .i64 0)).setCell ⟨w.heap.size, 8, none⟩ (.int .i64 0)) := ⟨_, rfl⟩
  rw [← hw7]
  have hr7 : w7.heap[w.heap.size]? = some (.cells #[.slice none 0 0, .slice none 0 0, .int .i64 0, .int .i64 0, .int .i64 0, .int .i64 0, .int .i64 0, .int .i64 0, .int .i64 0] 32 (0, 0)) := by rw [hw7, (blk_set (blk_set (blk_set (blk_set (blk_set (blk_set (blk_set (blk_set (blk_set Hr1.out _ _) _ _) _ _) _ _) _ _) _ _) _ _) _ _) _ _)]; rfl
  have hch7 : Chg (fun b => b = w.heap.size) w1 w7 := by rw [hw7]; exact ((((((((((Chg.refl (fun b => b = w.heap.size) w1).setCell (by exact .inl rfl) _).setCell (by exact .inl rfl) _).setCell (by exact .inl rfl) _).setCell (by exact .inl rfl) _).setCell (by exact .inl rfl) _).setCell (by exact .inl rfl) _).setCell (by exact .inl rfl) _).setCell (by exact .inl rfl) _).setCell (by exact .inl rfl) _)
  clear hw7
  have hld := rep_load w7 w.heap.size _ hr7 rfl
  refine bodyPost_ret (v := .tuple #[.agg #[.slice none 0 0, .slice none 0 0, .int .i64 0, .int .i64 0, .int .i64 0, .int .i64 0, .int .i64 0, .int .i64 0, .int .i64 0], .int .i64 ck]) (by simp [results, Tryz.results19 , Sem.run_bind, Sem.run_pure, asAddr, hld]) rfl ?_
  have hall : Chg (fun b => w.heap.size ≤ b) w w7 := ((Chg.of_below Hga.out).trans (Chg.of_below Hb1.out)).trans (hch7.mono (fun b _ h => by have h9 : b = w.heap.size := h; omega))
  exact ⟨none, 0, 0, none, 0, 0, _, rfl, hall.below (fun b h => h) (Nat.le_refl _), .inl ⟨Her0.out, rfl, rfl, rfl, rfl, rfl, rfl, rfl⟩⟩
end
section

/- Layer 12: door.Play. -/
open Go.RowKit
end
section

/- The reference's play of a door. -/
open Go.RowKit
end
section

/- The reference's play of a tally. -/
open Go.RowKit
theorem size_tally (n P Q : Int) (w : World) : Calls Tryz.prog 69 #[.int .i64 n, .agg #[.int .i64 2, .int .i64 P, .int .i64 Q]] w fun e w' => e = .returned (.int .i64 n) ∧ Below w.heap.size w w' := by
 go_enter Tryz.func69, Tryz.ntmps69
 go_wp2
 go_ret
 exact ⟨rfl, Gr.new _ _⟩
theorem le_sumL : ∀ (l : List Nat) (x : Nat), x ∈ l → x ≤ sumL l := by
 have base : ∀ (l : List Nat) (m : Nat), l.foldl (· + ·) m = m + l.foldl (· + ·) 0 := fun l => by
  induction l with
  | nil => exact fun m => (Nat.add_zero m).symm
  | cons a l ih =>
   intro m
   show l.foldl (· + ·) (m + a) = m + l.foldl (· + ·) (0 + a)
   rw [ih (m + a), ih (0 + a)]; omega
 intro l
 induction l with
 | nil => exact fun x h => by cases h
 | cons a l ih =>
  intro x h
  show x ≤ l.foldl (· + ·) (0 + a)
  rw [base l (0 + a)]
  rcases List.mem_cons.1 h with rfl | h
  ·omega
  ·have h9 : x ≤ l.foldl (· + ·) 0 := ih x h
   omega
theorem tally_pre {n sz : Nat} {calls : List CallD} {s : RefS} {st : PlayD (tallyS n)} {q i : Nat} (hn : n ≤ 16) (hP : PSim (tallySim n) n calls s st) (hg : StGood calls st) (hG : TaInv n calls st ∧ st.wd.now ≤ 65536) (hR : RGood n sz calls s) (hT : RTick n s) (hnow : s.rw.now ≤ 65536) (hq : q < n) (hN : nowN calls s.fin (q : Int) = some i) (s1 : RefS) (hs1 : s1 = ropen { s with rw := s.rw.tick } q i) :
  TallyPre (calls.getD i d0) ((s1.hands.getD q rh0).tape q) s1.rw := by
 have H := hand_pre hP hg hR hT hnow hq hN s1 hs1
 obtain ⟨h, hh⟩ : ∃ h, h = s1.hands.getD q rh0 := ⟨_, rfl⟩
 rw [← hh] at H ⊢
 have hl := hg.ev.len_le
 have htr : traceP 0 s1.rw = st.wd.traces 0 := by rw [traceP_eq H.traces]; exact hP.rw.tr 0
 refine ⟨⟨fun x hx => ?_, fun x hx => ?_⟩, rfl, by show q < 16; omega, by rw [H.traces]; exact hP.rw.tl, ?_, fun x hx => ?_, ?_, by have := H.now; omega, fun x hx => ?_⟩
 ·have hx' : x ∈ h.got := hx
  rcases H.how with ⟨e1, _⟩ | ⟨σ, hs, hr, _⟩
  ·rw [e1] at hx'; cases hx'
  ·have h2 := (hG.1.hand q σ h.ev hs).2.1
   match σ, hr, h2 with
   | .count false v, hr, _ => rw [hr.2.1] at hx'; cases hx'
   | .count true v, hr, h2 =>
    rw [hr.2.1] at hx'
    rw [List.mem_singleton.1 hx']
    have h3 := h2.2.1
    have h4 := cnt_le (tP1 calls q) st.evs
    omega
   | .read a s' ky, hr, h2 =>
    have h3 := le_sumL h.got x hx'
    rw [← hr.2.2.2.1] at h3
    have h4 := h2.2.2.1
    have h5 := cnt_le (tP2 calls a) st.evs
    omega
 ·rw [H.mem, hP.rw.mem] at hx
  obtain ⟨j, hj, rfl⟩ := List.getElem_of_mem hx
  have h1 := hG.1.words j (by rw [← hG.1.wlen]; exact hj)
  rw [List.getD_eq_getElem?_getD, List.getElem?_eq_getElem hj] at h1
  have h2 : st.wd.mem.ws[j] = cnt (tP1 calls j) st.evs := h1
  have h3 := cnt_le (tP1 calls j) st.evs
  omega
 ·rw [htr]
  have h1 : ((st.wd.traces 0).filter fun x => decide (x ≤ (st.wd.now : Int))).length = (st.wd.traces 0).length := by
   rw [List.filter_eq_self.2]
   intro x hx; have := (hG.1.tpos x hx).2; simpa using this
  have h2 := hG.1.tr st.wd.now
  have h3 := cnt_le (tP4 calls st.wd.now) st.evs
  omega
 ·rw [htr] at hx
  have := hG.1.tpos x hx
  omega
 ·show h.inv ≤ _
  have := H.inv; omega
 ·have := H.ticks x hx; omega
theorem rtally_play (X : Nat → Prop) (q0 : Int) (calls : List CallD) (picks : List Int) (ca pa : Option Addr) (cc pc bS : Nat) (w : World) (hX : ∀ b, X b → b < w.heap.size) (hS : SpecAt w bS 2 0 0) (hc : CallsAt noB w ca calls) (hp : PicksAt w pa picks) :
  Calls Tryz.prog 14 #[.int .i64 q0, .slice (some ⟨bS, 0, none⟩) 1 1, .slice ca calls.length cc, .slice pa picks.length pc] w fun e w' => RefAny X w w' (checkN q0 calls picks.length) (playD (tallyS q0.toNat) () (List.replicate q0.toNat 0) calls picks) true e := by
 by_cases hck : checkN q0 calls picks.length = 0
 ·obtain ⟨z1, z2, z3, _⟩ := wrongN_zero (checkN_zero hck).1
  obtain ⟨n, rfl⟩ : ∃ n : Nat, q0 = (n : Int) := ⟨q0.toNat, by omega⟩
  have hnp := (checkN_zero hck).2
  rw [hck, Int.toNat_natCast]
  exact rplay_any (S := tallyS n) (M := tallySim n) X n 2 0 0 picks ca pa cc pc bS w () TallyPre hX (by decide) (by omega) (by omega) hck hS hc hp (fun v => size_tally (n : Int) 0 0 v) (rtally_dob n) (rtally_dot n) (rtally_do n (by omega)) (late_marks 2 0 0 n (by decide)) (tally_ref_ok n (by omega) calls (fun st => TaInv n calls st ∧ st.wd.now ≤ 65536)) (tally_now (by omega)) (fun _ _ => trivial)
   (fun k => by obtain ⟨_, b, c⟩ := ta_picks hck (picks.take k); exact ⟨b, by rw [List.length_take] at c; omega⟩) (fun s st q i h1 h2 h3 h4 h5 h6 h7 h8 _ s1 hs1 => tally_pre (by omega) h1 h2 h3 h4 h5 h6 h7 h8 s1 hs1)
 ·refine rplay_of X q0 _ _ _ _ _ w (fun u hu hul => ?_)
  exact rlog_wrong _ q0 calls picks ca pa cc pc _ _ u hck (hc.grown hu) (hp.grown hu)
theorem rtally_len {q0 : Int} {calls : List CallD} {picks : List Int} (hck : checkN q0 calls picks.length = 0) : (playD (tallyS q0.toNat) () (List.replicate q0.toNat 0) calls picks).evs.length < 1000000 ∧ (playD (tallyS q0.toNat) () (List.replicate q0.toNat 0) calls picks).words.length < 1000000 := by
 obtain ⟨z1, z2, z3, _⟩ := wrongN_zero (checkN_zero hck).1
 obtain ⟨n, rfl⟩ : ∃ n : Nat, q0 = (n : Int) := ⟨q0.toNat, by omega⟩
 rw [Int.toNat_natCast]
 obtain ⟨a1, a2⟩ := rlen_any (S := tallyS n) (M := tallySim n) n picks () (by omega) hck (rtally_dob n) (tally_ref_ok n (by omega) calls (fun _ => True)) (tally_now (by omega)) (fun _ _ => trivial) (fun k => trivial)
 omega
end
section

/- Layer 8: a thread that counts, and another one that reads. -/
open Go.RowKit
def oneCalls8 : List CallD := [⟨0, 0, 0, 0, 0, 0⟩, ⟨1, 0, 1, 0, 0, 0⟩]
theorem one_rep8 : playD (tallyS 2) () [0, 0] oneCalls8 [1, 0, 0, 1] = ⟨[⟨1, 1, 4, 2, ⟨0, 0, []⟩, [2, 8]⟩, ⟨0, 2, 3, 2, ⟨0, 0, []⟩, [6]⟩], [1, 0], ⟨3, 1, 0, 0, 0⟩, 4, 0⟩ := by rfl
theorem one_check8 : checkN 2 oneCalls8 4 = 0 := by rfl
set_option maxHeartbeats 4000000 in
theorem tally_one (w : World) : Calls Tryz.prog 18 #[] w fun e w' => e = .returned (.bool true) ∧ Below w.heap.size w w' := by
 obtain ⟨wa, hwa⟩ : ∃ wa, wa = (w.alloc (.cells #[.int .i64 0, .int .i64 0, .int .i64 0, .int .u64 0, .int .u64 0, .int .u64 0, .int .i64 1, .int .i64 0, .int .i64 1, .int .u64 0, .int .u64 0, .int .u64 0] 48)).alloc (.cells #[.int .i64 1, .int .i64 0, .int .i64 0, .int .i64 1] 3) := ⟨_, rfl⟩
 have hga : Below w.heap.size w wa := by rw [hwa]; exact Gr.alloc (Gr.new _ _) _
 have h1 : wa.heap[w.heap.size]? = some (.cells (oneCalls8.flatMap callL).toArray 48 (0, 0)) := by rw [hwa, Below.heap_alloc _ _ _ (by simp), heap_alloc_new]; rfl
 have h2 : wa.heap[w.heap.size + 1]? = some (.cells (([1, 0, 0, 1] : List Int).map (Value.int .i64)).toArray 3 (0, 0)) := by
  rw [hwa]
  have := heap_alloc_new (w.alloc (.cells #[.int .i64 0, .int .i64 0, .int .i64 0, .int .u64 0, .int .u64 0, .int .u64 0, .int .i64 1, .int .i64 0, .int .i64 1, .int .u64 0, .int .u64 0, .int .u64 0] 48)) (.cells #[.int .i64 1, .int .i64 0, .int .i64 0, .int .i64 1] 3 (0, 0))
  simp only [World.size_alloc] at this
  exact this
 have P := tallyPlay_any noB wa 2 oneCalls8 [1, 0, 0, 1] (some ⟨w.heap.size, 0, none⟩) (some ⟨w.heap.size + 1, 0, none⟩) 2 4 (fun b hb => hb.elim) ⟨calls_block h1 (by decide), (by
   intro x hx
   simp only [oneCalls8, List.mem_cons, List.not_mem_nil, or_false] at hx
   rcases hx with rfl | rfl <;> exact callOk_small (by decide) (by decide) (by decide) (by decide) (by decide) (by decide) (by decide)), fun _ _ _ _ h => h⟩ ⟨ints_block h2 (by decide), by intro x hx; simp only [List.mem_cons, List.not_mem_nil, or_false] at hx; rcases hx with rfl | rfl | rfl | rfl <;> rfl⟩
 rw [show ([1, 0, 0, 1] : List Int).length = 4 from rfl, one_check8, show (2 : Int).toNat = 2 from rfl, show List.replicate 2 0 = [0, 0] from rfl, one_rep8, show oneCalls8.length = 2 from rfl] at P
 have HP := Lib.hid P; have Hwa := Lib.hid hwa; have Hga := Lib.hid hga
 clear P h1 h2 hwa hga
 go_enter Tryz.func18, Tryz.ntmps18
 go_wp2_with fail
 rw [← Hwa.out]
 refine HP.out.mono ?_
 rintro e w1 ⟨ea, en, ec, va, vn, vc, rp, rfl, hb, hr⟩
 rcases hr with ⟨h0, _⟩ | ⟨_, hrp, hen, hvn, ers, hrep⟩
 ·exact absurd rfl h0
 obtain ⟨g, rfl, hg, hev⟩ := hrep.event hen (by rw [hen]; decide)
 obtain ⟨q, rfl, hq, hwd⟩ := hrep.word hvn (by rw [hvn]; decide)
 have hen2 : en = 2 := hen
 have hvn2 : vn = 2 := hvn
 subst hen2 hvn2 hrp
 have c2 : w1.cell? ⟨g, 2, none⟩ = some (.int .i64 4) := hev 0 2 (by omega) (by omega)
 have c5 : w1.cell? ⟨g, 5, none⟩ = some (.int .u64 0) := hev 0 5 (by omega) (by omega)
 have c10 : w1.cell? ⟨g, 10, none⟩ = some (.int .i64 3) := hev 1 2 (by omega) (by omega)
 have d0 : w1.cell? ⟨q, 0, none⟩ = some (.int .u64 1) := hwd 0 (by omega)
 have Hb := Lib.hid hb
 clear hrep hev hwd hb hen hvn
 unfold repV
 go_wp2
 go_ret
 exact ⟨rfl, Gr.trans Hga.out (Gr.trans Hb.out (Gr.new _ _))⟩
end
section

/- The walk of TallyPlays. -/
open Go.RowKit
set_option maxHeartbeats 4000000 in
theorem tallyPlays_any (q0 : Int) (calls : List CallD) (picks : List Int) (ca pa : Option Addr) (cc pc : Nat) (w : World) (hc : CallsAt noB w ca calls) (hp : PicksAt w pa picks) :
  Calls Tryz.prog 5 #[.int .i64 q0, .slice ca calls.length cc, .slice pa picks.length pc] w fun e w' => e = .returned (.bool true) ∧ Below w.heap.size w w' := by
 have hgb : Below w.heap.size w w := (Gr.refl _)
 have M := many_any ca pa calls.length picks.length cc pc w (hc.grown hgb).sl.1 hp.sl.1
 have T := Lib.hid tally_one
 cases hM : manyB calls.length picks.length with
 | true =>
  rw [hM] at M
  have HM := Lib.hid M; have Hgb := Lib.hid hgb
  clear M hc hp hM hgb
  go_enter Tryz.func5, Tryz.ntmps5
  go_wp2_with (first | (go_at_call 11; refine (HM.out).mono ?_; rintro e w' ⟨rfl, rfl⟩) | (go_at_call 18; refine (T.out _).mono ?_; rintro e w' ⟨rfl, hb⟩))
  go_ret
  exact ⟨rfl, Gr.trans Hgb.out hb⟩
 | false =>
  rw [hM] at M
  have HM := Lib.hid M
  have P := tallyPlay_any noB w q0 calls picks ca pa cc pc (fun b hb => hb.elim) (hc.grown hgb) (hp.grown hgb)
  have RF := Lib.hid (fun (u : World) (hu : Below w.heap.size w u) (bS : Nat) (hS : SpecAt u bS 2 0 0) => rtally_play noB q0 calls picks ca pa cc pc bS u (fun b hb => hb.elim) hS (hc.grown hu) (hp.grown hu))
  have hlen : checkN q0 calls picks.length = 0 → _ := fun h => rtally_len h
  obtain ⟨er, her⟩ : ∃ er, er = checkN q0 calls picks.length := ⟨_, rfl⟩
  obtain ⟨rr, hrr⟩ : ∃ rr, rr = playD (tallyS q0.toNat) () (List.replicate q0.toNat 0) calls picks := ⟨_, rfl⟩
  rw [← her, ← hrr] at P RF hlen
  have hl1 : (repOf er rr).evs.length < 1000000 ∧ (repOf er rr).words.length < 1000000 := by
   unfold repOf
   split
   ·rename_i h; exact hlen h
   ·exact ⟨by decide, by decide⟩
  have HP := Lib.hid P; have Hgb := Lib.hid hgb; have Hl1 := Lib.hid hl1
  clear M P hc hp hM her hrr hgb hlen hl1
  go_enter Tryz.func5, Tryz.ntmps5
  go_wp2_with (go_at_call 11; refine (HM.out).mono ?_; rintro e w' ⟨rfl, rfl⟩)
  refine HP.out.mono ?_
  intro e w1 hret
  obtain ⟨hb1, ea, ec, va, vc, ers, rfl, hrep⟩ := hret.one
  clear hret
  have hl1 := Hl1.out
  obtain ⟨rp, hrp⟩ : ∃ rp, rp = repOf er rr := ⟨_, rfl⟩
  rw [← hrp] at hrep hl1  ⊢
  obtain ⟨en, hen⟩ : ∃ en, en = rp.evs.length := ⟨_, rfl⟩
  obtain ⟨vn, hvn⟩ : ∃ vn, vn = rp.words.length := ⟨_, rfl⟩
  rw [← hen, ← hvn] at hrep ⊢
  obtain ⟨w2, hw2⟩ : ∃ w2, w2 = (w1.alloc (.cells #[.slice ea en ec, .slice va vn vc, .int .i64 (rp.c.read : Int), .int .i64 (rp.c.write : Int), .int .i64 (rp.c.swap : Int), .int .i64 (rp.c.add : Int), .int .i64 (rp.c.fault : Int), .int .i64 (rp.ticks : Int), .int .i64 (rp.idle : Int)] 32)).alloc (.cells #[.int .i64 2, .int .i64 0, .int .i64 0] 39) := ⟨_, rfl⟩
  have hb2 : Below w1.heap.size w1 w2 := by rw [hw2]; exact Gr.alloc (Gr.new _ _) _
  have hB1 : w2.heap[w1.heap.size]? = some (.cells #[.slice ea en ec, .slice va vn vc, .int .i64 (rp.c.read : Int), .int .i64 (rp.c.write : Int), .int .i64 (rp.c.swap : Int), .int .i64 (rp.c.add : Int), .int .i64 (rp.c.fault : Int), .int .i64 (rp.ticks : Int), .int .i64 (rp.idle : Int)] 32 (0, 0)) := by rw [hw2, Below.heap_alloc _ _ _ (by simp)]; exact heap_alloc_new _ _
  have hSp : w2.heap[w1.heap.size + 1]? = some (.cells #[.int .i64 2, .int .i64 0, .int .i64 0] 39 (0, 0)) := by
   rw [hw2]
   have := heap_alloc_new (w1.alloc (.cells #[.slice ea en ec, .slice va vn vc, .int .i64 (rp.c.read : Int), .int .i64 (rp.c.write : Int), .int .i64 (rp.c.swap : Int), .int .i64 (rp.c.add : Int), .int .i64 (rp.c.fault : Int), .int .i64 (rp.ticks : Int), .int .i64 (rp.idle : Int)] 32)) (.cells #[.int .i64 2, .int .i64 0, .int .i64 0] 39 (0, 0))
   simp only [World.size_alloc] at this
   exact this
  have R2 := Lib.hid (RF.out w2 (Gr.trans Hgb.out (Gr.trans hb1 hb2)) (w1.heap.size + 1) ⟨hSp⟩)
  have Hb1 := Lib.hid hb1; have Hb2 := Lib.hid hb2; have HB1 := Lib.hid hB1; have Hw2 := Lib.hid hw2; have Hrep := Lib.hid hrep; have Hrp := Lib.hid hrp; have Hen := Lib.hid hen; have Hvn := Lib.hid hvn; have Hl := Lib.hid hl1
  clear hb1 hb2 hB1 hSp hw2 hrep hrp hen hvn hl1
  unfold repV
  go_wp2_with fail
  rw [← Hw2.out]
  refine R2.out.mono ?_
  intro e w3 hret
  obtain ⟨hb3, ea2, ec2, va2, vc2, ers2, rfl, hrep2, hsl2⟩ := hret.one
  clear hret
  rw [← Hrp.out] at hrep2 hsl2 ⊢
  rw [← Hen.out] at hrep2 ⊢
  rw [← Hvn.out] at hsl2 ⊢
  obtain ⟨w4, hw4⟩ : ∃ w4, w4 = w3.alloc (.cells #[.slice ea2 en ec2, .slice va2 vn vc2, .int .i64 (rp.c.read : Int), .int .i64 (rp.c.write : Int), .int .i64 (rp.c.swap : Int), .int .i64 (rp.c.add : Int), .int .i64 (rp.c.fault : Int), .int .i64 (rp.ticks : Int), .int .i64 (rp.idle : Int)] 32) := ⟨_, rfl⟩
  have hb4 : Below w3.heap.size w3 w4 := by rw [hw4]; exact Gr.new _ _
  have hB2 : w4.heap[w3.heap.size]? = some (.cells #[.slice ea2 en ec2, .slice va2 vn vc2, .int .i64 (rp.c.read : Int), .int .i64 (rp.c.write : Int), .int .i64 (rp.c.swap : Int), .int .i64 (rp.c.add : Int), .int .i64 (rp.c.fault : Int), .int .i64 (rp.ticks : Int), .int .i64 (rp.idle : Int)] 32 (0, 0)) := by rw [hw4]; exact heap_alloc_new _ _
  have hb14 : Below w1.heap.size w1 w4 := Gr.trans Hb2.out (Gr.trans hb3 hb4)
  obtain ⟨b1, hb19⟩ : ∃ b1, b1 = w1.heap.size := ⟨_, rfl⟩
  have hB1 : w4.heap[b1]? = some (.cells #[.slice ea en ec, .slice va vn vc, .int .i64 (rp.c.read : Int), .int .i64 (rp.c.write : Int), .int .i64 (rp.c.swap : Int), .int .i64 (rp.c.add : Int), .int .i64 (rp.c.fault : Int), .int .i64 (rp.ticks : Int), .int .i64 (rp.idle : Int)] 32 (0, 0)) := by rw [hb19]; exact ((Gr.trans hb3 hb4).block _ (blk_lt HB1.out)).trans HB1.out
  have r0 : w4.cell? ⟨b1, 0, none⟩ = some (.slice ea en ec) := by rw [cell_blk hB1]; rfl
  have r1 : w4.cell? ⟨b1, 1, none⟩ = some (.slice va vn vc) := by rw [cell_blk hB1]; rfl
  have r2 : w4.cell? ⟨b1, 2, none⟩ = some (.int .i64 (rp.c.read : Int)) := by rw [cell_blk hB1]; rfl
  have r3 : w4.cell? ⟨b1, 3, none⟩ = some (.int .i64 (rp.c.write : Int)) := by rw [cell_blk hB1]; rfl
  have r4 : w4.cell? ⟨b1, 4, none⟩ = some (.int .i64 (rp.c.swap : Int)) := by rw [cell_blk hB1]; rfl
  have r5 : w4.cell? ⟨b1, 5, none⟩ = some (.int .i64 (rp.c.add : Int)) := by rw [cell_blk hB1]; rfl
  have r6 : w4.cell? ⟨b1, 6, none⟩ = some (.int .i64 (rp.c.fault : Int)) := by rw [cell_blk hB1]; rfl
  have r7 : w4.cell? ⟨b1, 7, none⟩ = some (.int .i64 (rp.ticks : Int)) := by rw [cell_blk hB1]; rfl
  have r8 : w4.cell? ⟨b1, 8, none⟩ = some (.int .i64 (rp.idle : Int)) := by rw [cell_blk hB1]; rfl
  have s0 : w4.cell? ⟨w3.heap.size, 0, none⟩ = some (.slice ea2 en ec2) := by rw [cell_blk hB2]; rfl
  have s1 : w4.cell? ⟨w3.heap.size, 1, none⟩ = some (.slice va2 vn vc2) := by rw [cell_blk hB2]; rfl
  have s2 : w4.cell? ⟨w3.heap.size, 2, none⟩ = some (.int .i64 (rp.c.read : Int)) := by rw [cell_blk hB2]; rfl
  have s3 : w4.cell? ⟨w3.heap.size, 3, none⟩ = some (.int .i64 (rp.c.write : Int)) := by rw [cell_blk hB2]; rfl
  have s4 : w4.cell? ⟨w3.heap.size, 4, none⟩ = some (.int .i64 (rp.c.swap : Int)) := by rw [cell_blk hB2]; rfl
  have s5 : w4.cell? ⟨w3.heap.size, 5, none⟩ = some (.int .i64 (rp.c.add : Int)) := by rw [cell_blk hB2]; rfl
  have s6 : w4.cell? ⟨w3.heap.size, 6, none⟩ = some (.int .i64 (rp.c.fault : Int)) := by rw [cell_blk hB2]; rfl
  have s7 : w4.cell? ⟨w3.heap.size, 7, none⟩ = some (.int .i64 (rp.ticks : Int)) := by rw [cell_blk hB2]; rfl
  have s8 : w4.cell? ⟨w3.heap.size, 8, none⟩ = some (.int .i64 (rp.idle : Int)) := by rw [cell_blk hB2]; rfl
  have hrep := Hrep.out; have hen := Hen.out; have hvn := Hvn.out; have hl := Hl.out
  have SM := Lib.hid (rsame_any w4 ea ea2 va va2 en ec ec2 vn vc vc2 ers ers2 rp (hrep.grown hb14) (hrep2.grown hb4) (hsl2.grown hb4) hen hvn hl.1 hl.2)
  unfold repV at SM
  have Hall := Lib.hid (Gr.trans Hgb.out (Gr.trans Hb1.out hb14)); have Hw4 := Lib.hid hw4
  rw [← hb19]
  have hl4 : b1 < w4.heap.size := blk_lt hB1
  clear hb3 hrep2 hsl2 hw4 hb4 hB1 hB2 hb14 hb19 hrep hen hvn hl
  unfold repV
  go_upto_region 5 with fail
  rw [← Hw4.out]
  have le : (er == er) = true := by simp
  go_wp2_with (first | (go_at_call 15; refine (SM.out).mono ?_; rintro e w5 ⟨rfl, hb5⟩) | (go_at_call 18; refine (T.out _).mono ?_; rintro e w7 ⟨rfl, hb7⟩))
  go_ret
  exact ⟨rfl, Gr.trans Hall.out (Gr.trans hb5 hb7)⟩
end
section

/- What the laws' arguments come as: calls. -/
open Go.ChangeShapes Go.WideShapes Go.ChangeAt Go.RowKit
def callV (x : CallD) (f : Nat) : Value :=
 if f = 0 then .int .i64 x.thread else if f = 1 then .int .i64 x.obj else if f = 2 then .int .i64 x.kind else if f = 3 then .int .u64 (x.a : Int) else if f = 4 then .int .u64 (x.b : Int) else .int .u64 (x.c : Int)
structure CallWf (x : CallD) : Prop where
 thread : (Lit.int .i64 x.thread).wf = true
 obj : (Lit.int .i64 x.obj).wf = true
 kind : (Lit.int .i64 x.kind).wf = true
 a : U64 x.a
 b : U64 x.b
 c : U64 x.c
theorem call_of {H : Type} {enc : TypeId × Value → H} {W : World} {n : Nat} {cs : List Value} {x : DataW H × List MemPlace} (hx : DataW.trod enc Tryz.prog W 0 (fun _ => true) true n 48 cs = some x) :
  ∃ y : CallD, (∀ f, f < 6 → cs[f]? = some (callV y f)) ∧ cs.length = 6 ∧ CallWf y := by
 have hu := Tryz.underlying48
 have hi := Tryz.underlying3
 have hq := Tryz.underlying46
 have ci : Tryz.prog.cellsOf 3 = 1 := by kernel_rfl
 have cq : Tryz.prog.cellsOf 46 = 1 := by kernel_rfl
 have hl := trod_len_struct hu hx
 have hc : Tryz.prog.cellsOf 48 = 6 := by kernel_rfl
 rw [hc] at hl
 obtain ⟨t0, e0, w0⟩ := trod_field_int hu hx (List.getElem_mem (n := 0) (by decide)) hi ci
 obtain ⟨t1, e1, w1⟩ := trod_field_int hu hx (List.getElem_mem (n := 1) (by decide)) hi ci
 obtain ⟨t2, e2, w2⟩ := trod_field_int hu hx (List.getElem_mem (n := 2) (by decide)) hi ci
 obtain ⟨t3, e3, w3⟩ := trod_field_int hu hx (List.getElem_mem (n := 3) (by decide)) hq cq
 obtain ⟨t4, e4, w4⟩ := trod_field_int hu hx (List.getElem_mem (n := 4) (by decide)) hq cq
 obtain ⟨t5, e5, w5⟩ := trod_field_int hu hx (List.getElem_mem (n := 5) (by decide)) hq cq
 obtain ⟨n3, rfl, u3⟩ := u64_of w3
 obtain ⟨n4, rfl, u4⟩ := u64_of w4
 obtain ⟨n5, rfl, u5⟩ := u64_of w5
 refine ⟨⟨t0, t1, t2, n3, n4, n5⟩, fun f hf => ?_, hl, ⟨w0, w1, w2, u3, u4, u5⟩⟩
 obtain rfl | rfl | rfl | rfl | rfl | rfl : f = 0 ∨ f = 1 ∨ f = 2 ∨ f = 3 ∨ f = 4 ∨ f = 5 := by omega
 ·exact e0
 ·exact e1
 ·exact e2
 ·exact e3
 ·exact e4
 ·exact e5
theorem open_calls {H : Type} {enc : TypeId × Value → H} {W : World} {base : Nat} {v : Value} {d : DataW H} {ps : List MemPlace}
  (hv : Value.okWide Tryz.prog W .any base 23 v) (h : DataW.Trod enc Tryz.prog W 0 (fun _ => true) true 23 v d ps) (hlt : ∀ p ∈ ps, p.block < W.heap.size) :
  ∃ (a : Option Addr) (c : Nat) (l : List CallD), v = .slice a l.length c ∧ SlAt W a l.length 6 (callG l) ∧ (∀ y ∈ l, CallWf y) := by
 have hc : Tryz.prog.cellsOf 48 = 6 := by kernel_rfl
 obtain ⟨a, c, l, h1, h2, h3⟩ := open_sl Tryz.underlying23 hv h hlt (by rw [hc]; omega) (⟨0, 0, 0, 0, 0, 0⟩ : CallD) (fun y cs => (∀ f, f < 6 → cs[f]? = some (callV y f)) ∧ cs.length = 6 ∧ CallWf y)
  (fun n cs x hx => call_of hx) callV (fun y cs hy => by rw [hc]; exact ⟨hy.2.1, hy.1⟩)
 rw [hc] at h2
 exact ⟨a, c, l, h1, h2, fun y hy => by obtain ⟨cs, _, _, hw⟩ := h3 y hy; exact hw⟩
end
end Go.Proofs.YteffgpcjfnjlkaaGreat
