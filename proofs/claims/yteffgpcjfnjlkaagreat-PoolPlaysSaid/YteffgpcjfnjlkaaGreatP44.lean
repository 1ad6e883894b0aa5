/- Layer 13: pool.Play. -/
import Derived.Test.YteffgpcjfnjlkaaGreatP43
import Derived.Test.YteffgpcjfnjlkaaGreatP39
import Derived.Test.YteffgpcjfnjlkaaGreatP22
set_option maxRecDepth 100000
set_option linter.unusedVariables false
set_option linter.unusedSimpArgs false
set_option linter.unnecessarySimpa false
namespace Go.Proofs.YteffgpcjfnjlkaaGreat
section
open Go.RowKit
theorem pool_new (m k : Nat) (w : World) : Calls Tryz.prog 45 #[.int .i64 0, .int .i64 (m : Int), .int .i64 (k : Int)] w fun e w' => e = .returned (.agg #[.int .i64 0, .int .i64 (m : Int), .int .i64 (k : Int)]) ∧ Below w.heap.size w w' := by
 go_enter Tryz.func45, Tryz.ntmps45
 go_wp2
 exact bodyPost_ret (v := .agg #[.int .i64 0, .int .i64 (m : Int), .int .i64 (k : Int)]) (by simp [results, Tryz.results45 , go_sem]) rfl ⟨rfl, Gr.new _ _⟩
theorem make_size2 (size : Nat) (v : Int) (hv : v = (size : Int)) (h64 : size ≤ 1000000) (u : World) : (Instr.makeSlice 28 (.int .i64 v) (.int .i64 v)).run Tryz.prog u = .ok (.slice (some ⟨u.heap.size, 0, none⟩) size size) (u.alloc (.cells (madeCells #[.int .u64 0] size) 46)) := by
 subst hv
 obtain ⟨i0, hi, hz0, hz1, hz2⟩ := info_parts u64_info'
 have h := run_make (P := Tryz.prog) u 28 46 i0 (.int .u64 0) Tryz.underlying28 hi hz0 .i64 .i64 (size : Int) (size : Int) (by omega) (Int.le_refl _) (by rw [hz2]; omega) (by omega)
 simpa [hz1, Value.cells] using h
theorem zeros_sl2 {u : World} {b size : Nat} (h : u.heap[b]? = some (.cells (madeCells #[.int .u64 0] size) 46 (0, 0))) (h64 : size ≤ 1000000) : SlAt u (some ⟨b, 0, none⟩) (List.replicate size 0).length 1 (u64G (List.replicate size 0)) := by
 refine ⟨by rw [List.length_replicate]; unfold maxLen; omega, fun j hj => ⟨b, 0, rfl, blk_lt h, fun f hf => ?_⟩⟩
 obtain rfl : f = 0 := by omega
 rw [List.length_replicate] at hj
 rw [cell_blk h, madeCells_one]
 simp [u64G, u64V, List.getD_eq_getElem?_getD, List.getElem?_replicate, hj]
def poCheck (n k : Int) (calls : List CallD) (np : Nat) : Int := if checkN n calls np ≠ 0 then checkN n calls np else if k < 1 ∨ 32 < k then 10 else 0
theorem po_safe (n k : Nat) (hk1 : 1 ≤ k) (hk2 : k ≤ 32) (calls : List CallD) (picks : List Int) (hck : checkN n calls picks.length = 0) : ∀ l p m, picks = l ++ p :: m → SafeAt (poolR n k) calls (picksD (poolS n k) calls (play0 (poolS n k) () (List.replicate (n * k) 0) calls) l) p := by
 intro l p m hl i hN
 obtain ⟨a, b, c⟩ := po_picks hk1 hk2 hck l
 have hnp := np_ok hck
 have hll : l.length < picks.length := by rw [hl]; simp
 obtain ⟨n1, n2, n3⟩ := nowN_spec hN
 have ht := thr_16 hck i n1
 have hthr : ∀ c, c < calls.length → 0 ≤ (calls.getD c d0).thread ∧ (calls.getD c d0).thread < n := fun c hc => by have := thr_ok hck c hc; omega
 obtain ⟨q, rfl⟩ : ∃ q : Nat, p = (q : Int) := ⟨p.toNat, by omega⟩
 simp only [Int.toNat_natCast]
 refine ⟨fun s j hh => ?_, fun hh s hs => ?_⟩
 ·obtain ⟨k1, k2, k3, k4⟩ := a.ev.hand q j (by unfold hndOf; rw [hh]; rfl)
  have hc : (evAt (picksD (poolS n k) calls (play0 (poolS n k) () (List.replicate (n * k) 0) calls) l).evs j).call = i := by rw [hN] at k4; exact (Option.some.inj k4).symm
  exact po_live hk1 hthr a b (by omega) hN (.old j s hh k1 hc k3)
 ·exact po_live hk1 hthr a b (by omega) hN (.new s hh hs)
set_option maxHeartbeats 4000000 in
theorem poolPlay_any (X : Nat → Prop) (w : World) (n k : Int) (calls : List CallD) (picks : List Int) (ca pa : Option Addr) (cc pc : Nat) (hX : ∀ b, X b → b < w.heap.size) (hc : CallsAt X w ca calls) (hp : PicksAt w pa picks) :
  Calls Tryz.prog 30 #[.int .i64 n, .int .i64 k, .slice ca calls.length cc, .slice pa picks.length pc] w fun e w' => PlayRet X w w' (poCheck n k calls picks.length) (playD (poolS n.toNat k.toNat) () (List.replicate (n.toNat * k.toNat) 0) calls picks) e := by
 obtain ⟨wa, hwa⟩ : ∃ wa, wa = w.alloc (.cells #[.slice none 0 0, .slice none 0 0, .int .i64 0, .int .i64 0, .int .i64 0, .int .i64 0, .int .i64 0, .int .i64 0, .int .i64 0] 32) := ⟨_, rfl⟩
 have hga : Below w.heap.size w wa := by rw [hwa]; exact Gr.new _ _
 have hra : wa.heap[w.heap.size]? = some (.cells #[.slice none 0 0, .slice none 0 0, .int .i64 0, .int .i64 0, .int .i64 0, .int .i64 0, .int .i64 0, .int .i64 0, .int .i64 0] 32 (0, 0)) := by rw [hwa]; exact heap_alloc_new _ _
 have hsa : w.heap.size < wa.heap.size := by rw [hwa]; simp
 have C := Lib.hid (check_any n calls picks.length ca pa cc pc wa (hc.sl.grown hga) hp.sl.1 (fun x hx => (hc.ok x hx).thread))
 have Hc := Lib.hid hc; have Hp := Lib.hid hp; have HX := Lib.hid hX
 have Hwa := Lib.hid hwa; have Hga := Lib.hid hga; have Hra := Lib.hid hra
 have hpl := hp.sl.1
 unfold maxLen at hpl
 clear hc hp hX hwa hga hra
 obtain ⟨ck, hck⟩ : ∃ ck, ck = checkN n calls picks.length := ⟨_, rfl⟩
 rw [← hck] at C
 have Hck := Lib.hid hck
 clear hck
 by_cases hc0 : ck = 0
 ·obtain ⟨hn1, hn16⟩ := n_ok (hc0 ▸ Hck.out).symm
  obtain ⟨sz, rfl⟩ : ∃ sz : Nat, n = (sz : Int) := ⟨n.toNat, by omega⟩
  have hs1 : 1 ≤ sz := by omega
  have hs16 : sz ≤ 16 := by omega
  by_cases hkb : k < 1 ∨ 32 < k
  ·have her : poCheck (sz : Int) k calls picks.length = 10 := by unfold poCheck; rw [← Hck.out, if_neg (by simpa using hc0), if_pos hkb]
   rw [her]
   have Hz := Lib.hid (show (10 : Int) ≠ 0 by decide)
   subst hc0
   clear her
   have hkx : k < 1 ∨ (¬ k < 1 ∧ 32 < k) := by omega
   rcases hkx with hk1 | ⟨hk1, hk2⟩
   ·clear hkb
    go_enter Tryz.func30, Tryz.ntmps30
    go_wp2_with fail
    rw [← Hwa.out]
    refine C.out.mono ?_
    rintro e w1 ⟨rfl, hb1⟩
    have hr1 := (hb1.block _ (blk_lt Hra.out)).trans Hra.out
    have Hb1 := Lib.hid hb1; have Hr1 := Lib.hid hr1
    have g0 : w1.cell? ⟨w.heap.size, 0, none⟩ = some (.slice none 0 0) := by rw [cell_blk hr1]; rfl
    have gf0 : w1.frozen? ⟨w.heap.size, 0, none⟩ = false := frozen_blk hr1 0
    have g1 : w1.cell? ⟨w.heap.size, 1, none⟩ = some (.slice none 0 0) := by rw [cell_blk hr1]; rfl
    have gf1 : w1.frozen? ⟨w.heap.size, 1, none⟩ = false := frozen_blk hr1 1
    have g2 : w1.cell? ⟨w.heap.size, 2, none⟩ = some (.int .i64 0) := by rw [cell_blk hr1]; rfl
    have gf2 : w1.frozen? ⟨w.heap.size, 2, none⟩ = false := frozen_blk hr1 2
    have g3 : w1.cell? ⟨w.heap.size, 3, none⟩ = some (.int .i64 0) := by rw [cell_blk hr1]; rfl
    have gf3 : w1.frozen? ⟨w.heap.size, 3, none⟩ = false := frozen_blk hr1 3
    have g4 : w1.cell? ⟨w.heap.size, 4, none⟩ = some (.int .i64 0) := by rw [cell_blk hr1]; rfl
    have gf4 : w1.frozen? ⟨w.heap.size, 4, none⟩ = false := frozen_blk hr1 4
    have g5 : w1.cell? ⟨w.heap.size, 5, none⟩ = some (.int .i64 0) := by rw [cell_blk hr1]; rfl
    have gf5 : w1.frozen? ⟨w.heap.size, 5, none⟩ = false := frozen_blk hr1 5
    have g6 : w1.cell? ⟨w.heap.size, 6, none⟩ = some (.int .i64 0) := by rw [cell_blk hr1]; rfl
    have gf6 : w1.frozen? ⟨w.heap.size, 6, none⟩ = false := frozen_blk hr1 6
    have g7 : w1.cell? ⟨w.heap.size, 7, none⟩ = some (.int .i64 0) := by rw [cell_blk hr1]; rfl
    have gf7 : w1.frozen? ⟨w.heap.size, 7, none⟩ = false := frozen_blk hr1 7
    have g8 : w1.cell? ⟨w.heap.size, 8, none⟩ = some (.int .i64 0) := by rw [cell_blk hr1]; rfl
    have gf8 : w1.frozen? ⟨w.heap.size, 8, none⟩ = false := frozen_blk hr1 8
    clear hr1 hb1
    go_wp2
    obtain ⟨w7, hw7⟩ : ∃ w7, w7 = (((((((((w1.setCell ⟨w.heap.size, 0, none⟩ (.slice none 0 0)).setCell ⟨w.heap.size, 1, none⟩ (.slice none 0 0)).setCell ⟨w.heap.size, 2, none⟩ (.int .i64 0)).setCell ⟨w.heap.size, 3, none⟩ (.int .i64 0)).setCell ⟨w.heap.size, 4, none⟩ (.int .i64 0)).setCell ⟨w.heap.size, 5, none⟩ (.int .i64 0)).setCell ⟨w.heap.size, 6, none⟩ (.int .i64 0)).setCell ⟨w.heap.size, 7, none⟩ (.int .i64 0)).setCell ⟨w.heap.size, 8, none⟩ (.int .i64 0)) := ⟨_, rfl⟩
    rw [← hw7]
    have hr7 : w7.heap[w.heap.size]? = some (.cells #[.slice none 0 0, .slice none 0 0, .int .i64 0, .int .i64 0, .int .i64 0, .int .i64 0, .int .i64 0, .int .i64 0, .int .i64 0] 32 (0, 0)) := by rw [hw7, (blk_set (blk_set (blk_set (blk_set (blk_set (blk_set (blk_set (blk_set (blk_set Hr1.out _ _) _ _) _ _) _ _) _ _) _ _) _ _) _ _) _ _)]; rfl
    have hch7 : Chg (fun b => b = w.heap.size) w1 w7 := by rw [hw7]; exact ((((((((((Chg.refl (fun b => b = w.heap.size) w1).setCell (by exact .inl rfl) _).setCell (by exact .inl rfl) _).setCell (by exact .inl rfl) _).setCell (by exact .inl rfl) _).setCell (by exact .inl rfl) _).setCell (by exact .inl rfl) _).setCell (by exact .inl rfl) _).setCell (by exact .inl rfl) _).setCell (by exact .inl rfl) _)
    clear hw7
    have hld := rep_load w7 w.heap.size _ hr7 rfl
    refine bodyPost_ret (v := .tuple #[.agg #[.slice none 0 0, .slice none 0 0, .int .i64 0, .int .i64 0, .int .i64 0, .int .i64 0, .int .i64 0, .int .i64 0, .int .i64 0], .int .i64 10]) (by simp [results, Tryz.results30 , Sem.run_bind, Sem.run_pure, asAddr, hld]) rfl ?_
    have hall : Chg (fun b => w.heap.size ≤ b) w w7 := ((Chg.of_below Hga.out).trans (Chg.of_below Hb1.out)).trans (hch7.mono (fun b _ h => by have h9 : b = w.heap.size := h; omega))
    exact ⟨none, 0, 0, none, 0, 0, _, rfl, hall.below (fun b h => h) (Nat.le_refl _), .inl ⟨Hz.out, rfl, rfl, rfl, rfl, rfl, rfl, rfl⟩⟩
   ·clear hkb
    go_enter Tryz.func30, Tryz.ntmps30
    go_wp2_with fail
    rw [← Hwa.out]
    refine C.out.mono ?_
    rintro e w1 ⟨rfl, hb1⟩
    have hr1 := (hb1.block _ (blk_lt Hra.out)).trans Hra.out
    have Hb1 := Lib.hid hb1; have Hr1 := Lib.hid hr1
    have g0 : w1.cell? ⟨w.heap.size, 0, none⟩ = some (.slice none 0 0) := by rw [cell_blk hr1]; rfl
    have gf0 : w1.frozen? ⟨w.heap.size, 0, none⟩ = false := frozen_blk hr1 0
    have g1 : w1.cell? ⟨w.heap.size, 1, none⟩ = some (.slice none 0 0) := by rw [cell_blk hr1]; rfl
    have gf1 : w1.frozen? ⟨w.heap.size, 1, none⟩ = false := frozen_blk hr1 1
    have g2 : w1.cell? ⟨w.heap.size, 2, none⟩ = some (.int .i64 0) := by rw [cell_blk hr1]; rfl
    have gf2 : w1.frozen? ⟨w.heap.size, 2, none⟩ = false := frozen_blk hr1 2
    have g3 : w1.cell? ⟨w.heap.size, 3, none⟩ = some (.int .i64 0) := by rw [cell_blk hr1]; rfl
    have gf3 : w1.frozen? ⟨w.heap.size, 3, none⟩ = false := frozen_blk hr1 3
    have g4 : w1.cell? ⟨w.heap.size, 4, none⟩ = some (.int .i64 0) := by rw [cell_blk hr1]; rfl
    have gf4 : w1.frozen? ⟨w.heap.size, 4, none⟩ = false := frozen_blk hr1 4
    have g5 : w1.cell? ⟨w.heap.size, 5, none⟩ = some (.int .i64 0) := by rw [cell_blk hr1]; rfl
    have gf5 : w1.frozen? ⟨w.heap.size, 5, none⟩ = false := frozen_blk hr1 5
    have g6 : w1.cell? ⟨w.heap.size, 6, none⟩ = some (.int .i64 0) := by rw [cell_blk hr1]; rfl
    have gf6 : w1.frozen? ⟨w.heap.size, 6, none⟩ = false := frozen_blk hr1 6
    have g7 : w1.cell? ⟨w.heap.size, 7, none⟩ = some (.int .i64 0) := by rw [cell_blk hr1]; rfl
    have gf7 : w1.frozen? ⟨w.heap.size, 7, none⟩ = false := frozen_blk hr1 7
    have g8 : w1.cell? ⟨w.heap.size, 8, none⟩ = some (.int .i64 0) := by rw [cell_blk hr1]; rfl
    have gf8 : w1.frozen? ⟨w.heap.size, 8, none⟩ = false := frozen_blk hr1 8
    clear hr1 hb1
    go_wp2
    obtain ⟨w7, hw7⟩ : ∃ w7, w7 = (((((((((w1.setCell ⟨w.heap.size, 0, none⟩ (.slice none 0 0)).setCell ⟨w.heap.size, 1, none⟩ (.slice none 0 0)).setCell ⟨w.heap.size, 2, none⟩ (.int .i64 0)).setCell ⟨w.heap.size, 3, none⟩ (.int .i64 0)).setCell ⟨w.heap.size, 4, none⟩ (.int .i64 0)).setCell ⟨w.heap.size, 5, none⟩ (.int .i64 0)).setCell ⟨w.heap.size, 6, none⟩ (.int .i64 0)).setCell ⟨w.heap.size, 7, none⟩ (.int .i64 0)).setCell ⟨w.heap.size, 8, none⟩ (.int .i64 0)) := ⟨_, rfl⟩
    rw [← hw7]
    have hr7 : w7.heap[w.heap.size]? = some (.cells #[.slice none 0 0, .slice none 0 0, .int .i64 0, .int .i64 0, .int .i64 0, .int .i64 0, .int .i64 0, .int .i64 0, .int .i64 0] 32 (0, 0)) := by rw [hw7, (blk_set (blk_set (blk_set (blk_set (blk_set (blk_set (blk_set (blk_set (blk_set Hr1.out _ _) _ _) _ _) _ _) _ _) _ _) _ _) _ _) _ _)]; rfl
    have hch7 : Chg (fun b => b = w.heap.size) w1 w7 := by rw [hw7]; exact ((((((((((Chg.refl (fun b => b = w.heap.size) w1).setCell (by exact .inl rfl) _).setCell (by exact .inl rfl) _).setCell (by exact .inl rfl) _).setCell (by exact .inl rfl) _).setCell (by exact .inl rfl) _).setCell (by exact .inl rfl) _).setCell (by exact .inl rfl) _).setCell (by exact .inl rfl) _).setCell (by exact .inl rfl) _)
    clear hw7
    have hld := rep_load w7 w.heap.size _ hr7 rfl
    refine bodyPost_ret (v := .tuple #[.agg #[.slice none 0 0, .slice none 0 0, .int .i64 0, .int .i64 0, .int .i64 0, .int .i64 0, .int .i64 0, .int .i64 0, .int .i64 0], .int .i64 10]) (by simp [results, Tryz.results30 , Sem.run_bind, Sem.run_pure, asAddr, hld]) rfl ?_
    have hall : Chg (fun b => w.heap.size ≤ b) w w7 := ((Chg.of_below Hga.out).trans (Chg.of_below Hb1.out)).trans (hch7.mono (fun b _ h => by have h9 : b = w.heap.size := h; omega))
    exact ⟨none, 0, 0, none, 0, 0, _, rfl, hall.below (fun b h => h) (Nat.le_refl _), .inl ⟨Hz.out, rfl, rfl, rfl, rfl, rfl, rfl, rfl⟩⟩
  ·obtain ⟨kk, rfl⟩ : ∃ kk : Nat, k = (kk : Int) := ⟨k.toNat, by omega⟩
   have hk1 : 1 ≤ kk := by omega
   have hk32 : kk ≤ 32 := by omega
   have hnk : sz * kk ≤ 512 := by
    have : sz * kk ≤ 16 * 32 := Nat.mul_le_mul hs16 hk32
    omega
   have her : poCheck (sz : Int) (kk : Int) calls picks.length = 0 := by unfold poCheck; rw [← Hck.out, if_neg (by simpa using hc0), if_neg hkb]
   rw [her]
   simp only [Int.toNat_natCast]
   have P := Lib.hid (fun (w1 : World) (hb1 : Below wa.heap.size wa w1) (u : World) (bo bw : Nat) (hu : Below w1.heap.size w1 u) (h1 : u.cell? ⟨bo, 0, none⟩ = some (.iface 84 (.agg #[.int .i64 0, .int .i64 (sz : Int), .int .i64 (kk : Int)]))) (h2 : u.heap[bw]? = some (.cells (madeCells #[.int .u64 0] (sz * kk)) 46 (0, 0))) (hbo : w1.heap.size ≤ bo) =>
    (play_any (X := fun b => X b ∨ b = w.heap.size) (R := poolR sz kk) (pool_ok sz kk hs16 hk32) (pool_nolate sz kk) (by show 1 ≤ 1000; omega) u () sz calls (List.replicate (sz * kk) 0) picks (.slice (some ⟨bo, 0, none⟩) 1 1) (.slice ca calls.length cc) (.slice (some ⟨bw, 0, none⟩) (List.replicate (sz * kk) 0).length (sz * kk)) pa pc
     ⟨⟨ca, cc, rfl, Hc.out.sl.grown (Gr.trans Hga.out (Gr.trans hb1 hu)), fun hl b off e hx => by
      rcases hx with hx | hx
      ·exact Hc.out.nx hl b off e hx
      ·obtain ⟨b0, off0, e0, hb0⟩ := Hc.out.sl.lt hl
       rw [e0] at e; cases e; omega⟩, Hc.out.ok, ⟨bo, 0, 1, rfl, h1, fun hx => by have := hb1.size; rcases hx with hx | hx; have := HX.out bo hx; omega; omega⟩, ⟨_, sz * kk, rfl, zeros_sl2 h2 (by omega), fun e => by cases e⟩, by rw [List.length_replicate]; omega, fun x hx => by rw [(List.mem_replicate.1 hx).2]; omega, fun b hb => hb, fun _ _ => trivial, trivial, fun b hx => by have := hu.size; have := hb1.size; rcases hx with hx | hx; have := HX.out b hx; omega; omega⟩ (Hp.out.sl.grown (Gr.trans Hga.out (Gr.trans hb1 hu))) Hp.out.ok (po_safe sz kk hk1 hk32 calls picks)).mono (fun e w' h => (⟨PlayTo.ret h, Gr.trans hb1 hu⟩ : PlayRet (fun b => X b ∨ b = w.heap.size) u w' (checkN sz calls picks.length) (playD (poolS sz kk) () (List.replicate (sz * kk) 0) calls picks) e ∧ Below wa.heap.size wa u)))
   have N := Lib.hid (fun (u w0 : World) (h : Below w0.heap.size w0 u) => (pool_new sz kk u).mono (fun e w' h' => (⟨h'.1, Gr.trans h h'.2, (fun b o hb => (h'.2.block b (blk_lt hb)).trans hb)⟩ : e = .returned (.agg #[.int .i64 0, .int .i64 (sz : Int), .int .i64 (kk : Int)]) ∧ Below w0.heap.size w0 w' ∧ (∀ (b : Nat) (o : Obj), u.heap[b]? = some o → w'.heap[b]? = some o))))
   obtain ⟨S, hS⟩ : ∃ S, S = sz * kk := ⟨_, rfl⟩
   have hmk := make_size2 S ((sz : Int) * (kk : Int)) (by rw [hS]; simp) (by omega)
   have wS : IntKind.i64.wrap ((sz : Int) * (kk : Int)) = (sz : Int) * (kk : Int) := by
    have e : (sz : Int) * (kk : Int) = ((sz * kk : Nat) : Int) := by simp
    rw [e, IntKind.wrap_i64]; omega
   obtain ⟨rr, hrr⟩ : ∃ rr, rr = playD (poolS sz kk) () (List.replicate (sz * kk) 0) calls picks := ⟨_, rfl⟩
   rw [← Hck.out, hc0, ← hrr] at P
   rw [← hrr]
   simp only [List.length_replicate] at P
   rw [← hS] at P
   have l1 : ¬ (kk : Int) < 1 := by omega
   have l2 : ¬ (32 : Int) < (kk : Int) := by omega
   subst hc0
   clear hrr her hS hkb hnk hk32
   go_enter Tryz.func30, Tryz.ntmps30
   go_wp2_with fail
   rw [← Hwa.out]
   refine C.out.mono ?_
   rintro e w1 ⟨rfl, hb1⟩
   replace P := Lib.hid (P.out w1 hb1)
   replace N := Lib.hid (fun (u : World) (h : Below w1.heap.size w1 u) => N.out u w1 h)
   have Hb1 := Lib.hid hb1
   clear hb1
   go_wp2_with fail
   go_region_held3 (fun u => True)
    (exact True.intro)
    (first | (go_at_call 45; refine (N.out _ ?_).mono ?_; (first | exact (Gr.refl _).drew | exact Gr.alloc (Gr.refl _).drew _); rintro e w2 ⟨rfl, hb2, hk2⟩) | (go_at_call 32; refine (P.out _ _ _ ?_ ?_ ?_ ?_).mono ?_; (first | with_reducible exact Gr.alloc (Gr.alloc hb2 _) _ | with_reducible exact Gr.alloc hb2 _); (first | with_reducible exact objs_cell _ _ _ _ | exact cell_new2 _ _ _ _ _ (by simp) | with_reducible exact cell_new1 _ _ _); (first | with_reducible exact made_blk1 _ _ _ _ (by simp) | with_reducible exact made_blk2 _ _ _ | exact made_blk3 hk2 _ _ (by simp)); (have := hb2.size; simp; omega); rintro e w4 ⟨⟨ea, en, ec, va, vn, vc, rp, rfl, hrest⟩, hu⟩; have hr4 := (hrest.1.block w.heap.size (by have := hu.size; omega)).trans ((hu.block w.heap.size (by omega)).trans Hra.out); obtain ⟨cs, w7, hcs, hsz, hst, hbk7, hch7⟩ := rep_store w4 w.heap.size (.slice ea en ec) (.slice va vn vc) rp hr4 rfl rfl; rw [hcs]; have Hcs := Lib.hid hcs; have Hbk7 := Lib.hid hbk7; have Hch7 := Lib.hid hch7; have Hrest := Lib.hid hrest; have Hu := Lib.hid hu; clear hr4 hrest hu hcs hbk7 hch7 hb2 hk2))
   all_goals
    go_wp2
    have hld := rep_load w7 w.heap.size cs Hbk7.out hsz
    refine bodyPost_ret (v := .tuple #[.agg cs, .int .i64 0]) (by simp [results, Tryz.results30 , Sem.run_bind, Sem.run_pure, asAddr, hld]) rfl ?_
    refine ⟨ea, en, ec, va, vn, vc, rp, by rw [Hcs.out], PlayRest.chg Hrest.out Hch7.out (fun b hb => ?_) (Gr.trans Hga.out Hu.out) (fun b hb => .inl hb)⟩
    have hb' : b = w.heap.size := hb
    exact ⟨.inr hb', by omega, by have := Hu.out.size; omega⟩
 ·have her : poCheck n k calls picks.length = ck := by unfold poCheck; rw [← Hck.out, if_pos (by simpa using hc0)]
  rw [her]
  have Her0 := Lib.hid hc0
  clear her
  go_enter Tryz.func30, Tryz.ntmps30
  go_wp2_with fail
  rw [← Hwa.out]
  refine C.out.mono ?_
  rintro e w1 ⟨rfl, hb1⟩
  have hr1 := (hb1.block _ (blk_lt Hra.out)).trans Hra.out
  have Hb1 := Lib.hid hb1; have Hr1 := Lib.hid hr1
  have g0 : w1.cell? ⟨w.heap.size, 0, none⟩ = some (.slice none 0 0) := by rw [cell_blk hr1]; rfl
  have gf0 : w1.frozen? ⟨w.heap.size, 0, none⟩ = false := frozen_blk hr1 0
  have g1 : w1.cell? ⟨w.heap.size, 1, none⟩ = some (.slice none 0 0) := by rw [cell_blk hr1]; rfl
  have gf1 : w1.frozen? ⟨w.heap.size, 1, none⟩ = false := frozen_blk hr1 1
  have g2 : w1.cell? ⟨w.heap.size, 2, none⟩ = some (.int .i64 0) := by rw [cell_blk hr1]; rfl
  have gf2 : w1.frozen? ⟨w.heap.size, 2, none⟩ = false := frozen_blk hr1 2
  have g3 : w1.cell? ⟨w.heap.size, 3, none⟩ = some (.int .i64 0) := by rw [cell_blk hr1]; rfl
  have gf3 : w1.frozen? ⟨w.heap.size, 3, none⟩ = false := frozen_blk hr1 3
  have g4 : w1.cell? ⟨w.heap.size, 4, none⟩ = some (.int .i64 0) := by rw [cell_blk hr1]; rfl
  have gf4 : w1.frozen? ⟨w.heap.size, 4, none⟩ = false := frozen_blk hr1 4
  have g5 : w1.cell? ⟨w.heap.size, 5, none⟩ = some (.int .i64 0) := by rw [cell_blk hr1]; rfl
  have gf5 : w1.frozen? ⟨w.heap.size, 5, none⟩ = false := frozen_blk hr1 5
  have g6 : w1.cell? ⟨w.heap.size, 6, none⟩ = some (.int .i64 0) := by rw [cell_blk hr1]; rfl
  have gf6 : w1.frozen? ⟨w.heap.size, 6, none⟩ = false := frozen_blk hr1 6
  have g7 : w1.cell? ⟨w.heap.size, 7, none⟩ = some (.int .i64 0) := by rw [cell_blk hr1]; rfl
  have gf7 : w1.frozen? ⟨w.heap.size, 7, none⟩ = false := frozen_blk hr1 7
  have g8 : w1.cell? ⟨w.heap.size, 8, none⟩ = some (.int .i64 0) := by rw [cell_blk hr1]; rfl
  have gf8 : w1.frozen? ⟨w.heap.size, 8, none⟩ = false := frozen_blk hr1 8
  clear hr1 hb1
  go_wp2
  obtain ⟨w7, hw7⟩ : ∃ w7, w7 = (((((((((w1.setCell ⟨w.heap.size, 0, none⟩ (.slice none 0 0)).setCell ⟨w.heap.size, 1, none⟩ (.slice none 0 0)).setCell ⟨w.heap.size, 2, none⟩ (.int .i64 0)).setCell ⟨w.heap.size, 3, none⟩ (.int .i64 0)).setCell ⟨w.heap.size, 4, none⟩ (.int .i64 0)).setCell ⟨w.heap.size, 5, none⟩ (.int .i64 0)).setCell ⟨w.heap.size, 6, none⟩ (.int .i64 0)).setCell ⟨w.heap.size, 7, none⟩ (.int .i64 0)).setCell ⟨w.heap.size, 8, none⟩ (.int .i64 0)) := ⟨_, rfl⟩
  rw [← hw7]
  have hr7 : w7.heap[w.heap.size]? = some (.cells #[.slice none 0 0, .slice none 0 0, .int .i64 0, .int .i64 0, .int .i64 0, .int .i64 0, .int .i64 0, .int .i64 0, .int .i64 0] 32 (0, 0)) := by rw [hw7, (blk_set (blk_set (blk_set (blk_set (blk_set (blk_set (blk_set (blk_set (blk_set Hr1.out _ _) _ _) _ _) _ _) _ _) _ _) _ _) _ _) _ _)]; rfl
  have hch7 : Chg (fun b => b = w.heap.size) w1 w7 := by rw [hw7]; exact ((((((((((Chg.refl (fun b => b = w.heap.size) w1).setCell (by exact .inl rfl) _).setCell (by exact .inl rfl) _).setCell (by exact .inl rfl) _).setCell (by exact .inl rfl) _).setCell (by exact .inl rfl) _).setCell (by exact .inl rfl) _).setCell (by exact .inl rfl) _).setCell (by exact .inl rfl) _).setCell (by exact .inl rfl) _)
  clear hw7
  have hld := rep_load w7 w.heap.size _ hr7 rfl
  refine bodyPost_ret (v := .tuple #[.agg #[.slice none 0 0, .slice none 0 0, .int .i64 0, .int .i64 0, .int .i64 0, .int .i64 0, .int .i64 0, .int .i64 0, .int .i64 0], .int .i64 ck]) (by simp [results, Tryz.results30 , Sem.run_bind, Sem.run_pure, asAddr, hld]) rfl ?_
  have hall : Chg (fun b => w.heap.size ≤ b) w w7 := ((Chg.of_below Hga.out).trans (Chg.of_below Hb1.out)).trans (hch7.mono (fun b _ h => by have h9 : b = w.heap.size := h; omega))
  exact ⟨none, 0, 0, none, 0, 0, _, rfl, hall.below (fun b h => h) (Nat.le_refl _), .inl ⟨Her0.out, rfl, rfl, rfl, rfl, rfl, rfl, rfl⟩⟩
end
section

/- The reference's play of a pool. -/
open Go.RowKit
theorem rpool_do (n k : Nat) (hn : n ≤ 16) (hk1 : 0 < k) (hk : k ≤ 32) : DoC 12 (k : Int) 0 n (PoolPre n) (rpoolDo n k) := by
 intro B u c t r hok hob hpre hA
 have C := do_pool (B := B) (w := u) (t := t) (r := r) (fun u' => RAt B u' (rpoolDo n k c t r).1 (rpoolDo n k c t r).2) n (k : Int) 0 c.thread c.kind c.a c.b c.c hA (fun u' h' => rpool_r n k hn hk1 hk c hok h' hpre)
 have R := (rpool_dob n k).runs c t r
 have e1 : callW c = .agg #[.int .i64 c.thread, .int .i64 0, .int .i64 c.kind, .int .u64 (c.a : Int), .int .u64 (c.b : Int), .int .u64 (c.c : Int)] := by unfold callW; rw [hob]
 rw [e1]
 refine C.mono ?_
 rintro e u' ⟨rfl, h1⟩
 exact ⟨rfl, _, h1, R.thread, R.inv, rfl, rfl, rfl, fun _ => ⟨rfl, rfl, rfl, rfl, fun _ => rfl⟩⟩
theorem size_pool (n : Nat) (P Q R : Int) (w : World) (hn : n ≤ 16) (hR : R = if 1 ≤ P ∧ P ≤ 32 then (n : Int) * P else -1) : Calls Tryz.prog 69 #[.int .i64 (n : Int), .agg #[.int .i64 12, .int .i64 P, .int .i64 Q]] w fun e w' => e = .returned (.int .i64 R) ∧ Below w.heap.size w w' := by
 have B : ∀ u : World, Calls Tryz.prog 77 #[.int .i64 (n : Int), .agg #[.int .i64 12, .int .i64 P, .int .i64 Q]] u fun e w' => e = .returned (.int .i64 R) ∧ Below u.heap.size u w' := fun u => by
  by_cases h1 : 1 ≤ P
  ·by_cases h2 : P ≤ 32
   ·rw [if_pos ⟨h1, h2⟩] at hR
    have hle : (n : Int) * P ≤ 16 * 32 := Int.mul_le_mul (by omega) h2 (by omega) (by omega)
    have hge : 0 ≤ (n : Int) * P := Int.mul_nonneg (by omega) (by omega)
    have hw : IntKind.i64.wrap ((n : Int) * P) = R := by rw [hR, IntKind.wrap_i64]; omega
    clear hR hle hge
    go_enter Tryz.func77, Tryz.ntmps77
    go_wp2
    go_ret
    exact ⟨rfl, Gr.new _ _⟩
   ·rw [if_neg (fun h => h2 h.2)] at hR
    subst hR
    go_enter Tryz.func77, Tryz.ntmps77
    go_wp2
    go_ret
    exact ⟨rfl, Gr.new _ _⟩
  ·rw [if_neg (fun h => h1 h.1)] at hR
   subst hR
   go_enter Tryz.func77, Tryz.ntmps77
   go_wp2
   go_ret
   exact ⟨rfl, Gr.new _ _⟩
 have HB := Lib.hid B
 clear B hR
 go_enter Tryz.func69, Tryz.ntmps69
 go_wp2_with (go_at_call 77; refine (HB.out _).mono ?_; rintro e w' ⟨rfl, hb⟩)
 go_ret
 exact ⟨rfl, Gr.trans (Gr.new _ _) hb⟩
def PoGood (n k : Nat) (calls : List CallD) (st : PlayD (poolS n k)) : Prop := PoInv n k calls st ∧ st.wd.now ≤ 65536
theorem po_words {n k : Nat} {calls : List CallD} : ∀ st, PoGood n k calls st → ∀ x, x ∈ st.wd.mem.ws → x ≤ 140000 := by
 intro st h x hx
 obtain ⟨j, hj, rfl⟩ := List.getElem_of_mem hx
 have h1 := h.1.w.top j (by rw [← h.1.w.wlen]; exact hj)
 rw [List.getD_eq_getElem?_getD, List.getElem?_eq_getElem hj] at h1
 have h2 : st.wd.mem.ws[j] ≤ 2 * st.wd.now + 1 := h1
 have h3 := h.2
 omega
theorem pool_pre {n k sz : Nat} {calls : List CallD} {s : RefS} {st : PlayD (poolS n k)} {q i : Nat} (hP : PSim (poolSim n k) n calls s st) (hg : StGood calls st) (hG : PoGood n k calls st) (hR : RGood n sz calls s) (hT : RTick n s) (hnow : s.rw.now ≤ 65536) (hq : q < n) (hN : nowN calls s.fin (q : Int) = some i) (s1 : RefS) (hs1 : s1 = ropen { s with rw := s.rw.tick } q i) :
  PoolPre n (calls.getD i d0) ((s1.hands.getD q rh0).tape q) s1.rw := by
 have H := hand_pre hP hg hR hT hnow hq hN s1 hs1
 obtain ⟨h, hh⟩ : ∃ h, h = s1.hands.getD q rh0 := ⟨_, rfl⟩
 rw [← hh] at H ⊢
 refine ⟨⟨fun x hx => ?_, fun x hx => ?_⟩, hq⟩
 ·have hx' : x ∈ h.got := hx
  rcases H.how with ⟨e1, _⟩ | ⟨σ, hs, hr, _⟩
  ·rw [e1] at hx'; cases hx'
  ·match σ, hr with
   | .once c' r0, hr => rw [hr.2.2.2.2] at hx'; cases hx'
   | .take a e m free r0, hr =>
    have h9 : x ≤ 140000 := hr.2.2.2.1 x hx'
    omega
 ·rw [H.mem, hP.rw.mem] at hx
  have := po_words st hG x hx
  omega
theorem rpool_play (X : Nat → Prop) (q0 q1 : Int) (calls : List CallD) (picks : List Int) (ca pa : Option Addr) (cc pc bS : Nat) (w : World) (hX : ∀ b, X b → b < w.heap.size) (hS : SpecAt w bS 12 q1 0) (hc : CallsAt noB w ca calls) (hp : PicksAt w pa picks) :
  Calls Tryz.prog 14 #[.int .i64 q0, .slice (some ⟨bS, 0, none⟩) 1 1, .slice ca calls.length cc, .slice pa picks.length pc] w fun e w' => RefAny X w w' (poCheck q0 q1 calls picks.length) (playD (poolS q0.toNat q1.toNat) () (List.replicate (q0.toNat * q1.toNat) 0) calls picks) true e := by
 by_cases hck : checkN q0 calls picks.length = 0
 ·obtain ⟨z1, z2, z3, _⟩ := wrongN_zero (checkN_zero hck).1
  obtain ⟨n, rfl⟩ : ∃ n : Nat, q0 = (n : Int) := ⟨q0.toNat, by omega⟩
  have hnp := (checkN_zero hck).2
  have hn16 : n ≤ 16 := by omega
  by_cases hb : q1 < 1 ∨ 32 < q1
  ·have er : poCheck (n : Int) q1 calls picks.length = 10 := by unfold poCheck; rw [if_neg (fun h => h hck), if_pos hb]
   rw [er]
   refine rplay_of X (n : Int) _ _ _ _ _ w (fun u hu hul => ?_)
   exact rlog_bad _ (n : Int) 12 q1 0 calls picks ca pa cc pc bS _ u hck (hS.grown hu) (hc.grown hu) (hp.grown hu) (fun v => size_pool n q1 0 (-1) v hn16 (by rw [if_neg (by omega)]))
  ·obtain ⟨k, rfl⟩ : ∃ k : Nat, q1 = (k : Int) := ⟨q1.toNat, by omega⟩
   have er : poCheck (n : Int) (k : Int) calls picks.length = 0 := by unfold poCheck; rw [if_neg (fun h => h hck), if_neg hb]
   have hk1 : 1 ≤ k := by omega
   have hk32 : k ≤ 32 := by omega
   have hnk : n * k ≤ 16 * 32 := Nat.mul_le_mul hn16 hk32
   have hnk0 : 0 < n * k := Nat.mul_pos (by omega) hk1
   rw [er, Int.toNat_natCast, Int.toNat_natCast]
   exact rplay_any (S := poolS n k) (M := poolSim n k) X (n * k) 12 (k : Int) 0 picks ca pa cc pc bS w () (PoolPre n) hX (by decide) (by omega) hnk0 hck hS hc hp (fun v => size_pool n (k : Int) 0 _ v hn16 (by rw [if_pos (by omega)]; push_cast; rfl)) (rpool_dob n k) (rpool_dot n k) (rpool_do n k hn16 hk1 hk32) (late_marks 12 (k : Int) 0 n (by decide)) (pool_ref_ok n k hk1 calls (PoGood n k calls) po_words) pool_now (fun _ _ => trivial)
    (fun j => by obtain ⟨_, b, c⟩ := po_picks hk1 hk32 hck (picks.take j); exact ⟨b, by rw [List.length_take] at c; omega⟩) (fun s st q i h1 h2 h3 h4 h5 h6 h7 h8 _ s1 hs1 => pool_pre h1 h2 h3 h4 h5 h6 h7 h8 s1 hs1)
 ·have er : poCheck q0 q1 calls picks.length = checkN q0 calls picks.length := by unfold poCheck; rw [if_pos hck]
  rw [er]
  refine rplay_of X q0 _ _ _ _ _ w (fun u hu hul => ?_)
  exact rlog_wrong _ q0 calls picks ca pa cc pc _ _ u hck (hc.grown hu) (hp.grown hu)
theorem rpool_len {q0 q1 : Int} {calls : List CallD} {picks : List Int} (h : poCheck q0 q1 calls picks.length = 0) : (playD (poolS q0.toNat q1.toNat) () (List.replicate (q0.toNat * q1.toNat) 0) calls picks).evs.length < 1000000 ∧ (playD (poolS q0.toNat q1.toNat) () (List.replicate (q0.toNat * q1.toNat) 0) calls picks).words.length < 1000000 := by
 have hck : checkN q0 calls picks.length = 0 := by
  by_cases hck : checkN q0 calls picks.length = 0
  ·exact hck
  ·unfold poCheck at h; rw [if_pos hck] at h; exact absurd h hck
 obtain ⟨z1, z2, z3, _⟩ := wrongN_zero (checkN_zero hck).1
 have hnp := (checkN_zero hck).2
 obtain ⟨n, rfl⟩ : ∃ n : Nat, q0 = (n : Int) := ⟨q0.toNat, by omega⟩
 have hb : ¬ (q1 < 1 ∨ 32 < q1) := fun hb => by unfold poCheck at h; rw [if_neg (fun h => h hck), if_pos hb] at h; cases h
 obtain ⟨k, rfl⟩ : ∃ k : Nat, q1 = (k : Int) := ⟨q1.toNat, by omega⟩
 have hk1 : 1 ≤ k := by omega
 have hk32 : k ≤ 32 := by omega
 have hnk : n * k ≤ 16 * 32 := Nat.mul_le_mul (by omega) hk32
 have hnk0 : 0 < n * k := Nat.mul_pos (by omega) hk1
 rw [Int.toNat_natCast, Int.toNat_natCast]
 obtain ⟨a1, a2⟩ := rlen_any (S := poolS n k) (M := poolSim n k) (n * k) picks () hnk0 hck (rpool_dob n k) (pool_ref_ok n k hk1 calls (PoGood n k calls) po_words) pool_now (fun _ _ => trivial) (fun j => by obtain ⟨_, b, c⟩ := po_picks hk1 hk32 hck (picks.take j); exact ⟨b, by rw [List.length_take] at c; omega⟩)
 omega
end
section

/- Layer 13: a place that is taken, and taken again. -/
open Go.RowKit
def oneCalls13 : List CallD := [⟨0, 0, 0, 0, 0, 0⟩, ⟨0, 0, 0, 0, 0, 0⟩, ⟨0, 0, 1, 1026, 0, 0⟩, ⟨0, 0, 0, 0, 0, 0⟩]
theorem one_rep13 : playD (poolS 1 1) () [0] oneCalls13 [0, 0, 0, 0, 0, 0] = ⟨[⟨0, 1, 2, 2, ⟨0, 1026, []⟩, [4]⟩, ⟨1, 3, 3, 1, ⟨6, 0, []⟩, [6]⟩, ⟨2, 4, 4, 1, ⟨0, 0, []⟩, [8]⟩, ⟨3, 5, 6, 2, ⟨0, 2050, []⟩, [12]⟩], [5], ⟨3, 2, 1, 0, 0⟩, 6, 0⟩ := by rfl
theorem one_check13 : poCheck 1 1 oneCalls13 6 = 0 := by rfl
set_option maxHeartbeats 4000000 in
theorem pool_one (w : World) : Calls Tryz.prog 29 #[] w fun e w' => e = .returned (.bool true) ∧ Below w.heap.size w w' := by
 obtain ⟨wa, hwa⟩ : ∃ wa, wa = (w.alloc (.cells #[.int .i64 0, .int .i64 0, .int .i64 0, .int .u64 0, .int .u64 0, .int .u64 0, .int .i64 0, .int .i64 0, .int .i64 0, .int .u64 0, .int .u64 0, .int .u64 0, .int .i64 0, .int .i64 0, .int .i64 1, .int .u64 1026, .int .u64 0, .int .u64 0, .int .i64 0, .int .i64 0, .int .i64 0, .int .u64 0, .int .u64 0, .int .u64 0] 48)).alloc (.cells #[.int .i64 0, .int .i64 0, .int .i64 0, .int .i64 0, .int .i64 0, .int .i64 0] 3) := ⟨_, rfl⟩
 have hga : Below w.heap.size w wa := by rw [hwa]; exact Gr.alloc (Gr.new _ _) _
 have h1 : wa.heap[w.heap.size]? = some (.cells (oneCalls13.flatMap callL).toArray 48 (0, 0)) := by rw [hwa, Below.heap_alloc _ _ _ (by simp), heap_alloc_new]; rfl
 have h2 : wa.heap[w.heap.size + 1]? = some (.cells (([0, 0, 0, 0, 0, 0] : List Int).map (Value.int .i64)).toArray 3 (0, 0)) := by
  rw [hwa]
  have := heap_alloc_new (w.alloc (.cells #[.int .i64 0, .int .i64 0, .int .i64 0, .int .u64 0, .int .u64 0, .int .u64 0, .int .i64 0, .int .i64 0, .int .i64 0, .int .u64 0, .int .u64 0, .int .u64 0, .int .i64 0, .int .i64 0, .int .i64 1, .int .u64 1026, .int .u64 0, .int .u64 0, .int .i64 0, .int .i64 0, .int .i64 0, .int .u64 0, .int .u64 0, .int .u64 0] 48)) (.cells #[.int .i64 0, .int .i64 0, .int .i64 0, .int .i64 0, .int .i64 0, .int .i64 0] 3 (0, 0))
  simp only [World.size_alloc] at this
  exact this
 have P := poolPlay_any noB wa 1 1 oneCalls13 [0, 0, 0, 0, 0, 0] (some ⟨w.heap.size, 0, none⟩) (some ⟨w.heap.size + 1, 0, none⟩) 4 6 (fun b hb => hb.elim) ⟨calls_block h1 (by decide), (by
   intro x hx
   simp only [oneCalls13, List.mem_cons, List.not_mem_nil, or_false] at hx
   rcases hx with rfl | rfl | rfl | rfl <;> first | exact callOk_small (by decide) (by decide) (by decide) (by decide) (by decide) (by decide) (by decide) | exact ⟨rfl, rfl, rfl, by decide, by decide, by decide⟩), fun _ _ _ _ h => h⟩ ⟨ints_block h2 (by decide), by intro x hx; simp only [List.mem_cons, List.not_mem_nil, or_false] at hx; rcases hx with rfl | rfl | rfl | rfl | rfl | rfl <;> rfl⟩
 rw [show ([0, 0, 0, 0, 0, 0] : List Int).length = 6 from rfl, one_check13, show (1 : Int).toNat = 1 from rfl, show List.replicate (1 * 1) 0 = [0] from rfl, one_rep13, show oneCalls13.length = 4 from rfl] at P
 have HP := Lib.hid P; have Hwa := Lib.hid hwa; have Hga := Lib.hid hga
 clear P h1 h2 hwa hga
 go_enter Tryz.func29, Tryz.ntmps29
 go_wp2_with fail
 rw [← Hwa.out]
 refine HP.out.mono ?_
 rintro e w1 ⟨ea, en, ec, va, vn, vc, rp, rfl, hb, hr⟩
 rcases hr with ⟨h0, _⟩ | ⟨_, hrp, hen, hvn, ers, hrep⟩
 ·exact absurd rfl h0
 obtain ⟨g, rfl, hg, hev⟩ := hrep.event hen (by rw [hen]; decide)
 have hen2 : en = 4 := hen
 subst hen2 hrp
 have c5 : w1.cell? ⟨g, 5, none⟩ = some (.int .u64 1026) := hev 0 5 (by omega) (by omega)
 have c12 : w1.cell? ⟨g, 12, none⟩ = some (.int .i64 6) := hev 1 4 (by omega) (by omega)
 have c20 : w1.cell? ⟨g, 20, none⟩ = some (.int .i64 0) := hev 2 4 (by omega) (by omega)
 have c29 : w1.cell? ⟨g, 29, none⟩ = some (.int .u64 2050) := hev 3 5 (by omega) (by omega)
 have Hb := Lib.hid hb
 clear hrep hev hb hen hvn
 unfold repV
 go_wp2
 go_ret
 exact ⟨rfl, Gr.trans Hga.out (Gr.trans Hb.out (Gr.new _ _))⟩
end
end Go.Proofs.YteffgpcjfnjlkaaGreat
