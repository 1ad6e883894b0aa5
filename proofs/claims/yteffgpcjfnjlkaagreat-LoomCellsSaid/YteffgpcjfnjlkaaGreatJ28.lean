/- Layer 6: loom.Cells. -/
import Derived.Test.YteffgpcjfnjlkaaGreatJ27
import Derived.Test.YteffgpcjfnjlkaaGreatJ20
set_option maxRecDepth 100000
set_option linter.unusedVariables false
set_option linter.unusedSimpArgs false
set_option linter.unnecessarySimpa false
namespace Go.Proofs.YteffgpcjfnjlkaaGreat
section
open Go.RowKit
theorem newCells_any (w : World) (size : Nat) : Calls Tryz.prog 33 #[.int .i64 0, .int .i64 (size : Int)] w fun e w' => e = .returned (.iface 95 (.agg #[.int .i64 0, .int .i64 (size : Int)])) ∧ w = w' := by
  go_enter Tryz.func33, Tryz.ntmps33
  go_wp2
  go_ret
  exact ⟨rfl, rfl⟩
theorem make_size (size : Nat) (h64 : size ≤ 64) (u : World) : (Instr.makeSlice 28 (.int .i64 (size : Int)) (.int .i64 (size : Int))).run Tryz.prog u = .ok (.slice (some ⟨u.heap.size, 0, none⟩) size size) (u.alloc (.cells (madeCells #[.int .u64 0] size) 46)) := by
  obtain ⟨i0, hi, hz0, hz1, hz2⟩ := info_parts u64_info'
  have h := run_make (P := Tryz.prog) u 28 46 i0 (.int .u64 0) Tryz.underlying28 hi hz0 .i64 .i64 (size : Int) (size : Int) (by omega) (Int.le_refl _) (by rw [hz2]; omega) (by omega)
  simpa [hz1, Value.cells] using h
theorem zeros_sl {u : World} {b size : Nat} (h : u.heap[b]? = some (.cells (madeCells #[.int .u64 0] size) 46 (0, 0))) (h64 : size ≤ 64) : SlAt u (some ⟨b, 0, none⟩) (List.replicate size 0).length 1 (u64G (List.replicate size 0)) := by
  refine ⟨by rw [List.length_replicate]; unfold maxLen; omega, fun j hj => ⟨b, 0, rfl, blk_lt h, fun f hf => ?_⟩⟩
  obtain rfl : f = 0 := by omega
  rw [List.length_replicate] at hj
  rw [cell_blk h, madeCells_one]
  simp [u64G, u64V, List.getD_eq_getElem?_getD, List.getElem?_replicate, hj]
theorem made_blk1 (u : World) (o : Obj) (size b : Nat) (hb : b = u.heap.size + 1) : ((u.alloc o).alloc (.cells (madeCells #[.int .u64 0] size) 46)).heap[b]? = some (.cells (madeCells #[.int .u64 0] size) 46 (0, 0)) := by
  have := heap_alloc_new (u.alloc o) (.cells (madeCells #[.int .u64 0] size) 46 (0, 0))
  simp only [World.size_alloc] at this
  rw [hb, this]
theorem made_blk2 (u : World) (o : Obj) (size : Nat) : ((u.alloc (.cells (madeCells #[.int .u64 0] size) 46)).alloc o).heap[u.heap.size]? = some (.cells (madeCells #[.int .u64 0] size) 46 (0, 0)) := by
  rw [Below.heap_alloc _ _ _ (by simp), heap_alloc_new]
theorem drew_cell {u : World} {p : Addr} {x : Option Value} (h : u.cell? p = x) : u.drew.cell? p = x := h
theorem drew_blk {u : World} {b : Nat} {x : Option (Obj)} (h : u.heap[b]? = x) : u.drew.heap[b]? = x := h
def cellsN (n size : Int) (calls : List CallD) (np : Nat) : Int := if checkN n calls np ≠ 0 then checkN n calls np else if size < 1 ∨ 64 < size then 10 else 0
set_option maxHeartbeats 4000000 in
theorem cellsPlay_any (X : Nat → Prop) (w : World) (n size : Int) (calls : List CallD) (picks : List Int) (ca pa : Option Addr) (cc pc : Nat) (hX : ∀ b, X b → b < w.heap.size) (hc : CallsAt X w ca calls) (hp : PicksAt w pa picks) :
    Calls Tryz.prog 13 #[.int .i64 n, .int .i64 size, .slice ca calls.length cc, .slice pa picks.length pc] w fun e w' => PlayRet X w w' (cellsN n size calls picks.length) (playD (cellsS size.toNat) () (List.replicate size.toNat 0) calls picks) e := by
  obtain ⟨wa, hwa⟩ : ∃ wa, wa = w.alloc (.cells #[.slice none 0 0, .slice none 0 0, .int .i64 0, .int .i64 0, .int .i64 0, .int .i64 0, .int .i64 0, .int .i64 0, .int .i64 0] 32) := ⟨_, rfl⟩
  have hga : Below w.heap.size w wa := by rw [hwa]; exact Gr.new _ _
  have hra : wa.heap[w.heap.size]? = some (.cells #[.slice none 0 0, .slice none 0 0, .int .i64 0, .int .i64 0, .int .i64 0, .int .i64 0, .int .i64 0, .int .i64 0, .int .i64 0] 32 (0, 0)) := by rw [hwa]; exact heap_alloc_new _ _
  have hsa : w.heap.size < wa.heap.size := by rw [hwa]; simp
  have C := Lib.hid (check_any n calls picks.length ca pa cc pc wa (hc.sl.grown hga) hp.sl.1 (fun x hx => (hc.ok x hx).thread))
  have Hc := Lib.hid hc; have Hp := Lib.hid hp; have HX := Lib.hid hX
  have Hwa := Lib.hid hwa; have Hga := Lib.hid hga; have Hra := Lib.hid hra
  have hpl := hp.sl.1
  unfold maxLen at hpl
  clear hc hp hX hwa hga hra
  obtain ⟨ck, hck⟩ : ∃ ck, ck = checkN n calls picks.length := ⟨_, rfl⟩
  rw [← hck] at C
  have Hck := Lib.hid hck
  clear hck
  by_cases hc0 : ck = 0
  · by_cases hsz : size < 1 ∨ 64 < size
    · have her : cellsN n size calls picks.length = 10 := by unfold cellsN; rw [← Hck.out, hc0, if_neg (by simp), if_pos hsz]
      rw [her]
      subst hc0
      have Her := Lib.hid her
      clear her
      have sz : size < 1 ∨ ¬ size < 1 ∧ 64 < size := by omega
      clear hsz
      rcases sz with s1 | ⟨s1, s2⟩
      all_goals
        go_enter Tryz.func13, Tryz.ntmps13
        go_wp2_with fail
        rw [← Hwa.out]
        refine C.out.mono ?_
        rintro e w1 ⟨rfl, hb1⟩
        have hr1 := (hb1.block _ (blk_lt Hra.out)).trans Hra.out
        have Hb1 := Lib.hid hb1; have Hr1 := Lib.hid hr1
        have g0 : w1.cell? ⟨w.heap.size, 0, none⟩ = some (.slice none 0 0) := by rw [cell_blk hr1]; rfl
        have gf0 : w1.frozen? ⟨w.heap.size, 0, none⟩ = false := frozen_blk hr1 0
        have g1 : w1.cell? ⟨w.heap.size, 1, none⟩ = some (.slice none 0 0) := by rw [cell_blk hr1]; rfl
        have gf1 : w1.frozen? ⟨w.heap.size, 1, none⟩ = false := frozen_blk hr1 1
        have g2 : w1.cell? ⟨w.heap.size, 2, none⟩ = some (.int .i64 0) := by rw [cell_blk hr1]; rfl
        have gf2 : w1.frozen? ⟨w.heap.size, 2, none⟩ = false := frozen_blk hr1 2
        have g3 : w1.cell? ⟨w.heap.size, 3, none⟩ = some (.int .i64 0) := by rw [cell_blk hr1]; rfl
        have gf3 : w1.frozen? ⟨w.heap.size, 3, none⟩ = false := frozen_blk hr1 3
        have g4 : w1.cell? ⟨w.heap.size, 4, none⟩ = some (.int .i64 0) := by rw [cell_blk hr1]; rfl
        have gf4 : w1.frozen? ⟨w.heap.size, 4, none⟩ = false := frozen_blk hr1 4
        have g5 : w1.cell? ⟨w.heap.size, 5, none⟩ = some (.int .i64 0) := by rw [cell_blk hr1]; rfl
        have gf5 : w1.frozen? ⟨w.heap.size, 5, none⟩ = false := frozen_blk hr1 5
        have g6 : w1.cell? ⟨w.heap.size, 6, none⟩ = some (.int .i64 0) := by rw [cell_blk hr1]; rfl
        have gf6 : w1.frozen? ⟨w.heap.size, 6, none⟩ = false := frozen_blk hr1 6
        have g7 : w1.cell? ⟨w.heap.size, 7, none⟩ = some (.int .i64 0) := by rw [cell_blk hr1]; rfl
        have gf7 : w1.frozen? ⟨w.heap.size, 7, none⟩ = false := frozen_blk hr1 7
        have g8 : w1.cell? ⟨w.heap.size, 8, none⟩ = some (.int .i64 0) := by rw [cell_blk hr1]; rfl
        have gf8 : w1.frozen? ⟨w.heap.size, 8, none⟩ = false := frozen_blk hr1 8
        clear hr1 hb1
        go_wp2
        obtain ⟨w7, hw7⟩ : ∃ w7, w7 = (((((((((w1.setCell ⟨w.heap.size, 0, none⟩ (.slice none 0 0)).setCell ⟨w.heap.size, 1, none⟩ (.slice none 0 0)).setCell ⟨w.heap.size, 2, none⟩ (.int .i64 0)).setCell ⟨w.heap.size, 3, none⟩ (.int .i64 0)).setCell ⟨w.heap.size, 4, none⟩ (.int .i64 0)).setCell ⟨w.heap.size, 5, none⟩ (.int .i64 0)).setCell ⟨w.heap.size, 6, none⟩ (.int .i64 0)).setCell ⟨w.heap.size, 7, none⟩ (.int .i64 0)).setCell ⟨w.heap.size, 8, none⟩ (.int .i64 0)) := ⟨_, rfl⟩
        rw [← hw7]
        have hr7 : w7.heap[w.heap.size]? = some (.cells #[.slice none 0 0, .slice none 0 0, .int .i64 0, .int .i64 0, .int .i64 0, .int .i64 0, .int .i64 0, .int .i64 0, .int .i64 0] 32 (0, 0)) := by rw [hw7, (blk_set (blk_set (blk_set (blk_set (blk_set (blk_set (blk_set (blk_set (blk_set Hr1.out _ _) _ _) _ _) _ _) _ _) _ _) _ _) _ _) _ _)]; rfl
        have hch7 : Chg (fun b => b = w.heap.size) w1 w7 := by rw [hw7]; exact ((((((((((Chg.refl (fun b => b = w.heap.size) w1).setCell (by exact .inl rfl) _).setCell (by exact .inl rfl) _).setCell (by exact .inl rfl) _).setCell (by exact .inl rfl) _).setCell (by exact .inl rfl) _).setCell (by exact .inl rfl) _).setCell (by exact .inl rfl) _).setCell (by exact .inl rfl) _).setCell (by exact .inl rfl) _)
        clear hw7
        have hld := rep_load w7 w.heap.size _ hr7 rfl
        refine bodyPost_ret (v := .tuple #[.agg #[.slice none 0 0, .slice none 0 0, .int .i64 0, .int .i64 0, .int .i64 0, .int .i64 0, .int .i64 0, .int .i64 0, .int .i64 0], .int .i64 10]) (by simp [results, Tryz.results13 , Sem.run_bind, Sem.run_pure, asAddr, hld]) rfl ?_
        have hall : Chg (fun b => w.heap.size ≤ b) w w7 := ((Chg.of_below Hga.out).trans (Chg.of_below Hb1.out)).trans (hch7.mono (fun b _ h => by have h9 : b = w.heap.size := h; omega))
        exact ⟨none, 0, 0, none, 0, 0, _, rfl, hall.below (fun b h => h) (Nat.le_refl _), .inl ⟨by decide, rfl, rfl, rfl, rfl, rfl, rfl, rfl⟩⟩
    · obtain ⟨sz, rfl⟩ : ∃ sz : Nat, size = (sz : Int) := ⟨size.toNat, by omega⟩
      have her : cellsN n sz calls picks.length = 0 := by unfold cellsN; rw [← Hck.out, hc0, if_neg (by simp), if_neg hsz]
      rw [her]
      have hs1 : 1 ≤ sz := by omega
      have hs64 : sz ≤ 64 := by omega
      have hs0 : ¬ (sz : Int) < 1 := by omega
      have hs2 : ¬ 64 < (sz : Int) := by omega
      simp only [Int.toNat_natCast]
      have P := Lib.hid (fun (w1 : World) (hb1 : Below wa.heap.size wa w1) (u : World) (bo bw : Nat) (hu : Below w1.heap.size w1 u) (h1 : u.cell? ⟨bo, 0, none⟩ = some (.iface 95 (.agg #[.int .i64 0, .int .i64 (sz : Int)]))) (h2 : u.heap[bw]? = some (.cells (madeCells #[.int .u64 0] sz) 46 (0, 0))) (hbo : w1.heap.size ≤ bo) =>
        (play_any (X := fun b => X b ∨ b = w.heap.size) (R := cellsR sz) (cells_ok sz hs1 hs64) once_nolate (Nat.zero_le _) u () n calls (List.replicate sz 0) picks (.slice (some ⟨bo, 0, none⟩) 1 1) (.slice ca calls.length cc) (.slice (some ⟨bw, 0, none⟩) (List.replicate sz 0).length sz) pa pc
          ⟨⟨ca, cc, rfl, Hc.out.sl.grown (Gr.trans Hga.out (Gr.trans hb1 hu)), fun hl b off e hx => by
            rcases hx with hx | hx
            · exact Hc.out.nx hl b off e hx
            · obtain ⟨b0, off0, e0, hb0⟩ := Hc.out.sl.lt hl
              rw [e0] at e; cases e; omega⟩, Hc.out.ok, ⟨bo, 0, 1, rfl, h1, fun hx => by have := hb1.size; rcases hx with hx | hx; have := HX.out bo hx; omega; omega⟩, ⟨_, sz, rfl, zeros_sl h2 hs64, fun e => by cases e⟩, by rw [List.length_replicate]; omega, fun x hx => by rw [(List.mem_replicate.1 hx).2]; omega, fun b hb => hb, fun _ _ => trivial, trivial, fun b hx => by have := hu.size; have := hb1.size; rcases hx with hx | hx; have := HX.out b hx; omega; omega⟩ (Hp.out.sl.grown (Gr.trans Hga.out (Gr.trans hb1 hu))) Hp.out.ok (fun _ _ _ _ _ => safe_of (fun _ _ _ _ => trivial) _ _ _)).mono (fun e w' h => (⟨PlayTo.ret h, Gr.trans hb1 hu⟩ : PlayRet (fun b => X b ∨ b = w.heap.size) u w' (checkN n calls picks.length) (playD (cellsS sz) () (List.replicate sz 0) calls picks) e ∧ Below wa.heap.size wa u)))
      have N := Lib.hid newCells_any
      have hmk := make_size sz hs64
      obtain ⟨rr, hrr⟩ : ∃ rr, rr = playD (cellsS sz) () (List.replicate sz 0) calls picks := ⟨_, rfl⟩
      rw [← Hck.out, hc0, ← hrr] at P
      rw [← hrr]
      simp only [List.length_replicate] at P
      subst hc0
      clear hrr her hsz
      go_enter Tryz.func13, Tryz.ntmps13
      go_wp2_with fail
      rw [← Hwa.out]
      refine C.out.mono ?_
      rintro e w1 ⟨rfl, hb1⟩
      replace P := Lib.hid (P.out w1 hb1)
      have Hb1 := Lib.hid hb1
      clear hb1
      go_wp2_with fail
      go_region_held3 (fun u => True)
        (exact True.intro)
        (first | (go_at_call 33; refine (N.out _ _).mono ?_; rintro e w2 ⟨rfl, rfl⟩) | (go_at_call 32; refine (P.out _ _ _ ?_ ?_ ?_ ?_).mono ?_; (first | with_reducible exact Gr.alloc (Gr.alloc (Gr.refl _).drew _) _ | with_reducible exact (Gr.alloc (Gr.alloc (Gr.refl _) _) _).drew | with_reducible exact Gr.alloc (Gr.alloc (Gr.refl _) _).drew _); (first | with_reducible exact objs_cell _ _ _ _ | with_reducible exact drew_cell (objs_cell _ _ _ _) | with_reducible exact drew_cell (cell_new2 _ _ _ _ _ (by simp)) | exact cell_new2 _ _ _ _ _ (by simp)); (first | with_reducible exact made_blk1 _ _ _ _ (by simp) | with_reducible exact made_blk2 _ _ _ | with_reducible exact drew_blk (made_blk1 _ _ _ _ (by simp)) | with_reducible exact drew_blk (made_blk2 _ _ _)); (simp); rintro e w4 ⟨⟨ea, en, ec, va, vn, vc, rp, rfl, hrest⟩, hu⟩; have hr4 := (hrest.1.block w.heap.size (by have := hu.size; omega)).trans ((hu.block w.heap.size (by omega)).trans Hra.out); obtain ⟨cs, w7, hcs, hsz, hst, hbk7, hch7⟩ := rep_store w4 w.heap.size (.slice ea en ec) (.slice va vn vc) rp hr4 rfl rfl; rw [hcs]; have Hcs := Lib.hid hcs; have Hbk7 := Lib.hid hbk7; have Hch7 := Lib.hid hch7; have Hrest := Lib.hid hrest; have Hu := Lib.hid hu; clear hr4 hrest hu hcs hbk7 hch7))
      all_goals
        go_wp2
        have hld := rep_load w7 w.heap.size cs Hbk7.out hsz
        refine bodyPost_ret (v := .tuple #[.agg cs, .int .i64 0]) (by simp [results, Tryz.results13 , Sem.run_bind, Sem.run_pure, asAddr, hld]) rfl ?_
        refine ⟨ea, en, ec, va, vn, vc, rp, by rw [Hcs.out], PlayRest.chg Hrest.out Hch7.out (fun b hb => ?_) (Gr.trans Hga.out Hu.out) (fun b hb => .inl hb)⟩
        have hb' : b = w.heap.size := hb
        exact ⟨.inr hb', by omega, by have := Hu.out.size; omega⟩
  · have her : cellsN n size calls picks.length = ck := by unfold cellsN; rw [← Hck.out, if_pos hc0]
    rw [her]
    have Her0 := Lib.hid hc0
    clear her
    go_enter Tryz.func13, Tryz.ntmps13
    go_wp2_with fail
    rw [← Hwa.out]
    refine C.out.mono ?_
    rintro e w1 ⟨rfl, hb1⟩
    have hr1 := (hb1.block _ (blk_lt Hra.out)).trans Hra.out
    have Hb1 := Lib.hid hb1; have Hr1 := Lib.hid hr1
    have g0 : w1.cell? ⟨w.heap.size, 0, none⟩ = some (.slice none 0 0) := by rw [cell_blk hr1]; rfl
    have gf0 : w1.frozen? ⟨w.heap.size, 0, none⟩ = false := frozen_blk hr1 0
    have g1 : w1.cell? ⟨w.heap.size, 1, none⟩ = some (.slice none 0 0) := by rw [cell_blk hr1]; rfl
    have gf1 : w1.frozen? ⟨w.heap.size, 1, none⟩ = false := frozen_blk hr1 1
    have g2 : w1.cell? ⟨w.heap.size, 2, none⟩ = some (.int .i64 0) := by rw [cell_blk hr1]; rfl
    have gf2 : w1.frozen? ⟨w.heap.size, 2, none⟩ = false := frozen_blk hr1 2
    have g3 : w1.cell? ⟨w.heap.size, 3, none⟩ = some (.int .i64 0) := by rw [cell_blk hr1]; rfl
    have gf3 : w1.frozen? ⟨w.heap.size, 3, none⟩ = false := frozen_blk hr1 3
    have g4 : w1.cell? ⟨w.heap.size, 4, none⟩ = some (.int .i64 0) := by rw [cell_blk hr1]; rfl
    have gf4 : w1.frozen? ⟨w.heap.size, 4, none⟩ = false := frozen_blk hr1 4
    have g5 : w1.cell? ⟨w.heap.size, 5, none⟩ = some (.int .i64 0) := by rw [cell_blk hr1]; rfl
    have gf5 : w1.frozen? ⟨w.heap.size, 5, none⟩ = false := frozen_blk hr1 5
    have g6 : w1.cell? ⟨w.heap.size, 6, none⟩ = some (.int .i64 0) := by rw [cell_blk hr1]; rfl
    have gf6 : w1.frozen? ⟨w.heap.size, 6, none⟩ = false := frozen_blk hr1 6
    have g7 : w1.cell? ⟨w.heap.size, 7, none⟩ = some (.int .i64 0) := by rw [cell_blk hr1]; rfl
    have gf7 : w1.frozen? ⟨w.heap.size, 7, none⟩ = false := frozen_blk hr1 7
    have g8 : w1.cell? ⟨w.heap.size, 8, none⟩ = some (.int .i64 0) := by rw [cell_blk hr1]; rfl
    have gf8 : w1.frozen? ⟨w.heap.size, 8, none⟩ = false := frozen_blk hr1 8
    clear hr1 hb1
    go_wp2
    obtain ⟨w7, hw7⟩ : ∃ w7, w7 = (((((((((w1.setCell ⟨w.heap.size, 0, none⟩ (.slice none 0 0)).setCell ⟨w.heap.size, 1, none⟩ (.slice none 0 0)).setCell ⟨w.heap.size, 2, none⟩ (.int .i64 0)).setCell ⟨w.heap.size, 3, none⟩ (.int .i64 0)).setCell ⟨w.heap.size, 4, none⟩ (.int .i64 0)).setCell ⟨w.heap.size, 5, none⟩ (.int .i64 0)).setCell ⟨w.heap.size, 6, none⟩ (.int .i64 0)).setCell ⟨w.heap.size, 7, none⟩ (.int .i64 0)).setCell ⟨w.heap.size, 8, none⟩ (.int .i64 0)) := ⟨_, rfl⟩
    rw [← hw7]
    have hr7 : w7.heap[w.heap.size]? = some (.cells #[.slice none 0 0, .slice none 0 0, .int .i64 0, .int .i64 0, .int .i64 0, .int .i64 0, .int .i64 0, .int .i64 0, .int .i64 0] 32 (0, 0)) := by rw [hw7, (blk_set (blk_set (blk_set (blk_set (blk_set (blk_set (blk_set (blk_set (blk_set Hr1.out _ _) _ _) _ _) _ _) _ _) _ _) _ _) _ _) _ _)]; rfl
    have hch7 : Chg (fun b => b = w.heap.size) w1 w7 := by rw [hw7]; exact ((((((((((Chg.refl (fun b => b = w.heap.size) w1).setCell (by exact .inl rfl) _).setCell (by exact .inl rfl) _).setCell (by exact .inl rfl) _).setCell (by exact .inl rfl) _).setCell (by exact .inl rfl) _).setCell (by exact .inl rfl) _).setCell (by exact .inl rfl) _).setCell (by exact .inl rfl) _).setCell (by exact .inl rfl) _)
    clear hw7
    have hld := rep_load w7 w.heap.size _ hr7 rfl
    refine bodyPost_ret (v := .tuple #[.agg #[.slice none 0 0, .slice none 0 0, .int .i64 0, .int .i64 0, .int .i64 0, .int .i64 0, .int .i64 0, .int .i64 0, .int .i64 0], .int .i64 ck]) (by simp [results, Tryz.results13 , Sem.run_bind, Sem.run_pure, asAddr, hld]) rfl ?_
    have hall : Chg (fun b => w.heap.size ≤ b) w w7 := ((Chg.of_below Hga.out).trans (Chg.of_below Hb1.out)).trans (hch7.mono (fun b _ h => by have h9 : b = w.heap.size := h; omega))
    exact ⟨none, 0, 0, none, 0, 0, _, rfl, hall.below (fun b h => h) (Nat.le_refl _), .inl ⟨Her0.out, rfl, rfl, rfl, rfl, rfl, rfl, rfl⟩⟩
end
section

/- Layer 6: the rows of a report (6.3), in plain numbers. -/
open Go.RowKit
def Within (k : List Int) (inv resp : Nat) : Prop := k ≠ [] ∧ 2 * (inv : Int) ≤ k.headD 0 ∧ k.headD 0 ≤ 2 * (resp : Int)
structure KeySys (S : Sys) : Prop where
  now : ∀ o wd p s, (S.step o wd p s).2.1.now = wd.now
  mlen : ∀ o wd p s, (S.step o wd p s).2.1.marks.length = wd.marks.length
  mark : ∀ o wd p s q, (S.step o wd p s).2.1.marks.getD q [] = wd.marks.getD q [] ∨ ∃ rest, (S.step o wd p s).2.1.marks.getD q [] = 2 * (wd.now : Int) :: rest
  ans : ∀ s, (S.answer s).2 = []
  late : ∀ o wd p s, S.late o wd p s = none
structure KeyInv {S : Sys} (calls : List CallD) (st : PlayD S) : Prop where
  good : StGood calls st
  m16 : st.wd.marks.length = 16
  keys : ∀ i, i < st.evs.length → (evAt st.evs i).resp ≠ 0 → Within (evAt st.evs i).key (evAt st.evs i).inv (evAt st.evs i).resp
  none_ : ∀ i, i < st.evs.length → (evAt st.evs i).resp = 0 → (evAt st.evs i).key = []
  marks : ∀ p k, hndOf st.hands p = some k → st.wd.marks.getD p [] = [] ∨ Within (st.wd.marks.getD p []) (evAt st.evs k).inv st.wd.now
variable {S : Sys}
theorem Within.more {k : List Int} {inv a b : Nat} (h : Within k inv a) (hab : a ≤ b) : Within k inv b := ⟨h.1, h.2.1, by have := h.2.2; omega⟩
end
section

/- Layer 6: a report's rows, in plain numbers: what roundelayplain.Rows asks for. -/
open Go.RowKit
variable {S : Sys}
structure RowGood (calls : List CallD) (n : Nat) (ticks : Nat) (e : EvD) : Prop where
  call : e.call < calls.length
  thr : 0 ≤ (calls.getD e.call d0).thread ∧ (calls.getD e.call d0).thread < n
  inv1 : 1 ≤ e.inv
  invt : e.inv ≤ ticks
  steps : 1 ≤ e.steps
  resp : e.resp ≠ 0 → e.inv ≤ e.resp ∧ e.resp ≤ ticks ∧ e.steps ≤ e.resp - e.inv + 1 ∧ Within e.key e.inv e.resp
  open_ : e.resp = 0 → e.key = [] ∨ Within e.key e.inv ticks
structure RowsGood (calls : List CallD) (n : Nat) (r : RepD) : Prop where
  n1 : 1 ≤ n
  n16 : n ≤ 16
  ev : ∀ i, i < r.evs.length → RowGood calls n r.ticks (evAt r.evs i)
  rise : ∀ i j, i < j → j < r.evs.length → (evAt r.evs i).inv < (evAt r.evs j).inv
  same : ∀ i j, i < j → j < r.evs.length → tn calls (evAt r.evs i) = tn calls (evAt r.evs j) → (evAt r.evs i).resp ≠ 0 ∧ (evAt r.evs i).resp < (evAt r.evs j).inv ∧ (evAt r.evs i).call < (evAt r.evs j).call
  sum : (r.evs.map (·.steps)).sum = r.ticks
  fault : r.c.fault = 0
  all : r.c.read + r.c.write + r.c.swap + r.c.add ≤ r.ticks
  small : r.ticks < 1000000
structure KeysFit (st : PlayD S) : Prop where
  keys : ∀ i, i < st.evs.length → (evAt st.evs i).resp ≠ 0 → Within (evAt st.evs i).key (evAt st.evs i).inv (evAt st.evs i).resp
  late : ∀ p s k, st.hands.getD p (none, 0) = (some s, k) → (S.late st.obj st.wd p s).getD (st.wd.marks.getD p []) = [] ∨ Within ((S.late st.obj st.wd p s).getD (st.wd.marks.getD p [])) (evAt st.evs k).inv st.wd.now
end
section

/- Counting events of a play, in plain numbers. -/
open Go.RowKit
def cnt (P : EvD → Bool) (l : List EvD) : Nat := (l.map fun e => if P e then 1 else 0).sum
theorem cnt_nil (P : EvD → Bool) : cnt P [] = 0 := rfl
theorem cnt_cons (P : EvD → Bool) (e : EvD) (l : List EvD) : cnt P (e :: l) = (if P e then 1 else 0) + cnt P l := rfl
theorem cnt_append (P : EvD → Bool) (l m : List EvD) : cnt P (l ++ m) = cnt P l + cnt P m := by unfold cnt; rw [List.map_append, List.sum_append]
theorem cnt_set (P : EvD → Bool) (l : List EvD) (k : Nat) (e : EvD) (hk : k < l.length) : cnt P (l.set k e) + (if P (evAt l k) then 1 else 0) = cnt P l + (if P e then 1 else 0) := sum_map_set _ l k e hk
variable {S : Sys}
theorem From.cnt {calls : List CallD} {st : PlayD S} {q i k : Nat} {s : S.σ} {evs0 : List EvD} {wd0 : WD} (h : From calls st q i k s evs0 wd0) {P : EvD → Bool} (hP : ∀ e, e.resp = 0 → P e = false) (e : EvD) : cnt P (evs0.set k e) = cnt P st.evs + (if P e then 1 else 0) := by
  have h1 := cnt_set P evs0 k e h.len
  rw [hP _ h.open_] at h1
  have h2 : Go.Proofs.YteffgpcjfnjlkaaGreat.cnt P evs0 = Go.Proofs.YteffgpcjfnjlkaaGreat.cnt P st.evs := by
    cases h with
    | old k s hh hk hc hr => rfl
    | new s hh hs => rw [cnt_append, cnt_cons, hP _ rfl, cnt_nil]; simp
  rw [h2] at h1
  simpa using h1
end
end Go.Proofs.YteffgpcjfnjlkaaGreat
