/- Layer 6: loom.Cells. -/
import Derived.Test.YtjkgfkbanbhkgaaJ26
import Derived.Test.YtjkgfkbanbhkgaaJ19
import Derived.Test.YtjkgfkbanbhkgaaJ22
import Derived.Test.YtjkgfkbanbhkgaaJ05
set_option maxRecDepth 100000
set_option linter.unusedVariables false
set_option linter.unusedSimpArgs false
set_option linter.unnecessarySimpa false
namespace Go.Proofs.Ytjkgfkbanbhkgaa
section
open Go.RowKit

theorem newCells_any (w : World) (size : Nat) : Calls Try.prog 45 #[.int .i64 0, .int .i64 (size : Int)] w fun e w' => e = .returned (.iface 116 (.agg #[.int .i64 0, .int .i64 (size : Int)])) ∧ w = w' := by
  go_enter Try.func45, Try.ntmps45
  go_wp2
  go_ret
  exact ⟨rfl, rfl⟩
theorem make_size (size : Nat) (h64 : size ≤ 64) (u : World) : (Instr.makeSlice 28 (.int .i64 (size : Int)) (.int .i64 (size : Int))).run Try.prog u = .ok (.slice (some ⟨u.heap.size, 0, none⟩) size size) (u.alloc (.cells (madeCells #[.int .u64 0] size) 46)) := by
  obtain ⟨i0, hi, hz0, hz1, hz2⟩ := info_parts u64_info'
  have h := run_make (P := Try.prog) u 28 46 i0 (.int .u64 0) Try.underlying28 hi hz0 .i64 .i64 (size : Int) (size : Int) (by omega) (Int.le_refl _) (by rw [hz2]; omega) (by omega)
  simpa [hz1, Value.cells] using h
theorem zeros_sl {u : World} {b size : Nat} (h : u.heap[b]? = some (.cells (madeCells #[.int .u64 0] size) 46 (0, 0))) (h64 : size ≤ 64) : SlAt u (some ⟨b, 0, none⟩) (List.replicate size 0).length 1 (u64G (List.replicate size 0)) := by
  refine ⟨by rw [List.length_replicate]; unfold maxLen; omega, fun j hj => ⟨b, 0, rfl, blk_lt h, fun f hf => ?_⟩⟩
  obtain rfl : f = 0 := by omega
  rw [List.length_replicate] at hj
  rw [cell_blk h, madeCells_one]
  simp [u64G, u64V, List.getD_eq_getElem?_getD, List.getElem?_replicate, hj]
theorem made_blk1 (u : World) (o : Obj) (size b : Nat) (hb : b = u.heap.size + 1) : ((u.alloc o).alloc (.cells (madeCells #[.int .u64 0] size) 46)).heap[b]? = some (.cells (madeCells #[.int .u64 0] size) 46 (0, 0)) := by
  have := heap_alloc_new (u.alloc o) (.cells (madeCells #[.int .u64 0] size) 46 (0, 0))
  simp only [World.size_alloc] at this
  rw [hb, this]
theorem made_blk2 (u : World) (o : Obj) (size : Nat) : ((u.alloc (.cells (madeCells #[.int .u64 0] size) 46)).alloc o).heap[u.heap.size]? = some (.cells (madeCells #[.int .u64 0] size) 46 (0, 0)) := by
  rw [Below.heap_alloc _ _ _ (by simp), heap_alloc_new]

theorem drew_cell {u : World} {p : Addr} {x : Option Value} (h : u.cell? p = x) : u.drew.cell? p = x := h
theorem drew_blk {u : World} {b : Nat} {x : Option (Obj)} (h : u.heap[b]? = x) : u.drew.heap[b]? = x := h

/-- Why calls on cells are not played. -/
def cellsN (n size : Int) (calls : List CallD) (np : Nat) : Int := if checkN n calls np ≠ 0 then checkN n calls np else if size < 1 ∨ 64 < size then 10 else 0

set_option maxHeartbeats 4000000 in
theorem cellsPlay_any (X : Nat → Prop) (w : World) (n size : Int) (calls : List CallD) (picks : List Int) (ca pa : Option Addr) (cc pc : Nat) (hX : ∀ b, X b → b < w.heap.size) (hc : CallsAt X w ca calls) (hp : PicksAt w pa picks) :
    Calls Try.prog 17 #[.int .i64 n, .int .i64 size, .slice ca calls.length cc, .slice pa picks.length pc] w fun e w' => PlayRet X w w' (cellsN n size calls picks.length) (playD (cellsS size.toNat) () (List.replicate size.toNat 0) calls picks) e := by
  obtain ⟨wa, hwa⟩ : ∃ wa, wa = w.alloc (.cells #[.slice none 0 0, .slice none 0 0, .int .i64 0, .int .i64 0, .int .i64 0, .int .i64 0, .int .i64 0, .int .i64 0, .int .i64 0] 32) := ⟨_, rfl⟩
  have hga : Below w.heap.size w wa := by rw [hwa]; exact Gr.new _ _
  have hra : wa.heap[w.heap.size]? = some (.cells #[.slice none 0 0, .slice none 0 0, .int .i64 0, .int .i64 0, .int .i64 0, .int .i64 0, .int .i64 0, .int .i64 0, .int .i64 0] 32 (0, 0)) := by rw [hwa]; exact heap_alloc_new _ _
  have hsa : w.heap.size < wa.heap.size := by rw [hwa]; simp
  have C := Lib.hid (check_any n calls picks.length ca pa cc pc wa (hc.sl.grown hga) hp.sl.1 (fun x hx => (hc.ok x hx).thread))
  have Hc := Lib.hid hc; have Hp := Lib.hid hp; have HX := Lib.hid hX
  have Hwa := Lib.hid hwa; have Hga := Lib.hid hga; have Hra := Lib.hid hra
  have hpl := hp.sl.1
  unfold maxLen at hpl
  clear hc hp hX hwa hga hra
  obtain ⟨ck, hck⟩ : ∃ ck, ck = checkN n calls picks.length := ⟨_, rfl⟩
  rw [← hck] at C
  have Hck := Lib.hid hck
  clear hck
  by_cases hc0 : ck = 0
  · by_cases hsz : size < 1 ∨ 64 < size
    · have her : cellsN n size calls picks.length = 10 := by unfold cellsN; rw [← Hck.out, hc0, if_neg (by simp), if_pos hsz]
      rw [her]
      subst hc0
      have Her := Lib.hid her
      clear her
      have sz : size < 1 ∨ ¬ size < 1 ∧ 64 < size := by omega
      clear hsz
      rcases sz with s1 | ⟨s1, s2⟩
      all_goals
        go_enter Try.func17, Try.ntmps17
        go_wp2_with fail
        rw [← Hwa.out]
        refine C.out.mono ?_
        rintro e w1 ⟨rfl, hb1⟩
        have hr1 := (hb1.block _ (blk_lt Hra.out)).trans Hra.out
        have Hb1 := Lib.hid hb1; have Hr1 := Lib.hid hr1
        have g0 : w1.cell? ⟨w.heap.size, 0, none⟩ = some (.slice none 0 0) := by rw [cell_blk hr1]; rfl
        have gf0 : w1.frozen? ⟨w.heap.size, 0, none⟩ = false := frozen_blk hr1 0
        have g1 : w1.cell? ⟨w.heap.size, 1, none⟩ = some (.slice none 0 0) := by rw [cell_blk hr1]; rfl
        have gf1 : w1.frozen? ⟨w.heap.size, 1, none⟩ = false := frozen_blk hr1 1
        have g2 : w1.cell? ⟨w.heap.size, 2, none⟩ = some (.int .i64 0) := by rw [cell_blk hr1]; rfl
        have gf2 : w1.frozen? ⟨w.heap.size, 2, none⟩ = false := frozen_blk hr1 2
        have g3 : w1.cell? ⟨w.heap.size, 3, none⟩ = some (.int .i64 0) := by rw [cell_blk hr1]; rfl
        have gf3 : w1.frozen? ⟨w.heap.size, 3, none⟩ = false := frozen_blk hr1 3
        have g4 : w1.cell? ⟨w.heap.size, 4, none⟩ = some (.int .i64 0) := by rw [cell_blk hr1]; rfl
        have gf4 : w1.frozen? ⟨w.heap.size, 4, none⟩ = false := frozen_blk hr1 4
        have g5 : w1.cell? ⟨w.heap.size, 5, none⟩ = some (.int .i64 0) := by rw [cell_blk hr1]; rfl
        have gf5 : w1.frozen? ⟨w.heap.size, 5, none⟩ = false := frozen_blk hr1 5
        have g6 : w1.cell? ⟨w.heap.size, 6, none⟩ = some (.int .i64 0) := by rw [cell_blk hr1]; rfl
        have gf6 : w1.frozen? ⟨w.heap.size, 6, none⟩ = false := frozen_blk hr1 6
        have g7 : w1.cell? ⟨w.heap.size, 7, none⟩ = some (.int .i64 0) := by rw [cell_blk hr1]; rfl
        have gf7 : w1.frozen? ⟨w.heap.size, 7, none⟩ = false := frozen_blk hr1 7
        have g8 : w1.cell? ⟨w.heap.size, 8, none⟩ = some (.int .i64 0) := by rw [cell_blk hr1]; rfl
        have gf8 : w1.frozen? ⟨w.heap.size, 8, none⟩ = false := frozen_blk hr1 8
        clear hr1 hb1
        go_wp2
        obtain ⟨w7, hw7⟩ : ∃ w7, w7 = (((((((((w1.setCell ⟨w.heap.size, 0, none⟩ (.slice none 0 0)).setCell ⟨w.heap.size, 1, none⟩ (.slice none 0 0)).setCell ⟨w.heap.size, 2, none⟩ (.int .i64 0)).setCell ⟨w.heap.size, 3, none⟩ (.int .i64 0)).setCell ⟨w.heap.size, 4, none⟩ (.int .i64 0)).setCell ⟨w.heap.size, 5, none⟩ (.int .i64 0)).setCell ⟨w.heap.size, 6, none⟩ (.int .i64 0)).setCell ⟨w.heap.size, 7, none⟩ (.int .i64 0)).setCell ⟨w.heap.size, 8, none⟩ (.int .i64 0)) := ⟨_, rfl⟩
        rw [← hw7]
        have hr7 : w7.heap[w.heap.size]? = some (.cells #[.slice none 0 0, .slice none 0 0, .int .i64 0, .int .i64 0, .int .i64 0, .int .i64 0, .int .i64 0, .int .i64 0, .int .i64 0] 32 (0, 0)) := by rw [hw7, (blk_set (blk_set (blk_set (blk_set (blk_set (blk_set (blk_set (blk_set (blk_set Hr1.out _ _) _ _) _ _) _ _) _ _) _ _) _ _) _ _) _ _)]; rfl
        have hch7 : Chg (fun b => b = w.heap.size) w1 w7 := by rw [hw7]; exact ((((((((((Chg.refl (fun b => b = w.heap.size) w1).setCell (by exact .inl rfl) _).setCell (by exact .inl rfl) _).setCell (by exact .inl rfl) _).setCell (by exact .inl rfl) _).setCell (by exact .inl rfl) _).setCell (by exact .inl rfl) _).setCell (by exact .inl rfl) _).setCell (by exact .inl rfl) _).setCell (by exact .inl rfl) _)
        clear hw7
        have hld := rep_load w7 w.heap.size _ hr7 rfl
        refine bodyPost_ret (v := .tuple #[.agg #[.slice none 0 0, .slice none 0 0, .int .i64 0, .int .i64 0, .int .i64 0, .int .i64 0, .int .i64 0, .int .i64 0, .int .i64 0], .int .i64 10]) (by simp [results, Try.results17 , Sem.run_bind, Sem.run_pure, asAddr, hld]) rfl ?_
        have hall : Chg (fun b => w.heap.size ≤ b) w w7 := ((Chg.of_below Hga.out).trans (Chg.of_below Hb1.out)).trans (hch7.mono (fun b _ h => by have h9 : b = w.heap.size := h; omega))
        exact ⟨none, 0, 0, none, 0, 0, _, rfl, hall.below (fun b h => h) (Nat.le_refl _), .inl ⟨by decide, rfl, rfl, rfl, rfl, rfl, rfl, rfl⟩⟩
    · obtain ⟨sz, rfl⟩ : ∃ sz : Nat, size = (sz : Int) := ⟨size.toNat, by omega⟩
      have her : cellsN n sz calls picks.length = 0 := by unfold cellsN; rw [← Hck.out, hc0, if_neg (by simp), if_neg hsz]
      rw [her]
      have hs1 : 1 ≤ sz := by omega
      have hs64 : sz ≤ 64 := by omega
      have hs0 : ¬ (sz : Int) < 1 := by omega
      have hs2 : ¬ 64 < (sz : Int) := by omega
      simp only [Int.toNat_natCast]
      have P := Lib.hid (fun (w1 : World) (hb1 : Below wa.heap.size wa w1) (u : World) (bo bw : Nat) (hu : Below w1.heap.size w1 u) (h1 : u.cell? ⟨bo, 0, none⟩ = some (.iface 116 (.agg #[.int .i64 0, .int .i64 (sz : Int)]))) (h2 : u.heap[bw]? = some (.cells (madeCells #[.int .u64 0] sz) 46 (0, 0))) (hbo : w1.heap.size ≤ bo) =>
        (play_any (X := fun b => X b ∨ b = w.heap.size) (R := cellsR sz) (cells_ok sz hs1 hs64) once_nolate (Nat.zero_le _) u () n calls (List.replicate sz 0) picks (.slice (some ⟨bo, 0, none⟩) 1 1) (.slice ca calls.length cc) (.slice (some ⟨bw, 0, none⟩) (List.replicate sz 0).length sz) pa pc
          ⟨⟨ca, cc, rfl, Hc.out.sl.grown (Gr.trans Hga.out (Gr.trans hb1 hu)), fun hl b off e hx => by
            rcases hx with hx | hx
            · exact Hc.out.nx hl b off e hx
            · obtain ⟨b0, off0, e0, hb0⟩ := Hc.out.sl.lt hl
              rw [e0] at e; cases e; omega⟩, Hc.out.ok, ⟨bo, 0, 1, rfl, h1, fun hx => by have := hb1.size; rcases hx with hx | hx; have := HX.out bo hx; omega; omega⟩, ⟨_, sz, rfl, zeros_sl h2 hs64, fun e => by cases e⟩, by rw [List.length_replicate]; omega, fun x hx => by rw [(List.mem_replicate.1 hx).2]; omega, fun b hb => hb, fun _ _ => trivial, trivial, fun b hx => by have := hu.size; have := hb1.size; rcases hx with hx | hx; have := HX.out b hx; omega; omega⟩ (Hp.out.sl.grown (Gr.trans Hga.out (Gr.trans hb1 hu))) Hp.out.ok (fun _ _ _ _ _ => safe_of (fun _ _ _ _ => trivial) _ _ _)).mono (fun e w' h => (⟨PlayTo.ret h, Gr.trans hb1 hu⟩ : PlayRet (fun b => X b ∨ b = w.heap.size) u w' (checkN n calls picks.length) (playD (cellsS sz) () (List.replicate sz 0) calls picks) e ∧ Below wa.heap.size wa u)))
      have N := Lib.hid newCells_any
      have hmk := make_size sz hs64
      obtain ⟨rr, hrr⟩ : ∃ rr, rr = playD (cellsS sz) () (List.replicate sz 0) calls picks := ⟨_, rfl⟩
      rw [← Hck.out, hc0, ← hrr] at P
      rw [← hrr]
      simp only [List.length_replicate] at P
      subst hc0
      clear hrr her hsz
      go_enter Try.func17, Try.ntmps17
      go_wp2_with fail
      rw [← Hwa.out]
      refine C.out.mono ?_
      rintro e w1 ⟨rfl, hb1⟩
      replace P := Lib.hid (P.out w1 hb1)
      have Hb1 := Lib.hid hb1
      clear hb1
      go_wp2_with fail
      go_region_held3 (fun u => True)
        (exact True.intro)
        (first | (go_at_call 45; refine (N.out _ _).mono ?_; rintro e w2 ⟨rfl, rfl⟩) | (go_at_call 44; refine (P.out _ _ _ ?_ ?_ ?_ ?_).mono ?_; (first | with_reducible exact Gr.alloc (Gr.alloc (Gr.refl _).drew _) _ | with_reducible exact (Gr.alloc (Gr.alloc (Gr.refl _) _) _).drew | with_reducible exact Gr.alloc (Gr.alloc (Gr.refl _) _).drew _); (first | with_reducible exact objs_cell _ _ _ _ | with_reducible exact drew_cell (objs_cell _ _ _ _) | with_reducible exact drew_cell (cell_new2 _ _ _ _ _ (by simp)) | exact cell_new2 _ _ _ _ _ (by simp)); (first | with_reducible exact made_blk1 _ _ _ _ (by simp) | with_reducible exact made_blk2 _ _ _ | with_reducible exact drew_blk (made_blk1 _ _ _ _ (by simp)) | with_reducible exact drew_blk (made_blk2 _ _ _)); (simp); rintro e w4 ⟨⟨ea, en, ec, va, vn, vc, rp, rfl, hrest⟩, hu⟩; have hr4 := (hrest.1.block w.heap.size (by have := hu.size; omega)).trans ((hu.block w.heap.size (by omega)).trans Hra.out); obtain ⟨cs, w7, hcs, hsz, hst, hbk7, hch7⟩ := rep_store w4 w.heap.size (.slice ea en ec) (.slice va vn vc) rp hr4 rfl rfl; rw [hcs]; have Hcs := Lib.hid hcs; have Hbk7 := Lib.hid hbk7; have Hch7 := Lib.hid hch7; have Hrest := Lib.hid hrest; have Hu := Lib.hid hu; clear hr4 hrest hu hcs hbk7 hch7))
      all_goals
        go_wp2
        have hld := rep_load w7 w.heap.size cs Hbk7.out hsz
        refine bodyPost_ret (v := .tuple #[.agg cs, .int .i64 0]) (by simp [results, Try.results17 , Sem.run_bind, Sem.run_pure, asAddr, hld]) rfl ?_
        refine ⟨ea, en, ec, va, vn, vc, rp, by rw [Hcs.out], PlayRest.chg Hrest.out Hch7.out (fun b hb => ?_) (Gr.trans Hga.out Hu.out) (fun b hb => .inl hb)⟩
        have hb' : b = w.heap.size := hb
        exact ⟨.inr hb', by omega, by have := Hu.out.size; omega⟩
  · have her : cellsN n size calls picks.length = ck := by unfold cellsN; rw [← Hck.out, if_pos hc0]
    rw [her]
    have Her0 := Lib.hid hc0
    clear her
    go_enter Try.func17, Try.ntmps17
    go_wp2_with fail
    rw [← Hwa.out]
    refine C.out.mono ?_
    rintro e w1 ⟨rfl, hb1⟩
    have hr1 := (hb1.block _ (blk_lt Hra.out)).trans Hra.out
    have Hb1 := Lib.hid hb1; have Hr1 := Lib.hid hr1
    have g0 : w1.cell? ⟨w.heap.size, 0, none⟩ = some (.slice none 0 0) := by rw [cell_blk hr1]; rfl
    have gf0 : w1.frozen? ⟨w.heap.size, 0, none⟩ = false := frozen_blk hr1 0
    have g1 : w1.cell? ⟨w.heap.size, 1, none⟩ = some (.slice none 0 0) := by rw [cell_blk hr1]; rfl
    have gf1 : w1.frozen? ⟨w.heap.size, 1, none⟩ = false := frozen_blk hr1 1
    have g2 : w1.cell? ⟨w.heap.size, 2, none⟩ = some (.int .i64 0) := by rw [cell_blk hr1]; rfl
    have gf2 : w1.frozen? ⟨w.heap.size, 2, none⟩ = false := frozen_blk hr1 2
    have g3 : w1.cell? ⟨w.heap.size, 3, none⟩ = some (.int .i64 0) := by rw [cell_blk hr1]; rfl
    have gf3 : w1.frozen? ⟨w.heap.size, 3, none⟩ = false := frozen_blk hr1 3
    have g4 : w1.cell? ⟨w.heap.size, 4, none⟩ = some (.int .i64 0) := by rw [cell_blk hr1]; rfl
    have gf4 : w1.frozen? ⟨w.heap.size, 4, none⟩ = false := frozen_blk hr1 4
    have g5 : w1.cell? ⟨w.heap.size, 5, none⟩ = some (.int .i64 0) := by rw [cell_blk hr1]; rfl
    have gf5 : w1.frozen? ⟨w.heap.size, 5, none⟩ = false := frozen_blk hr1 5
    have g6 : w1.cell? ⟨w.heap.size, 6, none⟩ = some (.int .i64 0) := by rw [cell_blk hr1]; rfl
    have gf6 : w1.frozen? ⟨w.heap.size, 6, none⟩ = false := frozen_blk hr1 6
    have g7 : w1.cell? ⟨w.heap.size, 7, none⟩ = some (.int .i64 0) := by rw [cell_blk hr1]; rfl
    have gf7 : w1.frozen? ⟨w.heap.size, 7, none⟩ = false := frozen_blk hr1 7
    have g8 : w1.cell? ⟨w.heap.size, 8, none⟩ = some (.int .i64 0) := by rw [cell_blk hr1]; rfl
    have gf8 : w1.frozen? ⟨w.heap.size, 8, none⟩ = false := frozen_blk hr1 8
    clear hr1 hb1
    go_wp2
    obtain ⟨w7, hw7⟩ : ∃ w7, w7 = (((((((((w1.setCell ⟨w.heap.size, 0, none⟩ (.slice none 0 0)).setCell ⟨w.heap.size, 1, none⟩ (.slice none 0 0)).setCell ⟨w.heap.size, 2, none⟩ (.int .i64 0)).setCell ⟨w.heap.size, 3, none⟩ (.int .i64 0)).setCell ⟨w.heap.size, 4, none⟩ (.int .i64 0)).setCell ⟨w.heap.size, 5, none⟩ (.int .i64 0)).setCell ⟨w.heap.size, 6, none⟩ (.int .i64 0)).setCell ⟨w.heap.size, 7, none⟩ (.int .i64 0)).setCell ⟨w.heap.size, 8, none⟩ (.int .i64 0)) := ⟨_, rfl⟩
    rw [← hw7]
    have hr7 : w7.heap[w.heap.size]? = some (.cells #[.slice none 0 0, .slice none 0 0, .int .i64 0, .int .i64 0, .int .i64 0, .int .i64 0, .int .i64 0, .int .i64 0, .int .i64 0] 32 (0, 0)) := by rw [hw7, (blk_set (blk_set (blk_set (blk_set (blk_set (blk_set (blk_set (blk_set (blk_set Hr1.out _ _) _ _) _ _) _ _) _ _) _ _) _ _) _ _) _ _)]; rfl
    have hch7 : Chg (fun b => b = w.heap.size) w1 w7 := by rw [hw7]; exact ((((((((((Chg.refl (fun b => b = w.heap.size) w1).setCell (by exact .inl rfl) _).setCell (by exact .inl rfl) _).setCell (by exact .inl rfl) _).setCell (by exact .inl rfl) _).setCell (by exact .inl rfl) _).setCell (by exact .inl rfl) _).setCell (by exact .inl rfl) _).setCell (by exact .inl rfl) _).setCell (by exact .inl rfl) _)
    clear hw7
    have hld := rep_load w7 w.heap.size _ hr7 rfl
    refine bodyPost_ret (v := .tuple #[.agg #[.slice none 0 0, .slice none 0 0, .int .i64 0, .int .i64 0, .int .i64 0, .int .i64 0, .int .i64 0, .int .i64 0, .int .i64 0], .int .i64 ck]) (by simp [results, Try.results17 , Sem.run_bind, Sem.run_pure, asAddr, hld]) rfl ?_
    have hall : Chg (fun b => w.heap.size ≤ b) w w7 := ((Chg.of_below Hga.out).trans (Chg.of_below Hb1.out)).trans (hch7.mono (fun b _ h => by have h9 : b = w.heap.size := h; omega))
    exact ⟨none, 0, 0, none, 0, 0, _, rfl, hall.below (fun b h => h) (Nat.le_refl _), .inl ⟨Her0.out, rfl, rfl, rfl, rfl, rfl, rfl, rfl⟩⟩
end
section

/- Layer 6: two threads that add to a cell. -/
open Go.RowKit

def addsCalls : List CallD := [⟨0, 0, 3, 0, 5, 0⟩, ⟨1, 0, 3, 0, 7, 0⟩]
theorem adds_rep : playD (cellsS 1) () [0] addsCalls [1, 0, 1] = ⟨[⟨1, 1, 1, 1, ⟨0, 0, []⟩, [2]⟩, ⟨0, 2, 2, 1, ⟨0, 7, []⟩, [4]⟩], [12], ⟨0, 0, 0, 2, 0⟩, 2, 1⟩ := by rfl
theorem adds_check : cellsN 2 1 addsCalls 3 = 0 := by rfl

set_option maxHeartbeats 4000000 in
theorem adds_true (w : World) : Calls Try.prog 16 #[] w fun e w' => e = .returned (.bool true) ∧ Below w.heap.size w w' := by
  obtain ⟨wa, hwa⟩ : ∃ wa, wa = (w.alloc (.cells #[.int .i64 0, .int .i64 0, .int .i64 3, .int .u64 0, .int .u64 5, .int .u64 0, .int .i64 1, .int .i64 0, .int .i64 3, .int .u64 0, .int .u64 7, .int .u64 0] 55)).alloc (.cells #[.int .i64 1, .int .i64 0, .int .i64 1] 3) := ⟨_, rfl⟩
  have hga : Below w.heap.size w wa := by rw [hwa]; exact Gr.alloc (Gr.new _ _) _
  have h1 : wa.heap[w.heap.size]? = some (.cells (addsCalls.flatMap callL).toArray 55 (0, 0)) := by rw [hwa, Below.heap_alloc _ _ _ (by simp), heap_alloc_new]; rfl
  have h2 : wa.heap[w.heap.size + 1]? = some (.cells (([1, 0, 1] : List Int).map (Value.int .i64)).toArray 3 (0, 0)) := by
    rw [hwa]
    have := heap_alloc_new (w.alloc (.cells #[.int .i64 0, .int .i64 0, .int .i64 3, .int .u64 0, .int .u64 5, .int .u64 0, .int .i64 1, .int .i64 0, .int .i64 3, .int .u64 0, .int .u64 7, .int .u64 0] 55)) (.cells #[.int .i64 1, .int .i64 0, .int .i64 1] 3 (0, 0))
    simp only [World.size_alloc] at this
    exact this
  have P := cellsPlay_any noB wa 2 1 addsCalls [1, 0, 1] (some ⟨w.heap.size, 0, none⟩) (some ⟨w.heap.size + 1, 0, none⟩) 2 3 (fun b hb => hb.elim) ⟨calls_block h1 (by decide), (by
      intro x hx
      simp only [addsCalls, List.mem_cons, List.not_mem_nil, or_false] at hx
      rcases hx with rfl | rfl <;> exact callOk_small (by decide) (by decide) (by decide) (by decide) (by decide) (by decide) (by decide)), fun _ _ _ _ h => h⟩ ⟨ints_block h2 (by decide), by intro x hx; simp only [List.mem_cons, List.not_mem_nil, or_false] at hx; rcases hx with rfl | rfl | rfl <;> rfl⟩
  rw [show ([1, 0, 1] : List Int).length = 3 from rfl, adds_check, show addsCalls.length = 2 from rfl, show (1 : Int).toNat = 1 from rfl, show List.replicate 1 0 = [0] from rfl, adds_rep] at P
  have HP := Lib.hid P; have Hwa := Lib.hid hwa; have Hga := Lib.hid hga
  clear P h1 h2 hwa hga
  go_enter Try.func16, Try.ntmps16
  go_wp2_with fail
  rw [← Hwa.out]
  refine HP.out.mono ?_
  rintro e w1 ⟨ea, en, ec, va, vn, vc, rp, rfl, hb, hr⟩
  rcases hr with ⟨h0, _⟩ | ⟨_, hrp, hen, hvn, ers, hrep⟩
  · exact absurd rfl h0
  obtain ⟨g, rfl, hg, hev⟩ := hrep.event hen (by rw [hen]; decide)
  obtain ⟨q, rfl, hq, hwd⟩ := hrep.word hvn (by rw [hvn]; decide)
  have hen2 : en = 2 := hen
  have hvn2 : vn = 1 := hvn
  subst hen2 hvn2 hrp
  have c0 : w1.cell? ⟨g, 0, none⟩ = some (.int .i64 1) := hev 0 0 (by omega) (by omega)
  have c5 : w1.cell? ⟨g, 5, none⟩ = some (.int .u64 0) := hev 0 5 (by omega) (by omega)
  have c13 : w1.cell? ⟨g, 13, none⟩ = some (.int .u64 7) := hev 1 5 (by omega) (by omega)
  have d0 : w1.cell? ⟨q, 0, none⟩ = some (.int .u64 12) := hwd 0 (by omega)
  have Hb := Lib.hid hb
  clear hrep hev hwd hb hen hvn
  unfold repV
  go_wp2
  go_ret
  exact ⟨rfl, Gr.trans Hga.out (Gr.trans Hb.out (Gr.new _ _))⟩
end
section

/- What the checkers say of things that are alike. -/
open Go.RowKit

theorem same_eq (xs : List Nat) (a a2 : Option Addr) (c c2 : Nat) (w : World) (hs : SlAt w a xs.length 1 (u64G xs)) (hs2 : SlAt w a2 xs.length 1 (u64G xs)) :
    Calls Try.prog 23 #[.slice a xs.length c, .slice a2 xs.length c2] w fun e w' => e = .returned (.bool true) ∧ Below w.heap.size w w' := by
  have hm := hs.1
  unfold maxLen at hm
  have Hs := Lib.hid hs; have Hs2 := Lib.hid hs2
  clear hs hs2
  go_enter Try.func23, Try.ntmps23
  go_wp2
  go_loopw [5, 13] (fun _ i wr => ∃ k : Nat, k ≤ xs.length ∧ i = .int .i64 k ∧ Below w.heap.size w wr) (fun _ i _ => xs.length - (intOf i).toNat)
  case atStart => exact ⟨0, Nat.zero_le _, rfl, Gr.refl _⟩
  case round =>
    obtain ⟨k, hk, rfl, hb⟩ := hrel
    by_cases hlt : k < xs.length
    · obtain ⟨b, o, rfl, h4⟩ := Hs.out.elem hb hlt
      obtain ⟨b2, o2, rfl, h5⟩ := Hs2.out.elem hb hlt
      obtain ⟨x, hx⟩ : ∃ x, x = xs.getD k 0 := ⟨_, rfl⟩
      have e4 : wr.cell? ⟨b, o + k, none⟩ = some (.int .u64 (x : Int)) := by have h0 := h4 0 (by omega); rw [Nat.mul_one, Nat.add_zero] at h0; rw [h0, hx]; rfl
      have e5 : wr.cell? ⟨b2, o2 + k, none⟩ = some (.int .u64 (x : Int)) := by have h0 := h5 0 (by omega); rw [Nat.mul_one, Nat.add_zero] at h0; rw [h0, hx]; rfl
      have l1 : (k : Int) < xs.length := by omega
      have Hb := Lib.hid hb
      clear h4 h5 hb hx
      go_wp2_with fail
      go_quiet (fail)
      go_wp2
      go_roundw
      case rel => exact ⟨k + 1, by omega, by go_num, below_drewN Hb.out _⟩
      case measure => simp [intOf] <;> omega
    · have l1 : ¬ (k : Int) < xs.length := by omega
      have Hb := Lib.hid hb
      clear hb
      go_wp2
      go_ret
      exact ⟨rfl, Hb.out⟩
theorem ints_eq (xs : List Int) (a a2 : Option Addr) (c c2 : Nat) (w : World) (hs : SlAt w a xs.length 1 (intG xs)) (hs2 : SlAt w a2 xs.length 1 (intG xs)) :
    Calls Try.prog 84 #[.slice a xs.length c, .slice a2 xs.length c2] w fun e w' => e = .returned (.bool true) ∧ Below w.heap.size w w' := by
  have hm := hs.1
  unfold maxLen at hm
  have Hs := Lib.hid hs; have Hs2 := Lib.hid hs2
  clear hs hs2
  go_enter Try.func84, Try.ntmps84
  go_wp2
  go_loopw [5, 13] (fun _ i wr => ∃ k : Nat, k ≤ xs.length ∧ i = .int .i64 k ∧ Below w.heap.size w wr) (fun _ i _ => xs.length - (intOf i).toNat)
  case atStart => exact ⟨0, Nat.zero_le _, rfl, Gr.refl _⟩
  case round =>
    obtain ⟨k, hk, rfl, hb⟩ := hrel
    by_cases hlt : k < xs.length
    · obtain ⟨b, o, rfl, h4⟩ := Hs.out.elem hb hlt
      obtain ⟨b2, o2, rfl, h5⟩ := Hs2.out.elem hb hlt
      obtain ⟨x, hx⟩ : ∃ x, x = xs.getD k 0 := ⟨_, rfl⟩
      have e4 : wr.cell? ⟨b, o + k, none⟩ = some (.int .i64 x) := by have h0 := h4 0 (by omega); rw [Nat.mul_one, Nat.add_zero] at h0; rw [h0, hx]; rfl
      have e5 : wr.cell? ⟨b2, o2 + k, none⟩ = some (.int .i64 x) := by have h0 := h5 0 (by omega); rw [Nat.mul_one, Nat.add_zero] at h0; rw [h0, hx]; rfl
      have l1 : (k : Int) < xs.length := by omega
      have Hb := Lib.hid hb
      clear h4 h5 hb hx
      go_wp2_with fail
      go_quiet (fail)
      go_wp2
      go_roundw
      case rel => exact ⟨k + 1, by omega, by go_num, below_drewN Hb.out _⟩
      case measure => simp [intOf] <;> omega
    · have l1 : ¬ (k : Int) < xs.length := by omega
      have Hb := Lib.hid hb
      clear hb
      go_wp2
      go_ret
      exact ⟨rfl, Hb.out⟩

theorem answer_eq (er : Int) (vl : Nat) (xs : List Nat) (a a2 : Option Addr) (c c2 : Nat) (w : World) (hs : SlAt w a xs.length 1 (u64G xs)) (hs2 : SlAt w a2 xs.length 1 (u64G xs)) :
    Calls Try.prog 22 #[.agg #[.int .i64 er, .int .u64 (vl : Int), .slice a xs.length c], .agg #[.int .i64 er, .int .u64 (vl : Int), .slice a2 xs.length c2]] w fun e w' => e = .returned (.bool true) ∧ Below w.heap.size w w' := by
  have S := Lib.hid (fun (u : World) (h : Below w.heap.size w u) => same_eq xs a a2 c c2 u (hs.grown h) (hs2.grown h))
  obtain ⟨n, hn⟩ : ∃ n, n = xs.length := ⟨_, rfl⟩
  rw [← hn] at S ⊢
  clear hs hs2 hn
  go_enter Try.func22, Try.ntmps22
  go_wp2_with (go_at_call 23; refine (S.out _ (Gr.alloc (Gr.new _ _) _)).mono ?_; rintro e w' ⟨rfl, hb⟩)
  go_ret
  exact ⟨rfl, Gr.trans (Gr.alloc (Gr.new _ _) _) hb⟩
/-- An event's value. -/
def evV (e : EvD) (la : Option Addr) (lc : Nat) (ka : Option Addr) (kc : Nat) : Value := .agg #[.int .i64 (e.call : Int), .int .i64 (e.inv : Int), .int .i64 (e.resp : Int), .int .i64 (e.steps : Int), .int .i64 e.ans.err, .int .u64 (e.ans.val : Int), .slice la e.ans.list.length lc, .slice ka e.key.length kc]
theorem event_eq (e : EvD) (la la2 ka ka2 : Option Addr) (lc lc2 kc kc2 : Nat) (w : World) (hl : SlAt w la e.ans.list.length 1 (u64G e.ans.list)) (hl2 : SlAt w la2 e.ans.list.length 1 (u64G e.ans.list)) (hk : SlAt w ka e.key.length 1 (intG e.key)) (hk2 : SlAt w ka2 e.key.length 1 (intG e.key)) :
    Calls Try.prog 68 #[evV e la lc ka kc, evV e la2 lc2 ka2 kc2] w fun r w' => r = .returned (.bool true) ∧ Below w.heap.size w w' := by
  obtain ⟨cl, iv, rs, st, ⟨er, vl, li⟩, ky⟩ := e
  unfold evV
  simp only at hl hl2 hk hk2 ⊢
  have A := Lib.hid (fun (u : World) (h : Below w.heap.size w u) => answer_eq er vl li la la2 lc lc2 u (hl.grown h) (hl2.grown h))
  have K := Lib.hid (fun (u : World) (h : Below w.heap.size w u) => ints_eq ky ka ka2 kc kc2 u (hk.grown h) (hk2.grown h))
  obtain ⟨n, hn⟩ : ∃ n, n = li.length := ⟨_, rfl⟩
  obtain ⟨m, hm⟩ : ∃ m, m = ky.length := ⟨_, rfl⟩
  rw [← hn] at A ⊢
  rw [← hm] at K ⊢
  clear hl hl2 hk hk2 hn hm
  obtain ⟨wa, hwa⟩ : ∃ wa, wa = (w.alloc (.cells #[.int .i64 (cl : Int), .int .i64 (iv : Int), .int .i64 (rs : Int), .int .i64 (st : Int), .int .i64 er, .int .u64 (vl : Int), .slice la n lc, .slice ka m kc] 50)).alloc (.cells #[.int .i64 (cl : Int), .int .i64 (iv : Int), .int .i64 (rs : Int), .int .i64 (st : Int), .int .i64 er, .int .u64 (vl : Int), .slice la2 n lc2, .slice ka2 m kc2] 50) := ⟨_, rfl⟩
  have hga : Below w.heap.size w wa := by rw [hwa]; exact Gr.alloc (Gr.new _ _) _
  have hr1 : wa.heap[w.heap.size]? = some (.cells #[.int .i64 (cl : Int), .int .i64 (iv : Int), .int .i64 (rs : Int), .int .i64 (st : Int), .int .i64 er, .int .u64 (vl : Int), .slice la n lc, .slice ka m kc] 50 (0, 0)) := by rw [hwa, Below.heap_alloc _ _ _ (by simp)]; exact heap_alloc_new _ _
  have hr2 : wa.heap[w.heap.size + 1]? = some (.cells #[.int .i64 (cl : Int), .int .i64 (iv : Int), .int .i64 (rs : Int), .int .i64 (st : Int), .int .i64 er, .int .u64 (vl : Int), .slice la2 n lc2, .slice ka2 m kc2] 50 (0, 0)) := by
    rw [hwa]
    have := heap_alloc_new (w.alloc (.cells #[.int .i64 (cl : Int), .int .i64 (iv : Int), .int .i64 (rs : Int), .int .i64 (st : Int), .int .i64 er, .int .u64 (vl : Int), .slice la n lc, .slice ka m kc] 50)) (.cells #[.int .i64 (cl : Int), .int .i64 (iv : Int), .int .i64 (rs : Int), .int .i64 (st : Int), .int .i64 er, .int .u64 (vl : Int), .slice la2 n lc2, .slice ka2 m kc2] 50 (0, 0))
    simp only [World.size_alloc] at this
    exact this
  have Hwa := Lib.hid hwa; have Hga := Lib.hid hga; have Hr1 := Lib.hid hr1; have Hr2 := Lib.hid hr2
  clear hwa hga hr1 hr2
  go_enter Try.func68, Try.ntmps68
  go_wp2_with fail
  rw [← Hwa.out]
  refine (A.out _ Hga.out).mono ?_
  rintro r w1 ⟨rfl, hb1⟩
  have s1 := (hb1.block _ (blk_lt Hr1.out)).trans Hr1.out
  have s2 := (hb1.block _ (blk_lt Hr2.out)).trans Hr2.out
  have k7 : w1.cell? ⟨w.heap.size, 7, none⟩ = some (.slice ka m kc) := by rw [cell_blk s1]; rfl
  have k7' : w1.cell? ⟨w.heap.size + 1, 7, none⟩ = some (.slice ka2 m kc2) := by rw [cell_blk s2]; rfl
  have Hb1 := Lib.hid hb1
  clear s1 s2 hb1
  go_wp2_with fail
  refine (K.out _ (Gr.trans Hga.out Hb1.out)).mono ?_
  rintro r w2 ⟨rfl, hb2⟩
  have Hb2 := Lib.hid hb2
  clear hb2
  go_wp2
  go_ret
  exact ⟨rfl, Gr.trans Hga.out (Gr.trans Hb1.out Hb2.out)⟩
end
end Go.Proofs.Ytjkgfkbanbhkgaa
