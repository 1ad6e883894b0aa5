/- Layer 12: door.Play. -/
import Derived.Test.YteffgpcjfnjlkaaGreatM44
import Derived.Test.YteffgpcjfnjlkaaGreatM42
import Derived.Test.YteffgpcjfnjlkaaGreatM25
import Derived.Test.YteffgpcjfnjlkaaGreatM41
set_option maxRecDepth 100000
set_option linter.unusedVariables false
set_option linter.unusedSimpArgs false
set_option linter.unnecessarySimpa false
namespace Go.Proofs.YteffgpcjfnjlkaaGreat
section
open Go.RowKit
theorem door_new (m : Nat) (w : World) : Calls Tryz.prog 44 #[.int .i64 0, .int .i64 (m : Int)] w fun e w' => e = .returned (.agg #[.int .i64 0, .int .i64 (m : Int)]) ∧ Below w.heap.size w w' := by
  go_enter Tryz.func44, Tryz.ntmps44
  go_wp2
  exact bodyPost_ret (v := .agg #[.int .i64 0, .int .i64 (m : Int)]) (by simp [results, Tryz.results44 , go_sem]) rfl ⟨rfl, Gr.new _ _⟩
set_option maxHeartbeats 4000000 in
theorem doorPlay_any (X : Nat → Prop) (w : World) (n : Int) (calls : List CallD) (picks : List Int) (ca pa : Option Addr) (cc pc : Nat) (hX : ∀ b, X b → b < w.heap.size) (hc : CallsAt X w ca calls) (hp : PicksAt w pa picks) :
    Calls Tryz.prog 28 #[.int .i64 n, .slice ca calls.length cc, .slice pa picks.length pc] w fun e w' => PlayRet X w w' (checkN n calls picks.length) (playD (doorS n.toNat) () (List.replicate n.toNat 0) calls picks) e := by
  obtain ⟨wa, hwa⟩ : ∃ wa, wa = w.alloc (.cells #[.slice none 0 0, .slice none 0 0, .int .i64 0, .int .i64 0, .int .i64 0, .int .i64 0, .int .i64 0, .int .i64 0, .int .i64 0] 32) := ⟨_, rfl⟩
  have hga : Below w.heap.size w wa := by rw [hwa]; exact Gr.new _ _
  have hra : wa.heap[w.heap.size]? = some (.cells #[.slice none 0 0, .slice none 0 0, .int .i64 0, .int .i64 0, .int .i64 0, .int .i64 0, .int .i64 0, .int .i64 0, .int .i64 0] 32 (0, 0)) := by rw [hwa]; exact heap_alloc_new _ _
  have hsa : w.heap.size < wa.heap.size := by rw [hwa]; simp
  have C := Lib.hid (check_any n calls picks.length ca pa cc pc wa (hc.sl.grown hga) hp.sl.1 (fun x hx => (hc.ok x hx).thread))
  have Hc := Lib.hid hc; have Hp := Lib.hid hp; have HX := Lib.hid hX
  have Hwa := Lib.hid hwa; have Hga := Lib.hid hga; have Hra := Lib.hid hra
  have hpl := hp.sl.1
  unfold maxLen at hpl
  clear hc hp hX hwa hga hra
  obtain ⟨ck, hck⟩ : ∃ ck, ck = checkN n calls picks.length := ⟨_, rfl⟩
  rw [← hck] at C
  have Hck := Lib.hid hck
  clear hck
  by_cases hc0 : ck = 0
  · obtain ⟨hn1, hn16⟩ := n_ok (hc0 ▸ Hck.out).symm
    obtain ⟨sz, rfl⟩ : ∃ sz : Nat, n = (sz : Int) := ⟨n.toNat, by omega⟩
    have hs1 : 1 ≤ sz := by omega
    have hs64 : sz ≤ 64 := by omega
    have hs16 : sz ≤ 16 := by omega
    simp only [Int.toNat_natCast]
    have P := Lib.hid (fun (w1 : World) (hb1 : Below wa.heap.size wa w1) (u : World) (bo bw : Nat) (hu : Below w1.heap.size w1 u) (h1 : u.cell? ⟨bo, 0, none⟩ = some (.iface 81 (.agg #[.int .i64 0, .int .i64 (sz : Int)]))) (h2 : u.heap[bw]? = some (.cells (madeCells #[.int .u64 0] sz) 46 (0, 0))) (hbo : w1.heap.size ≤ bo) =>
      (play_any (X := fun b => X b ∨ b = w.heap.size) (R := doorR sz) (door_ok sz hs16) (door_nolate sz) (by show 1 ≤ 1000; omega) u () sz calls (List.replicate sz 0) picks (.slice (some ⟨bo, 0, none⟩) 1 1) (.slice ca calls.length cc) (.slice (some ⟨bw, 0, none⟩) (List.replicate sz 0).length sz) pa pc
        ⟨⟨ca, cc, rfl, Hc.out.sl.grown (Gr.trans Hga.out (Gr.trans hb1 hu)), fun hl b off e hx => by
          rcases hx with hx | hx
          · exact Hc.out.nx hl b off e hx
          · obtain ⟨b0, off0, e0, hb0⟩ := Hc.out.sl.lt hl
            rw [e0] at e; cases e; omega⟩, Hc.out.ok, ⟨bo, 0, 1, rfl, h1, fun hx => by have := hb1.size; rcases hx with hx | hx; have := HX.out bo hx; omega; omega⟩, ⟨_, sz, rfl, zeros_sl h2 hs64, fun e => by cases e⟩, by rw [List.length_replicate]; omega, fun x hx => by rw [(List.mem_replicate.1 hx).2]; omega, fun b hb => hb, fun _ _ => trivial, trivial, fun b hx => by have := hu.size; have := hb1.size; rcases hx with hx | hx; have := HX.out b hx; omega; omega⟩ (Hp.out.sl.grown (Gr.trans Hga.out (Gr.trans hb1 hu))) Hp.out.ok (door_safe sz calls picks)).mono (fun e w' h => (⟨PlayTo.ret h, Gr.trans hb1 hu⟩ : PlayRet (fun b => X b ∨ b = w.heap.size) u w' (checkN sz calls picks.length) (playD (doorS sz) () (List.replicate sz 0) calls picks) e ∧ Below wa.heap.size wa u)))
    have N := Lib.hid (fun (u w0 : World) (h : Below w0.heap.size w0 u) => (door_new sz u).mono (fun e w' h' => (⟨h'.1, Gr.trans h h'.2, (fun b o hb => (h'.2.block b (blk_lt hb)).trans hb)⟩ : e = .returned (.agg #[.int .i64 0, .int .i64 (sz : Int)]) ∧ Below w0.heap.size w0 w' ∧ (∀ (b : Nat) (o : Obj), u.heap[b]? = some o → w'.heap[b]? = some o))))
    have hmk := make_size sz hs64
    obtain ⟨rr, hrr⟩ : ∃ rr, rr = playD (doorS sz) () (List.replicate sz 0) calls picks := ⟨_, rfl⟩
    rw [← Hck.out, hc0, ← hrr] at P
    rw [← hrr, ← Hck.out, hc0]
    simp only [List.length_replicate] at P
    subst hc0
    clear hrr
    go_enter Tryz.func28, Tryz.ntmps28
    go_wp2_with fail
    rw [← Hwa.out]
    refine C.out.mono ?_
    rintro e w1 ⟨rfl, hb1⟩
    replace P := Lib.hid (P.out w1 hb1)
    replace N := Lib.hid (fun (u : World) (h : Below w1.heap.size w1 u) => N.out u w1 h)
    have Hb1 := Lib.hid hb1
    clear hb1
    go_wp2_with fail
    go_region_held3 (fun u => True)
      (exact True.intro)
      (first | (go_at_call 44; refine (N.out _ ?_).mono ?_; (first | exact (Gr.refl _).drew | exact Gr.alloc (Gr.refl _).drew _); rintro e w2 ⟨rfl, hb2, hk2⟩) | (go_at_call 32; refine (P.out _ _ _ ?_ ?_ ?_ ?_).mono ?_; (first | with_reducible exact Gr.alloc (Gr.alloc hb2 _) _ | with_reducible exact Gr.alloc hb2 _); (first | with_reducible exact objs_cell _ _ _ _ | exact cell_new2 _ _ _ _ _ (by simp) | with_reducible exact cell_new1 _ _ _); (first | with_reducible exact made_blk1 _ _ _ _ (by simp) | with_reducible exact made_blk2 _ _ _ | exact made_blk3 hk2 _ _ (by simp)); (have := hb2.size; simp; omega); rintro e w4 ⟨⟨ea, en, ec, va, vn, vc, rp, rfl, hrest⟩, hu⟩; have hr4 := (hrest.1.block w.heap.size (by have := hu.size; omega)).trans ((hu.block w.heap.size (by omega)).trans Hra.out); obtain ⟨cs, w7, hcs, hsz, hst, hbk7, hch7⟩ := rep_store w4 w.heap.size (.slice ea en ec) (.slice va vn vc) rp hr4 rfl rfl; rw [hcs]; have Hcs := Lib.hid hcs; have Hbk7 := Lib.hid hbk7; have Hch7 := Lib.hid hch7; have Hrest := Lib.hid hrest; have Hu := Lib.hid hu; clear hr4 hrest hu hcs hbk7 hch7 hb2 hk2))
    all_goals
      go_wp2
      have hld := rep_load w7 w.heap.size cs Hbk7.out hsz
      refine bodyPost_ret (v := .tuple #[.agg cs, .int .i64 0]) (by simp [results, Tryz.results28 , Sem.run_bind, Sem.run_pure, asAddr, hld]) rfl ?_
      refine ⟨ea, en, ec, va, vn, vc, rp, by rw [Hcs.out], PlayRest.chg Hrest.out Hch7.out (fun b hb => ?_) (Gr.trans Hga.out Hu.out) (fun b hb => .inl hb)⟩
      have hb' : b = w.heap.size := hb
      exact ⟨.inr hb', by omega, by have := Hu.out.size; omega⟩
  · rw [← Hck.out]
    have Her0 := Lib.hid hc0
    go_enter Tryz.func28, Tryz.ntmps28
    go_wp2_with fail
    rw [← Hwa.out]
    refine C.out.mono ?_
    rintro e w1 ⟨rfl, hb1⟩
    have hr1 := (hb1.block _ (blk_lt Hra.out)).trans Hra.out
    have Hb1 := Lib.hid hb1; have Hr1 := Lib.hid hr1
    have g0 : w1.cell? ⟨w.heap.size, 0, none⟩ = some (.slice none 0 0) := by rw [cell_blk hr1]; rfl
    have gf0 : w1.frozen? ⟨w.heap.size, 0, none⟩ = false := frozen_blk hr1 0
    have g1 : w1.cell? ⟨w.heap.size, 1, none⟩ = some (.slice none 0 0) := by rw [cell_blk hr1]; rfl
    have gf1 : w1.frozen? ⟨w.heap.size, 1, none⟩ = false := frozen_blk hr1 1
    have g2 : w1.cell? ⟨w.heap.size, 2, none⟩ = some (.int .i64 0) := by rw [cell_blk hr1]; rfl
    have gf2 : w1.frozen? ⟨w.heap.size, 2, none⟩ = false := frozen_blk hr1 2
    have g3 : w1.cell? ⟨w.heap.size, 3, none⟩ = some (.int .i64 0) := by rw [cell_blk hr1]; rfl
    have gf3 : w1.frozen? ⟨w.heap.size, 3, none⟩ = false := frozen_blk hr1 3
    have g4 : w1.cell? ⟨w.heap.size, 4, none⟩ = some (.int .i64 0) := by rw [cell_blk hr1]; rfl
    have gf4 : w1.frozen? ⟨w.heap.size, 4, none⟩ = false := frozen_blk hr1 4
    have g5 : w1.cell? ⟨w.heap.size, 5, none⟩ = some (.int .i64 0) := by rw [cell_blk hr1]; rfl
    have gf5 : w1.frozen? ⟨w.heap.size, 5, none⟩ = false := frozen_blk hr1 5
    have g6 : w1.cell? ⟨w.heap.size, 6, none⟩ = some (.int .i64 0) := by rw [cell_blk hr1]; rfl
    have gf6 : w1.frozen? ⟨w.heap.size, 6, none⟩ = false := frozen_blk hr1 6
    have g7 : w1.cell? ⟨w.heap.size, 7, none⟩ = some (.int .i64 0) := by rw [cell_blk hr1]; rfl
    have gf7 : w1.frozen? ⟨w.heap.size, 7, none⟩ = false := frozen_blk hr1 7
    have g8 : w1.cell? ⟨w.heap.size, 8, none⟩ = some (.int .i64 0) := by rw [cell_blk hr1]; rfl
    have gf8 : w1.frozen? ⟨w.heap.size, 8, none⟩ = false := frozen_blk hr1 8
    clear hr1 hb1
    go_wp2
    obtain ⟨w7, hw7⟩ : ∃ w7, w7 = (((((((((w1.setCell ⟨w.heap.size, 0, none⟩ (.slice none 0 0)).setCell ⟨w.heap.size, 1, none⟩ (.slice none 0 0)).setCell ⟨w.heap.size, 2, none⟩ (.int .i64 0)).setCell ⟨w.heap.size, 3, none⟩ (.int .i64 0)).setCell ⟨w.heap.size, 4, none⟩ (.int .i64 0)).setCell ⟨w.heap.size, 5, none⟩ (.int .i64 0)).setCell ⟨w.heap.size, 6, none⟩ (.int .i64 0)).setCell ⟨w.heap.size, 7, none⟩ (.int .i64 0)).setCell ⟨w.heap.size, 8, none⟩ (.int .i64 0)) := ⟨_, rfl⟩
    rw [← hw7]
    have hr7 : w7.heap[w.heap.size]? = some (.cells #[.slice none 0 0, .slice none 0 0, .int .i64 0, .int .i64 0, .int .i64 0, .int .i64 0, .int .i64 0, .int .i64 0, .int .i64 0] 32 (0, 0)) := by rw [hw7, (blk_set (blk_set (blk_set (blk_set (blk_set (blk_set (blk_set (blk_set (blk_set Hr1.out _ _) _ _) _ _) _ _) _ _) _ _) _ _) _ _) _ _)]; rfl
    have hch7 : Chg (fun b => b = w.heap.size) w1 w7 := by rw [hw7]; exact ((((((((((Chg.refl (fun b => b = w.heap.size) w1).setCell (by exact .inl rfl) _).setCell (by exact .inl rfl) _).setCell (by exact .inl rfl) _).setCell (by exact .inl rfl) _).setCell (by exact .inl rfl) _).setCell (by exact .inl rfl) _).setCell (by exact .inl rfl) _).setCell (by exact .inl rfl) _).setCell (by exact .inl rfl) _)
    clear hw7
    have hld := rep_load w7 w.heap.size _ hr7 rfl
    refine bodyPost_ret (v := .tuple #[.agg #[.slice none 0 0, .slice none 0 0, .int .i64 0, .int .i64 0, .int .i64 0, .int .i64 0, .int .i64 0, .int .i64 0, .int .i64 0], .int .i64 ck]) (by simp [results, Tryz.results28 , Sem.run_bind, Sem.run_pure, asAddr, hld]) rfl ?_
    have hall : Chg (fun b => w.heap.size ≤ b) w w7 := ((Chg.of_below Hga.out).trans (Chg.of_below Hb1.out)).trans (hch7.mono (fun b _ h => by have h9 : b = w.heap.size := h; omega))
    exact ⟨none, 0, 0, none, 0, 0, _, rfl, hall.below (fun b h => h) (Nat.le_refl _), .inl ⟨Her0.out, rfl, rfl, rfl, rfl, rfl, rfl, rfl⟩⟩
end
section

/- The reference's play of a door. -/
open Go.RowKit
theorem size_door (n P Q : Int) (w : World) : Calls Tryz.prog 69 #[.int .i64 n, .agg #[.int .i64 11, .int .i64 P, .int .i64 Q]] w fun e w' => e = .returned (.int .i64 n) ∧ Below w.heap.size w w' := by
  have B : ∀ u : World, Calls Tryz.prog 77 #[.int .i64 n, .agg #[.int .i64 11, .int .i64 P, .int .i64 Q]] u fun e w' => e = .returned (.int .i64 n) ∧ Below u.heap.size u w' := fun u => by
    go_enter Tryz.func77, Tryz.ntmps77
    go_wp2
    go_ret
    exact ⟨rfl, Gr.new _ _⟩
  have HB := Lib.hid B
  clear B
  go_enter Tryz.func69, Tryz.ntmps69
  go_wp2_with (go_at_call 77; refine (HB.out _).mono ?_; rintro e w' ⟨rfl, hb⟩)
  go_ret
  exact ⟨rfl, Gr.trans (Gr.new _ _) hb⟩
theorem foldl_max_le : ∀ (l : List Nat) (m x : Nat), x ∈ l → x ≤ l.foldl max m
  | [], _, _, h => by cases h
  | y :: l, m, x, h => by
    have mono : ∀ (l : List Nat) (m : Nat), m ≤ l.foldl max m := fun l => by
      induction l with
      | nil => exact fun m => Nat.le_refl m
      | cons a l ih => exact fun m => Nat.le_trans (Nat.le_max_left m a) (ih (max m a))
    rcases List.mem_cons.1 h with rfl | h
    · exact Nat.le_trans (Nat.le_max_right m x) (mono l (max m x))
    · exact foldl_max_le l (max m y) x h
theorem door_pre {n sz : Nat} {calls : List CallD} {s : RefS} {st : PlayD (doorS n)} {q i : Nat} (hn : n ≤ 16) (hP : PSim (doorSim n) n calls s st) (hg : StGood calls st) (hG : DoInv n calls st ∧ st.wd.now ≤ 65536) (hR : RGood n sz calls s) (hT : RTick n s) (hnow : s.rw.now ≤ 65536) (hq : q < n) (hN : nowN calls s.fin (q : Int) = some i) (s1 : RefS) (hs1 : s1 = ropen { s with rw := s.rw.tick } q i) :
    DoorPre (calls.getD i d0) ((s1.hands.getD q rh0).tape q) s1.rw := by
  have H := hand_pre hP hg hR hT hnow hq hN s1 hs1
  obtain ⟨h, hh⟩ : ∃ h, h = s1.hands.getD q rh0 := ⟨_, rfl⟩
  rw [← hh] at H ⊢
  have hc := cnt_le (tP4 calls st.wd.now) st.evs
  have hl := hg.ev.len_le
  refine ⟨⟨fun x hx => ?_, fun x hx => ?_⟩, by show q < 16; omega⟩
  · have hx' : x ∈ h.got := hx
    rcases H.how with ⟨e1, _⟩ | ⟨σ, hs, hr, _⟩
    · rw [e1] at hx'; cases hx'
    · match σ, hr, hs with
      | .once c' r0, hr, _ => rw [hr.2.2.2.2] at hx'; cases hx'
      | .take a v, hr, hs =>
        obtain ⟨_, _, hv, _⟩ := hr
        have h1 := foldl_max_le h.got 0 x hx'
        rw [← hv] at h1
        have h2 := (hG.1.hand q (.take a v) h.ev hs).2
        have h3 : v ≤ cnt (tP4 calls st.wd.now) st.evs := h2.2.1
        omega
  · rw [H.mem, hP.rw.mem] at hx
    obtain ⟨j, hj, rfl⟩ := List.getElem_of_mem hx
    have h1 := hG.1.top j (by rw [← hG.1.wlen]; exact hj)
    rw [List.getD_eq_getElem?_getD, List.getElem?_eq_getElem hj] at h1
    have h2 : st.wd.mem.ws[j] ≤ cnt (tP4 calls st.wd.now) st.evs := h1
    omega
theorem rdoor_play (X : Nat → Prop) (q0 : Int) (calls : List CallD) (picks : List Int) (ca pa : Option Addr) (cc pc bS : Nat) (w : World) (hX : ∀ b, X b → b < w.heap.size) (hS : SpecAt w bS 11 0 0) (hc : CallsAt noB w ca calls) (hp : PicksAt w pa picks) :
    Calls Tryz.prog 14 #[.int .i64 q0, .slice (some ⟨bS, 0, none⟩) 1 1, .slice ca calls.length cc, .slice pa picks.length pc] w fun e w' => RefAny X w w' (checkN q0 calls picks.length) (playD (doorS q0.toNat) () (List.replicate q0.toNat 0) calls picks) true e := by
  by_cases hck : checkN q0 calls picks.length = 0
  · obtain ⟨z1, z2, z3, _⟩ := wrongN_zero (checkN_zero hck).1
    obtain ⟨n, rfl⟩ : ∃ n : Nat, q0 = (n : Int) := ⟨q0.toNat, by omega⟩
    have hnp := (checkN_zero hck).2
    rw [hck, Int.toNat_natCast]
    exact rplay_any (S := doorS n) (M := doorSim n) X n 11 0 0 picks ca pa cc pc bS w () DoorPre hX (by decide) (by omega) (by omega) hck hS hc hp (fun v => size_door (n : Int) 0 0 v) (rdoor_dob n) (rdoor_dot n) (rdoor_do n (by omega)) (late_marks 11 0 0 n (by decide)) (door_ref_ok n calls (fun st => DoInv n calls st ∧ st.wd.now ≤ 65536)) door_now (fun _ _ => trivial)
      (fun k => by obtain ⟨_, b, c⟩ := do_picks hck (picks.take k); exact ⟨b, by rw [List.length_take] at c; omega⟩) (fun s st q i h1 h2 h3 h4 h5 h6 h7 h8 _ s1 hs1 => door_pre (by omega) h1 h2 h3 h4 h5 h6 h7 h8 s1 hs1)
  · refine rplay_of X q0 _ _ _ _ _ w (fun u hu hul => ?_)
    exact rlog_wrong _ q0 calls picks ca pa cc pc _ _ u hck (hc.grown hu) (hp.grown hu)
theorem rdoor_len {q0 : Int} {calls : List CallD} {picks : List Int} (hck : checkN q0 calls picks.length = 0) : (playD (doorS q0.toNat) () (List.replicate q0.toNat 0) calls picks).evs.length < 1000000 ∧ (playD (doorS q0.toNat) () (List.replicate q0.toNat 0) calls picks).words.length < 1000000 := by
  obtain ⟨z1, z2, z3, _⟩ := wrongN_zero (checkN_zero hck).1
  obtain ⟨n, rfl⟩ : ∃ n : Nat, q0 = (n : Int) := ⟨q0.toNat, by omega⟩
  rw [Int.toNat_natCast]
  obtain ⟨a1, a2⟩ := rlen_any (S := doorS n) (M := doorSim n) n picks () hck (rdoor_dob n) (door_ref_ok n calls (fun _ => True)) door_now (fun _ _ => trivial) (fun k => trivial)
  omega
end
section

/- What Between asks of a report, in plain numbers. -/
open Go.RowKit
def bD (calls : List CallD) (iv : Nat) (y : EvD) : Bool := decide (y.ans.err = 0) && decide ((calls.getD y.call d0).obj = 0) && decide ((calls.getD y.call d0).kind = 0) && decide (y.resp ≠ 0) && decide (y.resp < iv)
def bB (calls : List CallD) (rs : Nat) (y : EvD) : Bool := decide (y.ans.err = 0) && decide ((calls.getD y.call d0).obj = 0) && decide ((calls.getD y.call d0).kind = 0) && decide (y.inv < rs)
structure BetGood (calls : List CallD) (evs : List EvD) : Prop where
  call : ∀ i, i < evs.length → (evAt evs i).call < calls.length
  reads : ∀ i, i < evs.length → (calls.getD (evAt evs i).call d0).obj = 0 → (calls.getD (evAt evs i).call d0).kind = 1 → (evAt evs i).resp ≠ 0 → (evAt evs i).ans.err = 0 →
    (∀ j, j < evs.length → (evAt evs j).ans.err = 0 → (calls.getD (evAt evs j).call d0).obj = 0 → (calls.getD (evAt evs j).call d0).kind = 1 → (evAt evs j).resp ≠ 0 → (evAt evs j).resp < (evAt evs i).inv → (evAt evs j).ans.val ≤ (evAt evs i).ans.val) ∧
    cnt (bD calls (evAt evs i).inv) evs ≤ (evAt evs i).ans.val ∧ (evAt evs i).ans.val ≤ cnt (bB calls (evAt evs i).resp) evs
end
section

/- Layer 8: what reads tell (8.4, 8.5), in plain numbers. -/
open Go.RowKit
end
section

/- Layer 12: what those that take phases get (12.3, 12.4), in plain numbers. -/
open Go.RowKit
def dB (calls : List CallD) (rs : Nat) (y : EvD) : Bool := decide ((calls.getD y.call d0).obj = 0) && decide ((calls.getD y.call d0).kind = 0) && decide (y.inv < rs)
structure DoorGood (n : Nat) (calls : List CallD) (evs : List EvD) : Prop where
  call : ∀ i, i < evs.length → (evAt evs i).call < calls.length
  steps : ∀ i, i < evs.length → (evAt evs i).steps ≤ n + 1
  takes : ∀ i, i < evs.length → (calls.getD (evAt evs i).call d0).obj = 0 → (calls.getD (evAt evs i).call d0).kind = 0 → (evAt evs i).resp ≠ 0 →
    (∀ j, j < evs.length → (calls.getD (evAt evs j).call d0).obj = 0 → (calls.getD (evAt evs j).call d0).kind = 0 → (evAt evs j).resp ≠ 0 → (evAt evs j).resp < (evAt evs i).inv → (evAt evs j).ans.val < (evAt evs i).ans.val) ∧
    1 ≤ (evAt evs i).ans.val ∧ (evAt evs i).ans.val ≤ cnt (dB calls (evAt evs i).resp) evs
def sameCalls : List CallD := [⟨0, 0, 0, 0, 0, 0⟩, ⟨1, 0, 0, 0, 0, 0⟩, ⟨0, 0, 0, 0, 0, 0⟩]
theorem same_rep12 : playD (doorS 2) () [0, 0] sameCalls [0, 1, 0, 1, 0, 1, 0, 0, 0] = ⟨[⟨0, 1, 5, 3, ⟨0, 1, []⟩, [10]⟩, ⟨1, 2, 6, 3, ⟨0, 1, []⟩, [12]⟩, ⟨2, 7, 9, 3, ⟨0, 2, []⟩, [18]⟩], [2, 1], ⟨6, 3, 0, 0, 0⟩, 9, 0⟩ := by rfl
theorem same_check12 : checkN 2 sameCalls 9 = 0 := by rfl
end
section

/- Layer 12: two threads, picked by turns, and a third operation. -/
open Go.RowKit
set_option maxHeartbeats 4000000 in
theorem door_same (w : World) : Calls Tryz.prog 27 #[] w fun e w' => e = .returned (.bool true) ∧ Below w.heap.size w w' := by
  obtain ⟨wa, hwa⟩ : ∃ wa, wa = (w.alloc (.cells #[.int .i64 0, .int .i64 0, .int .i64 0, .int .u64 0, .int .u64 0, .int .u64 0, .int .i64 1, .int .i64 0, .int .i64 0, .int .u64 0, .int .u64 0, .int .u64 0, .int .i64 0, .int .i64 0, .int .i64 0, .int .u64 0, .int .u64 0, .int .u64 0] 48)).alloc (.cells #[.int .i64 0, .int .i64 1, .int .i64 0, .int .i64 1, .int .i64 0, .int .i64 1, .int .i64 0, .int .i64 0, .int .i64 0] 3) := ⟨_, rfl⟩
  have hga : Below w.heap.size w wa := by rw [hwa]; exact Gr.alloc (Gr.new _ _) _
  have h1 : wa.heap[w.heap.size]? = some (.cells (sameCalls.flatMap callL).toArray 48 (0, 0)) := by rw [hwa, Below.heap_alloc _ _ _ (by simp), heap_alloc_new]; rfl
  have h2 : wa.heap[w.heap.size + 1]? = some (.cells (([0, 1, 0, 1, 0, 1, 0, 0, 0] : List Int).map (Value.int .i64)).toArray 3 (0, 0)) := by
    rw [hwa]
    have := heap_alloc_new (w.alloc (.cells #[.int .i64 0, .int .i64 0, .int .i64 0, .int .u64 0, .int .u64 0, .int .u64 0, .int .i64 1, .int .i64 0, .int .i64 0, .int .u64 0, .int .u64 0, .int .u64 0, .int .i64 0, .int .i64 0, .int .i64 0, .int .u64 0, .int .u64 0, .int .u64 0] 48)) (.cells #[.int .i64 0, .int .i64 1, .int .i64 0, .int .i64 1, .int .i64 0, .int .i64 1, .int .i64 0, .int .i64 0, .int .i64 0] 3 (0, 0))
    simp only [World.size_alloc] at this
    exact this
  have P := doorPlay_any noB wa 2 sameCalls [0, 1, 0, 1, 0, 1, 0, 0, 0] (some ⟨w.heap.size, 0, none⟩) (some ⟨w.heap.size + 1, 0, none⟩) 3 9 (fun b hb => hb.elim) ⟨calls_block h1 (by decide), (by
      intro x hx
      simp only [sameCalls, List.mem_cons, List.not_mem_nil, or_false] at hx
      rcases hx with rfl | rfl | rfl <;> exact callOk_small (by decide) (by decide) (by decide) (by decide) (by decide) (by decide) (by decide)), fun _ _ _ _ h => h⟩ ⟨ints_block h2 (by decide), by intro x hx; simp only [List.mem_cons, List.not_mem_nil, or_false] at hx; rcases hx with rfl | rfl | rfl | rfl | rfl | rfl | rfl | rfl | rfl <;> rfl⟩
  rw [show ([0, 1, 0, 1, 0, 1, 0, 0, 0] : List Int).length = 9 from rfl, same_check12, show (2 : Int).toNat = 2 from rfl, show List.replicate 2 0 = [0, 0] from rfl, same_rep12, show sameCalls.length = 3 from rfl] at P
  have HP := Lib.hid P; have Hwa := Lib.hid hwa; have Hga := Lib.hid hga
  clear P h1 h2 hwa hga
  go_enter Tryz.func27, Tryz.ntmps27
  go_wp2_with fail
  rw [← Hwa.out]
  refine HP.out.mono ?_
  rintro e w1 ⟨ea, en, ec, va, vn, vc, rp, rfl, hb, hr⟩
  rcases hr with ⟨h0, _⟩ | ⟨_, hrp, hen, hvn, ers, hrep⟩
  · exact absurd rfl h0
  obtain ⟨g, rfl, hg, hev⟩ := hrep.event hen (by rw [hen]; decide)
  have hen2 : en = 3 := hen
  subst hen2 hrp
  have c5 : w1.cell? ⟨g, 5, none⟩ = some (.int .u64 1) := hev 0 5 (by omega) (by omega)
  have c13 : w1.cell? ⟨g, 13, none⟩ = some (.int .u64 1) := hev 1 5 (by omega) (by omega)
  have c19 : w1.cell? ⟨g, 19, none⟩ = some (.int .i64 3) := hev 2 3 (by omega) (by omega)
  have c21 : w1.cell? ⟨g, 21, none⟩ = some (.int .u64 2) := hev 2 5 (by omega) (by omega)
  have Hb := Lib.hid hb
  clear hrep hev hb hen hvn
  unfold repV
  go_wp2
  go_ret
  exact ⟨rfl, Gr.trans Hga.out (Gr.trans Hb.out (Gr.new _ _))⟩
end
end Go.Proofs.YteffgpcjfnjlkaaGreat
