/- Layer 12: door.Play. -/
import Derived.Test.YtjkgfkbanbhkgaaJ33
import Derived.Test.YtjkgfkbanbhkgaaJ31
import Derived.Test.YtjkgfkbanbhkgaaJ22
import Derived.Test.YtjkgfkbanbhkgaaJ25
import Derived.Test.YtjkgfkbanbhkgaaJ28
set_option maxRecDepth 100000
set_option linter.unusedVariables false
set_option linter.unusedSimpArgs false
set_option linter.unnecessarySimpa false
namespace Go.Proofs.Ytjkgfkbanbhkgaa
section
open Go.RowKit

theorem door_new (m : Nat) (w : World) : Calls Try.prog 62 #[.int .i64 0, .int .i64 (m : Int)] w fun e w' => e = .returned (.agg #[.int .i64 0, .int .i64 (m : Int)]) ∧ Below w.heap.size w w' := by
  go_enter Try.func62, Try.ntmps62
  go_wp2
  exact bodyPost_ret (v := .agg #[.int .i64 0, .int .i64 (m : Int)]) (by simp [results, Try.results62 , go_sem]) rfl ⟨rfl, Gr.new _ _⟩
set_option maxHeartbeats 4000000 in
theorem doorPlay_any (X : Nat → Prop) (w : World) (n : Int) (calls : List CallD) (picks : List Int) (ca pa : Option Addr) (cc pc : Nat) (hX : ∀ b, X b → b < w.heap.size) (hc : CallsAt X w ca calls) (hp : PicksAt w pa picks) :
    Calls Try.prog 39 #[.int .i64 n, .slice ca calls.length cc, .slice pa picks.length pc] w fun e w' => PlayRet X w w' (checkN n calls picks.length) (playD (doorS n.toNat) () (List.replicate n.toNat 0) calls picks) e := by
  obtain ⟨wa, hwa⟩ : ∃ wa, wa = w.alloc (.cells #[.slice none 0 0, .slice none 0 0, .int .i64 0, .int .i64 0, .int .i64 0, .int .i64 0, .int .i64 0, .int .i64 0, .int .i64 0] 32) := ⟨_, rfl⟩
  have hga : Below w.heap.size w wa := by rw [hwa]; exact Gr.new _ _
  have hra : wa.heap[w.heap.size]? = some (.cells #[.slice none 0 0, .slice none 0 0, .int .i64 0, .int .i64 0, .int .i64 0, .int .i64 0, .int .i64 0, .int .i64 0, .int .i64 0] 32 (0, 0)) := by rw [hwa]; exact heap_alloc_new _ _
  have hsa : w.heap.size < wa.heap.size := by rw [hwa]; simp
  have C := Lib.hid (check_any n calls picks.length ca pa cc pc wa (hc.sl.grown hga) hp.sl.1 (fun x hx => (hc.ok x hx).thread))
  have Hc := Lib.hid hc; have Hp := Lib.hid hp; have HX := Lib.hid hX
  have Hwa := Lib.hid hwa; have Hga := Lib.hid hga; have Hra := Lib.hid hra
  have hpl := hp.sl.1
  unfold maxLen at hpl
  clear hc hp hX hwa hga hra
  obtain ⟨ck, hck⟩ : ∃ ck, ck = checkN n calls picks.length := ⟨_, rfl⟩
  rw [← hck] at C
  have Hck := Lib.hid hck
  clear hck
  by_cases hc0 : ck = 0
  · obtain ⟨hn1, hn16⟩ := n_ok (hc0 ▸ Hck.out).symm
    obtain ⟨sz, rfl⟩ : ∃ sz : Nat, n = (sz : Int) := ⟨n.toNat, by omega⟩
    have hs1 : 1 ≤ sz := by omega
    have hs64 : sz ≤ 64 := by omega
    have hs16 : sz ≤ 16 := by omega
    simp only [Int.toNat_natCast]
    have P := Lib.hid (fun (w1 : World) (hb1 : Below wa.heap.size wa w1) (u : World) (bo bw : Nat) (hu : Below w1.heap.size w1 u) (h1 : u.cell? ⟨bo, 0, none⟩ = some (.iface 102 (.agg #[.int .i64 0, .int .i64 (sz : Int)]))) (h2 : u.heap[bw]? = some (.cells (madeCells #[.int .u64 0] sz) 46 (0, 0))) (hbo : w1.heap.size ≤ bo) =>
      (play_any (X := fun b => X b ∨ b = w.heap.size) (R := doorR sz) (door_ok sz hs16) (door_nolate sz) (by show 1 ≤ 1000; omega) u () sz calls (List.replicate sz 0) picks (.slice (some ⟨bo, 0, none⟩) 1 1) (.slice ca calls.length cc) (.slice (some ⟨bw, 0, none⟩) (List.replicate sz 0).length sz) pa pc
        ⟨⟨ca, cc, rfl, Hc.out.sl.grown (Gr.trans Hga.out (Gr.trans hb1 hu)), fun hl b off e hx => by
          rcases hx with hx | hx
          · exact Hc.out.nx hl b off e hx
          · obtain ⟨b0, off0, e0, hb0⟩ := Hc.out.sl.lt hl
            rw [e0] at e; cases e; omega⟩, Hc.out.ok, ⟨bo, 0, 1, rfl, h1, fun hx => by have := hb1.size; rcases hx with hx | hx; have := HX.out bo hx; omega; omega⟩, ⟨_, sz, rfl, zeros_sl h2 hs64, fun e => by cases e⟩, by rw [List.length_replicate]; omega, fun x hx => by rw [(List.mem_replicate.1 hx).2]; omega, fun b hb => hb, fun _ _ => trivial, trivial, fun b hx => by have := hu.size; have := hb1.size; rcases hx with hx | hx; have := HX.out b hx; omega; omega⟩ (Hp.out.sl.grown (Gr.trans Hga.out (Gr.trans hb1 hu))) Hp.out.ok (door_safe sz calls picks)).mono (fun e w' h => (⟨PlayTo.ret h, Gr.trans hb1 hu⟩ : PlayRet (fun b => X b ∨ b = w.heap.size) u w' (checkN sz calls picks.length) (playD (doorS sz) () (List.replicate sz 0) calls picks) e ∧ Below wa.heap.size wa u)))
    have N := Lib.hid (fun (u w0 : World) (h : Below w0.heap.size w0 u) => (door_new sz u).mono (fun e w' h' => (⟨h'.1, Gr.trans h h'.2, (fun b o hb => (h'.2.block b (blk_lt hb)).trans hb)⟩ : e = .returned (.agg #[.int .i64 0, .int .i64 (sz : Int)]) ∧ Below w0.heap.size w0 w' ∧ (∀ (b : Nat) (o : Obj), u.heap[b]? = some o → w'.heap[b]? = some o))))
    have hmk := make_size sz hs64
    obtain ⟨rr, hrr⟩ : ∃ rr, rr = playD (doorS sz) () (List.replicate sz 0) calls picks := ⟨_, rfl⟩
    rw [← Hck.out, hc0, ← hrr] at P
    rw [← hrr, ← Hck.out, hc0]
    simp only [List.length_replicate] at P
    subst hc0
    clear hrr
    go_enter Try.func39, Try.ntmps39
    go_wp2_with fail
    rw [← Hwa.out]
    refine C.out.mono ?_
    rintro e w1 ⟨rfl, hb1⟩
    replace P := Lib.hid (P.out w1 hb1)
    replace N := Lib.hid (fun (u : World) (h : Below w1.heap.size w1 u) => N.out u w1 h)
    have Hb1 := Lib.hid hb1
    clear hb1
    go_wp2_with fail
    go_region_held3 (fun u => True)
      (exact True.intro)
      (first | (go_at_call 62; refine (N.out _ ?_).mono ?_; (first | exact (Gr.refl _).drew | exact Gr.alloc (Gr.refl _).drew _); rintro e w2 ⟨rfl, hb2, hk2⟩) | (go_at_call 44; refine (P.out _ _ _ ?_ ?_ ?_ ?_).mono ?_; (first | with_reducible exact Gr.alloc (Gr.alloc hb2 _) _ | with_reducible exact Gr.alloc hb2 _); (first | with_reducible exact objs_cell _ _ _ _ | exact cell_new2 _ _ _ _ _ (by simp) | with_reducible exact cell_new1 _ _ _); (first | with_reducible exact made_blk1 _ _ _ _ (by simp) | with_reducible exact made_blk2 _ _ _ | exact made_blk3 hk2 _ _ (by simp)); (have := hb2.size; simp; omega); rintro e w4 ⟨⟨ea, en, ec, va, vn, vc, rp, rfl, hrest⟩, hu⟩; have hr4 := (hrest.1.block w.heap.size (by have := hu.size; omega)).trans ((hu.block w.heap.size (by omega)).trans Hra.out); obtain ⟨cs, w7, hcs, hsz, hst, hbk7, hch7⟩ := rep_store w4 w.heap.size (.slice ea en ec) (.slice va vn vc) rp hr4 rfl rfl; rw [hcs]; have Hcs := Lib.hid hcs; have Hbk7 := Lib.hid hbk7; have Hch7 := Lib.hid hch7; have Hrest := Lib.hid hrest; have Hu := Lib.hid hu; clear hr4 hrest hu hcs hbk7 hch7 hb2 hk2))
    all_goals
      go_wp2
      have hld := rep_load w7 w.heap.size cs Hbk7.out hsz
      refine bodyPost_ret (v := .tuple #[.agg cs, .int .i64 0]) (by simp [results, Try.results39 , Sem.run_bind, Sem.run_pure, asAddr, hld]) rfl ?_
      refine ⟨ea, en, ec, va, vn, vc, rp, by rw [Hcs.out], PlayRest.chg Hrest.out Hch7.out (fun b hb => ?_) (Gr.trans Hga.out Hu.out) (fun b hb => .inl hb)⟩
      have hb' : b = w.heap.size := hb
      exact ⟨.inr hb', by omega, by have := Hu.out.size; omega⟩
  · rw [← Hck.out]
    have Her0 := Lib.hid hc0
    go_enter Try.func39, Try.ntmps39
    go_wp2_with fail
    rw [← Hwa.out]
    refine C.out.mono ?_
    rintro e w1 ⟨rfl, hb1⟩
    have hr1 := (hb1.block _ (blk_lt Hra.out)).trans Hra.out
    have Hb1 := Lib.hid hb1; have Hr1 := Lib.hid hr1
    have g0 : w1.cell? ⟨w.heap.size, 0, none⟩ = some (.slice none 0 0) := by rw [cell_blk hr1]; rfl
    have gf0 : w1.frozen? ⟨w.heap.size, 0, none⟩ = false := frozen_blk hr1 0
    have g1 : w1.cell? ⟨w.heap.size, 1, none⟩ = some (.slice none 0 0) := by rw [cell_blk hr1]; rfl
    have gf1 : w1.frozen? ⟨w.heap.size, 1, none⟩ = false := frozen_blk hr1 1
    have g2 : w1.cell? ⟨w.heap.size, 2, none⟩ = some (.int .i64 0) := by rw [cell_blk hr1]; rfl
    have gf2 : w1.frozen? ⟨w.heap.size, 2, none⟩ = false := frozen_blk hr1 2
    have g3 : w1.cell? ⟨w.heap.size, 3, none⟩ = some (.int .i64 0) := by rw [cell_blk hr1]; rfl
    have gf3 : w1.frozen? ⟨w.heap.size, 3, none⟩ = false := frozen_blk hr1 3
    have g4 : w1.cell? ⟨w.heap.size, 4, none⟩ = some (.int .i64 0) := by rw [cell_blk hr1]; rfl
    have gf4 : w1.frozen? ⟨w.heap.size, 4, none⟩ = false := frozen_blk hr1 4
    have g5 : w1.cell? ⟨w.heap.size, 5, none⟩ = some (.int .i64 0) := by rw [cell_blk hr1]; rfl
    have gf5 : w1.frozen? ⟨w.heap.size, 5, none⟩ = false := frozen_blk hr1 5
    have g6 : w1.cell? ⟨w.heap.size, 6, none⟩ = some (.int .i64 0) := by rw [cell_blk hr1]; rfl
    have gf6 : w1.frozen? ⟨w.heap.size, 6, none⟩ = false := frozen_blk hr1 6
    have g7 : w1.cell? ⟨w.heap.size, 7, none⟩ = some (.int .i64 0) := by rw [cell_blk hr1]; rfl
    have gf7 : w1.frozen? ⟨w.heap.size, 7, none⟩ = false := frozen_blk hr1 7
    have g8 : w1.cell? ⟨w.heap.size, 8, none⟩ = some (.int .i64 0) := by rw [cell_blk hr1]; rfl
    have gf8 : w1.frozen? ⟨w.heap.size, 8, none⟩ = false := frozen_blk hr1 8
    clear hr1 hb1
    go_wp2
    obtain ⟨w7, hw7⟩ : ∃ w7, w7 = (((((((((w1.setCell ⟨w.heap.size, 0, none⟩ (.slice none 0 0)).setCell ⟨w.heap.size, 1, none⟩ (.slice none 0 0)).setCell ⟨w.heap.size, 2, none⟩ (.int .i64 0)).setCell ⟨w.heap.size, 3, none⟩ (.int .i64 0)).setCell ⟨w.heap.size, 4, none⟩ (.int .i64 0)).setCell ⟨w.heap.size, 5, none⟩ (.int .i64 0)).setCell ⟨w.heap.size, 6, none⟩ (.int .i64 0)).setCell ⟨w.heap.size, 7, none⟩ (.int .i64 0)).setCell ⟨w.heap.size, 8, none⟩ (.int .i64 0)) := ⟨_, rfl⟩
    rw [← hw7]
    have hr7 : w7.heap[w.heap.size]? = some (.cells #[.slice none 0 0, .slice none 0 0, .int .i64 0, .int .i64 0, .int .i64 0, .int .i64 0, .int .i64 0, .int .i64 0, .int .i64 0] 32 (0, 0)) := by rw [hw7, (blk_set (blk_set (blk_set (blk_set (blk_set (blk_set (blk_set (blk_set (blk_set Hr1.out _ _) _ _) _ _) _ _) _ _) _ _) _ _) _ _) _ _)]; rfl
    have hch7 : Chg (fun b => b = w.heap.size) w1 w7 := by rw [hw7]; exact ((((((((((Chg.refl (fun b => b = w.heap.size) w1).setCell (by exact .inl rfl) _).setCell (by exact .inl rfl) _).setCell (by exact .inl rfl) _).setCell (by exact .inl rfl) _).setCell (by exact .inl rfl) _).setCell (by exact .inl rfl) _).setCell (by exact .inl rfl) _).setCell (by exact .inl rfl) _).setCell (by exact .inl rfl) _)
    clear hw7
    have hld := rep_load w7 w.heap.size _ hr7 rfl
    refine bodyPost_ret (v := .tuple #[.agg #[.slice none 0 0, .slice none 0 0, .int .i64 0, .int .i64 0, .int .i64 0, .int .i64 0, .int .i64 0, .int .i64 0, .int .i64 0], .int .i64 ck]) (by simp [results, Try.results39 , Sem.run_bind, Sem.run_pure, asAddr, hld]) rfl ?_
    have hall : Chg (fun b => w.heap.size ≤ b) w w7 := ((Chg.of_below Hga.out).trans (Chg.of_below Hb1.out)).trans (hch7.mono (fun b _ h => by have h9 : b = w.heap.size := h; omega))
    exact ⟨none, 0, 0, none, 0, 0, _, rfl, hall.below (fun b h => h) (Nat.le_refl _), .inl ⟨Her0.out, rfl, rfl, rfl, rfl, rfl, rfl, rfl⟩⟩
end
section

/- Layer 12: two threads, picked by turns, and a third operation. -/
open Go.RowKit

set_option maxHeartbeats 4000000 in
theorem door_same (w : World) : Calls Try.prog 38 #[] w fun e w' => e = .returned (.bool true) ∧ Below w.heap.size w w' := by
  obtain ⟨wa, hwa⟩ : ∃ wa, wa = (w.alloc (.cells #[.int .i64 0, .int .i64 0, .int .i64 0, .int .u64 0, .int .u64 0, .int .u64 0, .int .i64 1, .int .i64 0, .int .i64 0, .int .u64 0, .int .u64 0, .int .u64 0, .int .i64 0, .int .i64 0, .int .i64 0, .int .u64 0, .int .u64 0, .int .u64 0] 55)).alloc (.cells #[.int .i64 0, .int .i64 1, .int .i64 0, .int .i64 1, .int .i64 0, .int .i64 1, .int .i64 0, .int .i64 0, .int .i64 0] 3) := ⟨_, rfl⟩
  have hga : Below w.heap.size w wa := by rw [hwa]; exact Gr.alloc (Gr.new _ _) _
  have h1 : wa.heap[w.heap.size]? = some (.cells (sameCalls.flatMap callL).toArray 55 (0, 0)) := by rw [hwa, Below.heap_alloc _ _ _ (by simp), heap_alloc_new]; rfl
  have h2 : wa.heap[w.heap.size + 1]? = some (.cells (([0, 1, 0, 1, 0, 1, 0, 0, 0] : List Int).map (Value.int .i64)).toArray 3 (0, 0)) := by
    rw [hwa]
    have := heap_alloc_new (w.alloc (.cells #[.int .i64 0, .int .i64 0, .int .i64 0, .int .u64 0, .int .u64 0, .int .u64 0, .int .i64 1, .int .i64 0, .int .i64 0, .int .u64 0, .int .u64 0, .int .u64 0, .int .i64 0, .int .i64 0, .int .i64 0, .int .u64 0, .int .u64 0, .int .u64 0] 55)) (.cells #[.int .i64 0, .int .i64 1, .int .i64 0, .int .i64 1, .int .i64 0, .int .i64 1, .int .i64 0, .int .i64 0, .int .i64 0] 3 (0, 0))
    simp only [World.size_alloc] at this
    exact this
  have P := doorPlay_any noB wa 2 sameCalls [0, 1, 0, 1, 0, 1, 0, 0, 0] (some ⟨w.heap.size, 0, none⟩) (some ⟨w.heap.size + 1, 0, none⟩) 3 9 (fun b hb => hb.elim) ⟨calls_block h1 (by decide), (by
      intro x hx
      simp only [sameCalls, List.mem_cons, List.not_mem_nil, or_false] at hx
      rcases hx with rfl | rfl | rfl <;> exact callOk_small (by decide) (by decide) (by decide) (by decide) (by decide) (by decide) (by decide)), fun _ _ _ _ h => h⟩ ⟨ints_block h2 (by decide), by intro x hx; simp only [List.mem_cons, List.not_mem_nil, or_false] at hx; rcases hx with rfl | rfl | rfl | rfl | rfl | rfl | rfl | rfl | rfl <;> rfl⟩
  rw [show ([0, 1, 0, 1, 0, 1, 0, 0, 0] : List Int).length = 9 from rfl, same_check12, show (2 : Int).toNat = 2 from rfl, show List.replicate 2 0 = [0, 0] from rfl, same_rep12, show sameCalls.length = 3 from rfl] at P
  have HP := Lib.hid P; have Hwa := Lib.hid hwa; have Hga := Lib.hid hga
  clear P h1 h2 hwa hga
  go_enter Try.func38, Try.ntmps38
  go_wp2_with fail
  rw [← Hwa.out]
  refine HP.out.mono ?_
  rintro e w1 ⟨ea, en, ec, va, vn, vc, rp, rfl, hb, hr⟩
  rcases hr with ⟨h0, _⟩ | ⟨_, hrp, hen, hvn, ers, hrep⟩
  · exact absurd rfl h0
  obtain ⟨g, rfl, hg, hev⟩ := hrep.event hen (by rw [hen]; decide)
  have hen2 : en = 3 := hen
  subst hen2 hrp
  have c5 : w1.cell? ⟨g, 5, none⟩ = some (.int .u64 1) := hev 0 5 (by omega) (by omega)
  have c13 : w1.cell? ⟨g, 13, none⟩ = some (.int .u64 1) := hev 1 5 (by omega) (by omega)
  have c19 : w1.cell? ⟨g, 19, none⟩ = some (.int .i64 3) := hev 2 3 (by omega) (by omega)
  have c21 : w1.cell? ⟨g, 21, none⟩ = some (.int .u64 2) := hev 2 5 (by omega) (by omega)
  have Hb := Lib.hid hb
  clear hrep hev hb hen hvn
  unfold repV
  go_wp2
  go_ret
  exact ⟨rfl, Gr.trans Hga.out (Gr.trans Hb.out (Gr.new _ _))⟩
end
section

/- A report's events, as the laws' checks meet them. -/
open Go.RowKit

theorem RepAt.ev8 {X : Nat → Prop} {B : Nat} {w wr : World} {ea : Option Addr} {en ec : Nat} {wv : Value} {ers : List (Value × Value)} {r : RepD} (h : RepAt X B w (.slice ea en ec) wv ers r) (hn : en = r.evs.length) {k : Nat} (hk : k < en) (hb : Below w.heap.size w wr) :
    ∃ g la lc ka kc, ea = some ⟨g, 0, none⟩ ∧ g < wr.heap.size ∧
      wr.cell? ⟨g, k * 8, none⟩ = some (.int .i64 ((evAt r.evs k).call : Int)) ∧ wr.cell? ⟨g, k * 8 + 1, none⟩ = some (.int .i64 ((evAt r.evs k).inv : Int)) ∧ wr.cell? ⟨g, k * 8 + 2, none⟩ = some (.int .i64 ((evAt r.evs k).resp : Int)) ∧ wr.cell? ⟨g, k * 8 + 3, none⟩ = some (.int .i64 ((evAt r.evs k).steps : Int)) ∧
      wr.cell? ⟨g, k * 8 + 4, none⟩ = some (.int .i64 (evAt r.evs k).ans.err) ∧ wr.cell? ⟨g, k * 8 + 5, none⟩ = some (.int .u64 ((evAt r.evs k).ans.val : Int)) ∧ wr.cell? ⟨g, k * 8 + 6, none⟩ = some (.slice la (evAt r.evs k).ans.list.length lc) ∧ wr.cell? ⟨g, k * 8 + 7, none⟩ = some (.slice ka (evAt r.evs k).key.length kc) ∧
      SlAt wr la (evAt r.evs k).ans.list.length 1 (u64G (evAt r.evs k).ans.list) ∧ SlAt wr ka (evAt r.evs k).key.length 1 (intG (evAt r.evs k).key) ∧ ((evAt r.evs k).key = [] → ka = none ∧ kc = 0) := by
  obtain ⟨g, rfl, hg, hev⟩ := h.event hn (by omega)
  have hans := h.ans k (by rw [← hn]; exact hk)
  obtain ⟨V, hV⟩ : ∃ V, V = ers.getD k vv0 := ⟨_, rfl⟩
  rw [← hV] at hans
  obtain ⟨⟨la, lc, hlv, hls, _⟩, ⟨ka, kc, hkv, hkn, hks, _⟩⟩ := hans
  have hcells : ∀ f, f < 8 → wr.cell? ⟨g, k * 8 + f, none⟩ = (evCells (evAt r.evs k) V)[f]? := fun f hf => by rw [hb.cell hg, hev k f hk hf, hV]; rfl
  refine ⟨g, la, lc, ka, kc, rfl, Nat.lt_of_lt_of_le hg hb.size, hcells 0 (by omega), hcells 1 (by omega), hcells 2 (by omega), hcells 3 (by omega), hcells 4 (by omega), hcells 5 (by omega), ?_, ?_, hls.grown hb, hks.grown hb, fun h0 => ?_⟩
  · rw [hcells 6 (by omega)]; exact congrArg some hlv
  · rw [hcells 7 (by omega)]; exact congrArg some hkv
  · have := hkn h0
    rw [hkv] at this
    simp only [Value.slice.injEq] at this
    exact ⟨this.1, this.2.2⟩
theorem cnt_take_succ (P : EvD → Bool) (l : List EvD) (j : Nat) (hj : j < l.length) : cnt P (l.take (j + 1)) = cnt P (l.take j) + (if P (evAt l j) then 1 else 0) := by
  rw [List.take_succ_eq_append_getElem hj, cnt_append, cnt_cons, cnt_nil, Nat.add_zero]
  congr 2
  unfold evAt
  rw [List.getD_eq_getElem?_getD, List.getElem?_eq_getElem hj, Option.getD_some]

set_option maxHeartbeats 4000000 in
theorem most_true {X : Nat → Prop} {B : Nat} (w : World) (m : Nat) (ea va : Option Addr) (en ec vn vc : Nat) (ers : List (Value × Value)) (rp : RepD) (hrep : RepAt X B w (.slice ea en ec) (.slice va vn vc) ers rp) (hen : en = rp.evs.length) (hlen : rp.evs.length < 1000000) (hm : ∀ i, i < rp.evs.length → (evAt rp.evs i).steps ≤ m) :
    Calls Try.prog 30 #[repV (.slice ea en ec) (.slice va vn vc) rp, .int .i64 (m : Int)] w fun e w' => e = .returned (.bool true) ∧ Below w.heap.size w w' := by
  obtain ⟨wa, hwa⟩ : ∃ wa, wa = w.alloc (.cells #[.slice ea en ec, .slice va vn vc, .int .i64 (rp.c.read : Int), .int .i64 (rp.c.write : Int), .int .i64 (rp.c.swap : Int), .int .i64 (rp.c.add : Int), .int .i64 (rp.c.fault : Int), .int .i64 (rp.ticks : Int), .int .i64 (rp.idle : Int)] 32) := ⟨_, rfl⟩
  have hga : Below w.heap.size w wa := by rw [hwa]; exact Gr.new _ _
  have hba : wa.heap[w.heap.size]? = some (.cells #[.slice ea en ec, .slice va vn vc, .int .i64 (rp.c.read : Int), .int .i64 (rp.c.write : Int), .int .i64 (rp.c.swap : Int), .int .i64 (rp.c.add : Int), .int .i64 (rp.c.fault : Int), .int .i64 (rp.ticks : Int), .int .i64 (rp.idle : Int)] 32 (0, 0)) := by rw [hwa]; exact heap_alloc_new _ _
  have a0 : wa.cell? ⟨w.heap.size, 0, none⟩ = some (.slice ea en ec) := by rw [cell_blk hba]; rfl
  have hlt0 := blk_lt hba
  have henl : en ≤ 9223372036854775807 := by omega
  have Hrep := Lib.hid hrep; have Hen := Lib.hid hen; have Hm := Lib.hid hm; have Hga := Lib.hid hga; have A0 := Lib.hid a0; have Hlt0 := Lib.hid hlt0; have Hwa := Lib.hid hwa
  clear hrep hen hm hga hba hlt0 hwa hlen
  unfold repV
  go_enter Try.func30, Try.ntmps30
  go_wp2_with fail
  rw [← Hwa.out]
  go_wp2
  go_loopw [9] (fun i wr => ∃ k : Nat, k ≤ en ∧ i = .int .i64 k ∧ Below wa.heap.size wa wr) (fun i _ => en - (intOf i).toNat)
  case atStart => exact ⟨0, Nat.zero_le _, rfl, Gr.refl _⟩
  case round =>
    obtain ⟨k, hk, rfl, hb⟩ := hrel
    have b0 : wr.cell? ⟨w.heap.size, 0, none⟩ = some (.slice ea en ec) := (hb.cell Hlt0.out).trans A0.out
    by_cases hlt : k < en
    · obtain ⟨g, la, lc, ka, kc, rfl, hg, e0, e1, e2, e3, e4, e5, e6, e7, hls, hks, hkn⟩ := Hrep.out.ev8 Hen.out hlt (Gr.trans Hga.out hb)
      have hs := Hm.out k (by rw [← Hen.out]; exact hlt)
      obtain ⟨st, hst⟩ : ∃ st, st = (evAt rp.evs k).steps := ⟨_, rfl⟩
      rw [← hst] at e3 hs
      have l1 : (k : Int) < (en : Int) := by omega
      have l2 : (st : Int) ≤ (m : Int) := by omega
      have Hb := Lib.hid hb
      clear e0 e1 e2 e4 e5 e6 e7 hls hks hst hs hb hg hkn
      go_wp2
      go_roundw
      case rel => exact ⟨k + 1, by omega, by go_num, Hb.out⟩
      case measure => simp [intOf] <;> omega
    · have l1 : ¬ (k : Int) < (en : Int) := by omega
      have Hb := Lib.hid hb
      clear hb
      go_wp2
      go_ret
      exact ⟨rfl, Gr.trans Hga.out Hb.out⟩
end
end Go.Proofs.Ytjkgfkbanbhkgaa
