/- Layer 7: cons.Play. -/
import Derived.Test.YtkocgeedpinplaaCons
import Derived.Test.YtkocgeedpinplaaPlayR
set_option maxRecDepth 100000
namespace Go.Proofs.Ytkocgeedpinplaa
open Go.RowKit

theorem cons_new (w : World) : Calls Try.prog 67 #[.int .i64 0] w fun e w' => e = .returned (.agg #[.int .i64 0]) ∧ Below w.heap.size w w' := by
  go_enter Try.func67, Try.ntmps67
  go_wp2
  exact bodyPost_ret (v := .agg #[.int .i64 0]) (by simp [results, Try.results67 , go_sem]) rfl ⟨rfl, Gr.new _ _⟩
set_option maxHeartbeats 4000000 in
theorem consPlay_any (X : Nat → Prop) (w : World) (n : Int) (calls : List CallD) (picks : List Int) (ca pa : Option Addr) (cc pc : Nat) (hX : ∀ b, X b → b < w.heap.size) (hc : CallsAt X w ca calls) (hp : PicksAt w pa picks) :
    Calls Try.prog 38 #[.int .i64 n, .slice ca calls.length cc, .slice pa picks.length pc] w fun e w' => PlayRet X w w' (checkN n calls picks.length) (playD consS () [0] calls picks) e := by
  obtain ⟨wa, hwa⟩ : ∃ wa, wa = w.alloc (.cells #[.slice none 0 0, .slice none 0 0, .int .i64 0, .int .i64 0, .int .i64 0, .int .i64 0, .int .i64 0, .int .i64 0, .int .i64 0] 57) := ⟨_, rfl⟩
  have hga : Below w.heap.size w wa := by rw [hwa]; exact Gr.new _ _
  have hra : wa.heap[w.heap.size]? = some (.cells #[.slice none 0 0, .slice none 0 0, .int .i64 0, .int .i64 0, .int .i64 0, .int .i64 0, .int .i64 0, .int .i64 0, .int .i64 0] 57 (0, 0)) := by rw [hwa]; exact heap_alloc_new _ _
  have hsa : w.heap.size < wa.heap.size := by rw [hwa]; simp
  have Hwa := Lib.hid hwa; have Hga := Lib.hid hga; have Hra := Lib.hid hra
  have P := Lib.hid (fun (u : World) (bo bw : Nat) (hu : Below wa.heap.size wa u) (h1 : u.cell? ⟨bo, 0, none⟩ = some (.iface 114 (.agg #[.int .i64 0]))) (h2 : u.cell? ⟨bw, 0, none⟩ = some (.int .u64 0)) (hbo : wa.heap.size ≤ bo) =>
    (play_any (X := fun b => X b ∨ b = w.heap.size) (R := consR) cons_ok cons_nolate (Nat.zero_le _) u () n calls [0] picks (.slice (some ⟨bo, 0, none⟩) 1 1) (.slice ca calls.length cc) (.slice (some ⟨bw, 0, none⟩) 1 1) pa pc
      ⟨⟨ca, cc, rfl, hc.sl.grown (Gr.trans hga hu), fun hl b off e hx => by
        rcases hx with hx | hx
        · exact hc.nx hl b off e hx
        · obtain ⟨b0, off0, e0, hb0⟩ := hc.sl.lt hl
          rw [e0] at e; cases e; omega⟩, hc.ok, ⟨bo, 0, 1, rfl, h1, fun hx => by rcases hx with hx | hx; have := hX bo hx; omega; omega⟩, ⟨_, 1, rfl, slOne h2, fun e => by cases e⟩, by simp, by simp, fun b hb => hb, fun _ _ => trivial, trivial, fun b hx => by have := hu.size; rcases hx with hx | hx; have := hX b hx; omega; omega⟩ (hp.sl.grown (Gr.trans hga hu)) hp.ok).mono (fun e w' h => (⟨PlayTo.ret h, hu⟩ : PlayRet (fun b => X b ∨ b = w.heap.size) u w' (checkN n calls picks.length) (playD consS () [0] calls picks) e ∧ Below wa.heap.size wa u)))
  have N := Lib.hid (fun (u : World) (h : Below wa.heap.size wa u) => (cons_new u).mono (fun e w' h' => (⟨h'.1, Gr.trans h h'.2, (fun p hp => h'.2.cell hp), h'.2.size⟩ : e = .returned (.agg #[.int .i64 0]) ∧ Below wa.heap.size wa w' ∧ (∀ p : Addr, p.block < u.heap.size → w'.cell? p = u.cell? p) ∧ u.heap.size ≤ w'.heap.size)))
  have hmk := make_one
  obtain ⟨er, her⟩ : ∃ er, er = checkN n calls picks.length := ⟨_, rfl⟩
  obtain ⟨rr, hrr⟩ : ∃ rr, rr = playD consS () [0] calls picks := ⟨_, rfl⟩
  rw [← her, ← hrr] at P ⊢
  clear hc hp hwa hga hra her hrr
  go_enter Try.func38, Try.ntmps38
  go_wp2_with fail
  rw [← Hwa.out]
  go_region_held3 (fun u => True)
    (exact True.intro)
    (first | (go_at_call 67; refine (N.out _ ?_).mono ?_; (first | exact (Gr.refl _).drew | exact Gr.alloc (Gr.refl _).drew _); rintro e w1 ⟨rfl, hb1, hk1⟩) | (go_at_call 57; refine (P.out _ _ _ ?_ ?_ ?_ ?_).mono ?_; (first | with_reducible exact Gr.alloc (Gr.alloc hb1 _) _ | with_reducible exact Gr.alloc hb1 _); (first | with_reducible exact objs_cell _ _ _ _ | exact cell_new2 _ _ _ _ _ (by simp) | with_reducible exact cell_new1 _ _ _); (first | with_reducible exact made_cell _ _ _ (by simp) | with_reducible exact made_cell2 _ _ | exact made_cell3 hk1.1 _ _ (by simp) hk1.2); (have := hb1.size; simp; omega); rintro e w4 ⟨⟨ea, en, ec, va, vn, vc, rp, rfl, hrest⟩, hu⟩; have hr4 := (hrest.1.block w.heap.size (by have := hu.size; omega)).trans ((hu.block w.heap.size (by omega)).trans Hra.out); obtain ⟨cs, w7, hcs, hsz, hst, hbk7, hch7⟩ := rep_store w4 w.heap.size (.slice ea en ec) (.slice va vn vc) rp hr4 rfl rfl; rw [hcs]; have Hcs := Lib.hid hcs; have Hbk7 := Lib.hid hbk7; have Hch7 := Lib.hid hch7; have Hrest := Lib.hid hrest; have Hu := Lib.hid hu; clear hr4 hrest hu hb1 hk1 hcs hbk7 hch7))
  all_goals
    go_wp2
    have hld := rep_load w7 w.heap.size cs Hbk7.out hsz
    refine bodyPost_ret (v := .tuple #[.agg cs, .int .i64 er]) (by simp [results, Try.results38 , Sem.run_bind, Sem.run_pure, asAddr, hld]) rfl ?_
    refine ⟨ea, en, ec, va, vn, vc, rp, by rw [Hcs.out], PlayRest.chg Hrest.out Hch7.out (fun b hb => ?_) (Gr.trans Hga.out Hu.out) (fun b hb => .inl hb)⟩
    have hb' : b = w.heap.size := hb
    exact ⟨.inr hb', by omega, by have := Hu.out.size; omega⟩
end Go.Proofs.Ytkocgeedpinplaa
