/- Layer 8: tally.Play. -/
import Derived.Test.YtjkgfkbanbhkgaaJ29
import Derived.Test.YtjkgfkbanbhkgaaJ28
import Derived.Test.YtjkgfkbanbhkgaaJ25
import Derived.Test.YtjkgfkbanbhkgaaJ30
set_option maxRecDepth 100000
set_option linter.unusedVariables false
set_option linter.unusedSimpArgs false
set_option linter.unnecessarySimpa false
namespace Go.Proofs.Ytjkgfkbanbhkgaa
section
open Go.RowKit

theorem tally_new (m : Nat) (w : World) : Calls Try.prog 56 #[.int .i64 0, .int .i64 (m : Int)] w fun e w' => e = .returned (.agg #[.int .i64 0, .int .i64 (m : Int)]) ∧ Below w.heap.size w w' := by
  go_enter Try.func56, Try.ntmps56
  go_wp2
  exact bodyPost_ret (v := .agg #[.int .i64 0, .int .i64 (m : Int)]) (by simp [results, Try.results56 , go_sem]) rfl ⟨rfl, Gr.new _ _⟩
theorem made_blk3 {u w1 : World} {size : Nat} (hk : ∀ (b : Nat) (o : Obj), (u.alloc (.cells (madeCells #[.int .u64 0] size) 46)).heap[b]? = some o → w1.heap[b]? = some o) (o : Obj) (b : Nat) (hb : b = u.heap.size) : (w1.alloc o).heap[b]? = some (.cells (madeCells #[.int .u64 0] size) 46 (0, 0)) := by
  have h1 := hk u.heap.size _ (heap_alloc_new u (.cells (madeCells #[.int .u64 0] size) 46 (0, 0)))
  rw [hb, Below.heap_alloc _ _ _ (blk_lt h1)]; exact h1
set_option maxHeartbeats 4000000 in
theorem tallyPlay_any (X : Nat → Prop) (w : World) (n : Int) (calls : List CallD) (picks : List Int) (ca pa : Option Addr) (cc pc : Nat) (hX : ∀ b, X b → b < w.heap.size) (hc : CallsAt X w ca calls) (hp : PicksAt w pa picks) :
    Calls Try.prog 28 #[.int .i64 n, .slice ca calls.length cc, .slice pa picks.length pc] w fun e w' => PlayRet X w w' (checkN n calls picks.length) (playD (tallyS n.toNat) () (List.replicate n.toNat 0) calls picks) e := by
  obtain ⟨wa, hwa⟩ : ∃ wa, wa = w.alloc (.cells #[.slice none 0 0, .slice none 0 0, .int .i64 0, .int .i64 0, .int .i64 0, .int .i64 0, .int .i64 0, .int .i64 0, .int .i64 0] 32) := ⟨_, rfl⟩
  have hga : Below w.heap.size w wa := by rw [hwa]; exact Gr.new _ _
  have hra : wa.heap[w.heap.size]? = some (.cells #[.slice none 0 0, .slice none 0 0, .int .i64 0, .int .i64 0, .int .i64 0, .int .i64 0, .int .i64 0, .int .i64 0, .int .i64 0] 32 (0, 0)) := by rw [hwa]; exact heap_alloc_new _ _
  have hsa : w.heap.size < wa.heap.size := by rw [hwa]; simp
  have C := Lib.hid (check_any n calls picks.length ca pa cc pc wa (hc.sl.grown hga) hp.sl.1 (fun x hx => (hc.ok x hx).thread))
  have Hc := Lib.hid hc; have Hp := Lib.hid hp; have HX := Lib.hid hX
  have Hwa := Lib.hid hwa; have Hga := Lib.hid hga; have Hra := Lib.hid hra
  have hpl := hp.sl.1
  unfold maxLen at hpl
  clear hc hp hX hwa hga hra
  obtain ⟨ck, hck⟩ : ∃ ck, ck = checkN n calls picks.length := ⟨_, rfl⟩
  rw [← hck] at C
  have Hck := Lib.hid hck
  clear hck
  by_cases hc0 : ck = 0
  · obtain ⟨hn1, hn16⟩ := n_ok (hc0 ▸ Hck.out).symm
    obtain ⟨sz, rfl⟩ : ∃ sz : Nat, n = (sz : Int) := ⟨n.toNat, by omega⟩
    have hs1 : 1 ≤ sz := by omega
    have hs64 : sz ≤ 64 := by omega
    have hs16 : sz ≤ 16 := by omega
    simp only [Int.toNat_natCast]
    have P := Lib.hid (fun (w1 : World) (hb1 : Below wa.heap.size wa w1) (u : World) (bo bw : Nat) (hu : Below w1.heap.size w1 u) (h1 : u.cell? ⟨bo, 0, none⟩ = some (.iface 90 (.agg #[.int .i64 0, .int .i64 (sz : Int)]))) (h2 : u.heap[bw]? = some (.cells (madeCells #[.int .u64 0] sz) 46 (0, 0))) (hbo : w1.heap.size ≤ bo) =>
      (play_any (X := fun b => X b ∨ b = w.heap.size) (R := tallyR sz) (tally_ok sz hs16) (tally_nolate sz) (by show 1 ≤ 1000; omega) u () sz calls (List.replicate sz 0) picks (.slice (some ⟨bo, 0, none⟩) 1 1) (.slice ca calls.length cc) (.slice (some ⟨bw, 0, none⟩) (List.replicate sz 0).length sz) pa pc
        ⟨⟨ca, cc, rfl, Hc.out.sl.grown (Gr.trans Hga.out (Gr.trans hb1 hu)), fun hl b off e hx => by
          rcases hx with hx | hx
          · exact Hc.out.nx hl b off e hx
          · obtain ⟨b0, off0, e0, hb0⟩ := Hc.out.sl.lt hl
            rw [e0] at e; cases e; omega⟩, Hc.out.ok, ⟨bo, 0, 1, rfl, h1, fun hx => by have := hb1.size; rcases hx with hx | hx; have := HX.out bo hx; omega; omega⟩, ⟨_, sz, rfl, zeros_sl h2 hs64, fun e => by cases e⟩, by rw [List.length_replicate]; omega, fun x hx => by rw [(List.mem_replicate.1 hx).2]; omega, fun b hb => hb, fun _ _ => trivial, trivial, fun b hx => by have := hu.size; have := hb1.size; rcases hx with hx | hx; have := HX.out b hx; omega; omega⟩ (Hp.out.sl.grown (Gr.trans Hga.out (Gr.trans hb1 hu))) Hp.out.ok (tally_safe sz calls picks)).mono (fun e w' h => (⟨PlayTo.ret h, Gr.trans hb1 hu⟩ : PlayRet (fun b => X b ∨ b = w.heap.size) u w' (checkN sz calls picks.length) (playD (tallyS sz) () (List.replicate sz 0) calls picks) e ∧ Below wa.heap.size wa u)))
    have N := Lib.hid (fun (u w0 : World) (h : Below w0.heap.size w0 u) => (tally_new sz u).mono (fun e w' h' => (⟨h'.1, Gr.trans h h'.2, (fun b o hb => (h'.2.block b (blk_lt hb)).trans hb)⟩ : e = .returned (.agg #[.int .i64 0, .int .i64 (sz : Int)]) ∧ Below w0.heap.size w0 w' ∧ (∀ (b : Nat) (o : Obj), u.heap[b]? = some o → w'.heap[b]? = some o))))
    have hmk := make_size sz hs64
    obtain ⟨rr, hrr⟩ : ∃ rr, rr = playD (tallyS sz) () (List.replicate sz 0) calls picks := ⟨_, rfl⟩
    rw [← Hck.out, hc0, ← hrr] at P
    rw [← hrr, ← Hck.out, hc0]
    simp only [List.length_replicate] at P
    subst hc0
    clear hrr
    go_enter Try.func28, Try.ntmps28
    go_wp2_with fail
    rw [← Hwa.out]
    refine C.out.mono ?_
    rintro e w1 ⟨rfl, hb1⟩
    replace P := Lib.hid (P.out w1 hb1)
    replace N := Lib.hid (fun (u : World) (h : Below w1.heap.size w1 u) => N.out u w1 h)
    have Hb1 := Lib.hid hb1
    clear hb1
    go_wp2_with fail
    go_region_held3 (fun u => True)
      (exact True.intro)
      (first | (go_at_call 56; refine (N.out _ ?_).mono ?_; (first | exact (Gr.refl _).drew | exact Gr.alloc (Gr.refl _).drew _); rintro e w2 ⟨rfl, hb2, hk2⟩) | (go_at_call 44; refine (P.out _ _ _ ?_ ?_ ?_ ?_).mono ?_; (first | with_reducible exact Gr.alloc (Gr.alloc hb2 _) _ | with_reducible exact Gr.alloc hb2 _); (first | with_reducible exact objs_cell _ _ _ _ | exact cell_new2 _ _ _ _ _ (by simp) | with_reducible exact cell_new1 _ _ _); (first | with_reducible exact made_blk1 _ _ _ _ (by simp) | with_reducible exact made_blk2 _ _ _ | exact made_blk3 hk2 _ _ (by simp)); (have := hb2.size; simp; omega); rintro e w4 ⟨⟨ea, en, ec, va, vn, vc, rp, rfl, hrest⟩, hu⟩; have hr4 := (hrest.1.block w.heap.size (by have := hu.size; omega)).trans ((hu.block w.heap.size (by omega)).trans Hra.out); obtain ⟨cs, w7, hcs, hsz, hst, hbk7, hch7⟩ := rep_store w4 w.heap.size (.slice ea en ec) (.slice va vn vc) rp hr4 rfl rfl; rw [hcs]; have Hcs := Lib.hid hcs; have Hbk7 := Lib.hid hbk7; have Hch7 := Lib.hid hch7; have Hrest := Lib.hid hrest; have Hu := Lib.hid hu; clear hr4 hrest hu hcs hbk7 hch7 hb2 hk2))
    all_goals
      go_wp2
      have hld := rep_load w7 w.heap.size cs Hbk7.out hsz
      refine bodyPost_ret (v := .tuple #[.agg cs, .int .i64 0]) (by simp [results, Try.results28 , Sem.run_bind, Sem.run_pure, asAddr, hld]) rfl ?_
      refine ⟨ea, en, ec, va, vn, vc, rp, by rw [Hcs.out], PlayRest.chg Hrest.out Hch7.out (fun b hb => ?_) (Gr.trans Hga.out Hu.out) (fun b hb => .inl hb)⟩
      have hb' : b = w.heap.size := hb
      exact ⟨.inr hb', by omega, by have := Hu.out.size; omega⟩
  · rw [← Hck.out]
    have Her0 := Lib.hid hc0
    go_enter Try.func28, Try.ntmps28
    go_wp2_with fail
    rw [← Hwa.out]
    refine C.out.mono ?_
    rintro e w1 ⟨rfl, hb1⟩
    have hr1 := (hb1.block _ (blk_lt Hra.out)).trans Hra.out
    have Hb1 := Lib.hid hb1; have Hr1 := Lib.hid hr1
    have g0 : w1.cell? ⟨w.heap.size, 0, none⟩ = some (.slice none 0 0) := by rw [cell_blk hr1]; rfl
    have gf0 : w1.frozen? ⟨w.heap.size, 0, none⟩ = false := frozen_blk hr1 0
    have g1 : w1.cell? ⟨w.heap.size, 1, none⟩ = some (.slice none 0 0) := by rw [cell_blk hr1]; rfl
    have gf1 : w1.frozen? ⟨w.heap.size, 1, none⟩ = false := frozen_blk hr1 1
    have g2 : w1.cell? ⟨w.heap.size, 2, none⟩ = some (.int .i64 0) := by rw [cell_blk hr1]; rfl
    have gf2 : w1.frozen? ⟨w.heap.size, 2, none⟩ = false := frozen_blk hr1 2
    have g3 : w1.cell? ⟨w.heap.size, 3, none⟩ = some (.int .i64 0) := by rw [cell_blk hr1]; rfl
    have gf3 : w1.frozen? ⟨w.heap.size, 3, none⟩ = false := frozen_blk hr1 3
    have g4 : w1.cell? ⟨w.heap.size, 4, none⟩ = some (.int .i64 0) := by rw [cell_blk hr1]; rfl
    have gf4 : w1.frozen? ⟨w.heap.size, 4, none⟩ = false := frozen_blk hr1 4
    have g5 : w1.cell? ⟨w.heap.size, 5, none⟩ = some (.int .i64 0) := by rw [cell_blk hr1]; rfl
    have gf5 : w1.frozen? ⟨w.heap.size, 5, none⟩ = false := frozen_blk hr1 5
    have g6 : w1.cell? ⟨w.heap.size, 6, none⟩ = some (.int .i64 0) := by rw [cell_blk hr1]; rfl
    have gf6 : w1.frozen? ⟨w.heap.size, 6, none⟩ = false := frozen_blk hr1 6
    have g7 : w1.cell? ⟨w.heap.size, 7, none⟩ = some (.int .i64 0) := by rw [cell_blk hr1]; rfl
    have gf7 : w1.frozen? ⟨w.heap.size, 7, none⟩ = false := frozen_blk hr1 7
    have g8 : w1.cell? ⟨w.heap.size, 8, none⟩ = some (.int .i64 0) := by rw [cell_blk hr1]; rfl
    have gf8 : w1.frozen? ⟨w.heap.size, 8, none⟩ = false := frozen_blk hr1 8
    clear hr1 hb1
    go_wp2
    obtain ⟨w7, hw7⟩ : ∃ w7, w7 = (((((((((w1.setCell ⟨w.heap.size, 0, none⟩ (.slice none 0 0)).setCell ⟨w.heap.size, 1, none⟩ (.slice none 0 0)).setCell ⟨w.heap.size, 2, none⟩ (.int .i64 0)).setCell ⟨w.heap.size, 3, none⟩ (.int .i64 0)).setCell ⟨w.heap.size, 4, none⟩ (.int .i64 0)).setCell ⟨w.heap.size, 5, none⟩ (.int .i64 0)).setCell ⟨w.heap.size, 6, none⟩ (.int .i64 0)).setCell ⟨w.heap.size, 7, none⟩ (.int .i64 0)).setCell ⟨w.heap.size, 8, none⟩ (.int .i64 0)) := ⟨_, rfl⟩
    rw [← hw7]
    have hr7 : w7.heap[w.heap.size]? = some (.cells #[.slice none 0 0, .slice none 0 0, .int .i64 0, .int .i64 0, .int .i64 0, .int .i64 0, .int .i64 0, .int .i64 0, .int .i64 0] 32 (0, 0)) := by rw [hw7, (blk_set (blk_set (blk_set (blk_set (blk_set (blk_set (blk_set (blk_set (blk_set Hr1.out _ _) _ _) _ _) _ _) _ _) _ _) _ _) _ _) _ _)]; rfl
    have hch7 : Chg (fun b => b = w.heap.size) w1 w7 := by rw [hw7]; exact ((((((((((Chg.refl (fun b => b = w.heap.size) w1).setCell (by exact .inl rfl) _).setCell (by exact .inl rfl) _).setCell (by exact .inl rfl) _).setCell (by exact .inl rfl) _).setCell (by exact .inl rfl) _).setCell (by exact .inl rfl) _).setCell (by exact .inl rfl) _).setCell (by exact .inl rfl) _).setCell (by exact .inl rfl) _)
    clear hw7
    have hld := rep_load w7 w.heap.size _ hr7 rfl
    refine bodyPost_ret (v := .tuple #[.agg #[.slice none 0 0, .slice none 0 0, .int .i64 0, .int .i64 0, .int .i64 0, .int .i64 0, .int .i64 0, .int .i64 0, .int .i64 0], .int .i64 ck]) (by simp [results, Try.results28 , Sem.run_bind, Sem.run_pure, asAddr, hld]) rfl ?_
    have hall : Chg (fun b => w.heap.size ≤ b) w w7 := ((Chg.of_below Hga.out).trans (Chg.of_below Hb1.out)).trans (hch7.mono (fun b _ h => by have h9 : b = w.heap.size := h; omega))
    exact ⟨none, 0, 0, none, 0, 0, _, rfl, hall.below (fun b h => h) (Nat.le_refl _), .inl ⟨Her0.out, rfl, rfl, rfl, rfl, rfl, rfl, rfl⟩⟩
end
section

/- What Between asks of a report, in plain numbers. -/
open Go.RowKit

/-- Counted wholly ahead of x; begun ahead of its response. -/
def bD (calls : List CallD) (iv : Nat) (y : EvD) : Bool := decide (y.ans.err = 0) && decide ((calls.getD y.call d0).obj = 0) && decide ((calls.getD y.call d0).kind = 0) && decide (y.resp ≠ 0) && decide (y.resp < iv)
def bB (calls : List CallD) (rs : Nat) (y : EvD) : Bool := decide (y.ans.err = 0) && decide ((calls.getD y.call d0).obj = 0) && decide ((calls.getD y.call d0).kind = 0) && decide (y.inv < rs)
structure BetGood (calls : List CallD) (evs : List EvD) : Prop where
  call : ∀ i, i < evs.length → (evAt evs i).call < calls.length
  reads : ∀ i, i < evs.length → (calls.getD (evAt evs i).call d0).obj = 0 → (calls.getD (evAt evs i).call d0).kind = 1 → (evAt evs i).resp ≠ 0 → (evAt evs i).ans.err = 0 →
    (∀ j, j < evs.length → (evAt evs j).ans.err = 0 → (calls.getD (evAt evs j).call d0).obj = 0 → (calls.getD (evAt evs j).call d0).kind = 1 → (evAt evs j).resp ≠ 0 → (evAt evs j).resp < (evAt evs i).inv → (evAt evs j).ans.val ≤ (evAt evs i).ans.val) ∧
    cnt (bD calls (evAt evs i).inv) evs ≤ (evAt evs i).ans.val ∧ (evAt evs i).ans.val ≤ cnt (bB calls (evAt evs i).resp) evs
theorem bD0 {D js iv : Nat} {jr ob kd : Int} (h : ¬ (jr = 0 ∧ ob = 0 ∧ kd = 0 ∧ js ≠ 0 ∧ js < iv)) : D + (if (decide (jr = 0) && decide (ob = 0) && decide (kd = 0) && decide (js ≠ 0) && decide (js < iv)) = true then 1 else 0) = D := by
  rw [if_neg (by simpa [and_assoc] using h), Nat.add_zero]
theorem bD1 {D js iv : Nat} {jr ob kd : Int} (h : jr = 0 ∧ ob = 0 ∧ kd = 0 ∧ js ≠ 0 ∧ js < iv) : D + (if (decide (jr = 0) && decide (ob = 0) && decide (kd = 0) && decide (js ≠ 0) && decide (js < iv)) = true then 1 else 0) = D + 1 := by
  rw [if_pos (by simpa [and_assoc] using h)]
theorem bB0 {D jv rs : Nat} {jr ob kd : Int} (h : ¬ (jr = 0 ∧ ob = 0 ∧ kd = 0 ∧ jv < rs)) : D + (if (decide (jr = 0) && decide (ob = 0) && decide (kd = 0) && decide (jv < rs)) = true then 1 else 0) = D := by
  rw [if_neg (by simpa [and_assoc] using h), Nat.add_zero]
theorem bB1 {D jv rs : Nat} {jr ob kd : Int} (h : jr = 0 ∧ ob = 0 ∧ kd = 0 ∧ jv < rs) : D + (if (decide (jr = 0) && decide (ob = 0) && decide (kd = 0) && decide (jv < rs)) = true then 1 else 0) = D + 1 := by
  rw [if_pos (by simpa [and_assoc] using h)]
end
section

/- Layer 8: what reads tell (8.4, 8.5), in plain numbers. -/
open Go.RowKit

theorem cnt_same {P : EvD → Bool} : ∀ {l m : List EvD}, l.length = m.length → (∀ i, i < l.length → P (evAt l i) = P (evAt m i)) → cnt P l = cnt P m
  | [], [], _, _ => rfl
  | [], _ :: _, h, _ => by simp at h
  | _ :: _, [], h, _ => by simp at h
  | a :: l, b :: m, h, g => by
    rw [cnt_cons, cnt_cons, cnt_same (l := l) (m := m) (by simpa using h) (fun i hi => g (i + 1) (by simp; omega))]
    have h0 := g 0 (by simp)
    have e1 : evAt (a :: l) 0 = a := rfl
    have e2 : evAt (b :: m) 0 = b := rfl
    rw [e1, e2] at h0
    rw [h0]
theorem ta_steps {n : Nat} (hn : 1 ≤ n) {calls : List CallD} {st : PlayD (tallyS n)} (hg : StGood calls st) (h : TaInv n calls st) {i : Nat} (hi : i < st.evs.length) : (evAt st.evs i).steps ≤ max n 2 := by
  by_cases hr : (evAt st.evs i).resp = 0
  · have ho := (hg.ev.open_ i hi hr).2
    unfold hndOf at ho
    obtain ⟨p, hp⟩ : ∃ p, p = tn calls (evAt st.evs i) := ⟨_, rfl⟩
    rw [← hp] at ho
    cases hh : st.hands.getD p (none, 0) with
    | mk m k =>
      rw [hh] at ho
      cases m with
      | none => simp at ho
      | some s =>
        simp only [Option.isSome_some, if_true, Option.some.injEq] at ho
        subst ho
        obtain ⟨_, g2, _⟩ := h.hand p s k hh
        match s, g2 with
        | .count seen v, ⟨_, _, b3, _⟩ => omega
        | .read a s' ky, ⟨b1, _, _, b4, _⟩ => omega
  · have hd := h.done i hi hr
    unfold taDone at hd
    split at hd
    · have := hd.2.2; omega
    · split at hd
      · have := hd.2.2.1; omega
      · split at hd
        · obtain ⟨_, _, _, _, _, _, _, _, _, h8⟩ := hd; omega
        · have := hd.2.2; omega
theorem ta_report {n : Nat} {calls : List CallD} {np : Nat} (hck : checkN n calls np = 0) (picks : List Int) :
    (playD (tallyS n) () (List.replicate n 0) calls picks).evs.length ≤ picks.length ∧ BetGood calls (playD (tallyS n) () (List.replicate n 0) calls picks).evs ∧ ∀ i, i < (playD (tallyS n) () (List.replicate n 0) calls picks).evs.length → (evAt (playD (tallyS n) () (List.replicate n 0) calls picks).evs i).steps ≤ max n 2 := by
  obtain ⟨h1, h2⟩ := n_ok hck
  obtain ⟨hg, h, hnow⟩ := ta_picks hck picks
  obtain ⟨st, hst⟩ : ∃ st, st = picksD (tallyS n) calls (play0 (tallyS n) () (List.replicate n 0) calls) picks := ⟨_, rfl⟩
  rw [← hst] at hg h hnow
  have hE : (playD (tallyS n) () (List.replicate n 0) calls picks).evs = endD (tallyS n) st := by rw [hst]; rfl
  rw [hE]
  have hlen := end_length (calls := calls) hg
  obtain ⟨e1, e2⟩ := end_same st (fun _ _ _ _ => rfl) (List.range 16) st.evs
  have hev := hg.ev.len_le
  have hthr : ∀ c, c < calls.length → 0 ≤ (calls.getD c d0).thread ∧ (calls.getD c d0).thread < n := fun c hc => by have := thr_ok hck c hc; omega
  have hsame : ∀ i, (evAt (endD (tallyS n) st) i).call = (evAt st.evs i).call ∧ (evAt (endD (tallyS n) st) i).inv = (evAt st.evs i).inv ∧ (evAt (endD (tallyS n) st) i).resp = (evAt st.evs i).resp ∧ (evAt (endD (tallyS n) st) i).steps = (evAt st.evs i).steps ∧ (evAt (endD (tallyS n) st) i).ans = (evAt st.evs i).ans := e2
  -- a read that has responded
  have hread : ∀ i, i < st.evs.length → (calls.getD (evAt st.evs i).call d0).obj = 0 → (calls.getD (evAt st.evs i).call d0).kind = 1 → (evAt st.evs i).resp ≠ 0 → cnt (tP3 calls n (evAt st.evs i).inv) st.evs ≤ (evAt st.evs i).ans.val ∧ (evAt st.evs i).ans.val ≤ cnt (tP4 calls (evAt st.evs i).resp) st.evs := by
    intro i hi ho hk hr
    have hd := h.done i hi hr
    unfold taDone at hd
    rw [if_neg (by unfold objOf; simpa using ho), if_neg (by unfold kindOf; omega), if_pos (by unfold kindOf; exact hk)] at hd
    obtain ⟨wn, v, a1, a2, a3, a4, a5, a6, a7, a8⟩ := hd
    rw [a1]; exact ⟨a6, a7⟩
  have hcount : ∀ i, i < st.evs.length → isK calls 0 (evAt st.evs i) = true → (evAt st.evs i).ans.err = 0 ∧ (evAt st.evs i).inv < (evAt st.evs i).resp := by
    intro i hi hk
    obtain ⟨k1, k2, k3⟩ := isK_spec.1 hk
    have hd := h.done i hi k3
    unfold taDone at hd
    rw [if_neg (by simpa using k1), if_pos k2] at hd
    exact ⟨by rw [hd.1], hd.2.2.2⟩
  refine ⟨by omega, ⟨fun i hi => ?_, fun i hi ho hk hr he => ?_⟩, fun i hi => ?_⟩
  · rw [hlen] at hi
    rw [(hsame i).1]; exact hg.ev.call i hi
  · rw [hlen] at hi
    obtain ⟨s1, s2, s3, s4, s5⟩ := hsame i
    rw [s1] at ho hk
    rw [s3] at hr
    rw [s5] at he ⊢
    rw [s2, s3]
    obtain ⟨r1, r2⟩ := hread i hi ho hk hr
    refine ⟨fun j hj je jo jk jr jlt => ?_, ?_, ?_⟩
    · rw [hlen] at hj
      obtain ⟨t1, t2, t3, t4, t5⟩ := hsame j
      rw [t1] at jo jk
      rw [t3] at jr jlt
      rw [t5]
      obtain ⟨_, q2⟩ := hread j hj jo jk jr
      have : cnt (tP4 calls (evAt st.evs j).resp) st.evs ≤ cnt (tP3 calls n (evAt st.evs i).inv) st.evs := cnt_mono fun m hm hp => by
        unfold tP4 at hp; unfold tP3
        simp only [Bool.and_eq_true, decide_eq_true_eq] at hp ⊢
        have h3 := hthr _ (hg.ev.call m hm)
        exact ⟨⟨hp.1, by unfold tn; omega⟩, by omega⟩
      omega
    · have hs : cnt (bD calls (evAt st.evs i).inv) (endD (tallyS n) st) = cnt (bD calls (evAt st.evs i).inv) st.evs := cnt_same hlen (fun m hm => by
        obtain ⟨t1, t2, t3, t4, t5⟩ := hsame m
        unfold bD; rw [t1, t3, t5])
      rw [hs]
      refine Nat.le_trans (cnt_mono fun m hm hp => ?_) r1
      unfold bD at hp; unfold tP3
      simp only [Bool.and_eq_true, decide_eq_true_eq] at hp ⊢
      have h3 := hthr _ (hg.ev.call m hm)
      exact ⟨⟨isK_spec.2 ⟨hp.1.1.1.2, hp.1.1.2, hp.1.2⟩, by unfold tn; omega⟩, hp.2⟩
    · have hs : cnt (bB calls (evAt st.evs i).resp) (endD (tallyS n) st) = cnt (bB calls (evAt st.evs i).resp) st.evs := cnt_same hlen (fun m hm => by
        obtain ⟨t1, t2, t3, t4, t5⟩ := hsame m
        unfold bB; rw [t1, t2, t5])
      rw [hs]
      refine Nat.le_trans r2 (cnt_mono fun m hm hp => ?_)
      unfold tP4 at hp; unfold bB
      simp only [Bool.and_eq_true, decide_eq_true_eq] at hp ⊢
      obtain ⟨k1, k2, k3⟩ := isK_spec.1 hp.1
      obtain ⟨c1, c2⟩ := hcount m hm hp.1
      exact ⟨⟨⟨c1, k1⟩, k2⟩, by omega⟩
  · rw [hlen] at hi
    rw [(hsame i).2.2.2.1]; exact ta_steps (by omega) hg h hi
end
section

/- Layer 12: what those that take phases get (12.3, 12.4), in plain numbers. -/
open Go.RowKit

/-- Took, or was about to, ahead of a response. -/
def dB (calls : List CallD) (rs : Nat) (y : EvD) : Bool := decide ((calls.getD y.call d0).obj = 0) && decide ((calls.getD y.call d0).kind = 0) && decide (y.inv < rs)
theorem dB0 {D jv rs : Nat} {ob kd : Int} (h : ¬ (ob = 0 ∧ kd = 0 ∧ jv < rs)) : D + (if (decide (ob = 0) && decide (kd = 0) && decide (jv < rs)) = true then 1 else 0) = D := by
  rw [if_neg (by simpa [and_assoc] using h), Nat.add_zero]
theorem dB1 {D jv rs : Nat} {ob kd : Int} (h : ob = 0 ∧ kd = 0 ∧ jv < rs) : D + (if (decide (ob = 0) && decide (kd = 0) && decide (jv < rs)) = true then 1 else 0) = D + 1 := by
  rw [if_pos (by simpa [and_assoc] using h)]
structure DoorGood (n : Nat) (calls : List CallD) (evs : List EvD) : Prop where
  call : ∀ i, i < evs.length → (evAt evs i).call < calls.length
  steps : ∀ i, i < evs.length → (evAt evs i).steps ≤ n + 1
  takes : ∀ i, i < evs.length → (calls.getD (evAt evs i).call d0).obj = 0 → (calls.getD (evAt evs i).call d0).kind = 0 → (evAt evs i).resp ≠ 0 →
    (∀ j, j < evs.length → (calls.getD (evAt evs j).call d0).obj = 0 → (calls.getD (evAt evs j).call d0).kind = 0 → (evAt evs j).resp ≠ 0 → (evAt evs j).resp < (evAt evs i).inv → (evAt evs j).ans.val < (evAt evs i).ans.val) ∧
    1 ≤ (evAt evs i).ans.val ∧ (evAt evs i).ans.val ≤ cnt (dB calls (evAt evs i).resp) evs
theorem do_steps {n : Nat} {calls : List CallD} {st : PlayD (doorS n)} (hg : StGood calls st) (h : DoInv n calls st) {i : Nat} (hi : i < st.evs.length) : (evAt st.evs i).steps ≤ n + 1 := by
  by_cases hr : (evAt st.evs i).resp = 0
  · have ho := (hg.ev.open_ i hi hr).2
    unfold hndOf at ho
    obtain ⟨p, hp⟩ : ∃ p, p = tn calls (evAt st.evs i) := ⟨_, rfl⟩
    rw [← hp] at ho
    cases hh : st.hands.getD p (none, 0) with
    | mk m k =>
      rw [hh] at ho
      cases m with
      | none => simp at ho
      | some s =>
        simp only [Option.isSome_some, if_true, Option.some.injEq] at ho
        subst ho
        obtain ⟨_, g2⟩ := h.hand p s k hh
        match s, g2 with
        | .take a v, ⟨b1, _, _, _, b5, _⟩ => omega
  · exact (h.done i hi hr).1
theorem do_report {n : Nat} {calls : List CallD} {np : Nat} (hck : checkN n calls np = 0) (picks : List Int) :
    (playD (doorS n) () (List.replicate n 0) calls picks).evs.length ≤ picks.length ∧ DoorGood n calls (playD (doorS n) () (List.replicate n 0) calls picks).evs := by
  obtain ⟨hg, h, hnow⟩ := do_picks hck picks
  obtain ⟨st, hst⟩ : ∃ st, st = picksD (doorS n) calls (play0 (doorS n) () (List.replicate n 0) calls) picks := ⟨_, rfl⟩
  rw [← hst] at hg h hnow
  have hE : (playD (doorS n) () (List.replicate n 0) calls picks).evs = endD (doorS n) st := by rw [hst]; rfl
  rw [hE]
  have hlen := end_length (calls := calls) hg
  obtain ⟨e1, e2⟩ := end_same st (fun _ _ _ _ => rfl) (List.range 16) st.evs
  have hev := hg.ev.len_le
  have hsame : ∀ i, (evAt (endD (doorS n) st) i).call = (evAt st.evs i).call ∧ (evAt (endD (doorS n) st) i).inv = (evAt st.evs i).inv ∧ (evAt (endD (doorS n) st) i).resp = (evAt st.evs i).resp ∧ (evAt (endD (doorS n) st) i).steps = (evAt st.evs i).steps ∧ (evAt (endD (doorS n) st) i).ans = (evAt st.evs i).ans := e2
  refine ⟨by omega, ⟨fun i hi => ?_, fun i hi => ?_, fun i hi ho hk hr => ?_⟩⟩
  · rw [hlen] at hi
    rw [(hsame i).1]; exact hg.ev.call i hi
  · rw [hlen] at hi
    rw [(hsame i).2.2.2.1]; exact do_steps hg h hi
  · rw [hlen] at hi
    obtain ⟨s1, s2, s3, s4, s5⟩ := hsame i
    rw [s1] at ho hk
    rw [s3] at hr
    rw [s2, s3, s5]
    obtain ⟨d1, d2, d3, d4⟩ := (h.done i hi hr).2 ho hk
    refine ⟨fun j hj jo jk jr jlt => ?_, d2, ?_⟩
    · rw [hlen] at hj
      obtain ⟨t1, t2, t3, t4, t5⟩ := hsame j
      rw [t1] at jo jk
      rw [t3] at jr jlt
      rw [t5]
      exact d4 j hj (isK_spec.2 ⟨jo, jk, jr⟩) jlt
    · have hs : cnt (dB calls (evAt st.evs i).resp) (endD (doorS n) st) = cnt (dB calls (evAt st.evs i).resp) st.evs := cnt_same hlen (fun m hm => by
        obtain ⟨t1, t2, t3, t4, t5⟩ := hsame m
        unfold dB; rw [t1, t2])
      rw [hs]
      refine Nat.le_trans d3 (cnt_mono fun m hm hp => ?_)
      unfold tP4 at hp; unfold dB
      simp only [Bool.and_eq_true, decide_eq_true_eq] at hp ⊢
      obtain ⟨k1, k2, k3⟩ := isK_spec.1 hp.1
      obtain ⟨c1, _⟩ := (h.done m hm k3).2 k1 k2
      exact ⟨⟨k1, k2⟩, by omega⟩
def sameCalls : List CallD := [⟨0, 0, 0, 0, 0, 0⟩, ⟨1, 0, 0, 0, 0, 0⟩, ⟨0, 0, 0, 0, 0, 0⟩]
theorem same_rep12 : playD (doorS 2) () [0, 0] sameCalls [0, 1, 0, 1, 0, 1, 0, 0, 0] = ⟨[⟨0, 1, 5, 3, ⟨0, 1, []⟩, [10]⟩, ⟨1, 2, 6, 3, ⟨0, 1, []⟩, [12]⟩, ⟨2, 7, 9, 3, ⟨0, 2, []⟩, [18]⟩], [2, 1], ⟨6, 3, 0, 0, 0⟩, 9, 0⟩ := by rfl
theorem same_check12 : checkN 2 sameCalls 9 = 0 := by rfl
end
end Go.Proofs.Ytjkgfkbanbhkgaa
