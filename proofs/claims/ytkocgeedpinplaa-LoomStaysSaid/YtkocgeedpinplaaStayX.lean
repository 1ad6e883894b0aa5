/- Layer 6: the walk of LoomStays. -/
import Derived.Test.YtkocgeedpinplaaStayW
set_option maxRecDepth 100000
namespace Go.Proofs.Ytkocgeedpinplaa
open Go.RowKit

theorem play_len {S : Sys} (hnow : ∀ o wd p s, (S.step o wd p s).2.1.now = wd.now) (hl : ∀ o wd p s, S.late o wd p s = none) {calls : List CallD} (hthr : ∀ c, c < calls.length → 0 ≤ (calls.getD c d0).thread ∧ (calls.getD c d0).thread < 16) (o : S.ω) (ws : List Nat) (picks : List Int) : (playD S o ws calls picks).evs.length ≤ picks.length := by
  have h0 := play0_good (S := S) calls o ws
  have hg := picks_good hnow hthr picks h0
  obtain ⟨st1, hst1⟩ : ∃ st1, st1 = picksD S calls (play0 S o ws calls) picks := ⟨_, rfl⟩
  rw [← hst1] at hg
  have hE : (playD S o ws calls picks).evs = (List.range 16).foldl (endEv S st1) st1.evs := by rw [hst1]; rfl
  obtain ⟨e1, _⟩ := end_same st1 hl (List.range 16) st1.evs
  have htk := picks_ticks hnow (play0 S o ws calls) picks (calls := calls)
  rw [← hst1] at htk
  rw [show (play0 S o ws calls).wd.now = 0 from rfl, show (play0 S o ws calls).idle = 0 from rfl] at htk
  rw [hE, e1]
  have := hg.ev.len_le; omega

set_option maxHeartbeats 8000000 in
theorem loomStays_in (q0 q1 : Int) (k : Nat) (calls : List CallD) (picks : List Int) (ca pa : Option Addr) (cc pc : Nat) (w : World) (hc : CallsAt noB w ca calls) (hp : PicksAt w pa picks) (hk : k ≤ picks.length) (hpc : picks.length ≤ pc) (hM : manyB calls.length picks.length = false) :
    Calls Try.prog 7 #[.agg #[.int .i64 q0, .int .i64 q1, .int .i64 (k : Int)], .slice ca calls.length cc, .slice pa picks.length pc] w fun e w' => e = .returned (.bool true) ∧ Below w.heap.size w w' := by
  obtain ⟨wb, hwb⟩ : ∃ wb, wb = w.alloc (.cells #[.int .i64 q0, .int .i64 q1, .int .i64 (k : Int)] 63) := ⟨_, rfl⟩
  have hgb : Below w.heap.size w wb := by rw [hwb]; exact Gr.new _ _
  have hsz : w.heap.size < wb.heap.size := by rw [hwb]; simp
  have k0 : wb.cell? ⟨w.heap.size, 0, none⟩ = some (.int .i64 q0) := by rw [hwb, cell_new]; rfl
  have k1 : wb.cell? ⟨w.heap.size, 1, none⟩ = some (.int .i64 q1) := by rw [hwb, cell_new]; rfl
  have k2 : wb.cell? ⟨w.heap.size, 2, none⟩ = some (.int .i64 (k : Int)) := by rw [hwb, cell_new]; rfl
  have M := many_any ca pa calls.length picks.length cc pc wb hc.sl.1 hp.sl.1
  rw [hM, hwb] at M
  have T := Lib.hid adds_true
  have hcl := hc.sl.1
  have hpl := hp.sl.1
  unfold maxLen at hcl hpl
  have ht : PicksAt wb pa (picks.take k) := ⟨(hp.sl.grown hgb).take k hk, fun x hx => hp.ok x (List.mem_of_mem_take hx)⟩
  have hlt : (picks.take k).length = k := by simp; omega
  obtain ⟨ra, hra⟩ : ∃ ra, ra = playD (cellsS q1.toNat) () (List.replicate q1.toNat 0) calls (picks.take k) := ⟨_, rfl⟩
  obtain ⟨rb, hrb⟩ : ∃ rb, rb = playD (cellsS q1.toNat) () (List.replicate q1.toNat 0) calls picks := ⟨_, rfl⟩
  obtain ⟨ga, hga⟩ : ∃ ga, ga = cellsN q0 q1 calls k := ⟨_, rfl⟩
  obtain ⟨gb, hgb2⟩ : ∃ gb, gb = cellsN q0 q1 calls picks.length := ⟨_, rfl⟩
  have hmono : ga ≠ 0 → gb ≠ 0 := by rw [hga, hgb2]; exact cellsN_mono hk
  have hcX : ∀ (X : Nat → Prop) (u : World), (∀ b, X b → wb.heap.size ≤ b) → Below wb.heap.size wb u → CallsAt X u ca calls := fun X u hX2 hu => ⟨(hc.sl.grown hgb).grown hu, hc.ok, fun hl b off e hx => by
    obtain ⟨b0, off0, e0, hb0⟩ := hc.sl.lt hl
    rw [e0] at e; cases e; have := hX2 _ hx; omega⟩
  have P := Lib.hid (fun (X : Nat → Prop) (u : World) (hu : Below wb.heap.size wb u) (hX1 : ∀ b, X b → b < u.heap.size) (hX2 : ∀ b, X b → wb.heap.size ≤ b) => (cellsPlay_any X u q0 q1 calls (picks.take k) ca pa cc pc hX1 (hcX X u hX2 hu) (ht.grown hu)).mono (fun e w' h => (⟨h, hu, Gr.trans hu h.choose_spec.choose_spec.choose_spec.choose_spec.choose_spec.choose_spec.choose_spec.2.1⟩ : PlayRet X u w' (cellsN q0 q1 calls (picks.take k).length) (playD (cellsS q1.toNat) () (List.replicate q1.toNat 0) calls (picks.take k)) e ∧ Below wb.heap.size wb u ∧ Below wb.heap.size wb w')))
  have P2 := Lib.hid (fun (u : World) (hu : Below wb.heap.size wb u) => cellsPlay_any noB u q0 q1 calls picks ca pa cc pc (fun b hb => hb.elim) ((hc.grown hgb).grown hu) ((hp.grown hgb).grown hu))
  rw [← hra, hlt, ← hga] at P
  rw [← hrb, ← hgb2] at P2
  have hz : gb = 0 → ra.evs.length ≤ picks.length ∧ ra.evs.length ≤ rb.evs.length ∧ ra.ticks ≤ rb.ticks ∧ ra.idle ≤ rb.idle ∧ ∀ i, i < ra.evs.length → (evAt rb.evs i).inv = (evAt ra.evs i).inv ∧ ((evAt ra.evs i).resp ≠ 0 → evAt rb.evs i = evAt ra.evs i) := fun h0 => by
    rw [hgb2] at h0
    have h := play_stays (cells_now q1.toNat) (fun _ _ _ _ => rfl) (thr_16 (cellsN_zero h0).1) () (List.replicate q1.toNat 0) (picks.take k) (picks.drop k)
    have hl := play_len (cells_now q1.toNat) (fun _ _ _ _ => rfl) (thr_16 (cellsN_zero h0).1) () (List.replicate q1.toNat 0) (picks.take k)
    rw [List.take_append_drop, ← hra, ← hrb] at h
    rw [← hra] at hl
    exact ⟨by omega, h⟩
  have hsl := run_slice_take (a := pa) (len := picks.length) (cap := pc) (k := k) (hk := by omega)
  have HM := Lib.hid M; have Hwb := Lib.hid hwb; have Hgb := Lib.hid hgb; have Hsz := Lib.hid hsz; have K0 := Lib.hid k0; have K1 := Lib.hid k1; have K2 := Lib.hid k2; have Hmono := Lib.hid hmono; have Hz := Lib.hid hz
  have l1 : ¬ (k : Int) < 0 := by omega
  have l2 : ¬ (picks.length : Int) < (k : Int) := by omega
  clear M hc hp ht hlt hra hrb hga hgb2 hmono hz hM hwb hgb hsz k0 k1 k2
  go_enter Try.func7, Try.ntmps7
  go_wp2_with fail
  refine HM.out.mono ?_
  rintro e w1 ⟨rfl, rfl⟩
  go_upto_region 3 with fail
  rw [← Hwb.out]
  have k0 := K0.out; have k1 := K1.out; have k2 := K2.out
  go_cut [7, 8] (fun r e wx => ∃ b ea en ec va vn vc rp, r = .pointer (some ⟨b, 0, none⟩) ∧ e = .int .i64 ga ∧ RepIn w wx b ea en ec va vn vc rp ∧ PlayRest noB wb wx ga ra ea en ec va vn vc rp)
  case first =>
    go_region_held3 (fun u => u.cell? ⟨w.heap.size, 0, none⟩ = some (.int .i64 q0) ∧ u.cell? ⟨w.heap.size, 1, none⟩ = some (.int .i64 q1) ∧ u.cell? ⟨w.heap.size, 2, none⟩ = some (.int .i64 (k : Int)))
      (first | with_reducible exact ⟨k0, k1, k2⟩ | with_reducible exact ⟨(hg4.cell Hsz.out).trans k0, (hg4.cell Hsz.out).trans k1, (hg4.cell Hsz.out).trans k2⟩ | with_reducible exact ⟨((Gr.alloc hg4 _).cell Hsz.out).trans k0, ((Gr.alloc hg4 _).cell Hsz.out).trans k1, ((Gr.alloc hg4 _).cell Hsz.out).trans k2⟩ | with_reducible exact ⟨(hg7.cell Hsz.out).trans k0, (hg7.cell Hsz.out).trans k1, (hg7.cell Hsz.out).trans k2⟩ | go_keep)
      (first | (go_at_call 30; refine (P.out (fun b => b = wb.heap.size) _ ?_ ?_ ?_).mono ?_; (first | with_reducible exact Gr.alloc (Gr.refl _).drew _ | with_reducible exact (Gr.alloc (Gr.refl _) _).drew); (intro b h; have h9 : b = wb.heap.size := h; simp; omega); (intro b h; have h9 : b = wb.heap.size := h; omega); rintro e w4 ⟨⟨ea, en, ec, va, vn, vc, rp, rfl, hrest⟩, hu4, hg4⟩; have hr4 : w4.heap[wb.heap.size]? = some (.cells #[.slice none 0 0, .slice none 0 0, .int .i64 0, .int .i64 0, .int .i64 0, .int .i64 0, .int .i64 0, .int .i64 0, .int .i64 0] 57 (0, 0)) := (hrest.1.block wb.heap.size (by simp)).trans (heap_alloc_new wb (.cells #[.slice none 0 0, .slice none 0 0, .int .i64 0, .int .i64 0, .int .i64 0, .int .i64 0, .int .i64 0, .int .i64 0, .int .i64 0] 57 (0, 0))); obtain ⟨cs, w7, hcs, hcz, hst, hbk7, hch7⟩ := rep_store w4 wb.heap.size (.slice ea en ec) (.slice va vn vc) rp hr4 rfl rfl; have hg7 : Below wb.heap.size wb w7 := ((Chg.of_below (S := fun b => wb.heap.size ≤ b) hg4).trans (hch7.mono (fun b _ h => by have h9 : b = wb.heap.size := h; omega))).below (fun b h => h) (Nat.le_refl _); have Hin : Hid (RepIn w w7 wb.heap.size ea en ec va vn vc rp) := Lib.hid ⟨Nat.le_of_lt Hsz.out, by rw [hbk7]; unfold repV at hcs; cases hcs; rfl⟩; have Hrest : Hid (PlayRest noB wb w7 ga ra ea en ec va vn vc rp) := Lib.hid (PlayRest.chg hrest hch7 (fun b hb => ⟨hb, by have h9 : b = wb.heap.size := hb; omega, by have h9 : b = wb.heap.size := hb; simp; omega⟩) hu4 (fun b hb => hb.elim)); rw [hcs]; clear hrest hr4 hcs hbk7 hch7 hu4) | (go_at_call 30; refine (P.out noB _ ?_ ?_ ?_).mono ?_; (with_reducible exact (Gr.refl _).drew); (intro b h; exact h.elim); (intro b h; exact h.elim); rintro e w4 ⟨⟨ea, en, ec, va, vn, vc, rp, rfl, hrest⟩, hu4, hg4⟩; have Hin : Hid (∀ (T : TypeId), T = 57 → RepIn w (w4.alloc (.cells #[.slice ea en ec, .slice va vn vc, .int .i64 (rp.c.read : Int), .int .i64 (rp.c.write : Int), .int .i64 (rp.c.swap : Int), .int .i64 (rp.c.add : Int), .int .i64 (rp.c.fault : Int), .int .i64 (rp.ticks : Int), .int .i64 (rp.idle : Int)] T)) w4.heap.size ea en ec va vn vc rp) := Lib.hid (fun T hT => by subst hT; exact ⟨by have := hg4.size; have := Hsz.out; omega, heap_alloc_new _ _⟩); have Hrest : Hid (∀ o, PlayRest noB wb (w4.alloc o) ga ra ea en ec va vn vc rp) := Lib.hid (fun o => PlayRest.chg hrest (Chg.of_below (S := noB) (Gr.new _ _)) (fun b hb => hb.elim) hu4 (fun b hb => hb)); unfold repV; clear hrest hu4))
    all_goals
      go_wp2_with fail
      go_meet
      case rel => first | exact ⟨_, ea, en, ec, va, vn, vc, rp, rfl, rfl, Hin.out _ rfl, Hrest.out _⟩ | exact ⟨_, ea, en, ec, va, vn, vc, rp, rfl, rfl, Hin.out, Hrest.out⟩
  case rest =>
    obtain ⟨b, ea, en, ec, va, vn, vc, rp, rfl, rfl, hin, hrest⟩ := hcut
    have k0 := (hrest.1.cell Hsz.out).trans K0.out
    have k1 := (hrest.1.cell Hsz.out).trans K1.out
    have Hbc := Lib.hid hrest.1
    obtain ⟨_, hra⟩ := hrest
    have Hin := Lib.hid hin; have Hra := Lib.hid hra
    clear hin hra
    go_wp2_with fail
    refine (P2.out _ Hbc.out).mono ?_
    rintro e w4 ⟨ea2, en2, ec2, va2, vn2, vc2, rp2, rfl, hb4, hr4⟩
    have N := Lib.hid none_true
    rcases hr4 with ⟨h0, rfl, rfl, rfl, rfl, rfl, rfl, rfl⟩ | ⟨h0, hrp, hen2, hvn2, ers2, hrep2⟩
    · have Hb4 := Lib.hid hb4
      have hn0 : ¬ gb = 0 := h0
      clear hb4 h0
      unfold repV
      by_cases hg : ga = 0
      · subst hg
        go_wp2_with (first | (go_at_call 31; refine (N.out _).mono ?_; rintro e w2 ⟨rfl, hb2⟩) | (go_at_call 29; refine (T.out _).mono ?_; rintro e w' ⟨rfl, hb⟩))
        go_ret
        exact ⟨rfl, Gr.trans Hgb.out (Gr.trans Hbc.out (Gr.trans Hb4.out (Gr.trans (Gr.new _ _) (Gr.trans hb2 hb))))⟩
      · go_wp2_with (first | (go_at_call 31; refine (N.out _).mono ?_; rintro e w2 ⟨rfl, hb2⟩) | (go_at_call 29; refine (T.out _).mono ?_; rintro e w' ⟨rfl, hb⟩))
        go_ret
        exact ⟨rfl, Gr.trans Hgb.out (Gr.trans Hbc.out (Gr.trans Hb4.out (Gr.trans (Gr.new _ _) (Gr.trans hb2 hb))))⟩
    · have hga : ga = 0 := Classical.byContradiction fun h => Hmono.out h h0
      obtain ⟨z0, z1, z2, z3, z4⟩ := Hz.out h0
      rcases Hra.out with ⟨h9, _⟩ | ⟨_, hrp1, hen1, hvn1, ers1, hrep1⟩
      · exact absurd hga h9
      subst hga h0 hrp hrp1
      obtain ⟨w5, hw5⟩ : ∃ w5, w5 = w4.alloc (.cells #[.slice ea2 en2 ec2, .slice va2 vn2 vc2, .int .i64 (rp2.c.read : Int), .int .i64 (rp2.c.write : Int), .int .i64 (rp2.c.swap : Int), .int .i64 (rp2.c.add : Int), .int .i64 (rp2.c.fault : Int), .int .i64 (rp2.ticks : Int), .int .i64 (rp2.idle : Int)] 57) := ⟨_, rfl⟩
      have hb5 : Below w4.heap.size w4 w5 := by rw [hw5]; exact Gr.new _ _
      have hin2 : RepIn w w5 w4.heap.size ea2 en2 ec2 va2 vn2 vc2 rp2 := ⟨by have := Hgb.out.size; have := Hbc.out.size; have := hb4.size; omega, by rw [hw5]; exact heap_alloc_new _ _⟩
      have hin1 := (Hin.out.grown hb4).grown hb5
      have hrep1' := (hrep1.grown hb4).grown hb5
      have hrep2' := hrep2.grown hb5
      have a0 : w5.cell? ⟨b, 0, none⟩ = some (.slice ea en ec) := hin1.cell 0
      have a7 : w5.cell? ⟨b, 7, none⟩ = some (.int .i64 (rp.ticks : Int)) := hin1.cell 7
      have a8 : w5.cell? ⟨b, 8, none⟩ = some (.int .i64 (rp.idle : Int)) := hin1.cell 8
      have b0 : w5.cell? ⟨w4.heap.size, 0, none⟩ = some (.slice ea2 en2 ec2) := hin2.cell 0
      have b7 : w5.cell? ⟨w4.heap.size, 7, none⟩ = some (.int .i64 (rp2.ticks : Int)) := hin2.cell 7
      have b8 : w5.cell? ⟨w4.heap.size, 8, none⟩ = some (.int .i64 (rp2.idle : Int)) := hin2.cell 8
      have hs4 : w4.heap.size < w5.heap.size := blk_lt hin2.blk
      have hsb : b < w5.heap.size := blk_lt hin1.blk
      have d1 : decide (en2 < en) = false := decide_eq_false (by omega)
      have d2 : decide (rp2.ticks < rp.ticks) = false := decide_eq_false (by omega)
      have d3 : decide (rp2.idle < rp.idle) = false := decide_eq_false (by omega)
      have m1 : ¬ (en2 : Int) < (en : Int) := by omega
      have m2 : ¬ (rp2.ticks : Int) < (rp.ticks : Int) := by omega
      have m3 : ¬ (rp2.idle : Int) < (rp.idle : Int) := by omega
      have henl : en ≤ 9223372036854775807 := by omega
      have Hw5 := Lib.hid hw5; have Hb45 := Lib.hid (Gr.trans Hbc.out (Gr.trans hb4 hb5)); have Hr1 := Lib.hid hrep1'; have Hr2 := Lib.hid hrep2'; have Hen1 := Lib.hid hen1; have Hen2 := Lib.hid hen2; have Z4 := Lib.hid z4; have Z1 := Lib.hid z1
      have A0 := Lib.hid a0; have B0 := Lib.hid b0; have Hs4 := Lib.hid hs4; have Hsb := Lib.hid hsb
      clear hw5 hb5 hin2 hin1 hrep1' hrep2' hrep1 hrep2 hb4 hen1 hen2 z4 z1 z2 z3 hvn1 hvn2 hs4 hsb
      unfold repV
      go_upto_region 5 with fail
      rw [← Hw5.out]
      go_wp2
      go_loopw [86] (fun i wr => ∃ j : Nat, j ≤ en ∧ i = .int .i64 j ∧ Below w5.heap.size w5 wr) (fun i _ => en - (intOf i).toNat)
      case atStart => exact ⟨0, Nat.zero_le _, rfl, Gr.refl _⟩
      case round =>
        clear m1 m2 m3 d1 d2 d3 a7 a8 b7 b8
        obtain ⟨j, hj, rfl, hb⟩ := hrel
        have a0 : wr.cell? ⟨b, 0, none⟩ = some (.slice ea en ec) := (hb.cell Hsb.out).trans A0.out
        have b0 : wr.cell? ⟨w4.heap.size, 0, none⟩ = some (.slice ea2 en2 ec2) := (hb.cell Hs4.out).trans B0.out
        by_cases hlt : j < en
        · obtain ⟨g1, rfl, hg1, hev1⟩ := Hr1.out.event Hen1.out (by omega)
          obtain ⟨g2, rfl, hg2, hev2⟩ := Hr2.out.event Hen2.out (by have := Z1.out; have := Hen1.out; have := Hen2.out; omega)
          have hj1 : j < rp.evs.length := by rw [← Hen1.out]; exact hlt
          have hj2 : j < rp2.evs.length := Nat.lt_of_lt_of_le hj1 Z1.out
          have hj3 : j < en2 := by rw [Hen2.out]; exact hj2
          obtain ⟨y1, y2⟩ := Z4.out j hj1
          have hans1 := Hr1.out.ans j hj1
          have hans2 := Hr2.out.ans j hj2
          obtain ⟨V, hV⟩ : ∃ V, V = ers1.getD j vv0 := ⟨_, rfl⟩
          obtain ⟨V2, hV2⟩ : ∃ V2, V2 = ers2.getD j vv0 := ⟨_, rfl⟩
          rw [← hV] at hans1
          rw [← hV2] at hans2
          obtain ⟨E, hE⟩ : ∃ E, E = evAt rp.evs j := ⟨_, rfl⟩
          obtain ⟨E2, hE2⟩ : ∃ E2, E2 = evAt rp2.evs j := ⟨_, rfl⟩
          have hc1 : ∀ f, f < 8 → wr.cell? ⟨g1, j * 8 + f, none⟩ = (evCells E V)[f]? := fun f hf => by rw [hb.cell hg1, hev1 j f hlt hf, hE, hV]; rfl
          have hc2 : ∀ f, f < 8 → wr.cell? ⟨g2, j * 8 + f, none⟩ = (evCells E2 V2)[f]? := fun f hf => by rw [hb.cell hg2, hev2 j f hj3 hf, hE2, hV2]; rfl
          rw [← hE, ← hE2] at y1 y2
          rw [show rp.evs.getD j ev0 = E from hE.symm] at hans1
          rw [show rp2.evs.getD j ev0 = E2 from hE2.symm] at hans2
          clear hev1 hev2 hV hV2 hE hE2
          have n1 : (j : Int) < (en : Int) := by omega
          have n2 : (j : Int) < (en2 : Int) := by omega
          by_cases hr0 : E.resp = 0
          · have e2 : wr.cell? ⟨g1, j * 8 + 2, none⟩ = some (.int .i64 0) := by rw [hc1 2 (by omega)]; show some (natV E.resp) = _; rw [hr0]; rfl
            have e1 : wr.cell? ⟨g1, j * 8 + 1, none⟩ = some (.int .i64 (E.inv : Int)) := hc1 1 (by omega)
            have f1 : wr.cell? ⟨g2, j * 8 + 1, none⟩ = some (.int .i64 (E.inv : Int)) := by rw [hc2 1 (by omega)]; show some (natV E2.inv) = _; rw [y1]; rfl
            obtain ⟨iv, hiv⟩ : ∃ iv, iv = E.inv := ⟨_, rfl⟩
            rw [← hiv] at e1 f1
            have Hb := Lib.hid hb
            clear hc1 hc2 hans1 hans2 y1 y2 hr0 hiv hb hj1 hj2 hj3
            go_wp2_with fail
            go_quiet (fail)
            go_wp2
            go_roundw
            case rel => exact ⟨j + 1, by omega, by go_num, below_drewN Hb.out nq⟩
            case measure => simp [intOf] <;> omega
          · obtain rfl : E2 = E := y2 hr0
            obtain ⟨⟨la, lc, hlv, hls, _⟩, ⟨ka, kc, hkv, _, hks, _⟩⟩ := hans1
            obtain ⟨⟨la2, lc2, hlv2, hls2, _⟩, ⟨ka2, kc2, hkv2, _, hks2, _⟩⟩ := hans2
            have EQ := Lib.hid (fun (u : World) (h : Below w5.heap.size w5 u) => event_eq E2 la la2 ka ka2 lc lc2 kc kc2 u (hls.grown h) (hls2.grown h) (hks.grown h) (hks2.grown h))
            obtain ⟨c, iv, rs, st, ⟨er2, vl, li⟩, ky⟩ := E2
            simp only at hlv hkv hlv2 hkv2 hr0
            have e0 : wr.cell? ⟨g1, j * 8, none⟩ = some (.int .i64 (c : Int)) := hc1 0 (by omega)
            have e1 : wr.cell? ⟨g1, j * 8 + 1, none⟩ = some (.int .i64 (iv : Int)) := hc1 1 (by omega)
            have e2 : wr.cell? ⟨g1, j * 8 + 2, none⟩ = some (.int .i64 (rs : Int)) := hc1 2 (by omega)
            have e3 : wr.cell? ⟨g1, j * 8 + 3, none⟩ = some (.int .i64 (st : Int)) := hc1 3 (by omega)
            have e4 : wr.cell? ⟨g1, j * 8 + 4, none⟩ = some (.int .i64 er2) := hc1 4 (by omega)
            have e5 : wr.cell? ⟨g1, j * 8 + 5, none⟩ = some (.int .u64 (vl : Int)) := hc1 5 (by omega)
            have e6 : wr.cell? ⟨g1, j * 8 + 6, none⟩ = some (.slice la li.length lc) := by rw [← hlv]; exact hc1 6 (by omega)
            have e7 : wr.cell? ⟨g1, j * 8 + 7, none⟩ = some (.slice ka ky.length kc) := by rw [← hkv]; exact hc1 7 (by omega)
            have f0 : wr.cell? ⟨g2, j * 8, none⟩ = some (.int .i64 (c : Int)) := hc2 0 (by omega)
            have f1 : wr.cell? ⟨g2, j * 8 + 1, none⟩ = some (.int .i64 (iv : Int)) := hc2 1 (by omega)
            have f2 : wr.cell? ⟨g2, j * 8 + 2, none⟩ = some (.int .i64 (rs : Int)) := hc2 2 (by omega)
            have f3 : wr.cell? ⟨g2, j * 8 + 3, none⟩ = some (.int .i64 (st : Int)) := hc2 3 (by omega)
            have f4 : wr.cell? ⟨g2, j * 8 + 4, none⟩ = some (.int .i64 er2) := hc2 4 (by omega)
            have f5 : wr.cell? ⟨g2, j * 8 + 5, none⟩ = some (.int .u64 (vl : Int)) := hc2 5 (by omega)
            have f6 : wr.cell? ⟨g2, j * 8 + 6, none⟩ = some (.slice la2 li.length lc2) := by rw [← hlv2]; exact hc2 6 (by omega)
            have f7 : wr.cell? ⟨g2, j * 8 + 7, none⟩ = some (.slice ka2 ky.length kc2) := by rw [← hkv2]; exact hc2 7 (by omega)
            unfold evV at EQ
            simp only at EQ
            obtain ⟨ln, hln⟩ : ∃ ln, ln = li.length := ⟨_, rfl⟩
            obtain ⟨kn, hkn⟩ : ∃ kn, kn = ky.length := ⟨_, rfl⟩
            rw [← hln] at e6 f6 EQ
            rw [← hkn] at e7 f7 EQ
            have hr1 : ¬ ((rs : Int) = 0) := by omega
            have hr2 : ((rs : Int) != 0) = true := by simpa using hr0
            have hr3 : decide ((rs : Int) = 0) = false := by simpa using hr0
            have Hb := Lib.hid hb
            have Hg1 := Lib.hid (Nat.lt_of_lt_of_le hg1 hb.size); have Hg2 := Lib.hid (Nat.lt_of_lt_of_le hg2 hb.size)
            have Hsb2 := Lib.hid (Nat.lt_of_lt_of_le Hsb.out hb.size); have Hs42 := Lib.hid (Nat.lt_of_lt_of_le Hs4.out hb.size)
            clear hc1 hc2 hls hls2 hks hks2 hlv hkv hlv2 hkv2 y1 y2 hb hj1 hj2 hj3 hln hkn hg1 hg2 hr0
            go_wp2_with fail
            go_region_held3 (fun u => u.cell? ⟨b, 0, none⟩ = some (.slice (some ⟨g1, 0, none⟩) en ec) ∧ u.cell? ⟨w4.heap.size, 0, none⟩ = some (.slice (some ⟨g2, 0, none⟩) en2 ec2) ∧ u.cell? ⟨g1, j * 8, none⟩ = some (.int .i64 (c : Int)) ∧ u.cell? ⟨g1, j * 8 + 1, none⟩ = some (.int .i64 (iv : Int)) ∧ u.cell? ⟨g1, j * 8 + 2, none⟩ = some (.int .i64 (rs : Int)) ∧ u.cell? ⟨g1, j * 8 + 3, none⟩ = some (.int .i64 (st : Int)) ∧ u.cell? ⟨g1, j * 8 + 4, none⟩ = some (.int .i64 er2) ∧ u.cell? ⟨g1, j * 8 + 5, none⟩ = some (.int .u64 (vl : Int)) ∧ u.cell? ⟨g1, j * 8 + 6, none⟩ = some (.slice la ln lc) ∧ u.cell? ⟨g1, j * 8 + 7, none⟩ = some (.slice ka kn kc) ∧ u.cell? ⟨g2, j * 8, none⟩ = some (.int .i64 (c : Int)) ∧ u.cell? ⟨g2, j * 8 + 1, none⟩ = some (.int .i64 (iv : Int)) ∧ u.cell? ⟨g2, j * 8 + 2, none⟩ = some (.int .i64 (rs : Int)) ∧ u.cell? ⟨g2, j * 8 + 3, none⟩ = some (.int .i64 (st : Int)) ∧ u.cell? ⟨g2, j * 8 + 4, none⟩ = some (.int .i64 er2) ∧ u.cell? ⟨g2, j * 8 + 5, none⟩ = some (.int .u64 (vl : Int)) ∧ u.cell? ⟨g2, j * 8 + 6, none⟩ = some (.slice la2 ln lc2) ∧ u.cell? ⟨g2, j * 8 + 7, none⟩ = some (.slice ka2 kn kc2))
              (first | with_reducible exact ⟨a0, b0, e0, e1, e2, e3, e4, e5, e6, e7, f0, f1, f2, f3, f4, f5, f6, f7⟩ | with_reducible exact ⟨(hg4.cell Hsb2.out).trans a0, (hg4.cell Hs42.out).trans b0, (hg4.cell Hg1.out).trans e0, (hg4.cell Hg1.out).trans e1, (hg4.cell Hg1.out).trans e2, (hg4.cell Hg1.out).trans e3, (hg4.cell Hg1.out).trans e4, (hg4.cell Hg1.out).trans e5, (hg4.cell Hg1.out).trans e6, (hg4.cell Hg1.out).trans e7, (hg4.cell Hg2.out).trans f0, (hg4.cell Hg2.out).trans f1, (hg4.cell Hg2.out).trans f2, (hg4.cell Hg2.out).trans f3, (hg4.cell Hg2.out).trans f4, (hg4.cell Hg2.out).trans f5, (hg4.cell Hg2.out).trans f6, (hg4.cell Hg2.out).trans f7⟩ | go_keep)
              (first | (go_at_call 33; refine (EQ.out _ (Gr.trans Hb.out (Gr.refl _).drew)).mono ?_; rintro e w6 ⟨rfl, hg5⟩; have hg4 : Below wr.heap.size wr w6 := Gr.trans (Gr.refl wr).drew hg5; clear hg5))
            all_goals
              have Hg6 := Lib.hid hg4
              clear hg4
              go_wp2
              go_roundw
              case rel =>
                first
                | exact ⟨j + 1, by omega, by go_num, Gr.trans Hb.out Hg6.out⟩
                | ((repeat apply Exists.intro); exact ⟨⟨j + 1, by omega, by go_num, Gr.trans Hb.out Hg6.out⟩, rfl⟩)
              case measure => simp [intOf] <;> omega
        · have n1 : ¬ (j : Int) < (en : Int) := by omega
          have Hb := Lib.hid hb
          clear hb
          go_wp2_with (go_at_call 29; refine (T.out _).mono ?_; rintro e w' ⟨rfl, hb⟩)
          go_ret
          exact ⟨rfl, Gr.trans Hgb.out (Gr.trans Hb45.out (Gr.trans Hb.out hb))⟩
end Go.Proofs.Ytkocgeedpinplaa
