/- Layer 2: the law MemOwn: walk. -/
import Derived.Test.YtkocgeedpinplaaMemP
set_option maxRecDepth 100000
namespace Go.Proofs.Ytkocgeedpinplaa
open Go.RowKit

theorem do_nil (kind a : Int) (x y : Int) (w : World) :
    Calls Try.prog 22 #[.pointer none, .agg #[.int .i64 kind, .int .i64 a, .int .u64 x, .int .u64 y]] w fun e w' => e = .returned (.int .u64 0) ∧ Below w.heap.size w w' := by
  have A0 := Lib.hid (fun u => read_nil a u)
  have A1 := Lib.hid (fun u => write_nil a x u)
  have A2 := Lib.hid (fun u => swap_nil a x y u)
  have A3 := Lib.hid (fun u => add_nil a x u)
  by_cases k0 : kind = 0
  · subst k0
    go_enter Try.func22, Try.ntmps22
    go_wp2_with fail
    refine (A0.out _).mono ?_
    rintro e w1 ⟨rfl, hc⟩
    have Hc := Lib.hid (Gr.trans (Gr.new w _) hc); clear hc
    go_wp2
    go_ret
    exact ⟨rfl, Hc.out⟩
  by_cases k1 : kind = 1
  · subst k1
    clear k0
    go_enter Try.func22, Try.ntmps22
    go_wp2_with fail
    refine (A1.out _).mono ?_
    rintro e w1 ⟨rfl, hc⟩
    have Hc := Lib.hid (Gr.trans (Gr.new w _) hc); clear hc
    go_wp2
    go_ret
    exact ⟨rfl, Hc.out⟩
  by_cases k2 : kind = 2
  · subst k2
    clear k0 k1
    go_enter Try.func22, Try.ntmps22
    go_wp2_with fail
    refine (A2.out _).mono ?_
    rintro e w1 ⟨rfl, hc⟩
    have Hc := Lib.hid (Gr.trans (Gr.new w _) hc); clear hc
    go_wp2
    go_ret
    exact ⟨rfl, Hc.out⟩
  · have a0 : (kind == 0) = false := by simpa using k0
    have a1 : (kind == 1) = false := by simpa using k1
    have a2 : (kind == 2) = false := by simpa using k2
    clear k0 k1 k2
    go_enter Try.func22, Try.ntmps22
    go_wp2_with fail
    refine (A3.out _).mono ?_
    rintro e w1 ⟨rfl, hc⟩
    have Hc := Lib.hid (Gr.trans (Gr.new w _) hc); clear hc
    go_wp2
    go_ret
    exact ⟨rfl, Hc.out⟩

theorem own_cell {w : World} {B g n cap k : Nat} {zs : List Nat} (h : w.ownsRow B 24 1 (.slice (some ⟨g, 0, none⟩) n cap) n (zs.map u64V)) (hk : k < n) (hz : zs.length = n) :
    w.cell? ⟨g, k, none⟩ = some (.int .u64 ((zs.getD k 0 : Nat) : Int)) ∧ w.frozen? ⟨g, k, none⟩ = false := by
  refine ⟨?_, h.frozenAt k⟩
  rw [h.cellAt k (by omega)]
  simp [u64V, List.getD_eq_getElem?_getD, show k < zs.length by omega]
theorem own_set {w : World} {B g n cap k z : Nat} {zs : List Nat} (h : w.ownsRow B 24 1 (.slice (some ⟨g, 0, none⟩) n cap) n (zs.map u64V)) :
    (w.setCell ⟨g, k, none⟩ (.int .u64 (z : Int))).ownsRow B 24 1 (.slice (some ⟨g, 0, none⟩) n cap) n ((zs.set k z).map u64V) := by
  have := (h.stored k (.int .u64 (z : Int))).1
  rw [List.map_set]
  exact this

set_option maxHeartbeats 4000000 in
theorem memOwn_any (ws : List Nat) (kind ad : Int) (x y : Int) (a : Option Addr) (c : Nat) (w : World) (hs : SlAt w a ws.length 1 (u64G ws)) (hc : a = none → c = 0) (hv : ∀ x ∈ ws, x < 18446744073709551616) :
    Calls Try.prog 5 #[.slice a ws.length c, .agg #[.int .i64 kind, .int .i64 ad, .int .u64 x, .int .u64 y]] w fun e w' => e = .returned (.bool true) ∧ Below w.heap.size w w' := by
  have hm2 := hs.1
  unfold maxLen at hm2
  have T := Lib.hid two_true
  by_cases hl : 1000 < ws.length
  · have h1 : (1000 : Int) < ws.length := by omega
    clear hs hv hc hl
    go_enter Try.func5, Try.ntmps5
    go_wp2_with fail
    refine (T.out _).mono ?_
    rintro e w1 ⟨rfl, hb⟩
    have Hb := Lib.hid (Gr.trans (Gr.new w _) hb); clear hb
    go_wp2
    go_ret
    exact ⟨rfl, Hb.out⟩
  have h1 : ¬ (1000 : Int) < ws.length := by omega
  have Hs := Lib.hid hs; have Hv := Lib.hid hv; have Hl := Lib.hid hl
  obtain ⟨i0, hi, hz0, hz1, hz2⟩ := info_parts uint64_info0
  obtain ⟨w0, hw0⟩ : ∃ w0, w0 = (w.alloc (.cells #[.int .i64 kind, .int .i64 ad, .int .u64 x, .int .u64 y] 44)).alloc (.cells #[] 24) := ⟨_, rfl⟩
  have hgr : Below w.heap.size w w0 := by rw [hw0]; exact Gr.alloc (Gr.new w _) _
  have hsz : w0.heap.size = w.heap.size + 2 := by rw [hw0]; simp
  have kb : w0.cell? ⟨w.heap.size, 0, none⟩ = some (.int .i64 kind) ∧ w0.cell? ⟨w.heap.size, 1, none⟩ = some (.int .i64 ad) ∧ w0.cell? ⟨w.heap.size, 2, none⟩ = some (.int .u64 x) ∧ w0.cell? ⟨w.heap.size, 3, none⟩ = some (.int .u64 y) := by
    refine ⟨?_, ?_, ?_, ?_⟩ <;> (rw [hw0, World.cell?_alloc_lt _ _ _ (by simp), cell_new]; rfl)
  have hown : w0.ownsRow (w.heap.size + 1) 24 1 (.slice (some ⟨w.heap.size + 1, 0, none⟩) 0 0) 0 [] := by
    rw [hw0]
    have := World.ownsRow_made (e := 24) (size := 1) (w.alloc (.cells #[.int .i64 kind, .int .i64 ad, .int .u64 x, .int .u64 y] 44)) #[] 0 (base := w.heap.size + 1) (by simp) (Nat.zero_le _) rfl
    rw [World.size_alloc] at this; exact this
  have Hown := Lib.hid hown; have Hgr := Lib.hid hgr; have Hsz := Lib.hid hsz; have Hw0 := Lib.hid hw0; have Kb := Lib.hid kb
  clear hs hv hl hgr hsz hown hw0 kb
  have hrng : ∀ l : List Nat, (List.range l.length).map (fun j => u64G l j 0) = l.map u64V := range_map_words
  have Hr := Lib.hid hrng
  clear hrng
  go_enter Try.func5, Try.ntmps5
  go_wp2_with (at_builtin; rw [← Hw0.out]; refine wpList_append_copy _ rfl (.tmp 16) (.tmp 17) 22 rfl (w.heap.size + 1) 24 i0 (.int .u64 0) 8 Try.underlying22 hi hz0 hz1 hz2 rfl (.slice (some ⟨w.heap.size + 1, 0, none⟩) 0 0) 0 [] rfl Hown.out a ws.length c (u64G ws) rfl (Hs.out.grown Hgr.out) hc ?c1 ?c2 ?c3 ?c4 ?_)
  case c1 => exact fun j => rfl
  case c2 => unfold maxLen; omega
  case c3 => omega
  case c4 => have := Hsz.out; omega
  intro v w1 hown1 hgrow hnil
  rw [Hr.out] at hown1
  obtain ⟨oa, oc, rfl⟩ := row_form hown1
  have hg1 : Below w0.heap.size w0 w1 ∨ True := .inr trivial
  have Hg := Lib.hid hgrow; have Ho := Lib.hid hown1
  have hmx : ws.length ≤ maxLen := by unfold maxLen; have := Hl.out; omega
  have hsl := (row_sl hown1 hmx (g := u64G ws) (fun j hj => by simp [u64G, List.getD_eq_getElem?_getD, hj]))
  have N := Lib.hid (new_mem oa oc ws w1 hsl.1 (by have := Hl.out; omega) (by
    rcases hown1.2 with ⟨h, h0⟩ | ⟨q, cap, cur, h, _⟩
    · simp only [Value.slice.injEq] at h; exact fun _ => h.2.2
    · simp only [Value.slice.injEq] at h; exact fun e => by rw [h.1] at e; cases e) Hv.out)
  have hb1 : Below w.heap.size w w1 := Hgr.out.grown hgrow (by have := Hsz.out; omega) (fun k hk => by simp only [Value.ownBlock, Option.some.injEq] at hk; omega)
  have ka0 : w1.cell? ⟨w.heap.size, 0, none⟩ = some (.int .i64 kind) := by rw [hgrow.cell_far _ (by have := Hsz.out; simp; omega) (by simp [Value.ownBlock])]; exact Kb.out.1
  have ka1 : w1.cell? ⟨w.heap.size, 1, none⟩ = some (.int .i64 ad) := by rw [hgrow.cell_far _ (by have := Hsz.out; simp; omega) (by simp [Value.ownBlock])]; exact Kb.out.2.1
  have ka2 : w1.cell? ⟨w.heap.size, 2, none⟩ = some (.int .u64 x) := by rw [hgrow.cell_far _ (by have := Hsz.out; simp; omega) (by simp [Value.ownBlock])]; exact Kb.out.2.2.1
  have ka3 : w1.cell? ⟨w.heap.size, 3, none⟩ = some (.int .u64 y) := by rw [hgrow.cell_far _ (by have := Hsz.out; simp; omega) (by simp [Value.ownBlock])]; exact Kb.out.2.2.2
  have Hb1 := Lib.hid hb1; have Ka := Lib.hid (And.intro ka0 (And.intro ka1 (And.intro ka2 ka3)))
  clear hgrow hown1 hnil hsl hmx hb1 hg1 ka0 ka1 ka2 ka3
  go_wp2_with fail
  refine N.out.mono ?_
  rintro e w2 ⟨bm, bw, rfl, hm, hb, hq1, hq2⟩
  have Hm := Lib.hid hm; have Hb := Lib.hid hb; have Hq1 := Lib.hid hq1; have Hq2 := Lib.hid hq2
  have Ho2 := Lib.hid (row_below Ho.out hb)
  clear hm hb hq1 hq2
  go_wp2
  go_loopw [8, 32] (fun _ i wr => ∃ (k : Nat) (zs : List Nat), k ≤ ws.length ∧ i = .int .i64 k ∧ zs.length = ws.length ∧ (wr.ownsRow (w.heap.size + 1) 24 1 (.slice oa ws.length oc) ws.length (zs.map u64V)) ∧ Chg (fun b => ∃ off, oa = some ⟨b, off, none⟩) w2 wr) (fun _ i _ => ws.length - (intOf i).toNat)
  case atStart => exact ⟨0, ws, Nat.zero_le _, rfl, rfl, Ho2.out, Chg.refl _ _⟩
  case round =>
    obtain ⟨k, zs, hk, rfl, hz, hrow, hcg⟩ := hrel
    by_cases hlt : k < ws.length
    · have hform := hrow.form (by omega)
      obtain ⟨g, cap, hgv, _, hgl⟩ := hform
      simp only [Value.slice.injEq] at hgv
      obtain ⟨rfl, _, rfl⟩ := hgv
      obtain ⟨e1, e2⟩ := own_cell hrow hlt hz
      obtain ⟨z, hzv⟩ : ∃ z, z = zs.getD k 0 := ⟨_, rfl⟩
      rw [← hzv] at e1
      have hwr : IntKind.u64.wrap ((z : Int) + 1) = (((z + 1) % 18446744073709551616 : Nat) : Int) := by simp [IntKind.wrap, IntKind.bits, IntKind.signed]
      have hnx : Hid (∃ (k1 : Nat) (zs : List Nat), k1 ≤ ws.length ∧ Value.int .i64 ((k : Int) + 1) = .int .i64 k1 ∧ zs.length = ws.length ∧ ((wr.setCell ⟨g, k, none⟩ (.int .u64 (IntKind.u64.wrap ((z : Int) + 1)))).ownsRow (w.heap.size + 1) 24 1 (.slice (some ⟨g, 0, none⟩) ws.length oc) ws.length (zs.map u64V)) ∧ Chg (fun b => ∃ off, some (⟨g, 0, none⟩ : Addr) = some ⟨b, off, none⟩) w2 (wr.setCell ⟨g, k, none⟩ (.int .u64 (IntKind.u64.wrap ((z : Int) + 1))))) :=
        ⟨k + 1, zs.set k ((z + 1) % 18446744073709551616), by omega, by go_num, by simpa using hz, by rw [hwr]; exact own_set hrow, hcg.setCell (.inl ⟨0, rfl⟩) _⟩
      have l1 : (k : Int) < ws.length := by omega
      clear hrow hcg hzv hwr hz hgl
      go_wp2
      go_roundw
      case rel => exact hnx.out
      case measure => simp [intOf] <;> omega
    · obtain rfl : k = ws.length := by omega
      have hbl : ∀ b, (∃ off, oa = some ⟨b, off, none⟩) → w.heap.size ≤ b ∧ ¬ MemSet bm bw b := by
        rintro b ⟨off, rfl⟩
        have h9 := Ho.out.lt b (by simp [Value.ownBlock])
        refine ⟨by omega, ?_⟩
        rintro (rfl | h)
        · have := Hq1.out; omega
        · have := Hq2.out b h.symm; omega
      have hmr := Hm.out.chg hcg (fun h => (hbl _ h).2 (.inl rfl)) (fun q e h => (hbl _ h).2 (.inr e.symm))
      have Wd := Lib.hid (words_any bm bw ⟨ws, c0⟩ wr hmr)
      have hbw : Below w.heap.size w wr := ((Chg.of_below (S := fun b => ∃ off, oa = some ⟨b, off, none⟩) (Gr.trans Hb1.out Hb.out)).trans hcg).below (fun q h => (hbl _ h).1) (Nat.le_refl _)
      have hka : wr.cell? ⟨w.heap.size, 0, none⟩ = some (.int .i64 kind) ∧ wr.cell? ⟨w.heap.size, 1, none⟩ = some (.int .i64 ad) ∧ wr.cell? ⟨w.heap.size, 2, none⟩ = some (.int .u64 x) ∧ wr.cell? ⟨w.heap.size, 3, none⟩ = some (.int .u64 y) := by
        have hnot : ¬ (∃ off, oa = some ⟨w.heap.size, off, none⟩) := by
          rintro ⟨off, rfl⟩
          have h9 := Ho.out.lt w.heap.size (by simp [Value.ownBlock]); omega
        have h0 := Hb.out.size
        have lk := World.block_lt_of_cell? _ _ Ka.out.1
        refine ⟨box_keep hcg hnot ?_, box_keep hcg hnot ?_, box_keep hcg hnot ?_, box_keep hcg hnot ?_⟩
        · exact (Hb.out.cell (p := ⟨w.heap.size, 0, none⟩) lk).trans Ka.out.1
        · exact (Hb.out.cell (p := ⟨w.heap.size, 1, none⟩) lk).trans Ka.out.2.1
        · exact (Hb.out.cell (p := ⟨w.heap.size, 2, none⟩) lk).trans Ka.out.2.2.1
        · exact (Hb.out.cell (p := ⟨w.heap.size, 3, none⟩) lk).trans Ka.out.2.2.2
      have Hmr := Lib.hid hmr; have Hbw := Lib.hid hbw; have Hka := Lib.hid hka
      clear hrow hcg hbl hmr hbw hka hz hlt
      go_wp2_with fail
      refine Wd.out.mono ?_
      rintro e w3 ⟨v, rfl, ho3, hb3⟩
      obtain ⟨ta, tc, rfl⟩ := row_form ho3
      have Ho3 := Lib.hid ho3; have Hb3 := Lib.hid hb3
      clear ho3 hb3
      go_wp2
      obtain ⟨wo, rfl⟩ : ∃ wo : World, wo = wr := ⟨_, rfl⟩
      go_loopw [10, 48] (fun _ i wr => ∃ (k : Nat) (zs : List Nat), k ≤ ws.length ∧ i = .int .i64 k ∧ zs.length = ws.length ∧ (wr.ownsRow wo.heap.size 24 1 (.slice ta ws.length tc) ws.length (zs.map u64V)) ∧ Chg (fun b => ∃ off, ta = some ⟨b, off, none⟩) w3 wr) (fun _ i _ => ws.length - (intOf i).toNat)
      case atStart => exact ⟨0, ws, Nat.zero_le _, rfl, rfl, Ho3.out, Chg.refl _ _⟩
      case round =>
        obtain ⟨k, zs, hk, rfl, hz, hrow, hcg⟩ := hrel
        by_cases hlt : k < ws.length
        · have hform := hrow.form (by omega)
          obtain ⟨g, cap, hgv, _, hgl⟩ := hform
          simp only [Value.slice.injEq] at hgv
          obtain ⟨rfl, _, rfl⟩ := hgv
          obtain ⟨e1, e2⟩ := own_cell hrow hlt hz
          obtain ⟨z, hzv⟩ : ∃ z, z = zs.getD k 0 := ⟨_, rfl⟩
          rw [← hzv] at e1
          have hwr : IntKind.u64.wrap ((z : Int) + 2) = (((z + 2) % 18446744073709551616 : Nat) : Int) := by simp [IntKind.wrap, IntKind.bits, IntKind.signed]
          have hnx : Hid (∃ (k1 : Nat) (zs : List Nat), k1 ≤ ws.length ∧ Value.int .i64 ((k : Int) + 1) = .int .i64 k1 ∧ zs.length = ws.length ∧ ((wr.setCell ⟨g, k, none⟩ (.int .u64 (IntKind.u64.wrap ((z : Int) + 2)))).ownsRow wo.heap.size 24 1 (.slice (some ⟨g, 0, none⟩) ws.length tc) ws.length (zs.map u64V)) ∧ Chg (fun b => ∃ off, some (⟨g, 0, none⟩ : Addr) = some ⟨b, off, none⟩) w3 (wr.setCell ⟨g, k, none⟩ (.int .u64 (IntKind.u64.wrap ((z : Int) + 2))))) :=
            ⟨k + 1, zs.set k ((z + 2) % 18446744073709551616), by omega, by go_num, by simpa using hz, by rw [hwr]; exact own_set hrow, hcg.setCell (.inl ⟨0, rfl⟩) _⟩
          have l1 : (k : Int) < ws.length := by omega
          clear hrow hcg hzv hwr hz hgl
          go_wp2
          go_roundw
          case rel => exact hnx.out
          case measure => simp [intOf] <;> omega
        · obtain rfl : k = ws.length := by omega
          have hbl : ∀ b, (∃ off, ta = some ⟨b, off, none⟩) → w.heap.size ≤ b ∧ ¬ MemSet bm bw b ∧ b ≠ w.heap.size := by
            rintro b ⟨off, rfl⟩
            have h9 := Ho3.out.lt b (by simp [Value.ownBlock])
            have h10 := Hbw.out.size
            have h11 := Hmr.out.lt
            have h12 := World.block_lt_of_cell? _ _ Hka.out.1
            refine ⟨by omega, ?_, by simp only at h12; omega⟩
            rintro (rfl | h)
            · omega
            · have := Hmr.out.low b h.symm; omega
          have hmr := (Hmr.out.gr Hb3.out).chg hcg (fun h => (hbl _ h).2.1 (.inl rfl)) (fun q e h => (hbl _ h).2.1 (.inr e.symm))
          have Wd := Lib.hid (words_any bm bw ⟨ws, c0⟩ wr hmr)
          have hbw : Below w.heap.size w wr := ((Chg.of_below (S := fun b => ∃ off, ta = some ⟨b, off, none⟩) (Gr.trans Hbw.out Hb3.out)).trans hcg).below (fun q h => (hbl _ h).1) (Nat.le_refl _)
          have hnot : ¬ (∃ off, ta = some ⟨w.heap.size, off, none⟩) := fun h => (hbl _ h).2.2 rfl
          have lk := World.block_lt_of_cell? _ _ Hka.out.1
          have q0 := box_keep hcg hnot ((Hb3.out.cell (p := ⟨w.heap.size, 0, none⟩) lk).trans Hka.out.1)
          have q1 := box_keep hcg hnot ((Hb3.out.cell (p := ⟨w.heap.size, 1, none⟩) lk).trans Hka.out.2.1)
          have q2 := box_keep hcg hnot ((Hb3.out.cell (p := ⟨w.heap.size, 2, none⟩) lk).trans Hka.out.2.2.1)
          have q3 := box_keep hcg hnot ((Hb3.out.cell (p := ⟨w.heap.size, 3, none⟩) lk).trans Hka.out.2.2.2)
          have Hbw2 := Lib.hid hbw; have Hq := Lib.hid (And.intro q0 (And.intro q1 (And.intro q2 q3)))
          clear hrow hcg hbl hmr hbw hz hlt hnot lk q0 q1 q2 q3
          go_wp2_with fail
          refine Wd.out.mono ?_
          rintro e w4 ⟨v, rfl, ho4, hb4⟩
          obtain ⟨ua, uc, rfl⟩ := row_form ho4
          have hsl := (row_sl ho4 (by unfold maxLen; have := Hl.out; omega) (g := u64G ws) (fun j hj => by simp [u64G, List.getD_eq_getElem?_getD, hj])).1
          have Sm := same_any ws ws ua a uc c w4 hsl (Hs.out.grown (Gr.trans Hbw2.out hb4))
          simp only [decide_true] at Sm
          have Sm' := Lib.hid Sm; have Hb4 := Lib.hid hb4
          have lk := World.block_lt_of_cell? _ _ Hq.out.1
          have q0 := (hb4.cell (p := ⟨w.heap.size, 0, none⟩) lk).trans Hq.out.1
          have q1 := (hb4.cell (p := ⟨w.heap.size, 1, none⟩) lk).trans Hq.out.2.1
          have q2 := (hb4.cell (p := ⟨w.heap.size, 2, none⟩) lk).trans Hq.out.2.2.1
          have q3 := (hb4.cell (p := ⟨w.heap.size, 3, none⟩) lk).trans Hq.out.2.2.2
          have lk4 := World.block_lt_of_cell? _ _ q0
          have Lk4 := Lib.hid lk4
          clear ho4 hb4 hsl Sm lk lk4
          go_wp2_with fail
          refine Sm'.out.mono ?_
          rintro e w5 ⟨rfl, hb5⟩
          replace q0 := (hb5.cell (p := ⟨w.heap.size, 0, none⟩) Lk4.out).trans q0
          replace q1 := (hb5.cell (p := ⟨w.heap.size, 1, none⟩) Lk4.out).trans q1
          replace q2 := (hb5.cell (p := ⟨w.heap.size, 2, none⟩) Lk4.out).trans q2
          replace q3 := (hb5.cell (p := ⟨w.heap.size, 3, none⟩) Lk4.out).trans q3
          have Hb5 := Lib.hid (Gr.trans (Gr.trans Hbw2.out Hb4.out) hb5)
          have D := Lib.hid (fun u => do_nil kind ad x y u)
          clear hb5
          go_wp2_with fail
          refine (D.out _).mono ?_
          rintro e w6 ⟨rfl, hb6⟩
          have Hb6 := Lib.hid (Gr.trans Hb5.out hb6)
          clear hb6 q0 q1 q2 q3
          go_wp2_with fail
          refine (len_nil _).mono ?_
          rintro e w7 ⟨rfl, rfl⟩
          go_wp2_with fail
          refine (words_nil _).mono ?_
          rintro e w7 ⟨rfl, rfl⟩
          go_wp2_with fail
          refine (counts_nil _).mono ?_
          rintro e w7 ⟨rfl, hb7⟩
          have Hb7 := Lib.hid (Gr.trans Hb6.out hb7)
          clear hb7
          go_wp2_with fail
          refine (T.out _).mono ?_
          rintro e w8 ⟨rfl, hb8⟩
          have Hb8 := Lib.hid (Gr.trans Hb7.out hb8)
          clear hb8
          go_wp2
          go_ret
          exact ⟨rfl, Hb8.out⟩
end Go.Proofs.Ytkocgeedpinplaa
