/- Layer 6: the walk of LoomWhole. -/
import Derived.Test.YtjkgfkbanbhkgaaJ49
import Derived.Test.YtjkgfkbanbhkgaaJ50
import Derived.Test.YtjkgfkbanbhkgaaJ41
import Derived.Test.YtjkgfkbanbhkgaaJ27
import Derived.Test.YtjkgfkbanbhkgaaJ28
import Derived.BigQuiet
set_option maxRecDepth 100000
set_option linter.unusedVariables false
set_option linter.unusedSimpArgs false
set_option linter.unnecessarySimpa false
namespace Go.Proofs.Ytjkgfkbanbhkgaa
open Go.RowKit

/-- A memory of the reference's, of a row that it owns. -/
theorem rmem_row {w : World} {b B cap : Nat} {wa : Option Addr} {T : TypeId} {tail : List Value} {ws : List Nat} (hb : w.heap[b]? = some (.cells (rmemCells wa ws.length cap c0 tail) T (0, 0))) (h : w.ownsRow B 46 1 (.slice wa ws.length cap) ws.length (ws.map u64V))
    (h0 : 0 < ws.length) (hl : ws.length ≤ 1048576) (hv : ∀ x ∈ ws, x < 18446744073709551616) (hT : T ≠ 46) : ∃ q, wa = some ⟨q, 0, none⟩ ∧ B ≤ q ∧ q < w.heap.size ∧ RMemAt w b T tail (some q) ⟨ws, c0⟩ := by
  rcases h.2 with ⟨_, h9⟩ | ⟨q, cp, cur, e, hB, hh, hle, _, _, htk⟩
  · omega
  · simp only [Value.slice.injEq] at e
    obtain ⟨rfl, _, rfl⟩ := e
    refine ⟨q, rfl, hB, blk_lt hh, ⟨⟨_, _, ⟨hle, fun e => by cases e⟩, hb, fun _ => ⟨q, cur.toList.drop (ws.length * 1), rfl, rfl, ?_⟩⟩, fun e => ?_, fun q' e => by cases e; exact blk_lt hh, hl, (by show c0.all < 1000000000000; decide), hv⟩⟩
    · rw [hh, ← htk, List.take_append_drop]
    · cases e
      rw [hb] at hh
      simp only [Option.some.injEq, Obj.cells.injEq] at hh
      exact hT hh.2.1

set_option maxHeartbeats 8000000 in
theorem loomWhole_in (m sz : Nat) (calls : List CallD) (picks : List Int) (ca pa : Option Addr) (cc pc : Nat) (w : World) (hc : CallsAt noB w ca calls) (hp : PicksAt w pa picks) (hM : manyB calls.length picks.length = false) (hck : cellsN (m : Int) (sz : Int) calls picks.length = 0) :
    Calls Try.prog 3 #[.agg #[.int .i64 (m : Int), .int .i64 (sz : Int)], .slice ca calls.length cc, .slice pa picks.length pc] w fun e w' => e = .returned (.bool true) ∧ Below w.heap.size w w' := by
  have hgb : Below w.heap.size w (w.alloc (.cells #[.int .i64 (m : Int), .int .i64 (sz : Int)] 22)) := Gr.new _ _
  have M := many_any ca pa calls.length picks.length cc pc (w.alloc (.cells #[.int .i64 (m : Int), .int .i64 (sz : Int)] 22)) hc.sl.1 hp.sl.1
  have T := Lib.hid adds_true
  rw [hM] at M
  have HM := Lib.hid M
  have P := cellsPlay_any noB (w.alloc (.cells #[.int .i64 (m : Int), .int .i64 (sz : Int)] 22)) m sz calls picks ca pa cc pc (fun b hb => hb.elim) (hc.grown hgb) (hp.grown hgb)
  rw [hck] at P
  simp only [Int.toNat_natCast] at P
  have HP := Lib.hid P; have Hc := Lib.hid hc; have Hgb := Lib.hid hgb
  have hcl := hc.sl.1
  unfold maxLen at hcl
  clear M P hc hp hM hgb
  obtain ⟨hck1, hs1, hs2⟩ := cellsN_zero hck
  have hnp := (checkN_zero hck1).2
  obtain ⟨o1, o2, o3, o4, _, o6, o7⟩ := on_play (cells_onceAp sz) hck1 (List.replicate sz 0) (by simp) picks hnp
  obtain ⟨rr, hrr⟩ : ∃ rr, rr = playD (cellsS sz) () (List.replicate sz 0) calls picks := ⟨_, rfl⟩
  rw [← hrr] at HP
  have hrr' : rr = playD (onceSys (cellsRef sz) cellsAct) () (List.replicate sz 0) calls picks := hrr
  rw [← hrr'] at o1 o2 o3 o4 o6 o7
  have q1 := o1.rows; have q2 := o1.fold
  have q3 : (orderD rr.evs).length = rr.evs.length := by rw [o3, List.length_range]
  have Q1 := Lib.hid q1; have Q2 := Lib.hid q2; have O2 := Lib.hid o2; have Q3 := Lib.hid q3; have O4 := Lib.hid o4; have O6 := Lib.hid o6; have O7 := Lib.hid o7; have Hnp := Lib.hid hnp
  have hmk := make_size sz (by omega)
  have z1 : ¬ (sz : Int) < 1 := by omega
  have z2 : ¬ 64 < (sz : Int) := by omega
  have hs64 : sz ≤ 64 := by omega
  have hs0 : 0 < sz := by omega
  clear hck hck1 hrr hrr' q1 q2 q3 o1 o2 o3 o4 o6 o7 hnp hs1 hs2
  go_enter Try.func3, Try.ntmps3
  go_wp2_with (go_at_call 15; refine (HM.out).mono ?_; rintro e w' ⟨rfl, rfl⟩)
  refine HP.out.mono ?_
  rintro e w1 ⟨ea, en, ec, va, vn, vc, rp, rfl, hb1, hr⟩
  rcases hr with ⟨h0, _⟩ | ⟨_, hrp, hen, hvn, ers, hrep⟩
  · exact absurd rfl h0
  subst hrp
  obtain ⟨w2, hw2⟩ : ∃ w2, w2 = w1.alloc (.cells #[.slice ea en ec, .slice va vn vc, .int .i64 (rp.c.read : Int), .int .i64 (rp.c.write : Int), .int .i64 (rp.c.swap : Int), .int .i64 (rp.c.add : Int), .int .i64 (rp.c.fault : Int), .int .i64 (rp.ticks : Int), .int .i64 (rp.idle : Int)] 32) := ⟨_, rfl⟩
  have hb2 : Below w1.heap.size w1 w2 := by rw [hw2]; exact Gr.new _ _
  have hin2 : RepIn w1 w2 w1.heap.size ea en ec va vn vc rp := ⟨Nat.le_refl _, by rw [hw2]; exact heap_alloc_new _ _⟩
  have hb02 := Gr.trans Hgb.out (Gr.trans hb1 hb2)
  have hlen : rp.evs.length < 1000000 := by have := O4.out; have := Hnp.out; omega
  have k1 : w2.cell? ⟨w.heap.size, 1, none⟩ = some (.int .i64 (sz : Int)) := by
    rw [(Gr.trans hb1 hb2).cell (by simp), cell_new]; rfl
  have hltq : w.heap.size < w2.heap.size := by have := (Gr.trans hb1 hb2).size; simp only [World.size_alloc] at this; omega
  have r0 : w2.cell? ⟨w1.heap.size, 0, none⟩ = some (.slice ea en ec) := hin2.cell 0
  have r1 : w2.cell? ⟨w1.heap.size, 1, none⟩ = some (.slice va vn vc) := hin2.cell 1
  have hlt2 : w1.heap.size < w2.heap.size := blk_lt hin2.blk
  have OF := Lib.hid (fun (u : World) (h2 : u.heap[w2.heap.size]? = some (.cells (madeCells #[.int .u64 0] sz) 46 (0, 0))) => of_any (some ⟨w2.heap.size, 0, none⟩) sz (List.replicate sz 0) u (zeros_sl h2 hs64) (by rw [List.length_replicate]; omega) (fun e => by cases e))
  simp only [List.length_replicate] at OF
  have Hb02 := Lib.hid hb02; have Hw2 := Lib.hid hw2; have Hin2 := Lib.hid hin2; have Hrep := Lib.hid (hrep.grown hb2); have Hen := Lib.hid hen; have Hvn := Lib.hid hvn; have Hlen := Lib.hid hlen
  have K1 := Lib.hid k1; have R0 := Lib.hid r0; have R1 := Lib.hid r1
  clear hrep hb1 hb2 hin2 hb02 hw2 hvn hen hlen
  unfold repV
  go_upto_region 4 with fail
  rw [← Hw2.out]
  go_wp2_with fail
  refine (OF.out _ (heap_alloc_new _ _)).mono ?_
  rintro e w6 ⟨v6, rfl, hown6, hb6⟩
  obtain ⟨wa, wc, rfl⟩ := row_form hown6
  obtain ⟨w7, hw7⟩ : ∃ w7, w7 = w6.alloc (.cells #[.slice wa sz wc, .int .i64 0, .int .i64 0, .int .i64 0, .int .i64 0, .int .i64 0, .int .i64 0, .slice none 0 0, .slice none 0 0, .slice none 0 0] 44) := ⟨_, rfl⟩
  have hb26 : Below w2.heap.size w2 w6 := Gr.trans (Gr.new _ _) hb6
  have hb67 : Below w6.heap.size w6 w7 := by rw [hw7]; exact Gr.new _ _
  have hb27 := Gr.trans hb26 hb67
  have hs67 : w6.heap.size < w7.heap.size := by rw [hw7]; simp
  have hW7 : w7.heap[w6.heap.size]? = some (.cells (rmemCells wa (List.replicate sz 0).length wc c0 [.int .i64 ((0 : Nat) : Int), .slice none 0 0, .slice none 0 0, .slice none 0 0]) 44 (0, 0)) := by rw [hw7, List.length_replicate]; exact heap_alloc_new _ _
  obtain ⟨bq, rfl, hbq, hbq2, hmem⟩ := rmem_row hW7 (by simpa using row_below hown6 hb67) (by simpa using hs0) (by simp; omega) (fun x hx => by rw [(List.mem_replicate.1 hx).2]; decide) (by decide)
  have hbq3 : w2.heap.size ≤ bq := by have h9 := (Gr.new w2 (.cells (madeCells #[.int .u64 0] sz) 46)).size; omega
  have hbW : w2.heap.size ≤ w6.heap.size := hb26.size
  have k1 := (hb27.cell hltq).trans K1.out
  have r0 := (hb27.cell hlt2).trans R0.out
  have OR := Lib.hid (order_any w7 ea va en ec vn vc ers rp (Hrep.out.grown hb27) Hen.out Hlen.out)
  have Hmem := Lib.hid hmem; have Hb27 := Lib.hid hb27; have Hw7 := Lib.hid hw7
  clear hb6 hb26 hb67 hown6 hbq hW7 hmem hb27 hw7
  go_upto_region 9 with fail
  rw [← Hw7.out]
  clear Hw7
  go_wp2_with fail
  refine OR.out.mono ?_
  rintro e w8 ⟨oa, oc, rfl, hol, hof, hb8⟩
  have hmem8 := RMemAt.chg (S := noB) Hmem.out (Chg.of_below hb8) (fun h => h) (fun _ _ h => h)
  have hfold := Q2.out
  have hto := O2.out
  have hq3 := Q3.out
  have hmb : ∀ x ∈ orderD rp.evs, x < rp.evs.length ∧ kAt rp.evs x ≠ [] := fun x hx => orderD_mem hx
  obtain ⟨L, hL⟩ : ∃ L, L = orderD rp.evs := ⟨_, rfl⟩
  rw [← hL] at hol hfold hmb hto hq3 ⊢
  obtain ⟨Ln, hLn⟩ : ∃ Ln, Ln = L.length := ⟨_, rfl⟩
  rw [← hLn] at hol hq3 ⊢
  have hoq : ∀ b off, oa = some ⟨b, off, none⟩ → ¬ (b = w6.heap.size ∨ b = bq) := fun b off e h => by have := hof b off e; rcases h with rfl | rfl <;> omega
  have hLl : Ln < 1000000 := by have := Hlen.out; omega
  have hlt27 := Hb27.out.size
  have hlt78 := hb8.size
  have Hb28 := Lib.hid (Gr.trans Hb27.out hb8)
  have Hmem8 := Lib.hid hmem8; have Hfold := Lib.hid hfold; have Hto := Lib.hid hto; have Hq3 := Lib.hid hq3; have Hmb := Lib.hid hmb; have Hol := Lib.hid hol; have Hoq := Lib.hid hoq; have HLn := Lib.hid hLn
  clear hmem8 hfold hto hq3 hmb hol hof hoq hLn hL hb8 OR k1 r0 Hmem
  go_wp2
  go_loopw [54] (fun i wr => ∃ (k : Nat) (md : MemD) (V : Value), k ≤ Ln ∧ i = .int .i64 k ∧ Chg (fun b => b = w6.heap.size ∨ b = bq) w8 wr ∧ RMemAt wr w6.heap.size 44 [.int .i64 ((0 : Nat) : Int), .slice none 0 0, .slice none 0 0, V] (some bq) md ∧ (∃ n xs, n ≤ md.c.all ∧ wr.ownsRow 0 155 6 V n xs) ∧ (∀ b, V.ownBlock = some b → w8.heap.size ≤ b) ∧ md.c.all ≤ k ∧ md.ws.length = sz ∧ Fold (cellsAp sz) calls rp.evs md.ws (L.drop k) ∧ foldTo (cellsAp sz) calls rp.evs md.ws (L.drop k) = rp.words) (fun i _ => Ln - (intOf i).toNat)
  case atStart => exact ⟨0, ⟨List.replicate sz 0, c0⟩, .slice none 0 0, Nat.zero_le _, rfl, Chg.refl _ _, Hmem8.out, ⟨0, [], Nat.zero_le _, rfl, .inl ⟨rfl, rfl⟩⟩, (fun b e => by cases e), Nat.le_refl _, List.length_replicate .., by rw [List.drop_zero]; exact Hfold.out, by rw [List.drop_zero]; exact Hto.out⟩
  case round =>
    obtain ⟨k, md, V, hk, rfl, hc8, hmem, hlog, hvb, hall, hwl, hfo, hto⟩ := hrel
    obtain ⟨wi, rfl⟩ : ∃ wi, wi = wr := ⟨_, rfl⟩
    have hb : Below w2.heap.size w2 wi := Hb28.out.trans (hc8.below (B := w2.heap.size) (fun b h => by rcases h with rfl | rfl <;> omega) (by omega))
    by_cases hlk : k < Ln
    · obtain ⟨x, hx⟩ : ∃ x, x = L.getD k 0 := ⟨_, rfl⟩
      have hkl : k < L.length := by rw [← HLn.out]; exact hlk
      have hxe : L[k] = x := by rw [hx, List.getD_eq_getElem?_getD, List.getElem?_eq_getElem hkl]; rfl
      have hdr : L.drop k = x :: L.drop (k + 1) := by rw [List.drop_eq_getElem_cons hkl, hxe]
      have hxm := Hmb.out x (by rw [← hxe]; exact List.getElem_mem hkl)
      obtain ⟨bo, oo, rfl, hoc⟩ := Hol.out.elem (Gr.refl w8) hlk
      have hob := Hoq.out bo oo rfl
      have hbo8 := World.block_lt_of_cell? _ _ (hoc 0 (by omega))
      have o0 : wi.cell? ⟨bo, oo + k, none⟩ = some (.int .i64 (x : Int)) := by have h0 := hoc 0 (by omega); rw [Nat.mul_one, Nat.add_zero] at h0 hbo8; rw [hc8.cell hbo8 hob, h0, hx]; rfl
      have hxen : x < en := by rw [Hen.out]; exact hxm.1
      obtain ⟨g, la, lc, ka, kc, rfl, hgl, e0, e1, e2, e3, e4, e5, e6, e7, hls, hks, hknil⟩ := Hrep.out.ev8 Hen.out hxen hb
      have hcall := (Q1.out.ev x hxm.1).call
      have hresp := (O7.out x hxm.1).2
      rw [hdr] at hfo hto
      obtain ⟨E, hE⟩ : ∃ E, E = evAt rp.evs x := ⟨_, rfl⟩
      have hfo2 : if (calls.getD E.call Proofs.Ytjkgfkbanbhkgaa.d0).obj ≠ 0 then (E.resp ≠ 0 → E.ans = ⟨12, 0, []⟩) ∧ Fold (cellsAp sz) calls rp.evs md.ws (L.drop (k + 1)) else (E.resp ≠ 0 → E.ans = (cellsAp sz md.ws (calls.getD E.call Proofs.Ytjkgfkbanbhkgaa.d0)).2) ∧ Fold (cellsAp sz) calls rp.evs (cellsAp sz md.ws (calls.getD E.call Proofs.Ytjkgfkbanbhkgaa.d0)).1 (L.drop (k + 1)) := by
        unfold Fold at hfo; rw [hE]; exact hfo
      have hto2 : foldTo (cellsAp sz) calls rp.evs (if (calls.getD E.call Proofs.Ytjkgfkbanbhkgaa.d0).obj ≠ 0 then md.ws else (cellsAp sz md.ws (calls.getD E.call Proofs.Ytjkgfkbanbhkgaa.d0)).1) (L.drop (k + 1)) = rp.words := by
        unfold foldTo at hto; rw [hE]; exact hto
      rw [← hE] at e0 e1 e2 e3 e4 e5 e6 e7 hcall hls hresp
      obtain ⟨cI, iv, rs, sp, ⟨er, vl, li⟩, ky⟩ := E
      simp only at e0 e1 e2 e3 e4 e5 e6 e7 hcall hls hfo2 hto2 hresp
      obtain ⟨b9, off, rfl, y0, y1, y2, y3, y4, y5⟩ := call_at Hc.out.sl hcall (Gr.trans Hb02.out hb)
      have hb9 := World.block_lt_of_cell? _ _ y0
      have hcok : CallOk (calls.getD cI Proofs.Ytjkgfkbanbhkgaa.d0) := Hc.out.ok _ (by rw [List.getD_eq_getElem?_getD, List.getElem?_eq_getElem hcall]; exact List.getElem_mem hcall)
      obtain ⟨C, hC⟩ : ∃ C, C = calls.getD cI Proofs.Ytjkgfkbanbhkgaa.d0 := ⟨_, rfl⟩
      rw [← hC] at y0 y1 y2 y3 y4 y5 hcok hfo2 hto2
      obtain ⟨th, ob, kd, xa, xb, xc⟩ := C
      simp only at y0 y1 y2 y3 y4 y5 hfo2 hto2
      have l1 : (k : Int) < (Ln : Int) := by omega
      have l2 : (x : Int) < (en : Int) := by omega
      have l3 : (cI : Int) < (calls.length : Int) := by omega
      have l4 : (0 : Int) ≤ (cI : Int) := by omega
      have r0 := (hb.cell hlt2).trans R0.out
      have k1 := (hb.cell hltq).trans K1.out
      have hr0 : w1.heap.size < wi.heap.size := World.block_lt_of_cell? _ _ r0
      have ho0 : bo < wi.heap.size := World.block_lt_of_cell? _ _ o0
      have hq0 : w.heap.size < wi.heap.size := World.block_lt_of_cell? _ _ k1
      have hb9 : b9 < wi.heap.size := World.block_lt_of_cell? _ _ y0
      obtain ⟨w9, hw9⟩ : ∃ w9, w9 = (wi.alloc (.cells #[.int .i64 (cI : Int), .int .i64 (iv : Int), .int .i64 (rs : Int), .int .i64 (sp : Int), .int .i64 er, .int .u64 (vl : Int), .slice la li.length lc, .slice ka ky.length kc] 50)).drew := ⟨_, rfl⟩
      have hg9 : Below wi.heap.size wi w9 := by rw [hw9]; exact (Gr.new _ _).drew
      have hE9 : w9.heap[wi.heap.size]? = some (.cells #[.int .i64 (cI : Int), .int .i64 (iv : Int), .int .i64 (rs : Int), .int .i64 (sp : Int), .int .i64 er, .int .u64 (vl : Int), .slice la li.length lc, .slice ka ky.length kc] 50 (0, 0)) := by rw [hw9]; exact heap_alloc_new _ _
      have hs9 : wi.heap.size < w9.heap.size := blk_lt hE9
      obtain ⟨w10, hw10⟩ : ∃ w10, w10 = w9.alloc (.cells #[.pointer (some ⟨w6.heap.size, 0, none⟩), .int .i64 0, .int .i64 0, .slice none 0 0, .slice none 0 0, .int .i64 0, .bool true, .bool false, .slice none 0 0, .int .i64 0, .int .u64 0, .slice none 0 0, .slice none 0 0] 53) := ⟨_, rfl⟩
      have hg10 : Below w9.heap.size w9 w10 := by rw [hw10]; exact Gr.new _ _
      have hgi := Gr.trans hg9 hg10
      obtain ⟨I, hI⟩ : ∃ I : TIds, I = ⟨w9.heap.size, [], [], 53, w6.heap.size, some bq, .slice none 0 0, .slice none 0 0⟩ := ⟨_, rfl⟩
      have hbqi : bq < wi.heap.size := hmem.low bq rfl
      have hWi : w6.heap.size < wi.heap.size := hmem.lt
      obtain ⟨ln, lxs, hln, hlr⟩ := hlog
      have hT : TapeAt w10 I (.slice none 0 0) (.slice none 0 0) V tape0 md 0 := by
        rw [hI]
        exact ⟨by rw [hw10]; exact heap_alloc_new _ _, hmem.chg (S := noB) (Chg.of_below hgi) (fun h => h) (fun _ _ h => h), ⟨rfl, .inl ⟨rfl, rfl⟩⟩, ⟨rfl, .inl ⟨rfl, rfl⟩⟩, ⟨ln, lxs, hln, row_below hlr hgi⟩, ⟨(by show 53 ≠ 46; decide), (by show 53 ≠ 3; decide), (by show 53 ≠ 155; decide), (by show 53 ≠ 44; decide)⟩, fun q e => by
          cases e
          refine ⟨by show bq ≠ w9.heap.size; omega, (fun e => by cases e), (fun e => by cases e), fun e => ?_⟩
          have := hvb bq e
          omega, by decide, by decide⟩
      have hcok2 : CallOk ⟨th, ob, kd, xa, xb, xc⟩ := hcok
      have CC := cell_any I (.slice none 0 0) (.slice none 0 0) V tape0 md 0 w10.drew 0 sz 0 0 ⟨th, ob, kd, xa, xb, xc⟩ hcok2 (by omega) (hT.grown (Gr.refl _).drew).1 (tape0_ok (by have := hmem.cnt; have := hall; have := hLl; omega)) rfl
      have AP := cell_ap sz md 0 ⟨th, ob, kd, xa, xb, xc⟩ hwl
      obtain ⟨R, hR⟩ : ∃ R, R = cellD 0 sz tape0 md 0 ⟨th, ob, kd, xa, xb, xc⟩ := ⟨_, rfl⟩
      obtain ⟨A, hA⟩ : ∃ A, A = cellsAp sz md.ws ⟨th, ob, kd, xa, xb, xc⟩ := ⟨_, rfl⟩
      rw [← hR] at CC
      rw [← hR, ← hA] at AP
      rw [← hA] at hfo2 hto2
      have CC2 : Calls Try.prog 21 #[.pointer (some ⟨w9.heap.size, 0, none⟩), .int .i64 0, .agg #[.int .i64 0, .int .i64 (sz : Int), .int .i64 0], .agg #[.int .i64 th, .int .i64 ob, .int .i64 kd, .int .u64 (xa : Int), .int .u64 (xb : Int), .int .u64 (xc : Int)]] w10.drew fun e w' => e = .returned (.tuple #[]) ∧ TapeOut w10.drew w' I (.slice none 0 0) (.slice none 0 0) V R.1 R.2 0 := by
        rw [hI] at CC ⊢; exact CC
      have hVi : ∀ b, V.ownBlock = some b → w8.heap.size ≤ b ∧ b < wi.heap.size := fun b e => ⟨hvb b e, (hlr.lt b e).2⟩
      have fin : ∀ (u : World) (t : TapeD) (m2 : MemD), TapeOut w10.drew u I (.slice none 0 0) (.slice none 0 0) V t m2 0 → m2.c.all ≤ md.c.all + 1 → m2.ws.length = sz →
          u.heap[wi.heap.size]? = some (.cells #[.int .i64 (cI : Int), .int .i64 (iv : Int), .int .i64 (rs : Int), .int .i64 (sp : Int), .int .i64 er, .int .u64 (vl : Int), .slice la li.length lc, .slice ka ky.length kc] 50 (0, 0)) ∧ w9.heap.size < u.heap.size ∧ u.cell? ⟨w9.heap.size, 9, none⟩ = some (.int .i64 t.err) ∧ u.cell? ⟨w9.heap.size, 10, none⟩ = some (.int .u64 (t.val : Int)) ∧
          ∃ V2, Chg (fun b => b = w6.heap.size ∨ b = bq) w8 u ∧ RMemAt u w6.heap.size 44 [.int .i64 ((0 : Nat) : Int), .slice none 0 0, .slice none 0 0, V2] (some bq) m2 ∧ (∃ n xs, n ≤ m2.c.all ∧ u.ownsRow 0 155 6 V2 n xs) ∧ (∀ b, V2.ownBlock = some b → w8.heap.size ≤ b) ∧ m2.c.all ≤ k + 1 ∧ m2.ws.length = sz := by
        rintro u t m2 ⟨G', K', L', ht, hto⟩ h1 h2
        have hs10 : w9.heap.size < w10.heap.size := by rw [hw10]; simp
        have hTS : ∀ b, TSet I (.slice none 0 0) (.slice none 0 0) V b → b = w9.heap.size ∨ b = w6.heap.size ∨ b = bq ∨ V.ownBlock = some b := fun b h => by
          rw [hI] at h
          rcases h with h | h | h | h | h | h
          · exact .inl h
          · exact .inr (.inl h)
          · cases h; exact .inr (.inr (.inl rfl))
          · cases h
          · cases h
          · exact .inr (.inr (.inr h))
        have hc10 : Chg (TSet I (.slice none 0 0) (.slice none 0 0) V) w10 u := ⟨hto.chg.os, hto.chg.tape, hto.chg.output, hto.chg.size, hto.chg.block⟩
        have c9 := ht.cell (i := 9) (by omega)
        have c10 := ht.cell (i := 10) (by omega)
        have hmm := ht.mem
        have hll := ht.log
        rw [hI] at c9 c10 hmm
        refine ⟨?_, by have := hc10.size; omega, c9, c10, L', ?_, hmm, hll, fun b e => ?_, by omega, h2⟩
        · rw [hc10.block _ (by omega) (fun h => by
            rcases hTS _ h with e | e | e | e
            · omega
            · omega
            · omega
            · have := (hVi _ e).2; omega), hg10.block _ hs9]
          exact hE9
        · exact chg_trans2 hc8 (chg_trans2 (S := TSet I (.slice none 0 0) (.slice none 0 0) V) (Chg.of_below hgi) hc10 (fun b _ h => h)) (fun b hb8 h => by
            rcases hTS _ h with e | e | e | e
            · have := hc8.size; omega
            · exact .inl e
            · exact .inr e
            · have := (hVi _ e).1; omega)
        · rcases hto.kl b e with h9 | h9
          · exact (hVi b h9).1
          · have h8 : w10.heap.size ≤ b := h9
            have := hc8.size; omega
      have fin0 : ∀ (u : World), Chg (fun b => b = w9.heap.size) w10 u →
          u.heap[wi.heap.size]? = some (.cells #[.int .i64 (cI : Int), .int .i64 (iv : Int), .int .i64 (rs : Int), .int .i64 (sp : Int), .int .i64 er, .int .u64 (vl : Int), .slice la li.length lc, .slice ka ky.length kc] 50 (0, 0)) ∧ Chg (fun b => b = w6.heap.size ∨ b = bq) w8 u ∧ RMemAt u w6.heap.size 44 [.int .i64 ((0 : Nat) : Int), .slice none 0 0, .slice none 0 0, V] (some bq) md ∧ (∃ n xs, n ≤ md.c.all ∧ u.ownsRow 0 155 6 V n xs) := by
        intro u hc
        have hs10 : w9.heap.size < w10.heap.size := by rw [hw10]; simp
        refine ⟨?_, ?_, (hmem.chg (S := noB) (Chg.of_below hgi) (fun h => h) (fun _ _ h => h)).chg hc (fun e => ?_) (fun q e e9 => ?_), ⟨ln, lxs, hln, row_chg (row_below hlr hgi) hc (fun b e e9 => ?_)⟩⟩
        · rw [hc.block _ (by omega) (fun e => by omega), hg10.block _ hs9]
          exact hE9
        · exact chg_trans2 hc8 (chg_trans2 (S := fun b => b = w9.heap.size) (Chg.of_below hgi) hc (fun b _ h => h)) (fun b hb8 h => by have := hc8.size; have h9 : b = w9.heap.size := h; omega)
        · have h9 : w6.heap.size = w9.heap.size := e
          omega
        · cases e
          have h9 : bq = w9.heap.size := e9
          omega
        · have h9 : b = w9.heap.size := e9
          have := (hVi b e).2
          omega
      have v0 : w9.cell? ⟨wi.heap.size, 0, none⟩ = some (.int .i64 (cI : Int)) := by rw [cell_blk hE9]; rfl
      have a0 := (hg9.cell hb9).trans y0
      have a1 := (hg9.cell hb9).trans y1
      have a2 := (hg9.cell hb9).trans y2
      have a3 := (hg9.cell hb9).trans y3
      have a4 := (hg9.cell hb9).trans y4
      have a5 := (hg9.cell hb9).trans y5
      have kq := (hg9.cell hq0).trans k1
      have Hw9 := Lib.hid hw9; have Hw10 := Lib.hid hw10; have HCC := Lib.hid CC2; have HAP := Lib.hid AP; have Hfin := Lib.hid fin; have Hfin0 := Lib.hid fin0; have Hvb := Lib.hid hvb; have Hall := Lib.hid hall; have Hwl := Lib.hid hwl; have Hls := Lib.hid hls; have Hfo := Lib.hid hfo2; have Hto := Lib.hid hto2; have HT := Lib.hid hT; have HI := Lib.hid hI; have Hg10 := Lib.hid hg10; have Hresp := Lib.hid hresp
      have hb99 : b9 < w9.heap.size := by omega
      have hq09 : w.heap.size < w9.heap.size := by omega
      clear hc8 hmem hlr hln hvb hall hwl hfo hto hfo2 hto2 hdr hxe hx hoc hxm hE hls hks hknil hC hcok hcok2 hb hcall hob hbo8 hxen hw9 hw10 hT CC CC2 AP fin fin0 hR hA hI hVi hgi hg10 hE9 y1 y2 y3 y4 y5 y0 hresp
      go_upto_region 13 with fail
      refine wp_region_L ((fun u => u.cell? ⟨w1.heap.size, 0, none⟩ = some (.slice (some ⟨g, 0, none⟩) en ec) ∧ u.cell? ⟨bo, oo + k, none⟩ = some (.int .i64 (x : Int)) ∧ u.cell? ⟨g, x * 8, none⟩ = some (.int .i64 (cI : Int)) ∧ u.cell? ⟨g, x * 8 + 1, none⟩ = some (.int .i64 (iv : Int)) ∧ u.cell? ⟨g, x * 8 + 2, none⟩ = some (.int .i64 (rs : Int)) ∧ u.cell? ⟨g, x * 8 + 3, none⟩ = some (.int .i64 (sp : Int)) ∧ u.cell? ⟨g, x * 8 + 4, none⟩ = some (.int .i64 er) ∧ u.cell? ⟨g, x * 8 + 5, none⟩ = some (.int .u64 (vl : Int)) ∧ u.cell? ⟨g, x * 8 + 6, none⟩ = some (.slice la li.length lc) ∧ u.cell? ⟨g, x * 8 + 7, none⟩ = some (.slice ka ky.length kc))) 9 (by kernel_rfl) ?hS0L1 ?_
      case hS0L1 =>
        (try dsimp only)
        (first | exact ⟨r0, o0, e0, e1, e2, e3, e4, e5, e6, e7⟩ | exact ⟨((Gr.new wi _).drew.cell hr0).trans r0, ((Gr.new wi _).drew.cell ho0).trans o0, ((Gr.new wi _).drew.cell hgl).trans e0, ((Gr.new wi _).drew.cell hgl).trans e1, ((Gr.new wi _).drew.cell hgl).trans e2, ((Gr.new wi _).drew.cell hgl).trans e3, ((Gr.new wi _).drew.cell hgl).trans e4, ((Gr.new wi _).drew.cell hgl).trans e5, ((Gr.new wi _).drew.cell hgl).trans e6, ((Gr.new wi _).drew.cell hgl).trans e7⟩)
      intro hS hcl
      refine wpAnyL_take (i := 0) (v := ?tv0L1) 10 rfl (by kernel_rfl) (by kernel_rfl) (by kernel_rfl) (by kernel_rfl) (by kernel_rfl) hcl (fun _ _ _ h => h) (Or.inl ⟨by rfl, ?th0L1⟩) hS ?tr0L1
      (case th0L1 => (intro w hSw; (try dsimp only at hSw); go_simp; try with_reducible rfl))
      clear hcl; intro hcl
      (try simp only [Act.put, List.getElem_toArray, List.getElem_cons_zero, List.getElem_cons_succ, List.setIfInBounds_toArray, List.set_cons_zero, List.set_cons_succ])
      refine wpAnyL_take (i := 1) (v := ?tv1L1) 10 rfl (by kernel_rfl) (by kernel_rfl) (by kernel_rfl) (by kernel_rfl) (by kernel_rfl) hcl (fun _ _ _ h => h) (Or.inl ⟨by rfl, ?th1L1⟩) hS ?tr1L1
      (case th1L1 => (intro w hSw; (try dsimp only at hSw); go_simp; try with_reducible rfl))
      clear hcl; intro hcl
      (try simp only [Act.put, List.getElem_toArray, List.getElem_cons_zero, List.getElem_cons_succ, List.setIfInBounds_toArray, List.set_cons_zero, List.set_cons_succ])
      refine wpAnyL_take (i := 2) (v := ?tv2L1) 10 rfl (by kernel_rfl) (by kernel_rfl) (by kernel_rfl) (by kernel_rfl) (by kernel_rfl) hcl (fun _ _ _ h => h) (Or.inl ⟨by rfl, ?th2L1⟩) hS ?tr2L1
      (case th2L1 => (intro w hSw; (try dsimp only at hSw); go_simp; try with_reducible rfl))
      clear hcl; intro hcl
      (try simp only [Act.put, List.getElem_toArray, List.getElem_cons_zero, List.getElem_cons_succ, List.setIfInBounds_toArray, List.set_cons_zero, List.set_cons_succ])
      refine wpAnyL_take (i := 3) (v := ?tv3L1) 10 rfl (by kernel_rfl) (by kernel_rfl) (by kernel_rfl) (by kernel_rfl) (by kernel_rfl) hcl (fun _ _ _ h => h) (Or.inl ⟨by rfl, ?th3L1⟩) hS ?tr3L1
      (case th3L1 => (intro w hSw; (try dsimp only at hSw); go_simp; try with_reducible rfl))
      clear hcl; intro hcl
      (try simp only [Act.put, List.getElem_toArray, List.getElem_cons_zero, List.getElem_cons_succ, List.setIfInBounds_toArray, List.set_cons_zero, List.set_cons_succ])
      refine wpAnyL_take (i := 4) (v := ?tv4L1) 10 rfl (by kernel_rfl) (by kernel_rfl) (by kernel_rfl) (by kernel_rfl) (by kernel_rfl) hcl (fun _ _ _ h => h) (Or.inl ⟨by rfl, ?th4L1⟩) hS ?tr4L1
      (case th4L1 => (intro w hSw; (try dsimp only at hSw); go_simp; try with_reducible rfl))
      clear hcl; intro hcl
      (try simp only [Act.put, List.getElem_toArray, List.getElem_cons_zero, List.getElem_cons_succ, List.setIfInBounds_toArray, List.set_cons_zero, List.set_cons_succ])
      refine wpAnyL_take (i := 5) (v := ?tv5L1) 10 rfl (by kernel_rfl) (by kernel_rfl) (by kernel_rfl) (by kernel_rfl) (by kernel_rfl) hcl (fun _ _ _ h => h) (Or.inl ⟨by rfl, ?th5L1⟩) hS ?tr5L1
      (case th5L1 => (intro w hSw; (try dsimp only at hSw); go_simp; try with_reducible rfl))
      clear hcl; intro hcl
      (try simp only [Act.put, List.getElem_toArray, List.getElem_cons_zero, List.getElem_cons_succ, List.setIfInBounds_toArray, List.set_cons_zero, List.set_cons_succ])
      refine wpAnyL_take (i := 6) (v := ?tv6L1) 10 rfl (by kernel_rfl) (by kernel_rfl) (by kernel_rfl) (by kernel_rfl) (by kernel_rfl) hcl (fun _ _ _ h => h) (Or.inl ⟨by rfl, ?th6L1⟩) hS ?tr6L1
      (case th6L1 => (intro w hSw; (try dsimp only at hSw); go_simp; try with_reducible rfl))
      clear hcl; intro hcl
      (try simp only [Act.put, List.getElem_toArray, List.getElem_cons_zero, List.getElem_cons_succ, List.setIfInBounds_toArray, List.set_cons_zero, List.set_cons_succ])
      refine wpAnyL_take (i := 7) (v := ?tv7L1) 10 rfl (by kernel_rfl) (by kernel_rfl) (by kernel_rfl) (by kernel_rfl) (by kernel_rfl) hcl (fun _ _ _ h => h) (Or.inl ⟨by rfl, ?th7L1⟩) hS ?tr7L1
      (case th7L1 => (intro w hSw; (try dsimp only at hSw); go_simp; try with_reducible rfl))
      clear hcl; intro hcl
      (try simp only [Act.put, List.getElem_toArray, List.getElem_cons_zero, List.getElem_cons_succ, List.setIfInBounds_toArray, List.set_cons_zero, List.set_cons_succ])
      refine wpAnyL_one (i := 8) (by kernel_rfl) rfl hcl (fun K' hK => ?_)
      have HK := Lib.hid hK; clear hK
      ((rw [if_pos (by kernel_rfl)]); (try simp only [List.getElem_toArray, List.getElem_cons_zero, List.getElem_cons_succ]); first | go_big_move | go_big_op)
      refine HK.out _ _ ?hS8L1 (fun hcl => ?_)
      case hS8L1 =>
        intro _
        (try dsimp only)
        (first | exact ⟨r0, o0, e0, e1, e2, e3, e4, e5, e6, e7⟩ | exact ⟨((Gr.new wi _).drew.cell hr0).trans r0, ((Gr.new wi _).drew.cell ho0).trans o0, ((Gr.new wi _).drew.cell hgl).trans e0, ((Gr.new wi _).drew.cell hgl).trans e1, ((Gr.new wi _).drew.cell hgl).trans e2, ((Gr.new wi _).drew.cell hgl).trans e3, ((Gr.new wi _).drew.cell hgl).trans e4, ((Gr.new wi _).drew.cell hgl).trans e5, ((Gr.new wi _).drew.cell hgl).trans e6, ((Gr.new wi _).drew.cell hgl).trans e7⟩)
      clear HK
      (try simp only [Act.put, List.getElem_toArray, List.getElem_cons_zero, List.getElem_cons_succ, List.setIfInBounds_toArray, List.set_cons_zero, List.set_cons_succ])
      refine wpAnyL_one (i := 9) (by kernel_rfl) rfl hcl (fun K' hK => ?_)
      have HK := Lib.hid hK; clear hK
      ((rw [if_pos (by kernel_rfl)]); (try simp only [List.getElem_toArray, List.getElem_cons_zero, List.getElem_cons_succ]); first | go_big_move | go_big_op)
      refine HK.out _ _ (fun h => by cases h.symm.trans (by kernel_rfl : _ = true)) (fun _ => wpAnyL_done (by kernel_rfl) ?_ _)
      clear HK
      (try clear hS)
      rw [← Hw9.out]
      clear r0 o0 e0 e1 e2 e3 e4 e5 e6 e7 k1 Hw9
      by_cases ho : ob = 0
      · subst ho
        have hf := Hfo.out
        have htt := Hto.out
        rw [if_neg (by simp)] at hf htt
        obtain ⟨p1, p2, p3, p4, p5, p6⟩ := HAP.out
        have hans := hf.1 Hresp.out
        have hf2 := hf.2
        rw [← hans] at p1 p2 p3
        simp only at p1 p2 p3
        rw [← p4] at htt hf2
        subst p3
        have Hf2 := Lib.hid hf2; have Htt := Lib.hid htt; have P1 := Lib.hid p1; have P2 := Lib.hid p2; have P5 := Lib.hid p5; have P6 := Lib.hid p6
        have AE := Lib.hid (fun (u : World) => answer_eq er vl [] la none lc 0 u (SlAt.nil _ _ _ _) (SlAt.nil _ _ _ _))
        clear hf htt hans hf2 p1 p2 p4 p5 p6 Hfo Hto HAP Hfin0 Hls
        go_upto_region 18 with fail
        rw [← Hw10.out]
        refine wp_region_L ((fun u => u.cell? ⟨w.heap.size, 1, none⟩ = some (.int .i64 (sz : Int)) ∧ u.cell? ⟨wi.heap.size, 0, none⟩ = some (.int .i64 (cI : Int)) ∧ u.cell? ⟨b9, off + cI * 6, none⟩ = some (.int .i64 th) ∧ u.cell? ⟨b9, off + cI * 6 + 1, none⟩ = some (.int .i64 0) ∧ u.cell? ⟨b9, off + cI * 6 + 2, none⟩ = some (.int .i64 kd) ∧ u.cell? ⟨b9, off + cI * 6 + 3, none⟩ = some (.int .u64 (xa : Int)) ∧ u.cell? ⟨b9, off + cI * 6 + 4, none⟩ = some (.int .u64 (xb : Int)) ∧ u.cell? ⟨b9, off + cI * 6 + 5, none⟩ = some (.int .u64 (xc : Int)))) 9 (by kernel_rfl) ?hS0L2 ?_
        case hS0L2 =>
          (try dsimp only)
          (exact ⟨(Hg10.out.cell hq09).trans kq, (Hg10.out.cell hs9).trans v0, (Hg10.out.cell hb99).trans a0, (Hg10.out.cell hb99).trans a1, (Hg10.out.cell hb99).trans a2, (Hg10.out.cell hb99).trans a3, (Hg10.out.cell hb99).trans a4, (Hg10.out.cell hb99).trans a5⟩)
        intro hS hcl
        refine wpAnyL_take (i := 0) (v := ?tv0L2) 10 rfl (by kernel_rfl) (by kernel_rfl) (by kernel_rfl) (by kernel_rfl) (by kernel_rfl) hcl (fun _ _ _ h => h) (Or.inl ⟨by rfl, ?th0L2⟩) hS ?tr0L2
        (case th0L2 => (intro w hSw; (try dsimp only at hSw); go_simp; try with_reducible rfl))
        clear hcl; intro hcl
        (try simp only [Act.put, List.getElem_toArray, List.getElem_cons_zero, List.getElem_cons_succ, List.setIfInBounds_toArray, List.set_cons_zero, List.set_cons_succ])
        refine wpAnyL_take (i := 1) (v := ?tv1L2) 10 rfl (by kernel_rfl) (by kernel_rfl) (by kernel_rfl) (by kernel_rfl) (by kernel_rfl) hcl (fun _ _ _ h => h) (Or.inl ⟨by rfl, ?th1L2⟩) hS ?tr1L2
        (case th1L2 => (intro w hSw; (try dsimp only at hSw); go_simp; try with_reducible rfl))
        clear hcl; intro hcl
        (try simp only [Act.put, List.getElem_toArray, List.getElem_cons_zero, List.getElem_cons_succ, List.setIfInBounds_toArray, List.set_cons_zero, List.set_cons_succ])
        refine wpAnyL_take (i := 2) (v := ?tv2L2) 10 rfl (by kernel_rfl) (by kernel_rfl) (by kernel_rfl) (by kernel_rfl) (by kernel_rfl) hcl (fun _ _ _ h => h) (Or.inl ⟨by rfl, ?th2L2⟩) hS ?tr2L2
        (case th2L2 => (intro w hSw; (try dsimp only at hSw); go_simp; try with_reducible rfl))
        clear hcl; intro hcl
        (try simp only [Act.put, List.getElem_toArray, List.getElem_cons_zero, List.getElem_cons_succ, List.setIfInBounds_toArray, List.set_cons_zero, List.set_cons_succ])
        refine wpAnyL_take (i := 3) (v := ?tv3L2) 10 rfl (by kernel_rfl) (by kernel_rfl) (by kernel_rfl) (by kernel_rfl) (by kernel_rfl) hcl (fun _ _ _ h => h) (Or.inl ⟨by rfl, ?th3L2⟩) hS ?tr3L2
        (case th3L2 => (intro w hSw; (try dsimp only at hSw); go_simp; try with_reducible rfl))
        clear hcl; intro hcl
        (try simp only [Act.put, List.getElem_toArray, List.getElem_cons_zero, List.getElem_cons_succ, List.setIfInBounds_toArray, List.set_cons_zero, List.set_cons_succ])
        refine wpAnyL_take (i := 4) (v := ?tv4L2) 10 rfl (by kernel_rfl) (by kernel_rfl) (by kernel_rfl) (by kernel_rfl) (by kernel_rfl) hcl (fun _ _ _ h => h) (Or.inl ⟨by rfl, ?th4L2⟩) hS ?tr4L2
        (case th4L2 => (intro w hSw; (try dsimp only at hSw); go_simp; try with_reducible rfl))
        clear hcl; intro hcl
        (try simp only [Act.put, List.getElem_toArray, List.getElem_cons_zero, List.getElem_cons_succ, List.setIfInBounds_toArray, List.set_cons_zero, List.set_cons_succ])
        refine wpAnyL_take (i := 5) (v := ?tv5L2) 10 rfl (by kernel_rfl) (by kernel_rfl) (by kernel_rfl) (by kernel_rfl) (by kernel_rfl) hcl (fun _ _ _ h => h) (Or.inl ⟨by rfl, ?th5L2⟩) hS ?tr5L2
        (case th5L2 => (intro w hSw; (try dsimp only at hSw); go_simp; try with_reducible rfl))
        clear hcl; intro hcl
        (try simp only [Act.put, List.getElem_toArray, List.getElem_cons_zero, List.getElem_cons_succ, List.setIfInBounds_toArray, List.set_cons_zero, List.set_cons_succ])
        refine wpAnyL_take (i := 6) (v := ?tv6L2) 10 rfl (by kernel_rfl) (by kernel_rfl) (by kernel_rfl) (by kernel_rfl) (by kernel_rfl) hcl (fun _ _ _ h => h) (Or.inl ⟨by rfl, ?th6L2⟩) hS ?tr6L2
        (case th6L2 => (intro w hSw; (try dsimp only at hSw); go_simp; try with_reducible rfl))
        clear hcl; intro hcl
        (try simp only [Act.put, List.getElem_toArray, List.getElem_cons_zero, List.getElem_cons_succ, List.setIfInBounds_toArray, List.set_cons_zero, List.set_cons_succ])
        refine wpAnyL_take (i := 7) (v := ?tv7L2) 10 rfl (by kernel_rfl) (by kernel_rfl) (by kernel_rfl) (by kernel_rfl) (by kernel_rfl) hcl (fun _ _ _ h => h) (Or.inl ⟨by rfl, ?th7L2⟩) hS ?tr7L2
        (case th7L2 => (intro w hSw; (try dsimp only at hSw); go_simp; try with_reducible rfl))
        clear hcl; intro hcl
        (try simp only [Act.put, List.getElem_toArray, List.getElem_cons_zero, List.getElem_cons_succ, List.setIfInBounds_toArray, List.set_cons_zero, List.set_cons_succ])
        refine wpAnyL_take (i := 8) (v := ?tv8L2) 10 rfl (by kernel_rfl) (by kernel_rfl) (by kernel_rfl) (by kernel_rfl) (by kernel_rfl) hcl (fun _ _ _ h => h) (Or.inl ⟨by rfl, ?th8L2⟩) hS ?tr8L2
        (case th8L2 => (intro w hSw; (try dsimp only at hSw); go_simp; try with_reducible rfl))
        clear hcl; intro hcl
        (try simp only [Act.put, List.getElem_toArray, List.getElem_cons_zero, List.getElem_cons_succ, List.setIfInBounds_toArray, List.set_cons_zero, List.set_cons_succ])
        refine wpAnyL_one (i := 9) (by kernel_rfl) rfl hcl (fun K' hK => ?_)
        have HK := Lib.hid hK; clear hK
        ((rw [if_pos (by kernel_rfl)]); (try simp only [List.getElem_toArray, List.getElem_cons_zero, List.getElem_cons_succ]); go_big_op)
        (go_at_call 21; refine HCC.out.mono ?_; rintro e w11 ⟨rfl, hout⟩)
        refine HK.out _ _ (fun h => by cases h.symm.trans (by kernel_rfl : _ = true)) (fun _ => wpAnyL_done (by kernel_rfl) ?_ _)
        clear HK
        (try clear hS)
        obtain ⟨hE11, hs11, t9, t10, V2, hcg, hmm, hll, hvv, haa, hww⟩ := Hfin.out _ _ _ hout P5.out P6.out
        rw [P1.out] at t9
        rw [P2.out] at t10
        have v4 : w11.cell? ⟨wi.heap.size, 4, none⟩ = some (.int .i64 er) := by rw [cell_blk hE11]; rfl
        have v5 : w11.cell? ⟨wi.heap.size, 5, none⟩ = some (.int .u64 (vl : Int)) := by rw [cell_blk hE11]; rfl
        have v6 : w11.cell? ⟨wi.heap.size, 6, none⟩ = some (.slice la 0 lc) := by rw [cell_blk hE11]; rfl
        have T9 := grown_cell t9; have T10 := grown_cell t10; have V4 := grown_cell v4; have V5 := grown_cell v5; have V6 := grown_cell v6
        have Hcg := Lib.hid hcg; have Hmm := Lib.hid hmm; have Hll := Lib.hid hll; have Hvv := Lib.hid hvv; have Haa := Lib.hid haa; have Hww := Lib.hid hww
        clear hout hE11 t9 t10 v4 v5 v6 hcg hmm hll hvv haa hww a0 a1 a2 a3 a4 a5 kq v0 hs11
        go_wp2_with fail
        ((with_reducible refine wp_region_grown_lit (by kernel_rfl) (by kernel_rfl) ?_); (repeat (first | go_big_quiet_skip | (go_big_quiet_want; go_big_quiet_op; first | go_big_quiet_on | ((with_reducible apply Exists.intro); (with_reducible refine ⟨fun _ => ?_, ?_⟩); ((go_at_call 22; first | exact quietG (AE.out _) | exact quietGS (AE.out _))); go_big_quiet_on)) | ((with_reducible refine wpQuiet_step (fun K hK => ?_)); go_simp; first | ((with_reducible refine hK _ ?_); clear hK K) | ((with_reducible apply Exists.intro); (with_reducible refine ⟨fun _ => ?_, hK _ ?_⟩); ((go_at_call 22; first | exact quietG (AE.out _) | exact quietGS (AE.out _))); clear hK K)))); (with_reducible refine wpQuiet_nil ?_); intro _ hw'; obtain ⟨nq, hw''⟩ := hw'; subst hw'')
        obtain ⟨w12, hw12⟩ : ∃ w12, w12 = nq.u := ⟨_, rfl⟩
        have hb12 := nq.below
        rw [← hw12] at hb12 ⊢
        have Hb12 := Lib.hid hb12
        clear T9 T10 V4 V5 V6 hw12 nq hb12
        go_wp2
        go_roundw
        case rel =>
          obtain ⟨n9, xs9, hn9, hr9⟩ := Hll.out
          exact ⟨k + 1, R.2, V2, by omega, by go_num, Hcg.out.trans (Chg.of_below Hb12.out), Hmm.out.chg (S := noB) (Chg.of_below Hb12.out) (fun h => h) (fun _ _ h => h), ⟨n9, xs9, hn9, row_below hr9 Hb12.out⟩, Hvv.out, Haa.out, Hww.out, Hf2.out, Htt.out⟩
        case measure => simp [intOf] <;> omega
      · have hf := Hfo.out
        have htt := Hto.out
        rw [if_pos ho] at hf htt
        have hans := hf.1 Hresp.out
        have hf2 := hf.2
        simp only [AnsD.mk.injEq] at hans
        obtain ⟨rfl, rfl, rfl⟩ := hans
        have Hf2 := Lib.hid hf2; have Htt := Lib.hid htt
        have AE := Lib.hid (fun (u : World) => answer_eq 12 0 [] la none lc 0 u (SlAt.nil _ _ _ _) (SlAt.nil _ _ _ _))
        have hob : (ob == 0) = false := by simpa using ho
        clear hf htt hf2 Hfo Hto HAP HCC Hfin Hls
        go_upto_region 19 with fail
        rw [← Hw10.out]
        have u9 : w10.cell? ⟨w9.heap.size, 9, none⟩ = some (.int .i64 0) := by have h9 := HT.out.cell (i := 9) (by omega); rw [HI.out] at h9; exact h9
        have f9 : w10.frozen? ⟨w9.heap.size, 9, none⟩ = false := by have h9 := frozen_blk HT.out.blk 9; rw [HI.out] at h9; exact h9
        clear a0 a1 a2 a3 a4 a5 kq v0
        go_upto_region 20 with fail
        obtain ⟨w11, hw11⟩ : ∃ w11, w11 = w10.setCell ⟨w9.heap.size, 9, none⟩ (.int .i64 12) := ⟨_, rfl⟩
        rw [← hw11]
        obtain ⟨hE11, hcg, hmm, hll⟩ := Hfin0.out w11 (by rw [hw11]; exact (Chg.refl (fun b => b = w9.heap.size) w10).setCell (p := ⟨w9.heap.size, 9, none⟩) (.inl rfl) _)
        have hT11 := (HT.out.put (i := 9) (by omega) (.int .i64 12) (t' := { tape0 with err := 12 }) rfl rfl rfl).1
        have t9 : w11.cell? ⟨w9.heap.size, 9, none⟩ = some (.int .i64 12) := by have h9 := hT11.cell (i := 9) (by omega); rw [HI.out] at h9; rw [hw11]; exact h9
        have t10 : w11.cell? ⟨w9.heap.size, 10, none⟩ = some (.int .u64 0) := by have h9 := hT11.cell (i := 10) (by omega); rw [HI.out] at h9; rw [hw11]; exact h9
        have v4 : w11.cell? ⟨wi.heap.size, 4, none⟩ = some (.int .i64 12) := by rw [cell_blk hE11]; rfl
        have v5 : w11.cell? ⟨wi.heap.size, 5, none⟩ = some (.int .u64 0) := by rw [cell_blk hE11]; rfl
        have v6 : w11.cell? ⟨wi.heap.size, 6, none⟩ = some (.slice la 0 lc) := by rw [cell_blk hE11]; rfl
        have T9 := grown_cell t9; have T10 := grown_cell t10; have V4 := grown_cell v4; have V5 := grown_cell v5; have V6 := grown_cell v6
        have Hcg := Lib.hid hcg; have Hmm := Lib.hid hmm; have Hll := Lib.hid hll
        clear hE11 t9 t10 v4 v5 v6 hcg hmm hll hw11 hT11 u9 f9
        go_wp2_with fail
        ((with_reducible refine wp_region_grown_lit (by kernel_rfl) (by kernel_rfl) ?_); (repeat (first | go_big_quiet_skip | (go_big_quiet_want; go_big_quiet_op; first | go_big_quiet_on | ((with_reducible apply Exists.intro); (with_reducible refine ⟨fun _ => ?_, ?_⟩); ((go_at_call 22; first | exact quietG (AE.out _) | exact quietGS (AE.out _))); go_big_quiet_on)) | ((with_reducible refine wpQuiet_step (fun K hK => ?_)); go_simp; first | ((with_reducible refine hK _ ?_); clear hK K) | ((with_reducible apply Exists.intro); (with_reducible refine ⟨fun _ => ?_, hK _ ?_⟩); ((go_at_call 22; first | exact quietG (AE.out _) | exact quietGS (AE.out _))); clear hK K)))); (with_reducible refine wpQuiet_nil ?_); intro _ hw'; obtain ⟨nq, hw''⟩ := hw'; subst hw'')
        obtain ⟨w12, hw12⟩ : ∃ w12, w12 = nq.u := ⟨_, rfl⟩
        have hb12 := nq.below
        rw [← hw12] at hb12 ⊢
        have Hb12 := Lib.hid hb12
        clear T9 T10 V4 V5 V6 hw12 nq hb12
        go_wp2
        go_roundw
        case rel =>
          obtain ⟨n9, xs9, hn9, hr9⟩ := Hll.out
          exact ⟨k + 1, md, V, by omega, by go_num, Hcg.out.trans (Chg.of_below Hb12.out), Hmm.out.chg (S := noB) (Chg.of_below Hb12.out) (fun h => h) (fun _ _ h => h), ⟨n9, xs9, hn9, row_below hr9 Hb12.out⟩, Hvb.out, Nat.le_succ_of_le Hall.out, Hwl.out, Hf2.out, Htt.out⟩
        case measure => simp [intOf] <;> omega
    · have hdr : L.drop k = [] := by rw [List.drop_eq_nil_iff, ← HLn.out]; omega
      rw [hdr] at hto
      have hww : md.ws = rp.words := hto
      obtain ⟨wa9, cap9, _, hbW9, hsl9, _⟩ := hmem.wld
      have l1 : ¬ (k : Int) < (Ln : Int) := by omega
      have s0 : wi.cell? ⟨w6.heap.size, 0, none⟩ = some (.slice wa9 md.ws.length cap9) := by rw [cell_blk hbW9]; rfl
      obtain ⟨a9, c9, e9, hsw, _⟩ := sl_of_row (g := u64G rp.words) Hrep.out.words (by rw [O6.out]; unfold maxLen; omega) (fun j hj => by simp [u64G, u64V, List.getD_eq_getElem?_getD, hj])
      simp only [Value.slice.injEq] at e9
      obtain ⟨rfl, rfl, rfl⟩ := e9
      have SE := Lib.hid (fun (u : World) (hu : Below wi.heap.size wi u) => same_eq rp.words wa9 va cap9 vc u (by rw [← hww]; exact hsl9.grown hu) ((hsw.grown hb).grown hu))
      rw [hww] at s0
      have r0 := (hb.cell hlt2).trans R0.out
      have r1 := (hb.cell hlt2).trans R1.out
      have G0 := grown_cell r0; have G1 := grown_cell r1; have G2 := grown_cell s0
      obtain rfl : Ln = en := by have := Hq3.out; have := Hen.out; omega
      have HB := Lib.hid (Gr.trans Hb02.out hb)
      clear hc8 hmem hlog hvb hall hwl hfo hto hww hbW9 hsl9 hsw r0 r1 s0 hdr hb
      go_wp2_with fail
      ((with_reducible refine wp_region_grown_lit (by kernel_rfl) (by kernel_rfl) ?_); (repeat (first | go_big_quiet_skip | (go_big_quiet_want; go_big_quiet_op; first | go_big_quiet_on | ((with_reducible apply Exists.intro); (with_reducible refine ⟨fun _ => ?_, ?_⟩); ((first | (go_at_call 23; first | exact quietG (SE.out _ (GrownOf.below _)) | exact quietGS (SE.out _ (GrownOf.below _))) | (go_at_call 16; first | exact quietG (T.out _) | exact quietGS (T.out _)))); go_big_quiet_on)) | ((with_reducible refine wpQuiet_step (fun K hK => ?_)); go_simp; first | ((with_reducible refine hK _ ?_); clear hK K) | ((with_reducible apply Exists.intro); (with_reducible refine ⟨fun _ => ?_, hK _ ?_⟩); ((first | (go_at_call 23; first | exact quietG (SE.out _ (GrownOf.below _)) | exact quietGS (SE.out _ (GrownOf.below _))) | (go_at_call 16; first | exact quietG (T.out _) | exact quietGS (T.out _)))); clear hK K)))); (with_reducible refine wpQuiet_nil ?_); intro _ hw'; obtain ⟨nq, hw''⟩ := hw'; subst hw'')
      obtain ⟨w12, hw12⟩ : ∃ w12, w12 = nq.u := ⟨_, rfl⟩
      have hb12 := nq.below
      rw [← hw12] at hb12 ⊢
      have Hb12 := Lib.hid hb12
      clear G0 G1 G2 hw12 nq hb12
      go_wp2
      go_ret
      exact ⟨rfl, Gr.trans HB.out Hb12.out⟩
end Go.Proofs.Ytjkgfkbanbhkgaa
