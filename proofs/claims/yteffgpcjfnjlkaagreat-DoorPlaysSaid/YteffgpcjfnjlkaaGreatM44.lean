/- Layer 12: the door as the loom's object. -/
import Derived.Test.YteffgpcjfnjlkaaGreatM43
import Derived.Test.YteffgpcjfnjlkaaGreatM40
import Derived.Test.YteffgpcjfnjlkaaGreatM35
set_option maxRecDepth 100000
set_option linter.unusedVariables false
set_option linter.unusedSimpArgs false
set_option linter.unnecessarySimpa false
namespace Go.Proofs.YteffgpcjfnjlkaaGreat
section
open Go.RowKit
def doorCap : CapRep := fun w Mut K cap c =>
  K = 192 ∧ ∃ b b2, cap = #[.pointer (some ⟨b, 0, none⟩), .pointer (some ⟨b2, 0, none⟩)] ∧ w.cell? ⟨b, 0, none⟩ = some (.int .i64 0) ∧ ¬ Mut b ∧ w.cell? ⟨b2, 0, none⟩ = some (.int .i64 (c.a : Int)) ∧ ¬ Mut b2 ∧ c.a < 1000000
def doM (n : Nat) (w : World) (Mut B : Nat → Prop) (T : TypeId) (x : Value) (p : Nat) : DoS → Prop
  | .once c r => OnceM doorCap w Mut B T x c r
  | .take a v => T = 280 ∧ ∃ b, x = .pointer (some ⟨b, 0, none⟩) ∧ w.heap[b]? = some (.cells (doCells n p a v) 282 (0, 0)) ∧ B b
def doorR (n : Nat) : Real (doorS n) where
  T := 81
  x := .agg #[.int .i64 0, .int .i64 (n : Int)]
  OB := noB
  ORep := fun _ _ _ => True
  MRep := doM n
  inv := fun _ _ => True
  dN := 1
  live := fun _ _ _ s => doLive n s
set_option maxHeartbeats 4000000 in
theorem door_in (w : World) (Mut : Nat → Prop) (I : WIds) (N : Nat) (wd : WD) (b bo b2 d : Nat) (hw : WorldAt w Mut I N wd) (hb : ¬ WSet I b) (hbl : b < w.heap.size) (hc : wd.mem.c.all + 1 < 1000000000000) (hbo : w.cell? ⟨bo, 0, none⟩ = some (.int .i64 0)) (hm : ¬ Mut bo) (hb2 : w.cell? ⟨b2, 0, none⟩ = some (.int .i64 (d : Int))) (hm2 : ¬ Mut b2) (hd : d < 1000000) :
    Calls Tryz.prog 192 #[.pointer (some ⟨I.bW, 0, none⟩), .pointer (some ⟨bo, 0, none⟩), .pointer (some ⟨b2, 0, none⟩)] w (OnceIn b w (AccTo w Mut I N wd (memRead wd.mem (d : Int)).1 0 (memRead wd.mem (d : Int)).2)) := by
  obtain ⟨s1, s2, s3⟩ := memSet_sub hw
  obtain ⟨wa, hwa⟩ : ∃ wa, wa = w.alloc (.cells #[.int .i64 0, .int .u64 0, .slice none 0 0] 50) := ⟨_, rfl⟩
  have hga : Below w.heap.size w wa := by rw [hwa]; exact Gr.new _ _
  have hra : wa.heap[w.heap.size]? = some (.cells #[.int .i64 0, .int .u64 0, .slice none 0 0] 50 (0, 0)) := by rw [hwa]; exact heap_alloc_new _ _
  obtain ⟨mks, hwb, _, _⟩ := hw.blk
  have hWlt := blk_lt hwb
  have hbolt := World.block_lt_of_cell? _ _ hbo
  simp only at hbolt
  have hb2lt := World.block_lt_of_cell? _ _ hb2
  simp only at hb2lt
  have x0 : wa.cell? ⟨I.bW, 0, none⟩ = some (.pointer (some ⟨I.bm, 0, none⟩)) := by rw [hga.cell hWlt, cell_blk hwb]; exact world_mem
  have y0 : wa.cell? ⟨bo, 0, none⟩ = some (.int .i64 0) := by rw [hga.cell hbolt]; exact hbo
  have y1 : wa.cell? ⟨b2, 0, none⟩ = some (.int .i64 (d : Int)) := by rw [hga.cell hb2lt]; exact hb2
  have hra' : ¬ MemSet I.bm I.bw w.heap.size := fun h => Nat.lt_irrefl _ (s3 _ h).2
  have Rd := Lib.hid (fun (u : World) (h : Chg noB wa u) => read_any I.bm I.bw wd.mem (d : Int) u ((hw.mem.gr hga).chg h (fun h => h) (fun _ _ h => h)) hc)
  have Hw := Lib.hid hw; have Hga := Lib.hid hga; have Hra := Lib.hid hra; have Hwa := Lib.hid hwa; have S2 := Lib.hid s2; have Nm := Lib.hid (fun h => hm (s1 bo h)); have Nm2 := Lib.hid (fun h => hm2 (s1 b2 h)); have S3 := Lib.hid s3; have Hra' := Lib.hid hra'; have Hb := Lib.hid hb
  obtain ⟨v, hv⟩ : ∃ v, v = (memRead wd.mem (d : Int)).2 := ⟨_, rfl⟩
  rw [← hv] at Rd ⊢
  clear hw hga hra hwb s1 s2 s3 hbo hm hra' hb hwa hv hb2 hm2
  have hn1 : w.heap.size ≠ I.bW := by omega
  have hn2 : w.heap.size ≠ bo := by omega
  have hn3 : w.heap.size ≠ b2 := by omega
  have hdi : (d : Int) < 1000000 := by omega
  have wdd : IntKind.i64.wrap (d : Int) = (d : Int) := by rw [IntKind.wrap_i64]; omega
  go_enter Tryz.func192, Tryz.ntmps192
  go_wp2_with fail
  rw [← Hwa.out]
  go_region_held3 (fun u => u.cell? ⟨I.bW, 0, none⟩ = some (.pointer (some ⟨I.bm, 0, none⟩)) ∧ u.cell? ⟨bo, 0, none⟩ = some (.int .i64 0) ∧ u.cell? ⟨b2, 0, none⟩ = some (.int .i64 (d : Int)))
    (first | exact ⟨x0, y0, y1⟩ | exact ⟨z0, zw, zx⟩ | go_keep)
    ((go_at_call 169; refine (Rd.out _ ?_).mono ?_; (exact (Chg.refl _ _).drew); rintro e w4 ⟨rfl, hm4, hc4⟩; have hc4' : Chg (MemSet I.bm I.bw) wa w4 := ((Chg.refl _ _).drew).trans hc4; have z0 := box_keep hc4' S2.out x0; have zw := box_keep hc4' Nm.out y0; have zx := box_keep hc4' Nm2.out y1; have hr4 := (hc4'.block _ (blk_lt Hra.out) Hra'.out).trans Hra.out; have g0 : w4.cell? ⟨w.heap.size, 0, none⟩ = some (.int .i64 0) := (by rw [cell_blk hr4]; rfl); have g1 : w4.cell? ⟨w.heap.size, 1, none⟩ = some (.int .u64 0) := (by rw [cell_blk hr4]; rfl); have g2 : w4.cell? ⟨w.heap.size, 2, none⟩ = some (.slice none 0 0) := (by rw [cell_blk hr4]; rfl); have gf0 := frozen_blk hr4 0; have gf1 := frozen_blk hr4 1; have gf2 := frozen_blk hr4 2))
  obtain ⟨w6, hw6⟩ : ∃ w6, w6 = (((w4.setCell ⟨w.heap.size, 0, none⟩ (.int .i64 0)).setCell ⟨w.heap.size, 1, none⟩ (.int .u64 (v : Int))).setCell ⟨w.heap.size, 2, none⟩ (.slice none 0 0)) := ⟨_, rfl⟩
  have hr6 : w6.heap[w.heap.size]? = some (.cells #[.int .i64 0, .int .u64 (v : Int), .slice none 0 0] 50 (0, 0)) := by rw [hw6, blk_set (blk_set (blk_set hr4 _ _) _ _)]; rfl
  have k0 : w6.cell? ⟨w.heap.size, 0, none⟩ = some (.int .i64 0) := by rw [cell_blk hr6]; rfl
  have k1 : w6.cell? ⟨w.heap.size, 1, none⟩ = some (.int .u64 (v : Int)) := by rw [cell_blk hr6]; rfl
  have k2 : w6.cell? ⟨w.heap.size, 2, none⟩ = some (.slice none 0 0) := by rw [cell_blk hr6]; rfl
  have hcR : Chg (fun b => b = w.heap.size) w4 w6 := by
    rw [hw6]; exact (((Chg.refl (fun b => b = w.heap.size) w4).setCell (by exact .inl rfl) _).setCell (by exact .inl rfl) _).setCell (by exact .inl rfl) _
  have hcA : Chg (MemSet I.bm I.bw) w w6 := by
    have h1 : Chg (MemSet I.bm I.bw) w w4 := (Chg.of_below Hga.out).trans hc4'
    rw [hw6]
    exact ((h1.setCell (by exact .inr (Nat.le_refl _)) _).setCell (by exact .inr (Nat.le_refl _)) _).setCell (by exact .inr (Nat.le_refl _)) _
  have hm6 : MemAt w6 I.bm I.bw (memRead wd.mem (d : Int)).1 := hm4.chg hcR (fun e => Hra'.out (.inl e.symm)) (fun q hq e => Hra'.out (.inr (by rw [← e]; exact hq.symm)))
  obtain ⟨hwf, hcf⟩ := Hw.out.mems hcA hm6
  have hbk : w6.heap[b]? = w.heap[b]? := hcA.block b hbl (fun h => Hb.out (S3.out b h).1)
  rw [← hw6]
  clear hr4 hc4 hc4' hw6 z0 zw zx y1 g0 g1 g2 gf0 gf1 gf2 x0 y0 hm4 hr6 hm6 hcA hcR
  have Hwf := Lib.hid hwf; have Hcf := Lib.hid hcf; have Hbk := Lib.hid hbk
  clear hwf hcf hbk
  go_wp2
  exact bodyPost_ret (v := ansV 0 v (.slice none 0 0)) (by simp [results, Tryz.results192 , go_sem, ansV, k0, k1, k2]) rfl ⟨0, v, rfl, Hbk.out, rfl, rfl, Hcf.out, Hwf.out⟩
theorem door_capgo : CapGo doorCap doorAct where
  keep := by
    rintro w w' Q Mut Mut' K cap c ⟨h2, b, b2, h3, h4, h5, h6, h7, h8⟩ hc hQ hm
    exact ⟨h2, b, b2, h3, box_keep hc (fun hq => h5 (hQ _ hq)) h4, notMut_keep h4 h5 hm, box_keep hc (fun hq => h7 (hQ _ hq)) h6, notMut_keep h6 h7 hm, h8⟩
  go := by
    rintro w Mut I N wd b K cap c hw ⟨rfl, bo, b2, rfl, h4, h5, h6, h7, h8⟩ hb hbl hc
    refine (door_in w Mut I N wd b bo b2 c.a hw hb hbl hc h4 h5 h6 h7 h8).mono ?_
    rintro e w' ⟨er, vl, he, hbk, rfl, rfl, hch, hw'⟩
    exact ⟨_, _, he, hbk, rfl, hch, hw'⟩
theorem take12_step_m (a : Addr) : Meth 280 (.pointer (some a)) "Step" 240 (.pointer (some a)) := ⟨fun _ _ => by kernel_rfl, fun _ _ => by kernel_rfl, fun _ _ => by kernel_rfl⟩
theorem take12_answer_m (a : Addr) : Meth 280 (.pointer (some a)) "Answer" 239 (.pointer (some a)) := ⟨fun _ _ => by kernel_rfl, fun _ _ => by kernel_rfl, fun _ _ => by kernel_rfl⟩
theorem door_start_m (n : Nat) : Meth 81 (.agg #[.int .i64 0, .int .i64 (n : Int)]) "Start" 191 (.agg #[.int .i64 0, .int .i64 (n : Int)]) := ⟨fun _ _ => by kernel_rfl, fun _ _ => by kernel_rfl, fun _ _ => by kernel_rfl⟩
theorem take12_kind (v : Value) (u : World) : (Instr.typeAssert (.iface 280 v) 138 167 true).run Tryz.prog u = .ok (.tuple #[.nilIface, .bool false]) u := run_typeAssert_lacksB Tryz.underlying167 (by kernel_rfl) (by kernel_rfl) v _ u
theorem enter_door1 (args : Array Value) (u : World) : (callFunc 192 args).run Tryz.prog u = .ok (.enter 192 args) u := by kernel_rfl
theorem take12_answer (b n p a v : Nat) (w : World) (h : w.heap[b]? = some (.cells (doCells n p a v) 282 (0, 0))) :
    Calls Tryz.prog 239 #[.pointer (some ⟨b, 0, none⟩)] w fun e w' => e = .returned (.tuple #[ansV 0 v (.slice none 0 0), .slice none 0 0]) ∧ Below w.heap.size w w' := by
  have hlt := blk_lt h
  have hb2 : (w.alloc (.cells #[.int .i64 0, .int .u64 0, .slice none 0 0] 50)).heap[b]? = some (.cells (doCells n p a v) 282 (0, 0)) := by rw [Below.heap_alloc _ _ _ hlt]; exact h
  have c1 : (w.alloc (.cells #[.int .i64 0, .int .u64 0, .slice none 0 0] 50)).cell? ⟨b, 4, none⟩ = some (.int .u64 (v : Int)) := by rw [cell_blk hb2]; rfl
  clear h hb2
  unfold ansV
  go_enter Tryz.func239, Tryz.ntmps239
  go_wp2
  exact bodyPost_ret (v := .tuple #[.agg #[.int .i64 0, .int .u64 (v : Int), .slice none 0 0], .slice none 0 0]) (by simp [results, Tryz.results239 , go_sem]) rfl ⟨rfl, Gr.new _ _⟩
theorem door_blks (w : World) (n th ob kd ca cb cc : Int) : ∃ wa, wa = (w.alloc (.cells #[.int .i64 0, .int .i64 n] 81)).alloc (.cells #[.int .i64 th, .int .i64 ob, .int .i64 kd, .int .u64 ca, .int .u64 cb, .int .u64 cc] 48) ∧ Below w.heap.size w wa ∧ wa.heap.size = w.heap.size + 2 ∧
    wa.heap[w.heap.size]? = some (.cells #[.int .i64 0, .int .i64 n] 81 (0, 0)) ∧ wa.heap[w.heap.size + 1]? = some (.cells #[.int .i64 th, .int .i64 ob, .int .i64 kd, .int .u64 ca, .int .u64 cb, .int .u64 cc] 48 (0, 0)) := by
  refine ⟨_, rfl, Gr.alloc (Gr.new _ _) _, by simp, ?_, ?_⟩
  · rw [Below.heap_alloc _ _ _ (by simp)]; exact heap_alloc_new _ _
  · have := heap_alloc_new (w.alloc (.cells #[.int .i64 0, .int .i64 n] 81)) (.cells #[.int .i64 th, .int .i64 ob, .int .i64 kd, .int .u64 ca, .int .u64 cb, .int .u64 cc] 48 (0, 0))
    simp only [World.size_alloc] at this
    exact this
set_option maxHeartbeats 4000000 in
theorem door_start (n : Nat) (hn : n ≤ 16) (w : World) (Mut : Nat → Prop) (I : WIds) (N : Nat) (wd : WD) (p : Nat) (c : CallD) (hw : WorldAt w Mut I N wd) (hp : p < 16) (hc : CallOk c) :
    Calls Tryz.prog 191 #[.agg #[.int .i64 0, .int .i64 (n : Int)], .pointer (some ⟨I.bW, 0, none⟩), .int .i64 (p : Int), callAgg c] w (StartPost (doorR n) w Mut I wd () p c) := by
  have hca := hc.a
  obtain ⟨th, ob, kd, ca, cb, cc⟩ := c
  have hlow := hw.low
  unfold callAgg
  simp only at hca ⊢
  have Hlow := Lib.hid hlow
  clear hw hc hlow
  have ST : (doorS n).start () wd p ⟨th, ob, kd, ca, cb, cc⟩ = (if kd = 0 then Mc.run (DoS.take 0 0) else if kd ≠ 1 then .refuse 9 else if ca < n then .run (.once ⟨th, ob, kd, ca, cb, cc⟩ (0, 0)) else .refuse 10) := rfl
  have nm : ∀ (d k : Nat), w.heap.size ≤ k → k ≠ d → ¬ (mutTo Mut noB (fun b => b = d) k) := fun d k hk hkd => by
    rintro (⟨hx, _⟩ | hx)
    · have := Hlow.out _ hx; omega
    · exact hkd hx
  have Nm := Lib.hid nm
  have STh := Lib.hid ST
  clear nm ST
  obtain ⟨wa, hwa, hga, hsz, ha0, ha1⟩ := door_blks w (n : Int) th ob kd (ca : Int) (cb : Int) (cc : Int)
  have d1 : wa.cell? ⟨w.heap.size, 1, none⟩ = some (.int .i64 (n : Int)) := by rw [cell_blk ha0]; rfl
  have d2 : wa.cell? ⟨w.heap.size + 1, 2, none⟩ = some (.int .i64 kd) := by rw [cell_blk ha1]; rfl
  have Hwa := Lib.hid hwa; have Hga := Lib.hid hga; have Hsz := Lib.hid hsz; have Ha0 := Lib.hid ha0; have Ha1 := Lib.hid ha1
  have d0 : wa.cell? ⟨w.heap.size, 0, none⟩ = some (.int .i64 0) := by rw [cell_blk ha0]; rfl
  clear hwa hga hsz ha0 ha1
  by_cases h0 : kd = 0
  · have Hst := Lib.hid (show (doorS n).start () wd p ⟨th, ob, kd, ca, cb, cc⟩ = .run (.take 0 0) by rw [STh.out, if_pos h0]; rfl)
    subst h0
    go_enter Tryz.func191, Tryz.ntmps191
    go_upto_region 1 with fail
    rw [← Hwa.out]
    go_wp2
    go_ret
    refine ⟨_, _, fun b => b = wa.heap.size, rfl, Gr.trans Hga.out (Gr.new _ _), fun b hb => by subst hb; have := Hsz.out; exact ⟨by omega, by simp⟩, ?_⟩
    rw [Hst.out]
    exact ⟨rfl, wa.heap.size, rfl, heap_alloc_new _ _, rfl⟩
  by_cases h1 : kd = 1
  · have STk : (doorS n).start () wd p ⟨th, ob, kd, ca, cb, cc⟩ = (if ca < n then .run (.once ⟨th, ob, kd, ca, cb, cc⟩ (0, 0)) else .refuse 10) := by rw [STh.out, if_neg h0, if_neg (by simpa using h1)]; rfl
    have STK := Lib.hid STk
    subst h1
    have c3 : wa.cell? ⟨w.heap.size + 1, 3, none⟩ = some (.int .u64 (ca : Int)) := by rw [cell_blk Ha1.out]; rfl
    have C3 := Lib.hid c3; have D0 := Lib.hid d0
    have Rf := Lib.hid (refuse_any 10)
    clear h0 STk c3 d0
    go_enter Tryz.func191, Tryz.ntmps191
    go_upto_region 1 with fail
    rw [← Hwa.out]
    go_wp2
    clear d1 d2
    go_loopw [26] (fun i wr => ∃ k : Nat, k ≤ n ∧ k ≤ ca ∧ i = .int .i64 k ∧ Below wa.heap.size wa wr) (fun i _ => n - (intOf i).toNat)
    case atStart => exact ⟨0, Nat.zero_le _, Nat.zero_le _, rfl, Gr.refl _⟩
    case round =>
      obtain ⟨k, hk, hka, rfl, hb⟩ := hrel
      obtain ⟨wo, rfl⟩ : ∃ wo, wo = wr := ⟨_, rfl⟩
      by_cases hlt : k < n
      · have l1 : (k : Int) < (n : Int) := by omega
        have e3 : wo.cell? ⟨w.heap.size + 1, 3, none⟩ = some (.int .u64 (ca : Int)) := (hb.cell (World.block_lt_of_cell? _ _ C3.out)).trans C3.out
        have e0 : wo.cell? ⟨w.heap.size, 0, none⟩ = some (.int .i64 0) := (hb.cell (World.block_lt_of_cell? _ _ D0.out)).trans D0.out
        have hlt3 := World.block_lt_of_cell? _ _ e3
        have hne : wo.heap.size ≠ w.heap.size + 1 := by simp only at hlt3; omega
        have wk : IntKind.u64.wrap (k : Int) = (k : Int) := by rw [IntKind.wrap_u64]; omega
        have wk6 : IntKind.i64.wrap ((k : Int) + 1) = (k : Int) + 1 := by rw [IntKind.wrap_i64]; omega
        have hs2 := Hsz.out
        have hsw := hb.size
        obtain ⟨w3, hw3⟩ : ∃ w3, w3 = wo.alloc (.cells #[.int .i64 (k : Int)] 3) := ⟨_, rfl⟩
        have hb3 : Below wo.heap.size wo w3 := by rw [hw3]; exact Gr.new _ _
        have q3 := (hb3.cell hlt3).trans e3
        have hk3 : w3.heap[wo.heap.size]? = some (.cells #[.int .i64 (k : Int)] 3 (0, 0)) := by rw [hw3]; exact heap_alloc_new _ _
        have qk : w3.cell? ⟨wo.heap.size, 0, none⟩ = some (.int .i64 (k : Int)) := by rw [cell_blk hk3]; rfl
        have hsz3 : w3.heap.size = wo.heap.size + 1 := by rw [hw3]; simp
        have Hb := Lib.hid (Gr.trans hb hb3); have E0 := Lib.hid ((hb3.cell (World.block_lt_of_cell? _ _ e0)).trans e0); have Qk := Lib.hid qk; have Hw3 := Lib.hid hw3; have Hsz3 := Lib.hid hsz3
        have Hsw := Lib.hid (show w.heap.size + 2 ≤ wo.heap.size by omega)
        clear hb e0 e3 hlt3 hs2 hsw hw3 hb3 hk3 hsz3 hne
        go_upto_region 8 with fail
        rw [← Hw3.out]
        by_cases hkc : ca = k
        · subst hkc
          have Hst := Lib.hid (show (doorS n).start () wd p ⟨th, ob, 1, ca, cb, cc⟩ = .run (.once ⟨th, ob, 1, ca, cb, cc⟩ (0, 0)) by rw [STK.out, if_pos hlt])
          go_wp2
          go_ret
          have hs3 := Hsz3.out
          have hsw := Hsw.out
          refine ⟨_, _, fun b => b = w3.heap.size, rfl, Gr.trans Hga.out (Gr.trans Hb.out (Gr.new _ _)), fun b hb => by subst hb; exact ⟨by omega, by simp⟩, ?_⟩
          rw [Hst.out]
          have hblk := heap_alloc_new w3 (.cells (onceCells 192 #[.pointer (some ⟨w.heap.size, 0, none⟩), .pointer (some ⟨wo.heap.size, 0, none⟩)] 0 0) 217 (0, 0))
          refine ⟨rfl, w3.heap.size, _, _, rfl, hblk, rfl, enter_door1, rfl, w.heap.size, wo.heap.size, rfl, ?_, Nm.out _ _ (Nat.le_refl _) (by omega), ?_, Nm.out _ _ (by omega) (by omega), by show ca < 1000000; omega⟩
          · rw [World.cell?_alloc_lt _ _ _ (by show w.heap.size < w3.heap.size; omega)]; exact E0.out
          · rw [World.cell?_alloc_lt _ _ _ (by show wo.heap.size < w3.heap.size; omega)]; exact Qk.out
        · have hkn : ¬ ((ca : Int) = (k : Int)) := by omega
          have hkb : ((ca : Int) == (k : Int)) = false := by simpa using hkn
          go_wp2
          go_roundw
          case rel => exact ⟨k + 1, by omega, by omega, by go_num, Hb.out⟩
          case measure => simp [intOf] <;> omega
      · have l1 : ¬ (k : Int) < (n : Int) := by omega
        have Hst := Lib.hid (show (doorS n).start () wd p ⟨th, ob, 1, ca, cb, cc⟩ = .refuse 10 by rw [STK.out, if_neg (by omega)])
        have Hb := Lib.hid hb
        have hs2 := Hsz.out
        have hsw := hb.size
        have Hsw := Lib.hid (show w.heap.size + 2 ≤ wo.heap.size by omega)
        clear hb hs2 hsw
        go_wp2_with (go_at_call 99; refine (Rf.out _).mono ?_; rintro e w' ⟨rfl, hrf, hbr⟩)
        go_ret
        have hsw := Hsw.out
        refine ⟨_, _, fun b => b = wo.heap.size + 1, rfl, Gr.trans Hga.out (Gr.trans Hb.out hbr), fun b hb => by subst hb; exact ⟨by omega, blk_lt hrf.1⟩, ?_⟩
        rw [Hst.out]
        exact ⟨rfl, wo.heap.size + 1, wo.heap.size, rfl, hrf, rfl, Nm.out _ _ (by omega) (by omega)⟩
  · have Hst := Lib.hid (show (doorS n).start () wd p ⟨th, ob, kd, ca, cb, cc⟩ = .refuse 9 by rw [STh.out, if_neg h0, if_pos h1]; rfl)
    have Rf := Lib.hid (refuse_any 9)
    have q1 : (kd != 1) = true := by simp [h1]
    have q0 : (kd == 0) = false := by simp [h0]
    clear d0 d1
    go_enter Tryz.func191, Tryz.ntmps191
    go_upto_region 1 with fail
    rw [← Hwa.out]
    go_wp2_with (go_at_call 99; refine (Rf.out _).mono ?_; rintro e w' ⟨rfl, hrf, hbr⟩)
    go_ret
    have hsw := Hsz.out
    refine ⟨_, _, fun b => b = wa.heap.size + 1, rfl, Gr.trans Hga.out hbr, fun b hb => by subst hb; exact ⟨by omega, blk_lt hrf.1⟩, ?_⟩
    rw [Hst.out]
    exact ⟨rfl, wa.heap.size + 1, wa.heap.size, rfl, hrf, rfl, Nm.out _ _ (by omega) (by omega)⟩
theorem door_ok (n : Nat) (hn : n ≤ 16) : RealOk (doorR n) where
  keepM := by
    intro w w' Q Mut Mut' B T x p s h hc hQ hB hm
    match s with
    | .once c r => exact OnceM.keep door_capgo h hc hQ hB hm
    | .take a v =>
      obtain ⟨h1, b, h2, h3, h4⟩ := h
      exact ⟨h1, b, h2, (hc.block _ (blk_lt h3) (hB b h4)).trans h3, h4⟩
  keepO := fun _ _ _ _ _ _ _ _ _ _ _ => trivial
  lowO := fun _ _ _ _ b hb => hb.elim
  start := ⟨_, _, door_start_m n, fun w Mut I N wd o p c hw _ _ hp hc => door_start n hn w Mut I N wd p c hw hp hc⟩
  step := by
    intro w Mut B I N wd o T' x' p s hw _ hm _ hp hN hc hB hl
    have hB2 : ∀ b, B b → Mut b ∧ ¬ WSet I b := fun b hb => ⟨(hB b hb).1, (hB b hb).2.1⟩
    have hN2 : N + 1 < 1000000000 := hN
    match s with
    | .once c r =>
      obtain ⟨K, recv, h1, h2⟩ := onceM_step door_capgo hw hm hc hB2
      refine ⟨K, recv, h1, h2.mono ?_⟩
      rintro e w' ⟨rfl, hch, B', b1, b2, b3, b4⟩
      exact ⟨rfl, hch.mono (fun b _ hb => by rcases hb with hb | hb; exact .inl hb; exact .inr (.inr hb)), B', fun b hb => .inl (b1 b hb), b2, b3.more (Nat.le_succ _) hN2, trivial, b4⟩
    | .take a v =>
      obtain ⟨rfl, b, rfl, h3, h4⟩ := hm
      obtain ⟨l1, l2⟩ := hl
      by_cases ha : a < n
      · have hst : (doorS n).step o wd p (.take a v) = ((), taRead wd a, .take (a + 1) (max v (taGot wd a)), false) := if_pos ha
        refine ⟨_, _, take12_step_m _, (take_look w Mut B I N wd n p a v b hw h3 h4 hB2 hc hn ha).mono ?_⟩
        rintro e w' ⟨rfl, hch, hw', hbk⟩
        unfold StepPost
        rw [hst]
        exact ⟨rfl, hch.mono (fun b _ hb => by rcases hb with hb | hb; exact .inl hb; exact .inr (.inr hb)), fun k => k = b, (fun k hk => by cases hk; exact .inl h4), (fun k hk => by cases hk; exact blk_lt hbk), hw'.more (Nat.le_succ _) hN2, trivial, rfl, b, rfl, hbk, rfl⟩
      · obtain rfl : a = n := by omega
        have hst : (doorS a).step o wd p (.take a v) = ((), doWrite wd p (v + 1), .take a (v + 1), true) := if_neg ha
        refine ⟨_, _, take12_step_m _, (take_write w Mut B I N wd a p v b hw h3 h4 hB2 hp hc l2).mono ?_⟩
        rintro e w' ⟨rfl, hch, hw', hbk⟩
        unfold StepPost
        rw [hst]
        exact ⟨rfl, hch.mono (fun b _ hb => by rcases hb with hb | hb; exact .inl hb; exact .inr (.inr hb)), fun k => k = b, (fun k hk => by cases hk; exact .inl h4), (fun k hk => by cases hk; exact blk_lt hbk), hw'.more (Nat.le_succ _) hN2, trivial, rfl, b, rfl, hbk, rfl⟩
  answer := by
    intro w Mut B T' x' p s hm
    match s with
    | .once c r => exact onceM_answer hm
    | .take a v =>
      obtain ⟨rfl, b, rfl, h3, _⟩ := hm
      refine ⟨_, _, take12_answer_m _, (take12_answer b n p a v w h3).mono ?_⟩
      rintro e' w' ⟨rfl, hb⟩
      exact ⟨none, 0, .slice none 0 0, rfl, LstU.nil _ _, Lst.nil _ _, hb⟩
  now := fun o wd p s => door_now o wd p s
  cnt := by
    intro o wd p s
    match s with
    | .once c r => exact memRead_cnt _ _
    | .take a v =>
      show ((doorS n).step o wd p (.take a v)).2.1.mem.c.all ≤ _
      by_cases ha : a < n
      · rw [show (doorS n).step o wd p (.take a v) = _ from if_pos ha]; exact memRead_cnt _ _
      · rw [show (doorS n).step o wd p (.take a v) = _ from if_neg ha]; exact memWrite_cnt _ _ _
  invStep := fun _ _ _ _ _ => trivial
  invTick := fun _ _ _ => trivial
  invBegin := fun _ _ _ _ => trivial
theorem door_nolate (n : Nat) : NoLate (doorR n) where
  late := fun _ _ _ _ => rfl
  kind := by
    intro w Mut B T' x' p s hm v u
    match s with
    | .once c r =>
      obtain ⟨rfl, _⟩ := hm
      exact once_kind v u
    | .take a v' =>
      obtain ⟨rfl, _⟩ := hm
      exact take12_kind v u
theorem door_safe (n : Nat) (calls : List CallD) (picks : List Int) (hck : checkN n calls picks.length = 0) : ∀ l p m, picks = l ++ p :: m → SafeAt (doorR n) calls (picksD (doorS n) calls (play0 (doorS n) () (List.replicate n 0) calls) l) p := by
  intro l p m hl i hN
  obtain ⟨a, b, c⟩ := do_picks hck l
  have hnp := np_ok hck
  have hll : l.length < picks.length := by rw [hl]; simp
  obtain ⟨n1, n2, n3⟩ := nowN_spec hN
  have ht := thr_16 hck i n1
  obtain ⟨q, rfl⟩ : ∃ q : Nat, p = (q : Int) := ⟨p.toNat, by omega⟩
  simp only [Int.toNat_natCast]
  refine ⟨fun s k hh => ?_, fun hh s hs => ?_⟩
  · obtain ⟨k1, k2, k3, k4⟩ := a.ev.hand q k (by unfold hndOf; rw [hh]; rfl)
    have hc : (evAt (picksD (doorS n) calls (play0 (doorS n) () (List.replicate n 0) calls) l).evs k).call = i := by rw [hN] at k4; exact (Option.some.inj k4).symm
    exact do_live a b (by omega) (.old k s hh k1 hc k3)
  · exact do_live a b (by omega) (.new s hh hs)
end
section

/- Layer 8: tally.Play. -/
open Go.RowKit
theorem made_blk3 {u w1 : World} {size : Nat} (hk : ∀ (b : Nat) (o : Obj), (u.alloc (.cells (madeCells #[.int .u64 0] size) 46)).heap[b]? = some o → w1.heap[b]? = some o) (o : Obj) (b : Nat) (hb : b = u.heap.size) : (w1.alloc o).heap[b]? = some (.cells (madeCells #[.int .u64 0] size) 46 (0, 0)) := by
  have h1 := hk u.heap.size _ (heap_alloc_new u (.cells (madeCells #[.int .u64 0] size) 46 (0, 0)))
  rw [hb, Below.heap_alloc _ _ _ (blk_lt h1)]; exact h1
end
end Go.Proofs.YteffgpcjfnjlkaaGreat
