/- Layer 6: objects whose operations have one step each. -/
import Derived.Test.YteffgpcjfnjlkaaGreatJ15
set_option maxRecDepth 100000
set_option linter.unusedVariables false
set_option linter.unusedSimpArgs false
set_option linter.unnecessarySimpa false
namespace Go.Proofs.YteffgpcjfnjlkaaGreat
section
open Go.RowKit
def onceSys (ref : CallD → Option Int) (act : CallD → WD → WD × (Int × Nat)) : Sys where
  σ := CallD × (Int × Nat)
  ω := Unit
  start := fun _ _ _ c => match ref c with | some e => .refuse e | none => .run (c, (0, 0))
  step := fun _ wd _ s => ((), (act s.1 wd).1, (s.1, (act s.1 wd).2), true)
  answer := fun s => (⟨s.2.1, s.2.2, []⟩, [])
  late := fun _ _ _ _ => none
def onceReal (ref : CallD → Option Int) (act : CallD → WD → WD × (Int × Nat)) (Cap : CapRep) (T : TypeId) (x : Value) : Real (onceSys ref act) where
  T := T
  x := x
  OB := noB
  ORep := fun _ _ _ => True
  MRep := fun w Mut B T x _ s => OnceM Cap w Mut B T x s.1 s.2
  inv := fun _ _ => True
  dN := 0
def OnceStart (ref : CallD → Option Int) (act : CallD → WD → WD × (Int × Nat)) (Cap : CapRep) (T : TypeId) (x : Value) : Prop :=
  ∃ K recv, Meth T x "Start" K recv ∧ ∀ w Mut I N wd (p : Nat) c, WorldAt w Mut I N wd → p < 16 → CallOk c →
    Calls Tryz.prog K #[recv, .pointer (some ⟨I.bW, 0, none⟩), .int .i64 (p : Int), callAgg c] w (StartPost (onceReal ref act Cap T x) w Mut I wd () p c)
theorem once_real_ok {ref : CallD → Option Int} {act : CallD → WD → WD × (Int × Nat)} {Cap : CapRep} {T : TypeId} {x : Value} (ck : CapGo Cap act) (hs : OnceStart ref act Cap T x)
    (hnow : ∀ c wd, (act c wd).1.now = wd.now) (hcnt : ∀ c wd, (act c wd).1.mem.c.all ≤ wd.mem.c.all + 1) : RealOk (onceReal ref act Cap T x) where
  keepM := fun w w' Q Mut Mut' B T x p s h hc hQ hB hm => OnceM.keep ck h hc hQ hB hm
  keepO := fun _ _ _ _ _ _ _ _ _ _ _ => trivial
  lowO := fun _ _ _ _ b hb => hb.elim
  start := by
    obtain ⟨K, recv, h1, h2⟩ := hs
    exact ⟨K, recv, h1, fun w Mut I N wd o p c hw _ _ hp hc => h2 w Mut I N wd p c hw hp hc⟩
  step := by
    intro w Mut B I N wd o T' x' p s hw _ hm _ hp hN hc hB _
    obtain ⟨K, recv, h1, h2⟩ := onceM_step ck hw hm hc (fun b hb => ⟨(hB b hb).1, (hB b hb).2.1⟩)
    refine ⟨K, recv, h1, h2.mono ?_⟩
    rintro e w' ⟨rfl, hch, B', b1, b2, b3, b4⟩
    exact ⟨rfl, hch.mono (fun b _ hb => by rcases hb with hb | hb; exact .inl hb; exact .inr (.inr hb)), B', fun b hb => .inl (b1 b hb), b2, b3, trivial, b4⟩
  answer := by
    intro w Mut B T' x' p s hm
    exact onceM_answer hm
  now := fun _ wd _ s => hnow s.1 wd
  cnt := fun _ wd _ s => hcnt s.1 wd
  invStep := fun _ _ _ _ _ => trivial
  invTick := fun _ _ _ => trivial
  invBegin := fun _ _ _ _ => trivial
theorem once_nolate {ref : CallD → Option Int} {act : CallD → WD → WD × (Int × Nat)} {Cap : CapRep} {T : TypeId} {x : Value} : NoLate (onceReal ref act Cap T x) where
  late := fun _ _ _ _ => rfl
  kind := by
    rintro w Mut B T' x' p s ⟨rfl, _⟩ v u
    exact once_kind v u
theorem memRead_cnt (m : MemD) (a : Int) : (memRead m a).1.c.all ≤ m.c.all + 1 := by unfold memRead; split <;> simp [MemD.fault, CountsD.all] <;> omega
theorem memAdd_cnt (m : MemD) (a : Int) (d : Nat) : (memAdd m a d).1.c.all ≤ m.c.all + 1 := by unfold memAdd; split <;> simp [MemD.fault, CountsD.all] <;> omega
end
section

/- Layer 9: the adder as the loom's object. -/
open Go.RowKit
def adderRef (c : CallD) : Option Int := if c.kind = 0 ∨ c.kind = 1 ∨ c.kind = 2 then none else some 9
def adderD (c : CallD) : Nat := if c.kind = 2 then 1 else c.a
def adderAct (c : CallD) (wd : WD) : WD × (Int × Nat) :=
  if c.kind = 1 then ({ wd with mem := (memRead wd.mem 0).1 }, (0, (memRead wd.mem 0).2)) else ({ wd with mem := (memAdd wd.mem 0 (adderD c)).1 }, (0, (memAdd wd.mem 0 (adderD c)).2))
def adderCap : CapRep := fun w Mut K cap c =>
  (c.kind = 1 ∧ K = 175 ∧ ∃ b, cap = #[.pointer (some ⟨b, 0, none⟩)] ∧ w.cell? ⟨b, 0, none⟩ = some (.int .i64 0) ∧ ¬ Mut b) ∨
  (c.kind ≠ 1 ∧ K = 176 ∧ ∃ b b2, cap = #[.pointer (some ⟨b, 0, none⟩), .pointer (some ⟨b2, 0, none⟩)] ∧ w.cell? ⟨b, 0, none⟩ = some (.int .i64 0) ∧ ¬ Mut b ∧ w.cell? ⟨b2, 0, none⟩ = some (.int .u64 (adderD c : Int)) ∧ ¬ Mut b2)
theorem notMut_keep {w : World} {Mut Mut' : Nat → Prop} {b : Nat} {v : Value} (h : w.cell? ⟨b, 0, none⟩ = some v) (hn : ¬ Mut b) (hm : MutUp Mut w Mut') : ¬ Mut' b := fun hx => by
  have hlt := World.block_lt_of_cell? _ _ h
  rcases hm b hx with hy | hy
  · exact hn hy
  · simp only at hlt; omega
theorem memSet_sub {w : World} {Mut : Nat → Prop} {I : WIds} {N : Nat} {wd : WD} (h : WorldAt w Mut I N wd) : (∀ b, MemSet I.bm I.bw b → Mut b) ∧ ¬ MemSet I.bm I.bw I.bW ∧ (∀ b, MemSet I.bm I.bw b → WSet I b ∧ b < w.heap.size) := by
  have hS : ∀ b, MemSet I.bm I.bw b → WSet I b := by
    rintro b (rfl | e)
    · exact .inr (.inl rfl)
    · exact .inr (.inr (.inr e))
  refine ⟨fun b hb => h.muts b (hS b hb), ?_, fun b hb => ⟨hS b hb, h.low b (h.muts b (hS b hb))⟩⟩
  rintro (e | e)
  · exact h.sep.1 e
  · exact h.sep.2.2.2.1 e.symm
def AccTo (w : World) (Mut : Nat → Prop) (I : WIds) (N : Nat) (wd : WD) (m' : MemD) (er : Int) (v : Nat) (e : Int) (v' : Nat) (w1 : World) : Prop := e = er ∧ v' = v ∧ Chg (WSet I) w w1 ∧ WorldAt w1 Mut I N { wd with mem := m' }
theorem adder_read_in (w : World) (Mut : Nat → Prop) (I : WIds) (N : Nat) (wd : WD) (b bo : Nat) (hw : WorldAt w Mut I N wd) (hb : ¬ WSet I b) (hbl : b < w.heap.size) (hc : wd.mem.c.all + 1 < 1000000000000) (hbo : w.cell? ⟨bo, 0, none⟩ = some (.int .i64 0)) (hm : ¬ Mut bo) :
    Calls Tryz.prog 175 #[.pointer (some ⟨I.bW, 0, none⟩), .pointer (some ⟨bo, 0, none⟩)] w (OnceIn b w (AccTo w Mut I N wd (memRead wd.mem 0).1 0 (memRead wd.mem 0).2)) := by
  obtain ⟨s1, s2, s3⟩ := memSet_sub hw
  obtain ⟨wa, hwa⟩ : ∃ wa, wa = w.alloc (.cells #[.int .i64 0, .int .u64 0, .slice none 0 0] 50) := ⟨_, rfl⟩
  have hga : Below w.heap.size w wa := by rw [hwa]; exact Gr.new _ _
  have hra : wa.heap[w.heap.size]? = some (.cells #[.int .i64 0, .int .u64 0, .slice none 0 0] 50 (0, 0)) := by rw [hwa]; exact heap_alloc_new _ _
  obtain ⟨mks, hwb, _, _⟩ := hw.blk
  have hWlt := blk_lt hwb
  have hbolt := World.block_lt_of_cell? _ _ hbo
  simp only at hbolt
  have x0 : wa.cell? ⟨I.bW, 0, none⟩ = some (.pointer (some ⟨I.bm, 0, none⟩)) := by rw [hga.cell hWlt, cell_blk hwb]; exact world_mem
  have y0 : wa.cell? ⟨bo, 0, none⟩ = some (.int .i64 0) := by rw [hga.cell hbolt]; exact hbo
  have hra' : ¬ MemSet I.bm I.bw w.heap.size := fun h => Nat.lt_irrefl _ (s3 _ h).2
  have Rd := Lib.hid (fun (u : World) (h : Chg noB wa u) => read_any I.bm I.bw wd.mem 0 u ((hw.mem.gr hga).chg h (fun h => h) (fun _ _ h => h)) hc)
  have Hw := Lib.hid hw; have Hga := Lib.hid hga; have Hra := Lib.hid hra; have Hwa := Lib.hid hwa; have S2 := Lib.hid s2; have Nm := Lib.hid (fun h => hm (s1 bo h)); have S3 := Lib.hid s3; have Hra' := Lib.hid hra'; have Hb := Lib.hid hb
  obtain ⟨v, hv⟩ : ∃ v, v = (memRead wd.mem 0).2 := ⟨_, rfl⟩
  rw [← hv] at Rd ⊢
  clear hw hga hra hwb s1 s2 s3 hbo hm hra' hb hwa hv
  have hn1 : w.heap.size ≠ I.bW := by omega
  have hn2 : w.heap.size ≠ bo := by omega
  go_enter Tryz.func175, Tryz.ntmps175
  go_wp2_with fail
  rw [← Hwa.out]
  go_region_held3 (fun u => u.cell? ⟨I.bW, 0, none⟩ = some (.pointer (some ⟨I.bm, 0, none⟩)) ∧ u.cell? ⟨bo, 0, none⟩ = some (.int .i64 0))
    (first | exact ⟨x0, y0⟩ | exact ⟨z0, zw⟩ | go_keep)
    ((go_at_call 169; refine (Rd.out _ ?_).mono ?_; (exact (Chg.refl _ _).drew); rintro e w4 ⟨rfl, hm4, hc4⟩; have hc4' : Chg (MemSet I.bm I.bw) wa w4 := ((Chg.refl _ _).drew).trans hc4; have z0 := box_keep hc4' S2.out x0; have zw := box_keep hc4' Nm.out y0; have hr4 := (hc4'.block _ (blk_lt Hra.out) Hra'.out).trans Hra.out; have g0 : w4.cell? ⟨w.heap.size, 0, none⟩ = some (.int .i64 0) := (by rw [cell_blk hr4]; rfl); have g1 : w4.cell? ⟨w.heap.size, 1, none⟩ = some (.int .u64 0) := (by rw [cell_blk hr4]; rfl); have g2 : w4.cell? ⟨w.heap.size, 2, none⟩ = some (.slice none 0 0) := (by rw [cell_blk hr4]; rfl); have gf0 := frozen_blk hr4 0; have gf1 := frozen_blk hr4 1; have gf2 := frozen_blk hr4 2))
  obtain ⟨w6, hw6⟩ : ∃ w6, w6 = (((w4.setCell ⟨w.heap.size, 0, none⟩ (.int .i64 0)).setCell ⟨w.heap.size, 1, none⟩ (.int .u64 (v : Int))).setCell ⟨w.heap.size, 2, none⟩ (.slice none 0 0)) := ⟨_, rfl⟩
  have hr6 : w6.heap[w.heap.size]? = some (.cells #[.int .i64 0, .int .u64 (v : Int), .slice none 0 0] 50 (0, 0)) := by rw [hw6, blk_set (blk_set (blk_set hr4 _ _) _ _)]; rfl
  have k0 : w6.cell? ⟨w.heap.size, 0, none⟩ = some (.int .i64 0) := by rw [cell_blk hr6]; rfl
  have k1 : w6.cell? ⟨w.heap.size, 1, none⟩ = some (.int .u64 (v : Int)) := by rw [cell_blk hr6]; rfl
  have k2 : w6.cell? ⟨w.heap.size, 2, none⟩ = some (.slice none 0 0) := by rw [cell_blk hr6]; rfl
  have hcR : Chg (fun b => b = w.heap.size) w4 w6 := by
    rw [hw6]; exact (((Chg.refl (fun b => b = w.heap.size) w4).setCell (by exact .inl rfl) _).setCell (by exact .inl rfl) _).setCell (by exact .inl rfl) _
  have hcA : Chg (MemSet I.bm I.bw) w w6 := by
    have h1 : Chg (MemSet I.bm I.bw) w w4 := (Chg.of_below Hga.out).trans hc4'
    rw [hw6]
    exact ((h1.setCell (by exact .inr (Nat.le_refl _)) _).setCell (by exact .inr (Nat.le_refl _)) _).setCell (by exact .inr (Nat.le_refl _)) _
  have hm6 : MemAt w6 I.bm I.bw (memRead wd.mem 0).1 := hm4.chg hcR (fun e => Hra'.out (.inl e.symm)) (fun q hq e => Hra'.out (.inr (by rw [← e]; exact hq.symm)))
  obtain ⟨hwf, hcf⟩ := Hw.out.mems hcA hm6
  have hbk : w6.heap[b]? = w.heap[b]? := hcA.block b hbl (fun h => Hb.out (S3.out b h).1)
  rw [← hw6]
  clear hr4 hc4 hc4' hw6 z0 zw g0 g1 g2 gf0 gf1 gf2 x0 y0 hm4 hr6 hm6 hcA hcR
  have Hwf := Lib.hid hwf; have Hcf := Lib.hid hcf; have Hbk := Lib.hid hbk
  clear hwf hcf hbk
  go_wp2
  exact bodyPost_ret (v := ansV 0 v (.slice none 0 0)) (by simp [results, Tryz.results175 , go_sem, ansV, k0, k1, k2]) rfl ⟨0, v, rfl, Hbk.out, rfl, rfl, Hcf.out, Hwf.out⟩
theorem adder_add_in (w : World) (Mut : Nat → Prop) (I : WIds) (N : Nat) (wd : WD) (b bo b2 d : Nat) (hw : WorldAt w Mut I N wd) (hb : ¬ WSet I b) (hbl : b < w.heap.size) (hc : wd.mem.c.all + 1 < 1000000000000) (hbo : w.cell? ⟨bo, 0, none⟩ = some (.int .i64 0)) (hm : ¬ Mut bo) (hb2 : w.cell? ⟨b2, 0, none⟩ = some (.int .u64 (d : Int))) (hm2 : ¬ Mut b2) :
    Calls Tryz.prog 176 #[.pointer (some ⟨I.bW, 0, none⟩), .pointer (some ⟨bo, 0, none⟩), .pointer (some ⟨b2, 0, none⟩)] w (OnceIn b w (AccTo w Mut I N wd (memAdd wd.mem 0 d).1 0 (memAdd wd.mem 0 d).2)) := by
  obtain ⟨s1, s2, s3⟩ := memSet_sub hw
  obtain ⟨wa, hwa⟩ : ∃ wa, wa = w.alloc (.cells #[.int .i64 0, .int .u64 0, .slice none 0 0] 50) := ⟨_, rfl⟩
  have hga : Below w.heap.size w wa := by rw [hwa]; exact Gr.new _ _
  have hra : wa.heap[w.heap.size]? = some (.cells #[.int .i64 0, .int .u64 0, .slice none 0 0] 50 (0, 0)) := by rw [hwa]; exact heap_alloc_new _ _
  obtain ⟨mks, hwb, _, _⟩ := hw.blk
  have hWlt := blk_lt hwb
  have hbolt := World.block_lt_of_cell? _ _ hbo
  simp only at hbolt
  have hb2lt := World.block_lt_of_cell? _ _ hb2
  simp only at hb2lt
  have x0 : wa.cell? ⟨I.bW, 0, none⟩ = some (.pointer (some ⟨I.bm, 0, none⟩)) := by rw [hga.cell hWlt, cell_blk hwb]; exact world_mem
  have y0 : wa.cell? ⟨bo, 0, none⟩ = some (.int .i64 0) := by rw [hga.cell hbolt]; exact hbo
  have y1 : wa.cell? ⟨b2, 0, none⟩ = some (.int .u64 (d : Int)) := by rw [hga.cell hb2lt]; exact hb2
  have hra' : ¬ MemSet I.bm I.bw w.heap.size := fun h => Nat.lt_irrefl _ (s3 _ h).2
  have Rd := Lib.hid (fun (u : World) (h : Chg noB wa u) => add_any I.bm I.bw wd.mem 0 d u ((hw.mem.gr hga).chg h (fun h => h) (fun _ _ h => h)) hc)
  have Hw := Lib.hid hw; have Hga := Lib.hid hga; have Hra := Lib.hid hra; have Hwa := Lib.hid hwa; have S2 := Lib.hid s2; have Nm := Lib.hid (fun h => hm (s1 bo h)); have Nm2 := Lib.hid (fun h => hm2 (s1 b2 h)); have S3 := Lib.hid s3; have Hra' := Lib.hid hra'; have Hb := Lib.hid hb
  obtain ⟨v, hv⟩ : ∃ v, v = (memAdd wd.mem 0 d).2 := ⟨_, rfl⟩
  rw [← hv] at Rd ⊢
  clear hw hga hra hwb s1 s2 s3 hbo hm hra' hb hwa hv hb2 hm2
  have hn1 : w.heap.size ≠ I.bW := by omega
  have hn2 : w.heap.size ≠ bo := by omega
  have hn3 : w.heap.size ≠ b2 := by omega
  go_enter Tryz.func176, Tryz.ntmps176
  go_wp2_with fail
  rw [← Hwa.out]
  go_region_held3 (fun u => u.cell? ⟨I.bW, 0, none⟩ = some (.pointer (some ⟨I.bm, 0, none⟩)) ∧ u.cell? ⟨bo, 0, none⟩ = some (.int .i64 0) ∧ u.cell? ⟨b2, 0, none⟩ = some (.int .u64 (d : Int)))
    (first | exact ⟨x0, y0, y1⟩ | exact ⟨z0, zw, zx⟩ | go_keep)
    ((go_at_call 177; refine (Rd.out _ ?_).mono ?_; (exact (Chg.refl _ _).drew); rintro e w4 ⟨rfl, hm4, hc4⟩; have hc4' : Chg (MemSet I.bm I.bw) wa w4 := ((Chg.refl _ _).drew).trans hc4; have z0 := box_keep hc4' S2.out x0; have zw := box_keep hc4' Nm.out y0; have zx := box_keep hc4' Nm2.out y1; have hr4 := (hc4'.block _ (blk_lt Hra.out) Hra'.out).trans Hra.out; have g0 : w4.cell? ⟨w.heap.size, 0, none⟩ = some (.int .i64 0) := (by rw [cell_blk hr4]; rfl); have g1 : w4.cell? ⟨w.heap.size, 1, none⟩ = some (.int .u64 0) := (by rw [cell_blk hr4]; rfl); have g2 : w4.cell? ⟨w.heap.size, 2, none⟩ = some (.slice none 0 0) := (by rw [cell_blk hr4]; rfl); have gf0 := frozen_blk hr4 0; have gf1 := frozen_blk hr4 1; have gf2 := frozen_blk hr4 2))
  obtain ⟨w6, hw6⟩ : ∃ w6, w6 = (((w4.setCell ⟨w.heap.size, 0, none⟩ (.int .i64 0)).setCell ⟨w.heap.size, 1, none⟩ (.int .u64 (v : Int))).setCell ⟨w.heap.size, 2, none⟩ (.slice none 0 0)) := ⟨_, rfl⟩
  have hr6 : w6.heap[w.heap.size]? = some (.cells #[.int .i64 0, .int .u64 (v : Int), .slice none 0 0] 50 (0, 0)) := by rw [hw6, blk_set (blk_set (blk_set hr4 _ _) _ _)]; rfl
  have k0 : w6.cell? ⟨w.heap.size, 0, none⟩ = some (.int .i64 0) := by rw [cell_blk hr6]; rfl
  have k1 : w6.cell? ⟨w.heap.size, 1, none⟩ = some (.int .u64 (v : Int)) := by rw [cell_blk hr6]; rfl
  have k2 : w6.cell? ⟨w.heap.size, 2, none⟩ = some (.slice none 0 0) := by rw [cell_blk hr6]; rfl
  have hcR : Chg (fun b => b = w.heap.size) w4 w6 := by
    rw [hw6]; exact (((Chg.refl (fun b => b = w.heap.size) w4).setCell (by exact .inl rfl) _).setCell (by exact .inl rfl) _).setCell (by exact .inl rfl) _
  have hcA : Chg (MemSet I.bm I.bw) w w6 := by
    have h1 : Chg (MemSet I.bm I.bw) w w4 := (Chg.of_below Hga.out).trans hc4'
    rw [hw6]
    exact ((h1.setCell (by exact .inr (Nat.le_refl _)) _).setCell (by exact .inr (Nat.le_refl _)) _).setCell (by exact .inr (Nat.le_refl _)) _
  have hm6 : MemAt w6 I.bm I.bw (memAdd wd.mem 0 d).1 := hm4.chg hcR (fun e => Hra'.out (.inl e.symm)) (fun q hq e => Hra'.out (.inr (by rw [← e]; exact hq.symm)))
  obtain ⟨hwf, hcf⟩ := Hw.out.mems hcA hm6
  have hbk : w6.heap[b]? = w.heap[b]? := hcA.block b hbl (fun h => Hb.out (S3.out b h).1)
  rw [← hw6]
  clear hr4 hc4 hc4' hw6 z0 zw zx y1 g0 g1 g2 gf0 gf1 gf2 x0 y0 hm4 hr6 hm6 hcA hcR
  have Hwf := Lib.hid hwf; have Hcf := Lib.hid hcf; have Hbk := Lib.hid hbk
  clear hwf hcf hbk
  go_wp2
  exact bodyPost_ret (v := ansV 0 v (.slice none 0 0)) (by simp [results, Tryz.results176 , go_sem, ansV, k0, k1, k2]) rfl ⟨0, v, rfl, Hbk.out, rfl, rfl, Hcf.out, Hwf.out⟩
theorem adder_capgo : CapGo adderCap adderAct where
  keep := by
    rintro w w' Q Mut Mut' K cap c (⟨h1, h2, b, h3, h4, h5⟩ | ⟨h1, h2, b, b2, h3, h4, h5, h6, h7⟩) hc hQ hm
    · exact .inl ⟨h1, h2, b, h3, box_keep hc (fun hq => h5 (hQ _ hq)) h4, notMut_keep h4 h5 hm⟩
    · exact .inr ⟨h1, h2, b, b2, h3, box_keep hc (fun hq => h5 (hQ _ hq)) h4, notMut_keep h4 h5 hm, box_keep hc (fun hq => h7 (hQ _ hq)) h6, notMut_keep h6 h7 hm⟩
  go := by
    rintro w Mut I N wd b K cap c hw (⟨h1, rfl, bo, rfl, h4, h5⟩ | ⟨h1, rfl, bo, b2, rfl, h4, h5, h6, h7⟩) hb hbl hc
    · refine (adder_read_in w Mut I N wd b bo hw hb hbl hc h4 h5).mono ?_
      rintro e w' ⟨er, vl, he, hbk, rfl, rfl, hch, hw'⟩
      unfold adderAct; rw [if_pos h1]
      exact ⟨_, _, he, hbk, rfl, hch, hw'⟩
    · refine (adder_add_in w Mut I N wd b bo b2 (adderD c) hw hb hbl hc h4 h5 h6 h7).mono ?_
      rintro e w' ⟨er, vl, he, hbk, rfl, rfl, hch, hw'⟩
      unfold adderAct; rw [if_neg h1]
      exact ⟨_, _, he, hbk, rfl, hch, hw'⟩
theorem adder_start_m : Meth 71 (.agg #[.int .i64 0]) "Start" 174 (.agg #[.int .i64 0]) := ⟨fun _ _ => by kernel_rfl, fun _ _ => by kernel_rfl, fun _ _ => by kernel_rfl⟩
theorem enter_adder1 (args : Array Value) (u : World) : (callFunc 175 args).run Tryz.prog u = .ok (.enter 175 args) u := by kernel_rfl
theorem enter_adder2 (args : Array Value) (u : World) : (callFunc 176 args).run Tryz.prog u = .ok (.enter 176 args) u := by kernel_rfl
theorem alloc4 (w : World) (v0 v2 : Value) (c1 c3 : Array Value) (t0 t1 t2 t3 : TypeId) :
    ((((w.alloc (.cells #[v0] t0)).alloc (.cells c1 t1)).alloc (.cells #[v2] t2)).alloc (.cells c3 t3)).cell? ⟨w.heap.size, 0, none⟩ = some v0 ∧
    ((((w.alloc (.cells #[v0] t0)).alloc (.cells c1 t1)).alloc (.cells #[v2] t2)).alloc (.cells c3 t3)).cell? ⟨w.heap.size + 2, 0, none⟩ = some v2 ∧
    ((((w.alloc (.cells #[v0] t0)).alloc (.cells c1 t1)).alloc (.cells #[v2] t2)).alloc (.cells c3 t3)).heap[w.heap.size + 3]? = some (.cells c3 t3 (0, 0)) ∧
    Below w.heap.size w ((((w.alloc (.cells #[v0] t0)).alloc (.cells c1 t1)).alloc (.cells #[v2] t2)).alloc (.cells c3 t3)) := by
  refine ⟨?_, ?_, ?_, Gr.alloc (Gr.alloc (Gr.alloc (Gr.new _ _) _) _) _⟩
  · rw [World.cell?_alloc_lt _ _ _ (by simp; omega), World.cell?_alloc_lt _ _ _ (by simp; omega), World.cell?_alloc_lt _ _ _ (by simp), cell_new]; rfl
  · rw [World.cell?_alloc_lt _ _ _ (by simp)]
    have := cell_new ((w.alloc (.cells #[v0] t0)).alloc (.cells c1 t1)) #[v2] t2 (0, 0) 0
    simp only [World.size_alloc] at this
    exact this
  · have := heap_alloc_new (((w.alloc (.cells #[v0] t0)).alloc (.cells c1 t1)).alloc (.cells #[v2] t2)) (.cells c3 t3 (0, 0))
    simp only [World.size_alloc] at this
    exact this
theorem alloc5 (w : World) (o0 o1 o2 : Obj) (v3 : Value) (c4 : Array Value) (t3 t4 : TypeId) :
    (((((w.alloc o0).alloc o1).alloc o2).alloc (.cells #[v3] t3)).alloc (.cells c4 t4)).cell? ⟨w.heap.size + 3, 0, none⟩ = some v3 ∧
    (((((w.alloc o0).alloc o1).alloc o2).alloc (.cells #[v3] t3)).alloc (.cells c4 t4)).heap[w.heap.size + 4]? = some (.cells c4 t4 (0, 0)) ∧
    Below w.heap.size w (((((w.alloc o0).alloc o1).alloc o2).alloc (.cells #[v3] t3)).alloc (.cells c4 t4)) := by
  refine ⟨?_, ?_, Gr.alloc (Gr.alloc (Gr.alloc (Gr.alloc (Gr.new _ _) _) _) _) _⟩
  · rw [World.cell?_alloc_lt _ _ _ (by simp)]
    have := cell_new (((w.alloc o0).alloc o1).alloc o2) #[v3] t3 (0, 0) 0
    simp only [World.size_alloc] at this
    exact this
  · have := heap_alloc_new ((((w.alloc o0).alloc o1).alloc o2).alloc (.cells #[v3] t3)) (.cells c4 t4 (0, 0))
    simp only [World.size_alloc] at this
    exact this
theorem adder_start : OnceStart adderRef adderAct adderCap 71 (.agg #[.int .i64 0]) := by
  refine ⟨_, _, adder_start_m, fun w Mut I N wd p c hw hp hc => ?_⟩
  obtain ⟨th, ob, kd, ca, cb, cc⟩ := c
  have hlow := hw.low
  have hcw := hc.a
  simp only at hcw
  unfold callAgg
  simp only
  have Hlow := Lib.hid hlow
  have nm : ∀ k, ¬ (mutTo Mut noB (fun b => b = w.heap.size + 3) (w.heap.size + k)) ∨ k = 3 := fun k => by
    by_cases hk : k = 3
    · exact .inr hk
    · refine .inl ?_
      rintro (⟨hx, _⟩ | hx)
      · have := hlow _ hx; omega
      · omega
  have nm0 := (nm 0).resolve_right (by omega); have nm2 := (nm 2).resolve_right (by omega)
  have Nm0 := Lib.hid nm0; have Nm2 := Lib.hid nm2
  clear hw hc hlow nm nm0 nm2
  by_cases h1 : kd = 1
  · subst h1
    go_enter Tryz.func174, Tryz.ntmps174
    go_wp2
    go_ret
    obtain ⟨a1, a2, a3, a4⟩ := alloc4 w (.int .i64 0) (.int .u64 (ca : Int)) #[.int .i64 th, .int .i64 ob, .int .i64 1, .int .u64 (ca : Int), .int .u64 (cb : Int), .int .u64 (cc : Int)] (onceCells 175 #[.pointer (some ⟨w.heap.size, 0, none⟩)] 0 0) 71 48 46 217
    refine ⟨_, _, fun b => b = w.heap.size + 3, rfl, a4, fun b hb => by subst hb; exact ⟨by omega, blk_lt a3⟩, ?_⟩
    unfold onceSys adderRef
    simp only
    rw [if_pos (by simp)]
    exact ⟨rfl, w.heap.size + 3, _, _, rfl, a3, rfl, enter_adder1, .inl ⟨rfl, rfl, w.heap.size, rfl, a1, Nm0.out⟩⟩
  by_cases h2 : kd = 2
  · subst h2
    go_enter Tryz.func174, Tryz.ntmps174
    go_wp2
    go_ret
    obtain ⟨a1, a2, a3, a4⟩ := alloc4 w (.int .i64 0) (.int .u64 1) #[.int .i64 th, .int .i64 ob, .int .i64 2, .int .u64 (ca : Int), .int .u64 (cb : Int), .int .u64 (cc : Int)] (onceCells 176 #[.pointer (some ⟨w.heap.size, 0, none⟩), .pointer (some ⟨w.heap.size + 2, 0, none⟩)] 0 0) 71 48 46 217
    refine ⟨_, _, fun b => b = w.heap.size + 3, rfl, a4, fun b hb => by subst hb; exact ⟨by omega, blk_lt a3⟩, ?_⟩
    unfold onceSys adderRef
    simp only
    rw [if_pos (by simp)]
    exact ⟨rfl, w.heap.size + 3, _, _, rfl, a3, rfl, enter_adder2, .inr ⟨by simp, rfl, w.heap.size, w.heap.size + 2, rfl, a1, Nm0.out, a2, Nm2.out⟩⟩
  by_cases h0 : kd = 0
  · subst h0
    go_enter Tryz.func174, Tryz.ntmps174
    go_wp2
    go_ret
    obtain ⟨a1, a2, a3, a4⟩ := alloc4 w (.int .i64 0) (.int .u64 (ca : Int)) #[.int .i64 th, .int .i64 ob, .int .i64 0, .int .u64 (ca : Int), .int .u64 (cb : Int), .int .u64 (cc : Int)] (onceCells 176 #[.pointer (some ⟨w.heap.size, 0, none⟩), .pointer (some ⟨w.heap.size + 2, 0, none⟩)] 0 0) 71 48 46 217
    refine ⟨_, _, fun b => b = w.heap.size + 3, rfl, a4, fun b hb => by subst hb; exact ⟨by omega, blk_lt a3⟩, ?_⟩
    unfold onceSys adderRef
    simp only
    rw [if_pos (by simp)]
    exact ⟨rfl, w.heap.size + 3, _, _, rfl, a3, rfl, enter_adder2, .inr ⟨by simp, rfl, w.heap.size, w.heap.size + 2, rfl, a1, Nm0.out, a2, Nm2.out⟩⟩
  · go_enter Tryz.func174, Tryz.ntmps174
    go_wp2
    go_ret
    obtain ⟨a1, a2, a3⟩ := alloc5 w (.cells #[.int .i64 0] 71) (.cells #[.int .i64 th, .int .i64 ob, .int .i64 kd, .int .u64 (ca : Int), .int .u64 (cb : Int), .int .u64 (cc : Int)] 48) (.cells #[.int .u64 (ca : Int)] 46) (.int .i64 9) (onceCells 129 #[.pointer (some ⟨w.heap.size + 3, 0, none⟩)] 0 0) 33 217
    refine ⟨_, _, fun b => b = w.heap.size + 4, rfl, a3, fun b hb => by subst hb; exact ⟨by omega, blk_lt a2⟩, ?_⟩
    unfold onceSys adderRef
    simp only
    rw [if_neg (by omega)]
    refine ⟨rfl, w.heap.size + 4, w.heap.size + 3, rfl, ⟨a2, a1, by omega⟩, rfl, ?_⟩
    rintro (⟨hx, _⟩ | hx)
    · have := Hlow.out _ hx; omega
    · omega
end
section

/- Layer 7: the cons as the loom's object. -/
open Go.RowKit
inductive CoS where
  | once (c : CallD) (r : Int × Nat)
  | prop (v : Nat) (pc : Bool)
def consAct (_ : CallD) (wd : WD) : WD × (Int × Nat) := ({ wd with mem := (memRead wd.mem 0).1 }, if (memRead wd.mem 0).2 = 0 then (7, 0) else (0, (memRead wd.mem 0).2 - 1))
def consDec (x : Nat) : Nat := if x = 0 then 18446744073709551615 else x - 1
def consSwap (wd : WD) (p v : Nat) : WD := { wd with mem := (memSwap wd.mem 0 0 (v + 1)).1, marks := wd.marks.set p (tickKey wd) }
def consRead (wd : WD) : WD := { wd with mem := (memRead wd.mem 0).1 }
def consS : Sys where
  σ := CoS
  ω := Unit
  start := fun _ _ _ c => if c.kind = 1 then .run (.once c (0, 0)) else if c.kind ≠ 0 then .refuse 9 else if 4294967296 ≤ c.a then .refuse 10 else .run (.prop c.a false)
  step := fun _ wd p s => match s with
    | .once c _ => ((), (consAct c wd).1, .once c (consAct c wd).2, true)
    | .prop v false => ((), consSwap wd p v, .prop v true, false)
    | .prop _ true => ((), consRead wd, .prop (consDec (memRead wd.mem 0).2) true, true)
  answer := fun s => match s with
    | .once _ r => (⟨r.1, r.2, []⟩, [])
    | .prop v _ => (⟨0, v, []⟩, [])
  late := fun _ _ _ _ => none
end
end Go.Proofs.YteffgpcjfnjlkaaGreat
