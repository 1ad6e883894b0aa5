/- Layer 6: what a play hands out, in one form. -/
import Derived.Test.YtjkgfkbanbhkgaaJ18
import Derived.Test.YtjkgfkbanbhkgaaJ13
import Derived.Test.YtjkgfkbanbhkgaaJ15
set_option maxRecDepth 100000
set_option linter.unusedVariables false
set_option linter.unusedSimpArgs false
set_option linter.unnecessarySimpa false
namespace Go.Proofs.Ytjkgfkbanbhkgaa
section
open Go.RowKit

structure CallsAt (X : Nat → Prop) (w : World) (ca : Option Addr) (calls : List CallD) : Prop where
  sl : SlAt w ca calls.length 6 (callG calls)
  ok : ∀ x ∈ calls, CallOk x
  nx : 0 < calls.length → ∀ b off, ca = some ⟨b, off, none⟩ → ¬ X b
structure PicksAt (w : World) (pa : Option Addr) (picks : List Int) : Prop where
  sl : SlAt w pa picks.length 1 (intG picks)
  ok : ∀ x ∈ picks, (Lit.int .i64 x).wf = true
theorem CallsAt.grown {X : Nat → Prop} {w w' : World} {ca : Option Addr} {calls : List CallD} (h : CallsAt X w ca calls) (hb : Below w.heap.size w w') : CallsAt X w' ca calls := ⟨h.sl.grown hb, h.ok, h.nx⟩
theorem PicksAt.grown {w w' : World} {pa : Option Addr} {picks : List Int} (h : PicksAt w pa picks) (hb : Below w.heap.size w w') : PicksAt w' pa picks := ⟨h.sl.grown hb, h.ok⟩

/-- The same in one form: a report's parts, and the error. -/
def PlayRest (X : Nat → Prop) (w w' : World) (er : Int) (r : RepD) (ea : Option Addr) (en ec : Nat) (va : Option Addr) (vn vc : Nat) (rp : RepD) : Prop :=
  Below w.heap.size w w' ∧ ((er ≠ 0 ∧ ea = none ∧ en = 0 ∧ ec = 0 ∧ va = none ∧ vn = 0 ∧ vc = 0 ∧ rp = ⟨[], [], c0, 0, 0⟩) ∨
    (er = 0 ∧ rp = r ∧ en = r.evs.length ∧ vn = r.words.length ∧ ∃ ers, RepAt X w.heap.size w' (.slice ea en ec) (.slice va vn vc) ers r))
def PlayRet (X : Nat → Prop) (w w' : World) (er : Int) (r : RepD) (e : Ending) : Prop :=
  ∃ ea en ec va vn vc rp, e = .returned (.tuple #[repV (.slice ea en ec) (.slice va vn vc) rp, .int .i64 er]) ∧ PlayRest X w w' er r ea en ec va vn vc rp
theorem PlayTo.ret {X : Nat → Prop} {w w' : World} {er : Int} {r : RepD} {e : Ending} (h : PlayTo X w w' er r e) : PlayRet X w w' er r e := by
  obtain ⟨hb, ⟨h0, rfl⟩ | ⟨h0, ea, ec, va, vc, ers, rfl, hr⟩⟩ := h
  · exact ⟨none, 0, 0, none, 0, 0, _, rfl, hb, .inl ⟨h0, rfl, rfl, rfl, rfl, rfl, rfl, rfl⟩⟩
  · exact ⟨ea, _, ec, va, _, vc, r, by rw [h0], hb, .inr ⟨h0, rfl, rfl, rfl, ers, hr⟩⟩
theorem PlayRest.chg {X X' Q : Nat → Prop} {w0 w w' w'' : World} {er : Int} {r : RepD} {ea : Option Addr} {en ec : Nat} {va : Option Addr} {vn vc : Nat} {rp : RepD} (h : PlayRest X w w' er r ea en ec va vn vc rp) (hc : Chg Q w' w'') (hQ : ∀ b, Q b → X b ∧ w0.heap.size ≤ b ∧ b < w.heap.size) (h0 : Below w0.heap.size w0 w) (hX : ∀ b, X' b → X b) : PlayRest X' w0 w'' er r ea en ec va vn vc rp := by
  obtain ⟨hb, hr⟩ := h
  have hb1 : Chg (fun b => w0.heap.size ≤ b) w0 w'' := ((Chg.of_below h0).trans (show Chg (fun b => w0.heap.size ≤ b) w w' from ⟨hb.os, hb.tape, hb.output, hb.size, fun k hk _ => hb.block k hk⟩)).trans (hc.mono (fun b _ hq => (hQ b hq).2.1))
  refine ⟨hb1.below (fun b h => h) (Nat.le_refl _), ?_⟩
  rcases hr with hr | ⟨h1, h2, h3, h4, ers, h5⟩
  · exact .inl hr
  · exact .inr ⟨h1, h2, h3, h4, ers, (h5.chg hc (fun b hb => ⟨(hQ b hb).1, (hQ b hb).2.2⟩)).low h0.size hX⟩

theorem u64_info' : (Try.prog.info? 46).map (fun i => (i.zero, i.size, i.bytes)) = some (some (.int .u64 0), 1, 8) := by kernel_rfl
theorem make_one (u : World) : (Instr.makeSlice 28 (.int .i64 1) (.int .i64 1)).run Try.prog u = .ok (.slice (some ⟨u.heap.size, 0, none⟩) 1 1) (u.alloc (.cells (madeCells #[.int .u64 0] 1) 46)) := by
  obtain ⟨i0, hi, hz0, hz1, hz2⟩ := info_parts u64_info'
  have h := run_make (P := Try.prog) u 28 46 i0 (.int .u64 0) Try.underlying28 hi hz0 .i64 .i64 1 1 (by omega) (Int.le_refl _) (by rw [hz2]; omega) (by omega)
  simpa [hz1, Value.cells] using h
theorem made_cell (u : World) (o : Obj) (b : Nat) (hb : b = u.heap.size + 1) : ((u.alloc o).alloc (.cells (madeCells #[.int .u64 0] 1) 46)).cell? ⟨b, 0, none⟩ = some (.int .u64 0) := by
  have := cell_new (u.alloc o) (madeCells #[.int .u64 0] 1) 46 (0, 0) 0
  simp only [World.size_alloc] at this
  rw [hb, this, madeCells_one]; rfl
theorem objs_cell (u : World) (v : Value) (T : TypeId) (o : Obj) : ((u.alloc (.cells #[v] T)).alloc o).cell? ⟨u.heap.size, 0, none⟩ = some v := by
  rw [World.cell?_alloc_lt _ _ _ (by simp), cell_new]; rfl
theorem cell_new1 (u : World) (v : Value) (T : TypeId) : (u.alloc (.cells #[v] T)).cell? ⟨u.heap.size, 0, none⟩ = some v := by rw [cell_new]; rfl
theorem cell_new2 (u : World) (o : Obj) (v : Value) (T : TypeId) (b : Nat) (hb : b = u.heap.size + 1) : ((u.alloc o).alloc (.cells #[v] T)).cell? ⟨b, 0, none⟩ = some v := by
  have := cell_new (u.alloc o) #[v] T (0, 0) 0
  simp only [World.size_alloc] at this
  rw [hb, this]; rfl
theorem made_cell2 (u : World) (o : Obj) : ((u.alloc (.cells (madeCells #[.int .u64 0] 1) 46)).alloc o).cell? ⟨u.heap.size, 0, none⟩ = some (.int .u64 0) := by
  rw [World.cell?_alloc_lt _ _ _ (by simp), cell_new, madeCells_one]; rfl
theorem made_cell3 {u w1 : World} (hk : ∀ p : Addr, p.block < (u.alloc (.cells (madeCells #[.int .u64 0] 1) 46)).heap.size → w1.cell? p = (u.alloc (.cells (madeCells #[.int .u64 0] 1) 46)).cell? p) (o : Obj) (b : Nat) (hb : b = u.heap.size) (hs : (u.alloc (.cells (madeCells #[.int .u64 0] 1) 46)).heap.size ≤ w1.heap.size) : (w1.alloc o).cell? ⟨b, 0, none⟩ = some (.int .u64 0) := by
  have hlt : u.heap.size < (u.alloc (.cells (madeCells #[.int .u64 0] 1) 46)).heap.size := by simp
  rw [hb, World.cell?_alloc_lt _ _ _ (by simp only; omega), hk _ hlt, cell_new, madeCells_one]; rfl
theorem slOne {u : World} {b : Nat} (h : u.cell? ⟨b, 0, none⟩ = some (.int .u64 0)) : SlAt u (some ⟨b, 0, none⟩) 1 1 (u64G [0]) :=
  ⟨by unfold maxLen; simp, fun j hj => ⟨b, 0, rfl, World.block_lt_of_cell? _ _ h, fun f hf => by
    obtain rfl : j = 0 := by simpa using hj
    obtain rfl : f = 0 := by omega
    exact h⟩⟩
theorem Chg.setCells (b : Nat) : ∀ (vs : List Value) (o : Nat) (w : World), Chg (fun k => k = b) w (w.setCells b o vs)
  | [], _, w => Chg.refl _ w
  | v :: r, o, w => ((Chg.refl (fun k => k = b) w).setCell (p := ⟨b, o, none⟩) (.inl rfl) v).trans (Chg.setCells b r (o + 1) (w.setCell ⟨b, o, none⟩ v))
set_option maxHeartbeats 2000000 in
/-- A report goes into its cells, and is read from them. -/
theorem rep_store (w : World) (b : Nat) (ev wv : Value) (r : RepD) (h : w.heap[b]? = some (.cells #[.slice none 0 0, .slice none 0 0, .int .i64 0, .int .i64 0, .int .i64 0, .int .i64 0, .int .i64 0, .int .i64 0, .int .i64 0] 32 (0, 0))) (h1 : ev.oneCell' = true) (h2 : wv.oneCell' = true) :
    ∃ (cs : Array Value) (w7 : World), repV ev wv r = .agg cs ∧ cs.size = 9 ∧ (storeCells ⟨b, 0, none⟩ cs.toList).run Try.prog w = .ok () w7 ∧ w7.heap[b]? = some (.cells cs 32 (0, 0)) ∧ Chg (fun k => k = b) w w7 := by
  refine ⟨#[ev, wv, .int .i64 (r.c.read : Int), .int .i64 (r.c.write : Int), .int .i64 (r.c.swap : Int), .int .i64 (r.c.add : Int), .int .i64 (r.c.fault : Int), .int .i64 (r.ticks : Int), .int .i64 (r.idle : Int)], _, rfl, rfl, run_storeCells_cells (P := Try.prog) b 0 _ 0 w (fun j hj => ?_) (fun j hj => frozen_blk h _) (fun v hv => ?_), ?_, ?_⟩
  · rw [cell_blk h]
    have : j < 9 := by simpa using hj
    rw [Array.getElem?_eq_getElem (by simpa using this)]; rfl
  · simp only [List.mem_cons, List.not_mem_nil, or_false] at hv
    rcases hv with rfl | rfl | rfl | rfl | rfl | rfl | rfl | rfl | rfl
    · exact h1
    · exact h2
    all_goals rfl
  · simp only [World.setCells, Nat.reduceAdd]
    rw [(blk_set (blk_set (blk_set (blk_set (blk_set (blk_set (blk_set (blk_set (blk_set h _ _) _ _) _ _) _ _) _ _) _ _) _ _) _ _) _ _)]
    simp only [List.setIfInBounds_toArray, List.set_cons_zero, List.set_cons_succ]
  · exact Chg.setCells b _ _ w
theorem rep_info : (Try.prog.info? 32).map (·.size) = some 9 := by kernel_rfl
theorem rep_load (w : World) (b : Nat) (cs : Array Value) (h : w.heap[b]? = some (.cells cs 32 (0, 0))) (hc : cs.size = 9) : (loadVar 32 ⟨b, 0, none⟩).run Try.prog w = .ok (.agg cs) w := by
  have := run_loadVar_mid (P := Try.prog) w b 0 32 cs.toList _ (fun j v hv => by rw [Nat.zero_add, cell_blk h]; simpa using hv) Try.underlying32 rfl (by rw [rep_info]; simp [hc])
  simpa using this
end
section

/- Layer 7: cons.Play. -/
open Go.RowKit

theorem cons_new (w : World) : Calls Try.prog 52 #[.int .i64 0] w fun e w' => e = .returned (.agg #[.int .i64 0]) ∧ Below w.heap.size w w' := by
  go_enter Try.func52, Try.ntmps52
  go_wp2
  exact bodyPost_ret (v := .agg #[.int .i64 0]) (by simp [results, Try.results52 , go_sem]) rfl ⟨rfl, Gr.new _ _⟩
set_option maxHeartbeats 4000000 in
theorem consPlay_any (X : Nat → Prop) (w : World) (n : Int) (calls : List CallD) (picks : List Int) (ca pa : Option Addr) (cc pc : Nat) (hX : ∀ b, X b → b < w.heap.size) (hc : CallsAt X w ca calls) (hp : PicksAt w pa picks) :
    Calls Try.prog 25 #[.int .i64 n, .slice ca calls.length cc, .slice pa picks.length pc] w fun e w' => PlayRet X w w' (checkN n calls picks.length) (playD consS () [0] calls picks) e := by
  obtain ⟨wa, hwa⟩ : ∃ wa, wa = w.alloc (.cells #[.slice none 0 0, .slice none 0 0, .int .i64 0, .int .i64 0, .int .i64 0, .int .i64 0, .int .i64 0, .int .i64 0, .int .i64 0] 32) := ⟨_, rfl⟩
  have hga : Below w.heap.size w wa := by rw [hwa]; exact Gr.new _ _
  have hra : wa.heap[w.heap.size]? = some (.cells #[.slice none 0 0, .slice none 0 0, .int .i64 0, .int .i64 0, .int .i64 0, .int .i64 0, .int .i64 0, .int .i64 0, .int .i64 0] 32 (0, 0)) := by rw [hwa]; exact heap_alloc_new _ _
  have hsa : w.heap.size < wa.heap.size := by rw [hwa]; simp
  have Hwa := Lib.hid hwa; have Hga := Lib.hid hga; have Hra := Lib.hid hra
  have P := Lib.hid (fun (u : World) (bo bw : Nat) (hu : Below wa.heap.size wa u) (h1 : u.cell? ⟨bo, 0, none⟩ = some (.iface 84 (.agg #[.int .i64 0]))) (h2 : u.cell? ⟨bw, 0, none⟩ = some (.int .u64 0)) (hbo : wa.heap.size ≤ bo) =>
    (play_any (X := fun b => X b ∨ b = w.heap.size) (R := consR) cons_ok cons_nolate (Nat.zero_le _) u () n calls [0] picks (.slice (some ⟨bo, 0, none⟩) 1 1) (.slice ca calls.length cc) (.slice (some ⟨bw, 0, none⟩) 1 1) pa pc
      ⟨⟨ca, cc, rfl, hc.sl.grown (Gr.trans hga hu), fun hl b off e hx => by
        rcases hx with hx | hx
        · exact hc.nx hl b off e hx
        · obtain ⟨b0, off0, e0, hb0⟩ := hc.sl.lt hl
          rw [e0] at e; cases e; omega⟩, hc.ok, ⟨bo, 0, 1, rfl, h1, fun hx => by rcases hx with hx | hx; have := hX bo hx; omega; omega⟩, ⟨_, 1, rfl, slOne h2, fun e => by cases e⟩, by simp, by simp, fun b hb => hb, fun _ _ => trivial, trivial, fun b hx => by have := hu.size; rcases hx with hx | hx; have := hX b hx; omega; omega⟩ (hp.sl.grown (Gr.trans hga hu)) hp.ok (fun _ _ _ _ _ => safe_of (fun _ _ _ _ => trivial) _ _ _)).mono (fun e w' h => (⟨PlayTo.ret h, hu⟩ : PlayRet (fun b => X b ∨ b = w.heap.size) u w' (checkN n calls picks.length) (playD consS () [0] calls picks) e ∧ Below wa.heap.size wa u)))
  have N := Lib.hid (fun (u : World) (h : Below wa.heap.size wa u) => (cons_new u).mono (fun e w' h' => (⟨h'.1, Gr.trans h h'.2, (fun p hp => h'.2.cell hp), h'.2.size⟩ : e = .returned (.agg #[.int .i64 0]) ∧ Below wa.heap.size wa w' ∧ (∀ p : Addr, p.block < u.heap.size → w'.cell? p = u.cell? p) ∧ u.heap.size ≤ w'.heap.size)))
  have hmk := make_one
  obtain ⟨er, her⟩ : ∃ er, er = checkN n calls picks.length := ⟨_, rfl⟩
  obtain ⟨rr, hrr⟩ : ∃ rr, rr = playD consS () [0] calls picks := ⟨_, rfl⟩
  rw [← her, ← hrr] at P ⊢
  clear hc hp hwa hga hra her hrr
  go_enter Try.func25, Try.ntmps25
  go_wp2_with fail
  rw [← Hwa.out]
  go_region_held3 (fun u => True)
    (exact True.intro)
    (first | (go_at_call 52; refine (N.out _ ?_).mono ?_; (first | exact (Gr.refl _).drew | exact Gr.alloc (Gr.refl _).drew _); rintro e w1 ⟨rfl, hb1, hk1⟩) | (go_at_call 44; refine (P.out _ _ _ ?_ ?_ ?_ ?_).mono ?_; (first | with_reducible exact Gr.alloc (Gr.alloc hb1 _) _ | with_reducible exact Gr.alloc hb1 _); (first | with_reducible exact objs_cell _ _ _ _ | exact cell_new2 _ _ _ _ _ (by simp) | with_reducible exact cell_new1 _ _ _); (first | with_reducible exact made_cell _ _ _ (by simp) | with_reducible exact made_cell2 _ _ | exact made_cell3 hk1.1 _ _ (by simp) hk1.2); (have := hb1.size; simp; omega); rintro e w4 ⟨⟨ea, en, ec, va, vn, vc, rp, rfl, hrest⟩, hu⟩; have hr4 := (hrest.1.block w.heap.size (by have := hu.size; omega)).trans ((hu.block w.heap.size (by omega)).trans Hra.out); obtain ⟨cs, w7, hcs, hsz, hst, hbk7, hch7⟩ := rep_store w4 w.heap.size (.slice ea en ec) (.slice va vn vc) rp hr4 rfl rfl; rw [hcs]; have Hcs := Lib.hid hcs; have Hbk7 := Lib.hid hbk7; have Hch7 := Lib.hid hch7; have Hrest := Lib.hid hrest; have Hu := Lib.hid hu; clear hr4 hrest hu hb1 hk1 hcs hbk7 hch7))
  all_goals
    go_wp2
    have hld := rep_load w7 w.heap.size cs Hbk7.out hsz
    refine bodyPost_ret (v := .tuple #[.agg cs, .int .i64 er]) (by simp [results, Try.results25 , Sem.run_bind, Sem.run_pure, asAddr, hld]) rfl ?_
    refine ⟨ea, en, ec, va, vn, vc, rp, by rw [Hcs.out], PlayRest.chg Hrest.out Hch7.out (fun b hb => ?_) (Gr.trans Hga.out Hu.out) (fun b hb => .inl hb)⟩
    have hb' : b = w.heap.size := hb
    exact ⟨.inr hb', by omega, by have := Hu.out.size; omega⟩
end
section

/- Layer 7: agreement, in plain numbers. -/
open Go.RowKit

/-- Somebody who is among the events proposed x - 1. -/
def Proposed (calls : List CallD) (evs : List EvD) (x : Nat) : Prop := ∃ i, i < evs.length ∧ (calls.getD (evAt evs i).call d0).obj = 0 ∧ (calls.getD (evAt evs i).call d0).kind = 0 ∧ (calls.getD (evAt evs i).call d0).a + 1 = x
def EvFits (x : Nat) (e : EvD) : Prop := e.steps ≤ 2 ∧ (e.resp ≠ 0 → e.ans.err = 0 → e.ans.val + 1 = x)
structure CoInv (calls : List CallD) (st : PlayD consS) (x : Nat) : Prop where
  good : StGood calls st
  ws : st.wd.mem.ws = [x]
  prop : x ≠ 0 → Proposed calls st.evs x
  evs : ∀ i, i < st.evs.length → EvFits x (evAt st.evs i)
  hand : ∀ p s k, st.hands.getD p (none, 0) = (some s, k) → ∃ v, s = .prop v true ∧ (evAt st.evs k).steps = 1 ∧ x ≠ 0

theorem memIn {m : MemD} {x : Nat} (h : m.ws = [x]) : memOut m 0 = false ∧ (memRead m 0).2 = x ∧ (memRead m 0).1.ws = [x] := by
  have h1 : memOut m 0 = false := by unfold memOut; rw [h]; rfl
  refine ⟨h1, ?_, ?_⟩ <;> (unfold memRead; rw [if_neg (by rw [h1]; simp)]; simp [h])
theorem memSwapIn {m : MemD} {x y : Nat} (h : m.ws = [x]) : (memSwap m 0 0 y).1.ws = [if x = 0 then y else x] := by
  have h1 := (memIn h).1
  unfold memSwap
  rw [if_neg (by rw [h1]; simp)]
  by_cases hx : x = 0
  · simp [h, hx]
  · simp [h, hx]
theorem Proposed.keep {calls : List CallD} {evs evs' : List EvD} {x : Nat} (h : Proposed calls evs x) (hl : evs.length ≤ evs'.length) (hc : ∀ i, i < evs.length → (evAt evs' i).call = (evAt evs i).call) : Proposed calls evs' x := by
  obtain ⟨i, h1, h2⟩ := h
  exact ⟨i, by omega, by rw [hc i h1]; exact h2⟩
theorem evAt_old {l : List EvD} {e : EvD} {i : Nat} (h : i < l.length) : evAt (l ++ [e]) i = evAt l i := getD_snoc_lt h
theorem evAt_last {l : List EvD} {e : EvD} : evAt (l ++ [e]) l.length = e := getD_snoc_eq

theorem cons_now : ∀ (o : consS.ω) (wd : WD) (p : Nat) (s : consS.σ), (consS.step o wd p s).2.1.now = wd.now := by
  intro o wd p s
  match s with
  | .once c r => rfl
  | .prop v false => rfl
  | .prop v true => rfl

theorem cs_once {o : consS.ω} {wd : WD} {p : Nat} {c : CallD} (h : c.kind = 1) : consS.start o wd p c = .run (.once c (0, 0)) := if_pos h
theorem cs_9 {o : consS.ω} {wd : WD} {p : Nat} {c : CallD} (h : ¬ c.kind = 1) (h0 : c.kind ≠ 0) : consS.start o wd p c = .refuse 9 := (if_neg h).trans (if_pos h0)
theorem cs_10 {o : consS.ω} {wd : WD} {p : Nat} {c : CallD} (h : ¬ c.kind = 1) (h0 : ¬ c.kind ≠ 0) (ha : 4294967296 ≤ c.a) : consS.start o wd p c = .refuse 10 := (if_neg h).trans ((if_neg h0).trans (if_pos ha))
theorem cs_prop {o : consS.ω} {wd : WD} {p : Nat} {c : CallD} (h : ¬ c.kind = 1) (h0 : ¬ c.kind ≠ 0) (ha : ¬ 4294967296 ≤ c.a) : consS.start o wd p c = .run (.prop c.a false) := (if_neg h).trans ((if_neg h0).trans (if_neg ha))

/-- An event more, that has responded. -/
theorem co_done {calls : List CallD} {st : PlayD consS} {x : Nat} (h : CoInv calls st x) {st' : PlayD consS} {p : Nat} {e : EvD} (hg : StGood calls st') (hev : st'.evs = st.evs ++ [e]) (hh : st'.hands = st.hands.set p (none, st.evs.length)) (hw : st'.wd.mem.ws = [x]) (he : EvFits x e) : CoInv calls st' x := by
  refine ⟨hg, hw, fun hx => ?_, fun i hi => ?_, fun q s k hq => ?_⟩
  · rw [hev]; exact (h.prop hx).keep (by simp) (fun i hi => by rw [evAt_old hi])
  · rw [hev] at hi ⊢
    rcases Nat.lt_or_ge i st.evs.length with h1 | h1
    · rw [evAt_old h1]; exact h.evs i h1
    · obtain rfl : i = st.evs.length := by simp at hi; omega
      rw [evAt_last]; exact he
  · rw [hh] at hq
    by_cases hqp : p = q
    · subst hqp
      rcases Nat.lt_or_ge p 16 with h1 | h1
      · rw [getD_set_eq (by rw [h.good.h16]; exact h1)] at hq; cases hq
      · rw [List.getD_eq_getElem?_getD, List.getElem?_eq_none (by simp [h.good.h16]; omega)] at hq; cases hq
    · rw [getD_set_neq hqp] at hq
      obtain ⟨v, h1, h2, h3⟩ := h.hand q s k hq
      have hk : k < st.evs.length := (h.good.ev.hand q k (by unfold hndOf; rw [hq]; rfl)).1
      exact ⟨v, h1, by rw [hev, evAt_old hk]; exact h2, h3⟩

theorem co_pick {calls : List CallD} (hthr : ∀ c, c < calls.length → 0 ≤ (calls.getD c d0).thread ∧ (calls.getD c d0).thread < 16) {st : PlayD consS} {x : Nat} (h : CoInv calls st x) (p : Int) : ∃ x', CoInv calls (pickD consS calls st p) x' := by
  have hg := pick_good cons_now hthr h.good p
  cases hN : nowN calls st.fin p with
  | none =>
    have hp : pickD consS calls st p = { st with idle := st.idle + 1 } := by unfold pickD; rw [hN]
    rw [hp] at hg ⊢
    exact ⟨x, hg, h.ws, h.prop, h.evs, h.hand⟩
  | some i =>
    obtain ⟨n1, n2, n3⟩ := nowN_spec hN
    obtain ⟨t1, t2⟩ := hthr i n1
    obtain ⟨q, rfl⟩ : ∃ q : Nat, p = (q : Int) := ⟨p.toNat, by omega⟩
    have hq : q < 16 := by omega
    have hp : pickD consS calls st (q : Int) = if (stepD consS calls st q i).2 then { (stepD consS calls st q i).1 with fin := (stepD consS calls st q i).1.fin.set i true } else (stepD consS calls st q i).1 := by unfold pickD; rw [hN]; rfl
    rw [hp] at hg ⊢
    cases hs : (st.hands.getD q (none, 0)).1 with
    | some s =>
      obtain ⟨k, hk⟩ : ∃ k, k = (st.hands.getD q (none, 0)).2 := ⟨_, rfl⟩
      have hqk : st.hands.getD q (none, 0) = (some s, k) := Prod.ext hs hk.symm
      obtain ⟨v, rfl, h2, h3⟩ := h.hand q s k hqk
      have hkl := (h.good.ev.hand q k (by unfold hndOf; rw [hqk]; rfl))
      obtain ⟨m1, m2, m3⟩ := memIn h.ws
      have hst : stepD consS calls st q i = ({ st with wd := consRead st.wd.tick, hands := st.hands.set q (none, k), evs := modEv st.evs k (finishEv (consRead st.wd.tick) q ⟨0, consDec x, []⟩ []) }, true) := by
        unfold stepD
        rw [hqk]
        simp only
        unfold goStep
        have e1 : consS.step st.obj st.wd.tick q (.prop v true) = ((), consRead st.wd.tick, .prop (consDec x) true, true) := by
          show ((), consRead st.wd.tick, CoS.prop (consDec (memRead st.wd.mem 0).2) true, true) = _
          rw [m2]
          rfl
        simp only [e1, if_true]
        rfl
      rw [hst] at hg ⊢
      simp only [if_true] at hg ⊢
      refine ⟨x, hg, m3, fun hx => ?_, fun j hj => ?_, fun r s' k' hr => ?_⟩
      · refine (h.prop hx).keep (by simp [modEv]) (fun j hj => ?_)
        show (evAt (st.evs.set k _) j).call = _
        rw [evAt_set _ hkl.1]
        split
        · rename_i e; subst e; rfl
        · rfl
      · have hj' : j < st.evs.length := by simpa [modEv] using hj
        show EvFits x (evAt (st.evs.set k _) j)
        rw [evAt_set _ hkl.1]
        split
        · refine ⟨?_, fun _ _ => ?_⟩
          · show (evAt st.evs k).steps + 1 ≤ 2; omega
          · show consDec x + 1 = x
            unfold consDec; rw [if_neg h3]; omega
        · exact h.evs j hj'
      · simp only at hr
        by_cases hqr : q = r
        · subst hqr
          rw [getD_set_eq (by rw [h.good.h16]; exact hq)] at hr; cases hr
        · rw [getD_set_neq hqr] at hr
          obtain ⟨v', g1, g2, g3⟩ := h.hand r s' k' hr
          have hkr := h.good.ev.hand r k' (by unfold hndOf; rw [hr]; rfl)
          refine ⟨v', g1, ?_, g3⟩
          show (evAt (st.evs.set k _) k').steps = 1
          rw [evAt_set _ hkl.1, if_neg]
          · exact g2
          · rintro rfl
            exact hqr (hkl.2.1.symm.trans hkr.2.1)
    | none =>
      obtain ⟨c, hc⟩ : ∃ c, c = calls.getD i d0 := ⟨_, rfl⟩
      obtain ⟨m1, m2, m3⟩ := memIn h.ws
      have hrefuse : ∀ er : Int, er ≠ 0 → startD consS st.obj (st.wd.tick.begin q) q c = .refuse er → ∃ x', CoInv calls (if (stepD consS calls st q i).2 then { (stepD consS calls st q i).1 with fin := (stepD consS calls st q i).1.fin.set i true } else (stepD consS calls st q i).1) x' := by
        intro er her hst
        have hst2 : stepD consS calls st q i = ({ st with wd := st.wd.tick.begin q, hands := st.hands.set q (none, st.evs.length), evs := st.evs ++ [finishEv (st.wd.tick.begin q) q ⟨er, 0, []⟩ [] (newEv i (st.wd.tick.begin q))] }, true) := by
          unfold stepD; rw [hs]; simp only; rw [← hc, hst]
        rw [hst2] at hg ⊢
        simp only [if_true] at hg ⊢
        exact ⟨x, co_done h hg rfl rfl h.ws ⟨by show 0 + 1 ≤ 2; omega, fun _ h9 => absurd h9 her⟩⟩
      by_cases ho : c.obj = 0
      · by_cases hk1 : c.kind = 1
        · have hst : startD consS st.obj (st.wd.tick.begin q) q c = .run (.once c (0, 0)) := by
            unfold startD; rw [if_pos ho]; exact cs_once hk1
          obtain ⟨a, ha⟩ : ∃ a, a = (consAct c (st.wd.tick.begin q)).2 := ⟨_, rfl⟩
          have ha2 : a = if x = 0 then (7, 0) else (0, x - 1) := by
            rw [ha]; show (if (memRead st.wd.mem 0).2 = 0 then ((7 : Int), (0 : Nat)) else (0, (memRead st.wd.mem 0).2 - 1)) = _; rw [m2]
          have hst2 : stepD consS calls st q i = ({ st with wd := (consAct c (st.wd.tick.begin q)).1, hands := st.hands.set q (none, st.evs.length), evs := st.evs ++ [finishEv (consAct c (st.wd.tick.begin q)).1 q ⟨a.1, a.2, []⟩ [] (newEv i (st.wd.tick.begin q))] }, true) := by
            unfold stepD; rw [hs]; simp only; rw [← hc, hst]
            simp only
            unfold goStep
            have e1 : consS.step st.obj (st.wd.tick.begin q) q (.once c (0, 0)) = ((), (consAct c (st.wd.tick.begin q)).1, .once c a, true) := by rw [ha]; rfl
            simp only [e1, if_true, List.set_set]
            rw [modEv_snoc]
            rfl
          rw [hst2] at hg ⊢
          simp only [if_true] at hg ⊢
          refine ⟨x, co_done h hg rfl rfl m3 ⟨by show 0 + 1 ≤ 2; omega, fun _ h9 => ?_⟩⟩
          have h9' : a.1 = 0 := h9
          show a.2 + 1 = x
          rw [ha2] at h9' ⊢
          by_cases hx : x = 0
          · rw [if_pos hx] at h9'; simp at h9'
          · rw [if_neg hx]; simp only; omega
        · by_cases hk0 : c.kind = 0
          · by_cases hbig : 4294967296 ≤ c.a
            · refine hrefuse 10 (by decide) ?_
              unfold startD; rw [if_pos ho]; exact cs_10 hk1 (by simp [hk0]) hbig
            · have hst : startD consS st.obj (st.wd.tick.begin q) q c = .run (.prop c.a false) := by
                unfold startD; rw [if_pos ho]; exact cs_prop hk1 (by simp [hk0]) hbig
              have hst2 : stepD consS calls st q i = ({ st with wd := consSwap (st.wd.tick.begin q) q c.a, hands := st.hands.set q (some (.prop c.a true), st.evs.length), evs := st.evs ++ [stepEv (newEv i (st.wd.tick.begin q))] }, false) := by
                unfold stepD; rw [hs]; simp only; rw [← hc, hst]
                simp only
                unfold goStep
                have e1 : consS.step st.obj (st.wd.tick.begin q) q (.prop c.a false) = ((), consSwap (st.wd.tick.begin q) q c.a, .prop c.a true, false) := rfl
                simp only [e1, Bool.false_eq_true, if_false, List.set_set]
                rw [modEv_snoc]
                rfl
              rw [hst2] at hg ⊢
              simp only [Bool.false_eq_true, if_false] at hg ⊢
              have hsw : (consSwap (st.wd.tick.begin q) q c.a).mem.ws = [if x = 0 then c.a + 1 else x] := memSwapIn (m := st.wd.mem) h.ws
              have hx0 : ∀ j, j < st.evs.length → x = 0 → (evAt st.evs j).resp ≠ 0 → (evAt st.evs j).ans.err ≠ 0 := fun j hj hx hr he => by
                have := (h.evs j hj).2 hr he; omega
              refine ⟨if x = 0 then c.a + 1 else x, hg, hsw, fun _ => ?_, fun j hj => ?_, fun r s' k' hr => ?_⟩
              · by_cases hx : x = 0
                · rw [if_pos hx]
                  refine ⟨st.evs.length, by simp, ?_⟩
                  show _ ∧ _ ∧ _
                  rw [show evAt (st.evs ++ [stepEv (newEv i (st.wd.tick.begin q))]) st.evs.length = _ from evAt_last]
                  show (calls.getD i d0).obj = 0 ∧ (calls.getD i d0).kind = 0 ∧ (calls.getD i d0).a + 1 = c.a + 1
                  rw [← hc]; exact ⟨ho, hk0, rfl⟩
                · rw [if_neg hx]; exact (h.prop hx).keep (by simp) (fun j hj => by rw [evAt_old hj])
              · simp only at hj ⊢
                rcases Nat.lt_or_ge j st.evs.length with h1 | h1
                · rw [evAt_old h1]
                  have := h.evs j h1
                  refine ⟨this.1, fun hr he => ?_⟩
                  by_cases hx : x = 0
                  · exact absurd he (hx0 j h1 hx hr)
                  · rw [if_neg hx]; exact this.2 hr he
                · obtain rfl : j = st.evs.length := by simp at hj; omega
                  rw [evAt_last]
                  exact ⟨by show 0 + 1 ≤ 2; omega, fun hr => absurd rfl hr⟩
              · simp only at hr
                by_cases hqr : q = r
                · subst hqr
                  rw [getD_set_eq (by rw [h.good.h16]; exact hq)] at hr
                  cases hr
                  refine ⟨c.a, rfl, ?_, ?_⟩
                  · rw [evAt_last]; rfl
                  · split
                    · omega
                    · assumption
                · rw [getD_set_neq hqr] at hr
                  obtain ⟨v', g1, g2, g3⟩ := h.hand r s' k' hr
                  have hkr := h.good.ev.hand r k' (by unfold hndOf; rw [hr]; rfl)
                  exact ⟨v', g1, by rw [evAt_old hkr.1]; exact g2, by rw [if_neg g3]; exact g3⟩
          · refine hrefuse 9 (by decide) ?_
            unfold startD; rw [if_pos ho]; exact cs_9 hk1 hk0
      · refine hrefuse 12 (by decide) ?_
        unfold startD; rw [if_neg ho]
theorem co_picks {calls : List CallD} (hthr : ∀ c, c < calls.length → 0 ≤ (calls.getD c d0).thread ∧ (calls.getD c d0).thread < 16) : ∀ (picks : List Int) {st : PlayD consS} {x : Nat}, CoInv calls st x → ∃ x', CoInv calls (picksD consS calls st picks) x'
  | [], _, x, h => ⟨x, h⟩
  | p :: ps, _, _, h => by
    obtain ⟨x', h'⟩ := co_pick hthr h p
    exact co_picks hthr ps h'
/-- The keys that are told at the end change nothing else. -/
theorem end_same {S : Sys} (st : PlayD S) (hl : ∀ o wd p s, S.late o wd p s = none) : ∀ (l : List Nat) (evs : List EvD), (l.foldl (endEv S st) evs).length = evs.length ∧ ∀ i, (evAt (l.foldl (endEv S st) evs) i).call = (evAt evs i).call ∧ (evAt (l.foldl (endEv S st) evs) i).inv = (evAt evs i).inv ∧ (evAt (l.foldl (endEv S st) evs) i).resp = (evAt evs i).resp ∧ (evAt (l.foldl (endEv S st) evs) i).steps = (evAt evs i).steps ∧ (evAt (l.foldl (endEv S st) evs) i).ans = (evAt evs i).ans
  | [], _ => ⟨rfl, fun _ => ⟨rfl, rfl, rfl, rfl, rfl⟩⟩
  | p :: l, evs => by
    rw [List.foldl_cons]
    obtain ⟨h1, h2⟩ := end_same st hl l (endEv S st evs p)
    have h3 : (endEv S st evs p).length = evs.length ∧ ∀ i, (evAt (endEv S st evs p) i).call = (evAt evs i).call ∧ (evAt (endEv S st evs p) i).inv = (evAt evs i).inv ∧ (evAt (endEv S st evs p) i).resp = (evAt evs i).resp ∧ (evAt (endEv S st evs p) i).steps = (evAt evs i).steps ∧ (evAt (endEv S st evs p) i).ans = (evAt evs i).ans := by
      unfold endEv
      split
      · exact ⟨rfl, fun _ => ⟨rfl, rfl, rfl, rfl, rfl⟩⟩
      · rename_i s k _
        refine ⟨by simp [modEv], fun i => ?_⟩
        rcases Nat.lt_or_ge k evs.length with hk | hk
        · unfold modEv
          rw [evAt_set _ hk]
          split
          · rename_i e; subst e; exact ⟨rfl, rfl, rfl, rfl, rfl⟩
          · exact ⟨rfl, rfl, rfl, rfl, rfl⟩
        · have : modEv evs k (fun e => { e with key := (S.late st.obj st.wd p s).getD (st.wd.marks.getD p []) }) = evs := by
            unfold modEv; exact List.set_eq_of_length_le hk
          rw [this]; exact ⟨rfl, rfl, rfl, rfl, rfl⟩
    refine ⟨h1.trans h3.1, fun i => ?_⟩
    have a := h2 i; have b := h3.2 i
    exact ⟨a.1.trans b.1, a.2.1.trans b.2.1, a.2.2.1.trans b.2.2.1, a.2.2.2.1.trans b.2.2.2.1, a.2.2.2.2.trans b.2.2.2.2⟩
theorem EvGood.len_le {calls : List CallD} {now : Nat} {fin : List Bool} {hnd : Nat → Option Nat} {evs : List EvD} (h : EvGood calls now fin hnd evs) : evs.length ≤ now := by
  have hi : ∀ i, i < evs.length → i + 1 ≤ (evAt evs i).inv := by
    intro i
    induction i with
    | zero => intro hi; have := (h.tick 0 hi).1; omega
    | succ i ih => intro hi; have h1 := ih (by omega); have h2 := h.rise i (i + 1) (by omega) hi; omega
  rcases Nat.eq_zero_or_pos evs.length with h0 | h0
  · omega
  · have h1 := hi (evs.length - 1) (by omega)
    have h2 := (h.tick (evs.length - 1) (by omega)).2.1
    omega
/-- What a play of proposals tells. -/
theorem co_play {calls : List CallD} (hthr : ∀ c, c < calls.length → 0 ≤ (calls.getD c d0).thread ∧ (calls.getD c d0).thread < 16) (picks : List Int) :
    (playD consS () [0] calls picks).evs.length ≤ picks.length ∧ ∃ x, (∀ i, i < (playD consS () [0] calls picks).evs.length → (evAt (playD consS () [0] calls picks).evs i).call < calls.length ∧ EvFits x (evAt (playD consS () [0] calls picks).evs i)) ∧ (x ≠ 0 → Proposed calls (playD consS () [0] calls picks).evs x) := by
  have h0 : CoInv calls (play0 consS () [0] calls) 0 := ⟨play0_good (S := consS) calls () [0], rfl, fun h => absurd rfl h, fun i hi => by simp [play0] at hi, fun p s k hk => by
    rw [show (play0 consS () [0] calls).hands.getD p (none, 0) = (none, 0) from getD_rep'] at hk; cases hk⟩
  obtain ⟨x, h⟩ := co_picks hthr picks h0
  obtain ⟨st1, hst1⟩ : ∃ st1, st1 = picksD consS calls (play0 consS () [0] calls) picks := ⟨_, rfl⟩
  rw [← hst1] at h
  have hE : (playD consS () [0] calls picks).evs = (List.range 16).foldl (endEv consS st1) st1.evs := by rw [hst1]; rfl
  obtain ⟨e1, e2⟩ := end_same st1 (fun _ _ _ _ => rfl) (List.range 16) st1.evs
  have htk := picks_ticks cons_now (play0 consS () [0] calls) picks (calls := calls)
  rw [← hst1] at htk
  rw [show (play0 consS () [0] calls).wd.now = 0 from rfl, show (play0 consS () [0] calls).idle = 0 from rfl] at htk
  rw [hE]
  refine ⟨by rw [e1]; have := h.good.ev.len_le; omega, x, fun i hi => ?_, fun hx => (h.prop hx).keep (by rw [e1]; exact Nat.le_refl _) (fun i _ => (e2 i).1)⟩
  rw [e1] at hi
  obtain ⟨a1, a2, a3, a4, a5⟩ := e2 i
  refine ⟨by rw [a1]; exact h.good.ev.call i hi, by rw [a4]; exact (h.evs i hi).1, fun hr he => ?_⟩
  rw [a3] at hr
  rw [a5] at he ⊢
  exact (h.evs i hi).2 hr he
end
end Go.Proofs.Ytjkgfkbanbhkgaa
