/- Layer 6: what a play hands out, in one form. -/
import Derived.Test.YteffgpcjfnjlkaaGreatK19
import Derived.Test.YteffgpcjfnjlkaaGreatK15
import Derived.Test.YteffgpcjfnjlkaaGreatK16
set_option maxRecDepth 100000
set_option linter.unusedVariables false
set_option linter.unusedSimpArgs false
set_option linter.unnecessarySimpa false
namespace Go.Proofs.YteffgpcjfnjlkaaGreat
section
open Go.RowKit
structure CallsAt (X : Nat → Prop) (w : World) (ca : Option Addr) (calls : List CallD) : Prop where
  sl : SlAt w ca calls.length 6 (callG calls)
  ok : ∀ x ∈ calls, CallOk x
  nx : 0 < calls.length → ∀ b off, ca = some ⟨b, off, none⟩ → ¬ X b
structure PicksAt (w : World) (pa : Option Addr) (picks : List Int) : Prop where
  sl : SlAt w pa picks.length 1 (intG picks)
  ok : ∀ x ∈ picks, (Lit.int .i64 x).wf = true
theorem CallsAt.grown {X : Nat → Prop} {w w' : World} {ca : Option Addr} {calls : List CallD} (h : CallsAt X w ca calls) (hb : Below w.heap.size w w') : CallsAt X w' ca calls := ⟨h.sl.grown hb, h.ok, h.nx⟩
theorem PicksAt.grown {w w' : World} {pa : Option Addr} {picks : List Int} (h : PicksAt w pa picks) (hb : Below w.heap.size w w') : PicksAt w' pa picks := ⟨h.sl.grown hb, h.ok⟩
def PlayRest (X : Nat → Prop) (w w' : World) (er : Int) (r : RepD) (ea : Option Addr) (en ec : Nat) (va : Option Addr) (vn vc : Nat) (rp : RepD) : Prop :=
  Below w.heap.size w w' ∧ ((er ≠ 0 ∧ ea = none ∧ en = 0 ∧ ec = 0 ∧ va = none ∧ vn = 0 ∧ vc = 0 ∧ rp = ⟨[], [], c0, 0, 0⟩) ∨
    (er = 0 ∧ rp = r ∧ en = r.evs.length ∧ vn = r.words.length ∧ ∃ ers, RepAt X w.heap.size w' (.slice ea en ec) (.slice va vn vc) ers r))
def PlayRet (X : Nat → Prop) (w w' : World) (er : Int) (r : RepD) (e : Ending) : Prop :=
  ∃ ea en ec va vn vc rp, e = .returned (.tuple #[repV (.slice ea en ec) (.slice va vn vc) rp, .int .i64 er]) ∧ PlayRest X w w' er r ea en ec va vn vc rp
theorem PlayTo.ret {X : Nat → Prop} {w w' : World} {er : Int} {r : RepD} {e : Ending} (h : PlayTo X w w' er r e) : PlayRet X w w' er r e := by
  obtain ⟨hb, ⟨h0, rfl⟩ | ⟨h0, ea, ec, va, vc, ers, rfl, hr⟩⟩ := h
  · exact ⟨none, 0, 0, none, 0, 0, _, rfl, hb, .inl ⟨h0, rfl, rfl, rfl, rfl, rfl, rfl, rfl⟩⟩
  · exact ⟨ea, _, ec, va, _, vc, r, by rw [h0], hb, .inr ⟨h0, rfl, rfl, rfl, ers, hr⟩⟩
theorem PlayRest.chg {X X' Q : Nat → Prop} {w0 w w' w'' : World} {er : Int} {r : RepD} {ea : Option Addr} {en ec : Nat} {va : Option Addr} {vn vc : Nat} {rp : RepD} (h : PlayRest X w w' er r ea en ec va vn vc rp) (hc : Chg Q w' w'') (hQ : ∀ b, Q b → X b ∧ w0.heap.size ≤ b ∧ b < w.heap.size) (h0 : Below w0.heap.size w0 w) (hX : ∀ b, X' b → X b) : PlayRest X' w0 w'' er r ea en ec va vn vc rp := by
  obtain ⟨hb, hr⟩ := h
  have hb1 : Chg (fun b => w0.heap.size ≤ b) w0 w'' := ((Chg.of_below h0).trans (show Chg (fun b => w0.heap.size ≤ b) w w' from ⟨hb.os, hb.tape, hb.output, hb.size, fun k hk _ => hb.block k hk⟩)).trans (hc.mono (fun b _ hq => (hQ b hq).2.1))
  refine ⟨hb1.below (fun b h => h) (Nat.le_refl _), ?_⟩
  rcases hr with hr | ⟨h1, h2, h3, h4, ers, h5⟩
  · exact .inl hr
  · exact .inr ⟨h1, h2, h3, h4, ers, (h5.chg hc (fun b hb => ⟨(hQ b hb).1, (hQ b hb).2.2⟩)).low h0.size hX⟩
theorem u64_info' : (Tryz.prog.info? 46).map (fun i => (i.zero, i.size, i.bytes)) = some (some (.int .u64 0), 1, 8) := by kernel_rfl
theorem make_one (u : World) : (Instr.makeSlice 28 (.int .i64 1) (.int .i64 1)).run Tryz.prog u = .ok (.slice (some ⟨u.heap.size, 0, none⟩) 1 1) (u.alloc (.cells (madeCells #[.int .u64 0] 1) 46)) := by
  obtain ⟨i0, hi, hz0, hz1, hz2⟩ := info_parts u64_info'
  have h := run_make (P := Tryz.prog) u 28 46 i0 (.int .u64 0) Tryz.underlying28 hi hz0 .i64 .i64 1 1 (by omega) (Int.le_refl _) (by rw [hz2]; omega) (by omega)
  simpa [hz1, Value.cells] using h
theorem made_cell (u : World) (o : Obj) (b : Nat) (hb : b = u.heap.size + 1) : ((u.alloc o).alloc (.cells (madeCells #[.int .u64 0] 1) 46)).cell? ⟨b, 0, none⟩ = some (.int .u64 0) := by
  have := cell_new (u.alloc o) (madeCells #[.int .u64 0] 1) 46 (0, 0) 0
  simp only [World.size_alloc] at this
  rw [hb, this, madeCells_one]; rfl
theorem objs_cell (u : World) (v : Value) (T : TypeId) (o : Obj) : ((u.alloc (.cells #[v] T)).alloc o).cell? ⟨u.heap.size, 0, none⟩ = some v := by
  rw [World.cell?_alloc_lt _ _ _ (by simp), cell_new]; rfl
theorem cell_new1 (u : World) (v : Value) (T : TypeId) : (u.alloc (.cells #[v] T)).cell? ⟨u.heap.size, 0, none⟩ = some v := by rw [cell_new]; rfl
theorem cell_new2 (u : World) (o : Obj) (v : Value) (T : TypeId) (b : Nat) (hb : b = u.heap.size + 1) : ((u.alloc o).alloc (.cells #[v] T)).cell? ⟨b, 0, none⟩ = some v := by
  have := cell_new (u.alloc o) #[v] T (0, 0) 0
  simp only [World.size_alloc] at this
  rw [hb, this]; rfl
theorem made_cell2 (u : World) (o : Obj) : ((u.alloc (.cells (madeCells #[.int .u64 0] 1) 46)).alloc o).cell? ⟨u.heap.size, 0, none⟩ = some (.int .u64 0) := by
  rw [World.cell?_alloc_lt _ _ _ (by simp), cell_new, madeCells_one]; rfl
theorem made_cell3 {u w1 : World} (hk : ∀ p : Addr, p.block < (u.alloc (.cells (madeCells #[.int .u64 0] 1) 46)).heap.size → w1.cell? p = (u.alloc (.cells (madeCells #[.int .u64 0] 1) 46)).cell? p) (o : Obj) (b : Nat) (hb : b = u.heap.size) (hs : (u.alloc (.cells (madeCells #[.int .u64 0] 1) 46)).heap.size ≤ w1.heap.size) : (w1.alloc o).cell? ⟨b, 0, none⟩ = some (.int .u64 0) := by
  have hlt : u.heap.size < (u.alloc (.cells (madeCells #[.int .u64 0] 1) 46)).heap.size := by simp
  rw [hb, World.cell?_alloc_lt _ _ _ (by simp only; omega), hk _ hlt, cell_new, madeCells_one]; rfl
theorem slOne {u : World} {b : Nat} (h : u.cell? ⟨b, 0, none⟩ = some (.int .u64 0)) : SlAt u (some ⟨b, 0, none⟩) 1 1 (u64G [0]) :=
  ⟨by unfold maxLen; simp, fun j hj => ⟨b, 0, rfl, World.block_lt_of_cell? _ _ h, fun f hf => by
    obtain rfl : j = 0 := by simpa using hj
    obtain rfl : f = 0 := by omega
    exact h⟩⟩
theorem Chg.setCells (b : Nat) : ∀ (vs : List Value) (o : Nat) (w : World), Chg (fun k => k = b) w (w.setCells b o vs)
  | [], _, w => Chg.refl _ w
  | v :: r, o, w => ((Chg.refl (fun k => k = b) w).setCell (p := ⟨b, o, none⟩) (.inl rfl) v).trans (Chg.setCells b r (o + 1) (w.setCell ⟨b, o, none⟩ v))
set_option maxHeartbeats 2000000 in
theorem rep_store (w : World) (b : Nat) (ev wv : Value) (r : RepD) (h : w.heap[b]? = some (.cells #[.slice none 0 0, .slice none 0 0, .int .i64 0, .int .i64 0, .int .i64 0, .int .i64 0, .int .i64 0, .int .i64 0, .int .i64 0] 32 (0, 0))) (h1 : ev.oneCell' = true) (h2 : wv.oneCell' = true) :
    ∃ (cs : Array Value) (w7 : World), repV ev wv r = .agg cs ∧ cs.size = 9 ∧ (storeCells ⟨b, 0, none⟩ cs.toList).run Tryz.prog w = .ok () w7 ∧ w7.heap[b]? = some (.cells cs 32 (0, 0)) ∧ Chg (fun k => k = b) w w7 := by
  refine ⟨#[ev, wv, .int .i64 (r.c.read : Int), .int .i64 (r.c.write : Int), .int .i64 (r.c.swap : Int), .int .i64 (r.c.add : Int), .int .i64 (r.c.fault : Int), .int .i64 (r.ticks : Int), .int .i64 (r.idle : Int)], _, rfl, rfl, run_storeCells_cells (P := Tryz.prog) b 0 _ 0 w (fun j hj => ?_) (fun j hj => frozen_blk h _) (fun v hv => ?_), ?_, ?_⟩
  · rw [cell_blk h]
    have : j < 9 := by simpa using hj
    rw [Array.getElem?_eq_getElem (by simpa using this)]; rfl
  · simp only [List.mem_cons, List.not_mem_nil, or_false] at hv
    rcases hv with rfl | rfl | rfl | rfl | rfl | rfl | rfl | rfl | rfl
    · exact h1
    · exact h2
    all_goals rfl
  · simp only [World.setCells, Nat.reduceAdd]
    rw [(blk_set (blk_set (blk_set (blk_set (blk_set (blk_set (blk_set (blk_set (blk_set h _ _) _ _) _ _) _ _) _ _) _ _) _ _) _ _) _ _)]
    simp only [List.setIfInBounds_toArray, List.set_cons_zero, List.set_cons_succ]
  · exact Chg.setCells b _ _ w
theorem rep_info : (Tryz.prog.info? 32).map (·.size) = some 9 := by kernel_rfl
theorem rep_load (w : World) (b : Nat) (cs : Array Value) (h : w.heap[b]? = some (.cells cs 32 (0, 0))) (hc : cs.size = 9) : (loadVar 32 ⟨b, 0, none⟩).run Tryz.prog w = .ok (.agg cs) w := by
  have := run_loadVar_mid (P := Tryz.prog) w b 0 32 cs.toList _ (fun j v hv => by rw [Nat.zero_add, cell_blk h]; simpa using hv) Tryz.underlying32 rfl (by rw [rep_info]; simp [hc])
  simpa using this
end
section

/- Layer 7: cons.Play. -/
open Go.RowKit
theorem cons_new (w : World) : Calls Tryz.prog 37 #[.int .i64 0] w fun e w' => e = .returned (.agg #[.int .i64 0]) ∧ Below w.heap.size w w' := by
  go_enter Tryz.func37, Tryz.ntmps37
  go_wp2
  exact bodyPost_ret (v := .agg #[.int .i64 0]) (by simp [results, Tryz.results37 , go_sem]) rfl ⟨rfl, Gr.new _ _⟩
set_option maxHeartbeats 4000000 in
theorem consPlay_any (X : Nat → Prop) (w : World) (n : Int) (calls : List CallD) (picks : List Int) (ca pa : Option Addr) (cc pc : Nat) (hX : ∀ b, X b → b < w.heap.size) (hc : CallsAt X w ca calls) (hp : PicksAt w pa picks) :
    Calls Tryz.prog 17 #[.int .i64 n, .slice ca calls.length cc, .slice pa picks.length pc] w fun e w' => PlayRet X w w' (checkN n calls picks.length) (playD consS () [0] calls picks) e := by
  obtain ⟨wa, hwa⟩ : ∃ wa, wa = w.alloc (.cells #[.slice none 0 0, .slice none 0 0, .int .i64 0, .int .i64 0, .int .i64 0, .int .i64 0, .int .i64 0, .int .i64 0, .int .i64 0] 32) := ⟨_, rfl⟩
  have hga : Below w.heap.size w wa := by rw [hwa]; exact Gr.new _ _
  have hra : wa.heap[w.heap.size]? = some (.cells #[.slice none 0 0, .slice none 0 0, .int .i64 0, .int .i64 0, .int .i64 0, .int .i64 0, .int .i64 0, .int .i64 0, .int .i64 0] 32 (0, 0)) := by rw [hwa]; exact heap_alloc_new _ _
  have hsa : w.heap.size < wa.heap.size := by rw [hwa]; simp
  have Hwa := Lib.hid hwa; have Hga := Lib.hid hga; have Hra := Lib.hid hra
  have P := Lib.hid (fun (u : World) (bo bw : Nat) (hu : Below wa.heap.size wa u) (h1 : u.cell? ⟨bo, 0, none⟩ = some (.iface 65 (.agg #[.int .i64 0]))) (h2 : u.cell? ⟨bw, 0, none⟩ = some (.int .u64 0)) (hbo : wa.heap.size ≤ bo) =>
    (play_any (X := fun b => X b ∨ b = w.heap.size) (R := consR) cons_ok cons_nolate (Nat.zero_le _) u () n calls [0] picks (.slice (some ⟨bo, 0, none⟩) 1 1) (.slice ca calls.length cc) (.slice (some ⟨bw, 0, none⟩) 1 1) pa pc
      ⟨⟨ca, cc, rfl, hc.sl.grown (Gr.trans hga hu), fun hl b off e hx => by
        rcases hx with hx | hx
        · exact hc.nx hl b off e hx
        · obtain ⟨b0, off0, e0, hb0⟩ := hc.sl.lt hl
          rw [e0] at e; cases e; omega⟩, hc.ok, ⟨bo, 0, 1, rfl, h1, fun hx => by rcases hx with hx | hx; have := hX bo hx; omega; omega⟩, ⟨_, 1, rfl, slOne h2, fun e => by cases e⟩, by simp, by simp, fun b hb => hb, fun _ _ => trivial, trivial, fun b hx => by have := hu.size; rcases hx with hx | hx; have := hX b hx; omega; omega⟩ (hp.sl.grown (Gr.trans hga hu)) hp.ok (fun _ _ _ _ _ => safe_of (fun _ _ _ _ => trivial) _ _ _)).mono (fun e w' h => (⟨PlayTo.ret h, hu⟩ : PlayRet (fun b => X b ∨ b = w.heap.size) u w' (checkN n calls picks.length) (playD consS () [0] calls picks) e ∧ Below wa.heap.size wa u)))
  have N := Lib.hid (fun (u : World) (h : Below wa.heap.size wa u) => (cons_new u).mono (fun e w' h' => (⟨h'.1, Gr.trans h h'.2, (fun p hp => h'.2.cell hp), h'.2.size⟩ : e = .returned (.agg #[.int .i64 0]) ∧ Below wa.heap.size wa w' ∧ (∀ p : Addr, p.block < u.heap.size → w'.cell? p = u.cell? p) ∧ u.heap.size ≤ w'.heap.size)))
  have hmk := make_one
  obtain ⟨er, her⟩ : ∃ er, er = checkN n calls picks.length := ⟨_, rfl⟩
  obtain ⟨rr, hrr⟩ : ∃ rr, rr = playD consS () [0] calls picks := ⟨_, rfl⟩
  rw [← her, ← hrr] at P ⊢
  clear hc hp hwa hga hra her hrr
  go_enter Tryz.func17, Tryz.ntmps17
  go_wp2_with fail
  rw [← Hwa.out]
  go_region_held3 (fun u => True)
    (exact True.intro)
    (first | (go_at_call 37; refine (N.out _ ?_).mono ?_; (first | exact (Gr.refl _).drew | exact Gr.alloc (Gr.refl _).drew _); rintro e w1 ⟨rfl, hb1, hk1⟩) | (go_at_call 32; refine (P.out _ _ _ ?_ ?_ ?_ ?_).mono ?_; (first | with_reducible exact Gr.alloc (Gr.alloc hb1 _) _ | with_reducible exact Gr.alloc hb1 _); (first | with_reducible exact objs_cell _ _ _ _ | exact cell_new2 _ _ _ _ _ (by simp) | with_reducible exact cell_new1 _ _ _); (first | with_reducible exact made_cell _ _ _ (by simp) | with_reducible exact made_cell2 _ _ | exact made_cell3 hk1.1 _ _ (by simp) hk1.2); (have := hb1.size; simp; omega); rintro e w4 ⟨⟨ea, en, ec, va, vn, vc, rp, rfl, hrest⟩, hu⟩; have hr4 := (hrest.1.block w.heap.size (by have := hu.size; omega)).trans ((hu.block w.heap.size (by omega)).trans Hra.out); obtain ⟨cs, w7, hcs, hsz, hst, hbk7, hch7⟩ := rep_store w4 w.heap.size (.slice ea en ec) (.slice va vn vc) rp hr4 rfl rfl; rw [hcs]; have Hcs := Lib.hid hcs; have Hbk7 := Lib.hid hbk7; have Hch7 := Lib.hid hch7; have Hrest := Lib.hid hrest; have Hu := Lib.hid hu; clear hr4 hrest hu hb1 hk1 hcs hbk7 hch7))
  all_goals
    go_wp2
    have hld := rep_load w7 w.heap.size cs Hbk7.out hsz
    refine bodyPost_ret (v := .tuple #[.agg cs, .int .i64 er]) (by simp [results, Tryz.results17 , Sem.run_bind, Sem.run_pure, asAddr, hld]) rfl ?_
    refine ⟨ea, en, ec, va, vn, vc, rp, by rw [Hcs.out], PlayRest.chg Hrest.out Hch7.out (fun b hb => ?_) (Gr.trans Hga.out Hu.out) (fun b hb => .inl hb)⟩
    have hb' : b = w.heap.size := hb
    exact ⟨.inr hb', by omega, by have := Hu.out.size; omega⟩
end
section

/- Layer 7: agreement, in plain numbers. -/
open Go.RowKit
def Proposed (calls : List CallD) (evs : List EvD) (x : Nat) : Prop := ∃ i, i < evs.length ∧ (calls.getD (evAt evs i).call d0).obj = 0 ∧ (calls.getD (evAt evs i).call d0).kind = 0 ∧ (calls.getD (evAt evs i).call d0).a + 1 = x
def EvFits (x : Nat) (e : EvD) : Prop := e.steps ≤ 2 ∧ (e.resp ≠ 0 → e.ans.err = 0 → e.ans.val + 1 = x)
structure CoInv (calls : List CallD) (st : PlayD consS) (x : Nat) : Prop where
  good : StGood calls st
  ws : st.wd.mem.ws = [x]
  prop : x ≠ 0 → Proposed calls st.evs x
  evs : ∀ i, i < st.evs.length → EvFits x (evAt st.evs i)
  hand : ∀ p s k, st.hands.getD p (none, 0) = (some s, k) → ∃ v, s = .prop v true ∧ (evAt st.evs k).steps = 1 ∧ x ≠ 0
theorem Proposed.keep {calls : List CallD} {evs evs' : List EvD} {x : Nat} (h : Proposed calls evs x) (hl : evs.length ≤ evs'.length) (hc : ∀ i, i < evs.length → (evAt evs' i).call = (evAt evs i).call) : Proposed calls evs' x := by
  obtain ⟨i, h1, h2⟩ := h
  exact ⟨i, by omega, by rw [hc i h1]; exact h2⟩
theorem evAt_old {l : List EvD} {e : EvD} {i : Nat} (h : i < l.length) : evAt (l ++ [e]) i = evAt l i := getD_snoc_lt h
theorem evAt_last {l : List EvD} {e : EvD} : evAt (l ++ [e]) l.length = e := getD_snoc_eq
theorem cons_now : ∀ (o : consS.ω) (wd : WD) (p : Nat) (s : consS.σ), (consS.step o wd p s).2.1.now = wd.now := by
  intro o wd p s
  match s with
  | .once c r => rfl
  | .prop v false => rfl
  | .prop v true => rfl
end
section

/- Layer 6: what one pick does to a play, case by case, in plain numbers. -/
open Go.RowKit
variable {S : Sys}
def ev1 (S : Sys) (r : S.ω × WD × S.σ × Bool) (q : Nat) (e : EvD) : EvD := if r.2.2.2 then finishEv r.2.1 q (S.answer r.2.2.1).1 (S.answer r.2.2.1).2 e else stepEv e
def stepTo (st : PlayD S) (r : S.ω × WD × S.σ × Bool) (q i k : Nat) (evs0 : List EvD) : PlayD S :=
  { wd := r.2.1, obj := r.1, fin := if r.2.2.2 then st.fin.set i true else st.fin, hands := st.hands.set q (if r.2.2.2 then none else some r.2.2.1, k), evs := evs0.set k (ev1 S r q (evAt evs0 k)), idle := st.idle }
def refuseTo (st : PlayD S) (q i : Nat) (er : Int) : PlayD S :=
  { wd := st.wd.tick.begin q, obj := st.obj, fin := st.fin.set i true, hands := st.hands.set q (none, st.evs.length), evs := st.evs ++ [finishEv (st.wd.tick.begin q) q ⟨er, 0, []⟩ [] (newEv i (st.wd.tick.begin q))], idle := st.idle }
inductive From (calls : List CallD) (st : PlayD S) (q i : Nat) : Nat → S.σ → List EvD → WD → Prop where
  | old (k : Nat) (s : S.σ) (hh : st.hands.getD q (none, 0) = (some s, k)) (hk : k < st.evs.length) (hc : (evAt st.evs k).call = i) (hr : (evAt st.evs k).resp = 0) : From calls st q i k s st.evs st.wd.tick
  | new (s : S.σ) (hh : (st.hands.getD q (none, 0)).1 = none) (hs : startD S st.obj (st.wd.tick.begin q) q (calls.getD i d0) = .run s) : From calls st q i st.evs.length s (st.evs ++ [newEv i (st.wd.tick.begin q)]) (st.wd.tick.begin q)
inductive Turn (calls : List CallD) (st : PlayD S) : PlayD S → Prop where
  | idle : Turn calls st { st with idle := st.idle + 1 }
  | refuse (q i : Nat) (er : Int) (hq : q < 16) (hN : nowN calls st.fin (q : Int) = some i) (hh : (st.hands.getD q (none, 0)).1 = none) (hs : startD S st.obj (st.wd.tick.begin q) q (calls.getD i d0) = .refuse er) : Turn calls st (refuseTo st q i er)
  | step (q i k : Nat) (s : S.σ) (evs0 : List EvD) (wd0 : WD) (hq : q < 16) (hN : nowN calls st.fin (q : Int) = some i) (hf : From calls st q i k s evs0 wd0) : Turn calls st (stepTo st (S.step st.obj wd0 q s) q i k evs0)
theorem goStep_to {st0 st : PlayD S} {q i k : Nat} {s : S.σ} {evs0 : List EvD} (ho : st0.obj = st.obj) (he : st0.evs = evs0) (hh : st0.hands.set q (none, k) = st.hands.set q (none, k)) (hh2 : ∀ x, st0.hands.set q (some x, k) = st.hands.set q (some x, k)) (hf : st0.fin = st.fin) (hi : st0.idle = st.idle) :
    (if (goStep S st0 q k s).2 then { (goStep S st0 q k s).1 with fin := (goStep S st0 q k s).1.fin.set i true } else (goStep S st0 q k s).1) = stepTo st (S.step st.obj st0.wd q s) q i k evs0 := by
  unfold goStep stepTo ev1
  simp only
  rw [ho]
  cases hd : (S.step st.obj st0.wd q s).2.2.2 with
  | true => simp only [if_true, hh, hf, hi, modEv]; rw [he]; rfl
  | false => simp only [Bool.false_eq_true, if_false, hh2, hf, hi, modEv]; rw [he]; rfl
theorem pick_turn {calls : List CallD} (hthr : ∀ c, c < calls.length → 0 ≤ (calls.getD c d0).thread ∧ (calls.getD c d0).thread < 16) {st : PlayD S} (h : StGood calls st) (p : Int) : Turn calls st (pickD S calls st p) := by
  cases hN : nowN calls st.fin p with
  | none =>
    have hp : pickD S calls st p = { st with idle := st.idle + 1 } := by unfold pickD; rw [hN]
    rw [hp]; exact .idle
  | some i =>
    obtain ⟨n1, n2, n3⟩ := nowN_spec hN
    obtain ⟨t1, t2⟩ := hthr i n1
    obtain ⟨q, rfl⟩ : ∃ q : Nat, p = (q : Int) := ⟨p.toNat, by omega⟩
    have hq : q < 16 := by omega
    have hp : pickD S calls st (q : Int) = if (stepD S calls st q i).2 then { (stepD S calls st q i).1 with fin := (stepD S calls st q i).1.fin.set i true } else (stepD S calls st q i).1 := by unfold pickD; rw [hN]; rfl
    rw [hp]
    cases hs : (st.hands.getD q (none, 0)).1 with
    | some s =>
      obtain ⟨k, hk⟩ : ∃ k, k = (st.hands.getD q (none, 0)).2 := ⟨_, rfl⟩
      have hh : hndOf st.hands q = some k := by unfold hndOf; rw [hs, hk]; rfl
      obtain ⟨k1, k2, k3, k4⟩ := h.ev.hand q k hh
      have hst : stepD S calls st q i = goStep S { st with wd := st.wd.tick } q k s := by unfold stepD; rw [hs]; simp only; rw [← hk]
      rw [hst]
      exact (congrArg (Turn calls st) (goStep_to (i := i) (st0 := { st with wd := st.wd.tick }) (st := st) (q := q) (k := k) (s := s) (evs0 := st.evs) rfl rfl rfl (fun _ => rfl) rfl rfl)).mpr
        (.step q i k s st.evs st.wd.tick hq hN (.old k s (Prod.ext hs hk.symm) k1 (by rw [hN] at k4; cases k4; rfl) k3))
    | none =>
      cases hst : startD S st.obj (st.wd.tick.begin q) q (calls.getD i d0) with
      | refuse e =>
        have hst2 : stepD S calls st q i = ({ st with wd := st.wd.tick.begin q, hands := st.hands.set q (none, st.evs.length), evs := st.evs ++ [finishEv (st.wd.tick.begin q) q ⟨e, 0, []⟩ [] (newEv i (st.wd.tick.begin q))] }, true) := by
          unfold stepD; rw [hs]; simp only; rw [hst]
        rw [hst2]
        exact .refuse q i e hq hN hs hst
      | run s =>
        have hst2 : stepD S calls st q i = goStep S { st with wd := st.wd.tick.begin q, hands := st.hands.set q (some s, st.evs.length), evs := st.evs ++ [newEv i (st.wd.tick.begin q)] } q st.evs.length s := by
          unfold stepD; rw [hs]; simp only; rw [hst]
        rw [hst2]
        exact (congrArg (Turn calls st) (goStep_to (i := i) (st0 := { st with wd := st.wd.tick.begin q, hands := st.hands.set q (some s, st.evs.length), evs := st.evs ++ [newEv i (st.wd.tick.begin q)] }) (st := st) (q := q) (k := st.evs.length) (s := s) (evs0 := st.evs ++ [newEv i (st.wd.tick.begin q)]) rfl rfl (by simp [List.set_set]) (fun _ => by simp [List.set_set]) rfl rfl)).mpr
          (.step q i st.evs.length s _ _ hq hN (.new s hs hst))
theorem picks_ind {calls : List CallD} (hnow : ∀ o wd p s, (S.step o wd p s).2.1.now = wd.now) (hthr : ∀ c, c < calls.length → 0 ≤ (calls.getD c d0).thread ∧ (calls.getD c d0).thread < 16) {J : PlayD S → Prop}
    (hJ : ∀ st st', StGood calls st → StGood calls st' → J st → Turn calls st st' → J st') : ∀ (picks : List Int) {st : PlayD S}, StGood calls st → J st → StGood calls (picksD S calls st picks) ∧ J (picksD S calls st picks)
  | [], _, hg, h => ⟨hg, h⟩
  | p :: ps, _, hg, h => picks_ind hnow hthr hJ ps (pick_good hnow hthr hg p) (hJ _ _ hg (pick_good hnow hthr hg p) h (pick_turn hthr hg p))
theorem From.len {calls : List CallD} {st : PlayD S} {q i k : Nat} {s : S.σ} {evs0 : List EvD} {wd0 : WD} (h : From calls st q i k s evs0 wd0) : k < evs0.length := by
  cases h with
  | old k s hh hk hc hr => exact hk
  | new s hh hs => simp
theorem From.call {calls : List CallD} {st : PlayD S} {q i k : Nat} {s : S.σ} {evs0 : List EvD} {wd0 : WD} (h : From calls st q i k s evs0 wd0) : (evAt evs0 k).call = i := by
  cases h with
  | old k s hh hk hc hr => exact hc
  | new s hh hs => rw [evAt_last]; rfl
theorem From.open_ {calls : List CallD} {st : PlayD S} {q i k : Nat} {s : S.σ} {evs0 : List EvD} {wd0 : WD} (h : From calls st q i k s evs0 wd0) : (evAt evs0 k).resp = 0 := by
  cases h with
  | old k s hh hk hc hr => exact hr
  | new s hh hs => rw [evAt_last]; rfl
theorem From.now {calls : List CallD} {st : PlayD S} {q i k : Nat} {s : S.σ} {evs0 : List EvD} {wd0 : WD} (h : From calls st q i k s evs0 wd0) : wd0.now = st.wd.now + 1 := by
  cases h <;> rfl
theorem From.mem {calls : List CallD} {st : PlayD S} {q i k : Nat} {s : S.σ} {evs0 : List EvD} {wd0 : WD} (h : From calls st q i k s evs0 wd0) : wd0.mem = st.wd.mem := by
  cases h <;> rfl
theorem From.traces {calls : List CallD} {st : PlayD S} {q i k : Nat} {s : S.σ} {evs0 : List EvD} {wd0 : WD} (h : From calls st q i k s evs0 wd0) : wd0.traces = st.wd.traces := by
  cases h <;> rfl
theorem From.obj {calls : List CallD} {st : PlayD S} {q i k : Nat} {s : S.σ} {evs0 : List EvD} {wd0 : WD} (h : From calls st q i k s evs0 wd0) : st.evs.length ≤ evs0.length ∧ ∀ j, j < st.evs.length → evAt evs0 j = evAt st.evs j := by
  cases h with
  | old k s hh hk hc hr => exact ⟨Nat.le_refl _, fun _ _ => rfl⟩
  | new s hh hs => exact ⟨by simp, fun j hj => evAt_old hj⟩
theorem From.other {calls : List CallD} {st : PlayD S} {q i k : Nat} {s : S.σ} {evs0 : List EvD} {wd0 : WD} (h : From calls st q i k s evs0 wd0) (e : EvD) {j : Nat} (hj : j < (evs0.set k e).length) (hjk : j ≠ k) : j < st.evs.length ∧ evAt (evs0.set k e) j = evAt st.evs j := by
  rw [List.length_set] at hj
  rw [evAt_set _ h.len, if_neg hjk]
  cases h with
  | old k s hh hk hc hr => exact ⟨hj, rfl⟩
  | new s hh hs =>
    have : j < st.evs.length := by simp at hj; omega
    exact ⟨this, evAt_old this⟩
theorem From.size {calls : List CallD} {st : PlayD S} {q i k : Nat} {s : S.σ} {evs0 : List EvD} {wd0 : WD} (h : From calls st q i k s evs0 wd0) (e : EvD) : st.evs.length ≤ (evs0.set k e).length := by rw [List.length_set]; exact h.obj.1
end
end Go.Proofs.YteffgpcjfnjlkaaGreat
