/- A tally in the reference's play: what its function does. -/
import Derived.Test.YteffgpcjfnjlkaaGreatT40
import Derived.Test.YteffgpcjfnjlkaaGreatT41
set_option maxRecDepth 100000
set_option linter.unusedVariables false
set_option linter.unusedSimpArgs false
set_option linter.unnecessarySimpa false
namespace Go.Proofs.YteffgpcjfnjlkaaGreat
open List renaming getElem_toArray → zq1, getElem_cons_zero → zq2, getElem_cons_succ → zq3, setIfInBounds_toArray → zq4, set_cons_zero → zq5, set_cons_succ → zq6
open Go.RowKit
variable {B : RBase} {w w' : World} {t : TapeP} {r : RWD}
theorem trace_w (h : RAt B w t r) (p : Nat) (hp : p < r.traces.length) (hn : p ≤ 1000000) : Calls Tryz.prog 109 #[.pointer (some ⟨B.I.tb, B.I.pre.length, none⟩), .int .i64 (p : Int)] w fun e w' => ∃ xa xc, e = .returned (.slice xa (traceP (p : Int) r).length xc) ∧ w = w' ∧ SlAt w xa (traceP (p : Int) r).length 1 (intG (traceP (p : Int) r)) := by
 have ht : traceP (p : Int) r = r.traces.getD p [] := by unfold traceP; rw [if_neg (by omega)]; rfl
 rw [ht]
 obtain ⟨⟨bW, hbW, g1, _, g2⟩, _, g3⟩ := h.world
 clear hbW
 obtain ⟨⟨x, g4, g6⟩, g5⟩ := g3 p hp
 obtain ⟨_, _, _, _, _, xa, xc, rfl, _, hsl, _⟩ := g6
 obtain ⟨n, hne⟩ : ∃ n, n = r.traces.length := ⟨_, rfl⟩
 rw [← hne] at g2
 have l1 : (p : Int) < (n : Int) := by omega
 have l2 : ¬ (p : Int) < 0 := by omega
 have l3 : IntKind.i64.wrap (p : Int) = (p : Int) := by rw [IntKind.wrap_i64]; omega
 have l5 : ¬ (n : Int) ≤ (p : Int) := by omega
 obtain ⟨xn, hxn⟩ : ∃ xn, xn = (r.traces.getD p []).length := ⟨_, rfl⟩
 rw [← hxn] at g4
 have HH := Lib.hid hsl
 suffices main : Calls Tryz.prog 109 #[.pointer (some ⟨B.I.tb, B.I.pre.length, none⟩), .int .i64 (p : Int)] w fun e w' => e = .returned (.slice xa xn xc) ∧ w = w' by
  refine Calls.mono main ?_
  rintro e w' ⟨rfl, rfl⟩
  exact ⟨xa, xc, by rw [hxn], rfl, HH.out⟩
 clear hne h g3 g5 hsl hp ht hn HH hxn
 go_enter Tryz.func109, Tryz.ntmps109
 go_wp2
 go_ret
 exact ⟨rfl, rfl⟩
set_option maxHeartbeats 1000000 in
theorem note_w {v : Value} {l : List Int} (h : RAtL B w t r v l) (p : Nat) (hp : p < r.traces.length) (hn : p ≤ 1000000) : Calls Tryz.prog 108 #[.pointer (some ⟨B.I.tb, B.I.pre.length, none⟩), .int .i64 (p : Int), v] w fun e w' => e = .returned (.tuple #[]) ∧ RAt B w' t (noteP (p : Int) l t r) := by
 rw [noteP_of p l hp]
 obtain ⟨va, vc, rfl⟩ : ∃ a c, v = .slice a l.length c := by obtain ⟨_, _, _, _, _, a, c, e, _⟩ := h; exact ⟨a, c, e⟩
 obtain ⟨vn, hvn⟩ : ∃ vn, vn = l.length := ⟨_, rfl⟩
 rw [← hvn] at h ⊢
 clear hvn
 have JC := just_r h.at
 obtain ⟨n, hne⟩ : ∃ n, n = r.traces.length := ⟨_, rfl⟩
 have hp0 := hp
 have hp' : p < n := by omega
 have l1 : (p : Int) < (n : Int) := by omega
 have l2 : ¬ (p : Int) < 0 := by omega
 have l3 : IntKind.i64.wrap (p : Int) = (p : Int) := by rw [IntKind.wrap_i64]; omega
 have l4 : (0 : Int) ≤ (p : Int) := by omega
 cases hj : justP t with
 | false =>
  rw [hj] at JC
  have HJ := Lib.hid JC; have HH := Lib.hid h
  rw [if_neg (by exact Bool.false_ne_true)]
  clear JC h hj hne hp hp0
  go_enter Tryz.func108, Tryz.ntmps108
  go_wp2_with (go_at_call 131; refine (HJ.out).mono ?_; rintro e w1 ⟨rfl, hb⟩)
  (first | go_end0 | ((try simp only [Exit.inBlock, Exit.then]); refine bodyPost_ret (results_none rfl _ _ _) rfl ?_))
  exact ⟨rfl, HH.out.at.grown hb⟩
 | true =>
  rw [hj] at JC
  have keep : ∀ u, Below w.heap.size w u → ∃ bW x, u.cell? ⟨B.I.tb, B.I.pre.length, none⟩ = some (.pointer (some ⟨bW, 0, none⟩)) ∧ u.cell? ⟨bW, 8, none⟩ = some (.slice (some ⟨B.I.bT, 0, none⟩) n n) ∧ u.cell? ⟨B.I.bT, p, none⟩ = some x ∧ u.frozen? ⟨B.I.bT, p, none⟩ = false ∧ RAt B (u.setCell ⟨B.I.bT, p, none⟩ (.slice va vn vc)) t { r with traces := r.traces.set p l } := fun u hu => by
   have h9 := h.grown hu
   obtain ⟨⟨bW, _, g1, _, g2⟩, _, g3⟩ := h9.at.world
   obtain ⟨⟨x, g4, _⟩, g5⟩ := g3 p hp0
   exact ⟨bW, x, g1, by rw [g2, hne], g4, g5, h9.putTrace p⟩
  have HJ := Lib.hid JC; have HK := Lib.hid keep
  rw [if_pos rfl]
  clear JC h hj hne keep hp hp0
  go_enter Tryz.func108, Tryz.ntmps108
  go_wp2_with (go_at_call 131; refine HJ.out.mono ?_; rintro e w1 ⟨rfl, hb⟩; obtain ⟨bW, x, g1, g2, g4, g5, g6⟩ := HK.out w1 hb)
  (first | go_end0 | ((try simp only [Exit.inBlock, Exit.then]); refine bodyPost_ret (results_none rfl _ _ _) rfl ?_))
  exact ⟨rfl, g6⟩
theorem accP_val (kd a : Int) (x y : Nat) (t : TapeP) (r : RWD) : (accP kd a x y t r).2.1.val = t.val := by
 unfold accP
 split
 ·rfl
 ·split
  ·rfl
  ·split <;> rfl
theorem rtaL_bnd {t : TapeP} {r : RWD} (h : Bnd t r) (hv : t.val = 0) : ∀ n, (rtaL n t r).1.val ≤ n * 1000000 ∧ Bnd (rtaL n t r).1 (rtaL n t r).2
 | 0 => ⟨by show t.val ≤ _; omega, h⟩
 | n + 1 => by
  rw [rtaL_succ]
  obtain ⟨h1, h2⟩ := rtaL_bnd h hv n
  obtain ⟨h3, h4⟩ := h2.read (n : Int)
  exact ⟨by show (rtaL n t r).1.val + (accP 0 (n : Int) 0 0 (rtaL n t r).1 (rtaL n t r).2).1 ≤ _; omega, h4⟩
structure TallyPre (_ : CallD) (t : TapeP) (r : RWD) : Prop where
 bnd : Bnd t r
 val : t.val = 0
 thr : t.thread < 16
 tl : 0 < r.traces.length
 trl : (traceP 0 r).length ≤ 900000
 tr : ∀ x, x ∈ traceP 0 r → 0 ≤ x ∧ x ≤ 1000000
 inv : t.inv ≤ 1000000
 now : r.now ≤ 1000000
 ticks : ∀ x, x ∈ t.ticks → 0 ≤ x ∧ x ≤ 1000000
def whenK (T : List Int) (iv s k : Nat) : Int := if 0 < s ∧ s ≤ k then max (iv : Int) (T.getD (s - 1) 0) else (iv : Int)
theorem row_to_sl {w : World} {z g vc : Nat} {l : List Int} (h : w.ownsRow z 3 1 (.slice (some ⟨g, 0, none⟩) l.length vc) l.length (l.map (Value.int .i64))) (hl : l.length ≤ 1000001) : SlAt w (some ⟨g, 0, none⟩) l.length 1 (intG l) ∧ z ≤ g := by
 obtain ⟨h1, h2⟩ := row_sl h (by unfold maxLen; omega) (g := intG l) (fun j hj => by simp [intG, List.getD_eq_getElem?_getD, hj])
 exact ⟨h1, h2 g 0 rfl⟩
theorem traceP_eq {r r' : RWD} (h : r'.traces = r.traces) (a : Int) : traceP a r' = traceP a r := by unfold traceP; rw [h]
/- One that counts. -/
set_option maxHeartbeats 4000000 in
theorem rtally_0 (n : Nat) (c : CallD) (h0 : c.kind = 0) (h : RAt B w t r) (hpre : TallyPre c t r) :
  Calls Tryz.prog 80 #[.pointer (some ⟨B.I.tb, B.I.pre.length, none⟩), .int .i64 (n : Int), .int .i64 0, .agg #[.int .i64 c.thread, .int .i64 0, .int .i64 0, .int .u64 (c.a : Int), .int .u64 (c.b : Int), .int .u64 (c.c : Int)]] w fun e u => e = .returned (.tuple #[]) ∧ RAt B u (rtallyDo n c t r).1 (rtallyDo n c t r).2 := by
 obtain ⟨wb, hwb⟩ : ∃ wb, wb = w.alloc (.cells #[.int .i64 c.thread, .int .i64 0, .int .i64 0, .int .u64 (c.a : Int), .int .u64 (c.b : Int), .int .u64 (c.c : Int)] 48) := ⟨_, rfl⟩
 have hg : Below w.heap.size w wb := by rw [hwb]; exact Gr.new _ _
 have hC : wb.heap[w.heap.size]? = some (.cells #[.int .i64 c.thread, .int .i64 0, .int .i64 0, .int .u64 (c.a : Int), .int .u64 (c.b : Int), .int .u64 (c.c : Int)] 48 (0, 0)) := by rw [hwb]; exact heap_alloc_new _ _
 have hA := h.grown hg
 have q2 : wb.cell? ⟨w.heap.size, 2, none⟩ = some (.int .i64 0) := by rw [cell_blk hC]; rfl
 obtain ⟨p, hp⟩ : ∃ p, p = t.thread := ⟨_, rfl⟩
 have x1 : wb.cell? ⟨B.I.tb, B.I.pre.length + 1, none⟩ = some (.int .i64 (p : Int)) := by rw [hA.cThread, hp]
 have lp : IntKind.i64.wrap (p : Int) = (p : Int) := by have := hpre.thr; rw [IntKind.wrap_i64]; omega
 obtain ⟨Z, hZ⟩ : ∃ Z, Z = accP 0 (p : Int) 0 0 t r := ⟨_, rfl⟩
 have A1 := tread_r hA (p : Int)
 have R1 := Runs.acc 0 (p : Int) 0 0 t r
 have B1 := hpre.bnd.read (p : Int)
 have T1 := (accP_tlen 0 (p : Int) 0 0 t r).1
 have K1 := accP_ticks 0 (p : Int) 0 0 t r
 rw [← hZ] at A1 R1 B1 T1 K1
 have hT : rtallyDo n c t r = rtaNote (accP 1 (p : Int) (Z.1 + 1) 0 Z.2.1 Z.2.2).2 := by unfold rtallyDo; rw [if_pos h0, hZ, hp]
 obtain ⟨v1, t1, r1⟩ := Z
 simp only at A1 R1 B1 T1 hT K1
 have lv : IntKind.u64.wrap ((v1 : Int) + 1) = (v1 : Int) + 1 := by have := B1.1; rw [IntKind.wrap_u64]; omega
 obtain ⟨Z2, hZ2⟩ : ∃ Z2, Z2 = accP 1 (p : Int) (v1 + 1) 0 t1 r1 := ⟨_, rfl⟩
 have R2 := R1.trans (Runs.acc 1 (p : Int) (v1 + 1) 0 t1 r1)
 have T2 := ((accP_tlen 1 (p : Int) (v1 + 1) 0 t1 r1).1).trans T1
 have K2 := accP_ticks 1 (p : Int) (v1 + 1) 0 t1 r1
 have A2 := Lib.hid (fun (u : World) (hu : RAt B u t1 r1) => twrite_r hu (p : Int) (v1 + 1) (by have := B1.1; omega))
 rw [← hZ2] at hT R2 T2 K2 A2
 obtain ⟨v2, t2, r2⟩ := Z2
 simp only at hT R2 T2 K2 A2
 have e9 : ((v1 + 1 : Nat) : Int) = (v1 : Int) + 1 := by omega
 rw [e9] at A2
 have hla : 0 ≤ lastP t2 ∧ lastP t2 ≤ 1000000 := lastP_le (by rw [R2.inv]; exact hpre.inv) (fun x hx => by
  rcases K2 x hx with h | h
  ·rcases K1 x h with h | h
   ·exact hpre.ticks x h
   ·rw [h]; have := hpre.now; omega
  ·rw [h, R1.now]; have := hpre.now; omega)
 obtain ⟨la, hlae⟩ : ∃ la, la = lastP t2 := ⟨_, rfl⟩
 obtain ⟨tr, htr⟩ : ∃ tr, tr = traceP 0 r2 := ⟨_, rfl⟩
 have htrl : tr.length ≤ 900000 := by rw [htr, traceP_eq T2]; exact hpre.trl
 have htl : 0 < r2.traces.length ∧ True := by rw [T2]; exact ⟨hpre.tl, trivial⟩
 have hR : rtallyDo n c t r = (t2, noteP 0 (tr ++ [la]) t2 r2) := by rw [hT, htr, hlae]; rfl
 have LS := Lib.hid (fun (u : World) (hu : RAt B u t2 r2) => (by (have h9 := last_r hu); rw [← hlae] at h9; exact h9 : Calls Tryz.prog 107 #[.pointer (some ⟨B.I.tb, B.I.pre.length, none⟩)] u (fun e w' => e = .returned (.int .i64 la) ∧ Below u.heap.size u w')))
 have TR := Lib.hid (fun (u : World) (hu : RAt B u t2 r2) => (by (have h9 := trace_w hu 0 htl.1 (Nat.zero_le _)); rw [show traceP ((0 : Nat) : Int) r2 = tr from htr.symm] at h9; exact h9 : Calls Tryz.prog 109 #[.pointer (some ⟨B.I.tb, B.I.pre.length, none⟩), .int .i64 0] u (fun e w' => ∃ xa xc, e = .returned (.slice xa tr.length xc) ∧ u = w' ∧ SlAt u xa tr.length 1 (intG tr))))
 have NT := Lib.hid (fun (u u' : World) (hu : RAt B u t2 r2) (hb : Below u.heap.size u u') (g vc : Nat) (ho : u'.ownsRow u.heap.size 3 1 (.slice (some ⟨g, 0, none⟩) (tr ++ [la]).length vc) (tr ++ [la]).length ((tr ++ [la]).map (Value.int .i64))) =>
  (note_w (v := .slice (some ⟨g, 0, none⟩) (tr ++ [la]).length vc) (l := tr ++ [la]) (hu.newL hb (row_to_sl ho (by simp; omega)).1 (fun e => by simp at e) (fun b off e => by cases e; exact (row_to_sl ho (by simp; omega)).2)) 0 htl.1 (Nat.zero_le _) :
   Calls Tryz.prog 108 #[.pointer (some ⟨B.I.tb, B.I.pre.length, none⟩), .int .i64 0, .slice (some ⟨g, 0, none⟩) (tr ++ [la]).length vc] u' (fun e w' => e = .returned (.tuple #[]) ∧ RAt B w' t2 (noteP 0 (tr ++ [la]) t2 r2))))
 have A1' := Lib.hid A1
 rw [hR]
 have Hwb := Lib.hid hwb; have HT1 := Lib.hid R1.thread; have Hp := Lib.hid hp; have Htrl := Lib.hid htrl
 clear hwb hg hC h hA hpre hZ A1 R1 B1 T1 K1 hT hZ2 R2 T2 K2 e9 hla hlae htr htrl htl hR hp h0
 go_enter Tryz.func80, Tryz.ntmps80
 go_upto_region 1 with fail
 rw [← Hwb.out]
 go_upto_region 3 with (go_at_call 102; refine A1'.out.mono ?_; rintro e w2 ⟨rfl, h2⟩)
 have x2 : w2.cell? ⟨B.I.tb, B.I.pre.length + 1, none⟩ = some (.int .i64 (p : Int)) := by rw [h2.cThread, HT1.out, Hp.out]
 go_upto_region 4 with (go_at_call 103; refine (A2.out _ h2).mono ?_; rintro e w3 ⟨rfl, h3⟩)
 obtain ⟨w4, hw4⟩ : ∃ w4, w4 = w3.alloc (.cells #[] 3) := ⟨_, rfl⟩
 have hb4 : Below w3.heap.size w3 w4 := by rw [hw4]; exact Gr.new _ _
 have hz4 : w4.heap[w3.heap.size]? = some (.cells #[] 3 (0, 0)) := by rw [hw4]; exact heap_alloc_new _ _
 have h4 := h3.grown hb4
 have T4 := TR.out w4 h4
 have Hw4 := Lib.hid hw4; have H3 := Lib.hid h3; have Hb4 := Lib.hid hb4; have Hz4 := Lib.hid hz4; have HT4 := Lib.hid T4
 clear hw4 h3 h4 hb4 hz4 T4 x1 x2 q2 h2
 go_wp2_with fail
 rw [← Hw4.out]
 refine HT4.out.mono ?_
 rintro e w5 ⟨xa, xc, rfl, rfl, hsl⟩
 have ltr : tr.length ≤ 1000000 := by have := Htrl.out; omega
 go_wp2_with (at_builtin; refine wpList_copy_ints rfl _ _ rfl w3.heap.size Hz4.out xa xc tr ltr rfl rfl hsl ?_; intro g1 vc1 w6 hown1 hb6)
 have h36 : Below w3.heap.size w3 w6 := Hb4.out.trans hb6
 have L6 := Lib.hid (LS.out _ (H3.out.grown h36))
 clear hsl HT4 Hz4 Hb4 Hw4
 refine L6.out.mono ?_
 rintro e w7 ⟨rfl, hb7⟩
 have s6 := h36.size
 have s7 := hb7.size
 have h37 : Below w3.heap.size w3 w7 := h36.trans (hb7.mono s6)
 have hown7 := row_below hown1 hb7
 have H7 := Lib.hid hown7; have H37 := Lib.hid h37
 clear hown1 hb6 hb7 L6 h36 h37 hown7
 go_wp2_with (at_builtin; refine wpList_snoc_int rfl _ _ rfl w3.heap.size _ tr ltr rfl (row_below H7.out (Gr.new _ _)) (by simp; omega) w7.heap.size la rfl (heap_alloc_new _ _) ?_; intro g2 vc2 w8 hown2 hb8; obtain ⟨N, hN⟩ : ∃ N, N = (tr ++ [la]).length := ⟨_, rfl⟩; rw [← hN]; have HN := Lib.hid hN; clear hN)
 have N8 := Lib.hid (NT.out w3 w8 H3.out ((H37.out.trans ((Gr.new w7 _).mono (by omega))).trans hb8) g2 vc2 hown2)
 rw [← HN.out] at N8
 clear hown2 hb8
 refine N8.out.mono ?_
 rintro e w9 ⟨rfl, h9⟩
 go_wp2
 (first | go_end0 | ((try simp only [Exit.inBlock, Exit.then]); refine bodyPost_ret (results_none rfl _ _ _) rfl ?_))
 exact ⟨rfl, h9⟩
theorem whenK_step (T : List Int) (iv s k : Nat) : whenK T iv s (k + 1) = if k + 1 = s then max (iv : Int) (T.getD k 0) else whenK T iv s k := by
 unfold whenK
 by_cases h : k + 1 = s
 ·subst h; rw [if_pos ⟨by omega, Nat.le_refl _⟩, if_pos rfl, Nat.add_sub_cancel]
 ·rw [if_neg h]
  by_cases h1 : 0 < s ∧ s ≤ k
  ·rw [if_pos h1, if_pos ⟨h1.1, by omega⟩]
  ·rw [if_neg h1, if_neg (by omega)]
theorem whenK_at (T : List Int) (iv s k : Nat) (h : k + 1 = s) : whenK T iv s k = (iv : Int) := by unfold whenK; rw [if_neg (by omega)]
theorem whenK_0 (T : List Int) (iv s : Nat) : whenK T iv s 0 = (iv : Int) := by unfold whenK; rw [if_neg (by omega)]
theorem whenK_le {T : List Int} {iv s k : Nat} (hk : k ≤ T.length) (hT : ∀ x, x ∈ T → 0 ≤ x ∧ x ≤ 1000000) (hi : iv ≤ 1000000) : 0 ≤ whenK T iv s k ∧ whenK T iv s k ≤ 1000000 := by
 unfold whenK
 split
 ·rename_i h
  have hl : s - 1 < T.length := by omega
  have e : T.getD (s - 1) 0 = T[s - 1] := by simp [List.getD_eq_getElem?_getD, hl]
  have := hT _ (List.getElem_mem hl)
  rw [e]; omega
 ·omega
/- One that reads. -/
set_option maxHeartbeats 4000000 in
theorem rtally_1 (n : Nat) (hn : n ≤ 16) (c : CallD) (h1 : c.kind = 1) (h : RAt B w t r) (hpre : TallyPre c t r) :
  Calls Tryz.prog 80 #[.pointer (some ⟨B.I.tb, B.I.pre.length, none⟩), .int .i64 (n : Int), .int .i64 0, .agg #[.int .i64 c.thread, .int .i64 0, .int .i64 1, .int .u64 (c.a : Int), .int .u64 (c.b : Int), .int .u64 (c.c : Int)]] w fun e u => e = .returned (.tuple #[]) ∧ RAt B u (rtallyDo n c t r).1 (rtallyDo n c t r).2 := by
 obtain ⟨wb, hwb⟩ : ∃ wb, wb = w.alloc (.cells #[.int .i64 c.thread, .int .i64 0, .int .i64 1, .int .u64 (c.a : Int), .int .u64 (c.b : Int), .int .u64 (c.c : Int)] 48) := ⟨_, rfl⟩
 have hg : Below w.heap.size w wb := by rw [hwb]; exact Gr.new _ _
 have hC : wb.heap[w.heap.size]? = some (.cells #[.int .i64 c.thread, .int .i64 0, .int .i64 1, .int .u64 (c.a : Int), .int .u64 (c.b : Int), .int .u64 (c.c : Int)] 48 (0, 0)) := by rw [hwb]; exact heap_alloc_new _ _
 have hA := h.grown hg
 have q2 : wb.cell? ⟨w.heap.size, 2, none⟩ = some (.int .i64 1) := by rw [cell_blk hC]; rfl
 have hR : rtallyDo n c t r = rtaEnd (rtaL n t r) := by unfold rtallyDo; rw [if_neg (by omega), if_neg (by omega)]
 obtain ⟨D, hD⟩ : ∃ D : Nat → TapeP × RWD, D = fun k => rtaL k t r := ⟨_, rfl⟩
 have hDk : ∀ k, rtaL k t r = D k := fun k => by rw [hD]
 have hD0 : D 0 = (t, r) := by rw [hD]; rfl
 have hDs : ∀ k, D (k + 1) = rtaF (D k) k := fun k => by rw [hD]; exact rtaL_succ k t r
 have hDb : ∀ k, (D k).1.val ≤ k * 1000000 ∧ Bnd (D k).1 (D k).2 := fun k => by rw [hD]; exact rtaL_bnd hpre.bnd hpre.val k
 have hrun := rtaL_runs t r n
 have htra := rtaL_trace t r n
 have htk := rtaL_ticks t r n
 rw [hDk] at hR hrun htra htk
 have hinv : (D n).1.inv ≤ 1000000 := by rw [hrun.inv]; exact hpre.inv
 have hla : 0 ≤ lastP (D n).1 ∧ lastP (D n).1 ≤ 1000000 := lastP_le hinv (fun x hx => by
  rcases htk x hx with h | h
  ·exact hpre.ticks x h
  ·rw [h]; have := hpre.now; omega)
 have htrl : (traceP 0 (D n).2).length ≤ 900000 := by rw [traceP_eq htra]; exact hpre.trl
 have htrb : ∀ x, x ∈ traceP 0 (D n).2 → 0 ≤ x ∧ x ≤ 1000000 := by rw [traceP_eq htra]; exact hpre.tr
 have htl : 0 < (D n).2.traces.length ∧ True := by rw [htra]; exact ⟨hpre.tl, trivial⟩
 obtain ⟨R, hRe⟩ : ∃ R, R = rtallyDo n c t r := ⟨_, rfl⟩
 rw [← hRe]
 rw [hR] at hRe
 have HRe := Lib.hid hRe
 have Hwb := Lib.hid hwb; have HA := Lib.hid hA; have HD0 := Lib.hid hD0; have HDs := Lib.hid hDs; have HDb := Lib.hid hDb; have Hinv := Lib.hid hinv; have Hla := Lib.hid hla; have Htrl := Lib.hid htrl; have Htrb := Lib.hid htrb; have Htl := Lib.hid htl
 clear hwb hg hC h hA hpre hR hRe hD hDk hD0 hDs hDb hrun htra htk hinv hla htrl htrb htl h1
 go_enter Tryz.func80, Tryz.ntmps80
 go_upto_region 1 with fail
 rw [← Hwb.out]
 go_wp2
 go_loopw [53] (fun i wr => ∃ k : Nat, k ≤ n ∧ i = .int .i64 k ∧ RAt B wr (D k).1 (D k).2) (fun i _ => n - (intOf i).toNat)
 case atStart => exact ⟨0, Nat.zero_le _, rfl, by rw [HD0.out]; exact HA.out⟩
 case round =>
  obtain ⟨k, hk, rfl, hA⟩ := hrel
  by_cases hlt : k < n
  ·have l1 : (k : Int) < (n : Int) := by omega
   have l2 : IntKind.i64.wrap (k : Int) = (k : Int) := by rw [IntKind.wrap_i64]; omega
   have hs := HDs.out k
   have hb := HDb.out k
   obtain ⟨Dk, hDk⟩ : ∃ Dk, Dk = D k := ⟨_, rfl⟩
   rw [← hDk] at hs hA hb
   obtain ⟨tk, rk⟩ := Dk
   obtain ⟨vl, hvl⟩ : ∃ vl, vl = tk.val := ⟨_, rfl⟩
   have x10 : wr.cell? ⟨B.I.tb, B.I.pre.length + 10, none⟩ = some (.int .u64 (vl : Int)) := by rw [hvl]; exact hA.cVal
   have A1 := tread_r (hA.grown (Gr.refl wr).drew) (k : Int)
   have hv := accP_val 0 (k : Int) 0 0 tk rk
   have hbr := hb.2.read (k : Int)
   obtain ⟨Z, hZ⟩ : ∃ Z, Z = accP 0 (k : Int) 0 0 tk rk := ⟨_, rfl⟩
   rw [← hZ] at A1 hv hbr
   have hs' : D (k + 1) = ({ Z.2.1 with val := vl + Z.1 }, Z.2.2) := by rw [hs, hZ, hvl]; rfl
   obtain ⟨v, t', r'⟩ := Z
   simp only at A1 hv hbr hs' hb
   have l3 : IntKind.u64.wrap ((vl : Int) + (v : Int)) = (vl : Int) + (v : Int) := by
    have := hbr.1; have := hb.1
    have h9 : k * 1000000 ≤ 16 * 1000000 := Nat.mul_le_mul_right _ (by omega)
    rw [IntKind.wrap_u64]; omega
   have HA1 := Lib.hid A1; have Hs := Lib.hid hs'; have Hv := Lib.hid (hv.trans hvl.symm)
   clear A1 hs hs' hA hZ hDk hv hvl hb hbr
   go_upto_region 10 with fail
   refine wp_region_L ((fun u => u.cell? ⟨B.I.tb, B.I.pre.length + 10, none⟩ = some (.int .u64 (vl : Int)))) 13 (by kernel_rfl) ?hS0L1 ?_
   case hS0L1 =>
    (try dsimp only)
    (first | exact x10 | exact y10)
   intro hS hcl
   refine wpAnyL_take (i := 0) (v := ?tv0L1) 14 rfl (by kernel_rfl) (by kernel_rfl) (by kernel_rfl) (by kernel_rfl) (by kernel_rfl) hcl (by first | exact fun _ _ _ h => h | exact fun _ _ _ h => HQp.out _ _ _ _ h) (Or.inl ⟨by rfl, ?th0L1⟩) hS ?tr0L1
   (case th0L1 => (intro w hSw; (try dsimp only at hSw); go_simp; try with_reducible rfl))
   clear hcl; intro hcl
   (try simp only [Act.put, zq1, zq2, zq3, zq4, zq5, zq6])
   refine wpAnyL_take (i := 1) (v := ?tv1L1) 14 rfl (by kernel_rfl) (by kernel_rfl) (by kernel_rfl) (by kernel_rfl) (by kernel_rfl) hcl (by first | exact fun _ _ _ h => h | exact fun _ _ _ h => HQp.out _ _ _ _ h) (Or.inl ⟨by rfl, ?th1L1⟩) hS ?tr1L1
   (case th1L1 => (intro w hSw; (try dsimp only at hSw); go_simp; try with_reducible rfl))
   clear hcl; intro hcl
   (try simp only [Act.put, zq1, zq2, zq3, zq4, zq5, zq6])
   refine wpAnyL_take (i := 2) (v := ?tv2L1) 14 rfl (by kernel_rfl) (by kernel_rfl) (by kernel_rfl) (by kernel_rfl) (by kernel_rfl) hcl (by first | exact fun _ _ _ h => h | exact fun _ _ _ h => HQp.out _ _ _ _ h) (Or.inl ⟨by rfl, ?th2L1⟩) hS ?tr2L1
   (case th2L1 => (intro w hSw; (try dsimp only at hSw); go_simp; try with_reducible rfl))
   clear hcl; intro hcl
   (try simp only [Act.put, zq1, zq2, zq3, zq4, zq5, zq6])
   refine wpAnyL_take (i := 3) (v := ?tv3L1) 14 rfl (by kernel_rfl) (by kernel_rfl) (by kernel_rfl) (by kernel_rfl) (by kernel_rfl) hcl (by first | exact fun _ _ _ h => h | exact fun _ _ _ h => HQp.out _ _ _ _ h) (Or.inl ⟨by rfl, ?th3L1⟩) hS ?tr3L1
   (case th3L1 => (intro w hSw; (try dsimp only at hSw); go_simp; try with_reducible rfl))
   clear hcl; intro hcl
   (try simp only [Act.put, zq1, zq2, zq3, zq4, zq5, zq6])
   refine wpAnyL_take (i := 4) (v := ?tv4L1) 14 rfl (by kernel_rfl) (by kernel_rfl) (by kernel_rfl) (by kernel_rfl) (by kernel_rfl) hcl (by first | exact fun _ _ _ h => h | exact fun _ _ _ h => HQp.out _ _ _ _ h) (Or.inl ⟨by rfl, ?th4L1⟩) hS ?tr4L1
   (case th4L1 => (intro w hSw; (try dsimp only at hSw); go_simp; try with_reducible rfl))
   clear hcl; intro hcl
   (try simp only [Act.put, zq1, zq2, zq3, zq4, zq5, zq6])
   refine wpAnyL_take (i := 5) (v := ?tv5L1) 14 rfl (by kernel_rfl) (by kernel_rfl) (by kernel_rfl) (by kernel_rfl) (by kernel_rfl) hcl (by first | exact fun _ _ _ h => h | exact fun _ _ _ h => HQp.out _ _ _ _ h) (Or.inl ⟨by rfl, ?th5L1⟩) hS ?tr5L1
   (case th5L1 => (intro w hSw; (try dsimp only at hSw); go_simp; try with_reducible rfl))
   clear hcl; intro hcl
   (try simp only [Act.put, zq1, zq2, zq3, zq4, zq5, zq6])
   refine wpAnyL_take (i := 6) (v := ?tv6L1) 14 rfl (by kernel_rfl) (by kernel_rfl) (by kernel_rfl) (by kernel_rfl) (by kernel_rfl) hcl (by first | exact fun _ _ _ h => h | exact fun _ _ _ h => HQp.out _ _ _ _ h) (Or.inl ⟨by rfl, ?th6L1⟩) hS ?tr6L1
   (case th6L1 => (intro w hSw; (try dsimp only at hSw); go_simp; try with_reducible rfl))
   clear hcl; intro hcl
   (try simp only [Act.put, zq1, zq2, zq3, zq4, zq5, zq6])
   refine wpAnyL_take (i := 7) (v := ?tv7L1) 14 rfl (by kernel_rfl) (by kernel_rfl) (by kernel_rfl) (by kernel_rfl) (by kernel_rfl) hcl (by first | exact fun _ _ _ h => h | exact fun _ _ _ h => HQp.out _ _ _ _ h) (Or.inl ⟨by rfl, ?th7L1⟩) hS ?tr7L1
   (case th7L1 => (intro w hSw; (try dsimp only at hSw); go_simp; try with_reducible rfl))
   clear hcl; intro hcl
   (try simp only [Act.put, zq1, zq2, zq3, zq4, zq5, zq6])
   refine wpAnyL_take (i := 8) (v := ?tv8L1) 14 rfl (by kernel_rfl) (by kernel_rfl) (by kernel_rfl) (by kernel_rfl) (by kernel_rfl) hcl (by first | exact fun _ _ _ h => h | exact fun _ _ _ h => HQp.out _ _ _ _ h) (Or.inl ⟨by rfl, ?th8L1⟩) hS ?tr8L1
   (case th8L1 => (intro w hSw; (try dsimp only at hSw); go_simp; try with_reducible rfl))
   clear hcl; intro hcl
   (try simp only [Act.put, zq1, zq2, zq3, zq4, zq5, zq6])
   refine wpAnyL_one (i := 9) (by kernel_rfl) rfl hcl (fun K' hK => ?_)
   have HK := Lib.hid hK; clear hK
   ((rw [if_pos (by kernel_rfl)]); (try simp only [zq1, zq2, zq3]); go_big_op)
   (go_at_call 102; refine HA1.out.mono ?_; rintro e w2 ⟨rfl, h2⟩; have y10 : w2.cell? ⟨B.I.tb, B.I.pre.length + 10, none⟩ = some (.int .u64 (vl : Int)) := (by rw [h2.cVal, Hv.out]); have yf := h2.frozen (B.I.pre.length + 10))
   refine HK.out _ _ ?hS9L1 (fun hcl => ?_)
   case hS9L1 =>
    intro _
    (try dsimp only)
    (first | exact x10 | exact y10)
   clear HK
   (try simp only [Act.put, zq1, zq2, zq3, zq4, zq5, zq6])
   refine wpAnyL_one (i := 10) (by kernel_rfl) rfl hcl (fun K' hK => ?_)
   have HK := Lib.hid hK; clear hK
   ((rw [if_pos (by kernel_rfl)]); (try simp only [zq1, zq2, zq3]); first | go_big_move | go_big_op)
   refine HK.out _ _ ?hS10L1 (fun hcl => ?_)
   case hS10L1 =>
    intro _
    (try dsimp only)
    (first | exact x10 | exact y10)
   clear HK
   (try simp only [Act.put, zq1, zq2, zq3, zq4, zq5, zq6])
   refine wpAnyL_one (i := 11) (by kernel_rfl) rfl hcl (fun K' hK => ?_)
   have HK := Lib.hid hK; clear hK
   ((rw [if_pos (by kernel_rfl)]); (try simp only [zq1, zq2, zq3]); first | go_big_move | go_big_op)
   refine HK.out _ _ ?hS11L1 (fun hcl => ?_)
   case hS11L1 =>
    intro _
    (try dsimp only)
    (first | exact x10 | exact y10)
   clear HK
   (try simp only [Act.put, zq1, zq2, zq3, zq4, zq5, zq6])
   refine wpAnyL_one (i := 12) (by kernel_rfl) rfl hcl (fun K' hK => ?_)
   have HK := Lib.hid hK; clear hK
   ((rw [if_pos (by kernel_rfl)]); (try simp only [zq1, zq2, zq3]); first | go_big_move | go_big_op)
   refine HK.out _ _ ?hS12L1 (fun hcl => ?_)
   case hS12L1 =>
    intro _
    (try dsimp only)
    (first | exact x10 | exact y10)
   clear HK
   (try simp only [Act.put, zq1, zq2, zq3, zq4, zq5, zq6])
   refine wpAnyL_one (i := 13) (by kernel_rfl) rfl hcl (fun K' hK => ?_)
   have HK := Lib.hid hK; clear hK
   ((rw [if_pos (by kernel_rfl)]); (try simp only [zq1, zq2, zq3]); first | go_big_move | go_big_op)
   refine HK.out _ _ (fun h => by cases h.symm.trans (by kernel_rfl : _ = true)) (fun _ => wpAnyL_done (by kernel_rfl) ?_ _)
   clear HK
   (try clear hS)
   go_wp2
   go_roundw
   case rel => exact ⟨k + 1, by omega, by go_num, by rw [Hs.out]; exact (by have h9 := h2.putVal (vl + v); rw [show ((vl + v : Nat) : Int) = (vl : Int) + (v : Int) by omega] at h9; exact h9)⟩
   case measure => simp [intOf] <;> omega
  ·have l1 : ¬ (k : Int) < (n : Int) := by omega
   obtain rfl : n = k := by omega
   obtain ⟨Dn, hDn⟩ : ∃ Dn, Dn = D n := ⟨_, rfl⟩
   have hb := (HDb.out n).1
   have hinv := Hinv.out; have hla := Hla.out; have htrl := Htrl.out; have htrb := Htrb.out; have htl := Htl.out
   have hRe := HRe.out
   rw [← hDn] at hA hb hinv hla htrl htrb htl hRe
   obtain ⟨t1, r1⟩ := Dn
   simp only at hA hb hinv hla htrl htrb htl
   have x7 : wr.cell? ⟨B.I.tb, B.I.pre.length + 7, none⟩ = some (.bool t1.halt) := hA.cHalt
   have x2 : wr.cell? ⟨B.I.tb, B.I.pre.length + 2, none⟩ = some (.int .i64 (t1.inv : Int)) := hA.cInv
   have x10 : wr.cell? ⟨B.I.tb, B.I.pre.length + 10, none⟩ = some (.int .u64 (t1.val : Int)) := hA.cVal
   cases hh : t1.halt with
   | true =>
    rw [hh] at x7
    have hE : rtaEnd (t1, r1) = (t1, r1) := by unfold rtaEnd; rw [if_pos hh]
    have Hfin := Lib.hid hA
    rw [hE] at hRe
    subst hRe
    clear hA hb hinv hla htrl htrb htl hDn hE HA HD0 HDs HDb Hinv Hla Htrl Htrb Htl HRe
    go_wp2
    (first | go_end0 | ((try simp only [Exit.inBlock, Exit.then]); refine bodyPost_ret (results_none rfl _ _ _) rfl ?_))
    exact ⟨rfl, Hfin.out⟩
   | false =>
    rw [hh] at x7
    obtain ⟨tr, htr⟩ : ∃ tr, tr = traceP 0 r1 := ⟨_, rfl⟩
    obtain ⟨la, hlae⟩ : ∃ la, la = lastP t1 := ⟨_, rfl⟩
    obtain ⟨iv, hiv⟩ : ∃ iv, iv = t1.inv := ⟨_, rfl⟩
    obtain ⟨vl, hvl⟩ : ∃ vl, vl = t1.val := ⟨_, rfl⟩
    have hE : rtaEnd (t1, r1) = ({ t1 with key := [2 * whenK tr iv vl tr.length, 2 * la] }, r1) := by
     unfold rtaEnd; rw [if_neg (by rw [hh]; exact Bool.false_ne_true), htr, hlae, hiv, hvl]; rfl
    have hT := trace_w hA 0 htl.1 (Nat.zero_le _)
    rw [show traceP ((0 : Nat) : Int) r1 = tr from htr.symm] at hT
    have hT' : Calls Tryz.prog 109 #[.pointer (some ⟨B.I.tb, B.I.pre.length, none⟩), .int .i64 0] wr (fun e w' => ∃ xa xc, e = .returned (.slice xa tr.length xc) ∧ wr = w' ∧ SlAt wr xa tr.length 1 (intG tr)) := hT
    have LS := last_r hA
    rw [← hlae] at LS hla
    rw [← htr] at htrl htrb
    rw [← hiv] at x2 hinv
    rw [← hvl] at x10
    obtain ⟨_, _, _, _, KV, x12⟩ := hA.get (i := 12) (by omega)
    have x12' : wr.cell? ⟨B.I.tb, B.I.pre.length + 12, none⟩ = some KV := x12
    rw [hE] at hRe
    have HRe2 := Lib.hid hRe
    have HT := Lib.hid hT'; have HL := Lib.hid LS; have HA9 := Lib.hid hA; have Hk2 := Lib.hid (fun k (hk : k ≤ tr.length) => whenK_le (s := vl) hk htrb hinv)
    have Htb := hA.lt
    obtain ⟨tn, htn⟩ : ∃ tn, tn = tr.length := ⟨_, rfl⟩
    rw [← htn] at HT htrl Hk2 HRe2
    have l6 : IntKind.i64.wrap (2 * la) = 2 * la := by rw [IntKind.wrap_i64]; omega
    have vl18 : vl ≤ 16000000 := by have : n * 1000000 ≤ 16 * 1000000 := Nat.mul_le_mul_right _ hn; omega
    have Htn := Lib.hid htn
    clear hA hb hinv hla htrb htl hDn hE HA HD0 HDs HDb Hinv Hla Htrl Htrb Htl HRe hRe hT hT' LS htr hlae hiv hvl hh htn x12
    go_upto_region 15 with (go_at_call 109; refine HT.out.mono ?_; rintro e w5 ⟨xa, xc, rfl, rfl, hsl⟩)
    have Hsl := Lib.hid hsl
    clear hsl
    go_wp2
    go_loopw [83, 10] (fun i m wq => ∃ k : Nat, k ≤ tn ∧ i = .int .i64 k ∧ m = .int .i64 (whenK tr iv vl k) ∧ wr = wq) (fun i _ _ => tn - (intOf i).toNat)
    case atStart => exact ⟨0, Nat.zero_le _, rfl, by rw [whenK_0], rfl⟩
    case round =>
     obtain ⟨k, hk, rfl, rfl, rfl⟩ := hrel
     by_cases hlt : k < tn
     ·have l1 : (k : Int) < (tn : Int) := by omega
      have l2 : IntKind.u64.wrap (k : Int) = (k : Int) := by rw [IntKind.wrap_u64]; omega
      have l3 : IntKind.u64.wrap ((k : Int) + 1) = (k : Int) + 1 := by rw [IntKind.wrap_u64]; omega
      have hstep := whenK_step tr iv vl k
      by_cases he : k + 1 = vl
      ·rw [if_pos he] at hstep
       have hwk := whenK_at tr iv vl k he
       obtain ⟨b5, o5, rfl, _, hc5⟩ := Hsl.out.2 k hlt
       have y5 : wr.cell? ⟨b5, o5 + k, none⟩ = some (.int .i64 (tr.getD k 0)) := by have := hc5 0 (by omega); rw [Nat.mul_one, Nat.add_zero] at this; exact this
       obtain ⟨z, hz⟩ : ∃ z, z = tr.getD k 0 := ⟨_, rfl⟩
       rw [← hz] at y5 hstep
       have l4 : ((k : Int) + 1 == (vl : Int)) = true := by simp; omega
       have l5 : (k : Int) + 1 = (vl : Int) := by omega
       rw [hwk]
       by_cases hzi : (iv : Int) < z
       ·have hst : whenK tr iv vl (k + 1) = z := by rw [hstep]; omega
        have Hst := Lib.hid hst
        clear hstep hwk hst hz hc5 he
        go_wp2
        go_roundw
        case rel => exact ⟨k + 1, by omega, by go_num, by rw [Hst.out], (by first | rfl | trivial)⟩
        case measure => simp [intOf] <;> omega
       ·have hst : whenK tr iv vl (k + 1) = (iv : Int) := by rw [hstep]; omega
        have Hst := Lib.hid hst
        clear hstep hwk hst hz hc5 he
        go_wp2
        go_roundw
        case rel => exact ⟨k + 1, by omega, by go_num, by rw [Hst.out], (by first | rfl | trivial)⟩
        case measure => simp [intOf] <;> omega
      ·rw [if_neg he] at hstep
       have l4 : ((k : Int) + 1 == (vl : Int)) = false := by simp; omega
       have l5 : ¬ (k : Int) + 1 = (vl : Int) := by omega
       have Hst := Lib.hid hstep
       obtain ⟨wk, hwk⟩ : ∃ wk, wk = whenK tr iv vl k := ⟨_, rfl⟩
       rw [← hwk] at Hst ⊢
       clear hstep hwk
       go_wp2
       go_roundw
       case rel => exact ⟨k + 1, by omega, by go_num, by rw [Hst.out], (by first | rfl | trivial)⟩
       case measure => simp [intOf] <;> omega
     ·have l1 : ¬ (k : Int) < (tn : Int) := by omega
      obtain rfl : tn = k := by omega
      obtain ⟨wl, hwl⟩ := Hk2.out tn (Nat.le_refl _)
      obtain ⟨wk, hwk⟩ : ∃ wk, wk = whenK tr iv vl tn := ⟨_, rfl⟩
      rw [← hwk] at wl hwl HRe2 ⊢
      have l7 : IntKind.i64.wrap (2 * wk) = 2 * wk := by rw [IntKind.wrap_i64]; omega
      have xf := HA9.out.frozen (B.I.pre.length + 12)
      clear hwk Hk2
      go_wp2_with (go_at_call 107; refine HL.out.mono ?_; rintro e w6 ⟨rfl, hb6⟩; have y12 := (hb6.cell (p := ⟨B.I.tb, B.I.pre.length + 12, none⟩) Htb).trans x12'; have yf := (hb6.frozen (p := ⟨B.I.tb, B.I.pre.length + 12, none⟩) Htb).trans xf; have Htb6 : B.I.tb < w6.heap.size := Nat.lt_of_lt_of_le Htb hb6.size)
      (first | go_end0 | ((try simp only [Exit.inBlock, Exit.then]); refine bodyPost_ret (results_none rfl _ _ _) rfl ?_))
      refine ⟨rfl, ?_⟩
      rw [HRe2.out]
      have hnew : RAtL B (w6.alloc (.cells #[.int .i64 (2 * wk), .int .i64 (2 * la)] 3)) t1 r1 (.slice (some ⟨w6.heap.size, 0, none⟩) 2 2) [2 * wk, 2 * la] := HA9.out.newL (l := [2 * wk, 2 * la]) (c := 2) (hb6.alloc hb6.size _) ⟨by unfold maxLen; simp, fun j hj => ⟨w6.heap.size, 0, rfl, by simp, fun f hf => by
       obtain rfl : f = 0 := by omega
       rw [cell_new]
       have hj' : j = 0 ∨ j = 1 := by simp at hj; omega
       rcases hj' with rfl | rfl <;> rfl⟩⟩ (fun e => by cases e) (fun b off e => by cases e; exact hb6.size)
      have h9 := hnew.putKey
      rw [World.setCell_alloc_past _ _ _ _ Htb6] at h9
      exact h9
/- Neither. -/
set_option maxHeartbeats 2000000 in
theorem rtally_9 (n : Nat) (c : CallD) (h0 : ¬ c.kind = 0) (h1 : ¬ c.kind = 1) (h : RAt B w t r) :
  Calls Tryz.prog 80 #[.pointer (some ⟨B.I.tb, B.I.pre.length, none⟩), .int .i64 (n : Int), .int .i64 0, .agg #[.int .i64 c.thread, .int .i64 0, .int .i64 c.kind, .int .u64 (c.a : Int), .int .u64 (c.b : Int), .int .u64 (c.c : Int)]] w fun e u => e = .returned (.tuple #[]) ∧ RAt B u (rtallyDo n c t r).1 (rtallyDo n c t r).2 := by
 obtain ⟨wb, hwb⟩ : ∃ wb, wb = w.alloc (.cells #[.int .i64 c.thread, .int .i64 0, .int .i64 c.kind, .int .u64 (c.a : Int), .int .u64 (c.b : Int), .int .u64 (c.c : Int)] 48) := ⟨_, rfl⟩
 have hg : Below w.heap.size w wb := by rw [hwb]; exact Gr.new _ _
 have hC : wb.heap[w.heap.size]? = some (.cells #[.int .i64 c.thread, .int .i64 0, .int .i64 c.kind, .int .u64 (c.a : Int), .int .u64 (c.b : Int), .int .u64 (c.c : Int)] 48 (0, 0)) := by rw [hwb]; exact heap_alloc_new _ _
 have hA := h.grown hg
 have q2 : wb.cell? ⟨w.heap.size, 2, none⟩ = some (.int .i64 c.kind) := by rw [cell_blk hC]; rfl
 have e9 : wb.cell? ⟨B.I.tb, B.I.pre.length + 9, none⟩ = some (.int .i64 t.err) := hA.cErr
 have f9 : wb.frozen? ⟨B.I.tb, B.I.pre.length + 9, none⟩ = false := hA.frozen _
 have hT : rtallyDo n c t r = ({ t with err := 9 }, r) := by unfold rtallyDo; rw [if_neg h0, if_pos h1]
 rw [hT]
 have Fin := Lib.hid (hA.putErr 9)
 obtain ⟨th, ob, kd, xa, xb, xc⟩ := c
 simp only at *
 have l1 : (kd == 1) = false := by simp [h1]
 have l0 : (kd == 0) = false := by simp [h0]
 have Hwb := Lib.hid hwb
 clear hwb hg hC h hA hT
 go_enter Tryz.func80, Tryz.ntmps80
 go_upto_region 1 with fail
 rw [← Hwb.out]
 go_wp2
 (first | go_end0 | ((try simp only [Exit.inBlock, Exit.then]); refine bodyPost_ret (results_none rfl _ _ _) rfl ?_))
 exact ⟨rfl, Fin.out⟩
theorem rtally_do (n : Nat) (hn : n ≤ 16) : DoC 2 0 0 n TallyPre (rtallyDo n) := by
 intro B u c t r hok hob hpre hA
 have C := do_tally (B := B) (w := u) (t := t) (r := r) (fun u' => RAt B u' (rtallyDo n c t r).1 (rtallyDo n c t r).2) n 0 0 c.thread c.kind c.a c.b c.c hA (fun u' h' => by
  by_cases h0 : c.kind = 0
  ·have := rtally_0 n c h0 h' hpre
   rw [h0]; exact this
  by_cases h1 : c.kind = 1
  ·have := rtally_1 n hn c h1 h' hpre
   rw [h1]; exact this
  ·exact rtally_9 n c h0 h1 h')
 have R := (rtally_dob n).runs c t r
 have e1 : callW c = .agg #[.int .i64 c.thread, .int .i64 0, .int .i64 c.kind, .int .u64 (c.a : Int), .int .u64 (c.b : Int), .int .u64 (c.c : Int)] := by unfold callW; rw [hob]
 rw [e1]
 refine C.mono ?_
 rintro e u' ⟨rfl, h1⟩
 exact ⟨rfl, _, h1, R.thread, R.inv, rfl, rfl, rfl, fun _ => ⟨rfl, rfl, rfl, rfl, fun _ => rfl⟩⟩
end Go.Proofs.YteffgpcjfnjlkaaGreat
