/- A reference's play under way: between steps, what each of its own writes leaves. -/
import Derived.Test.YteffgpcjfnjlkaaGreatM22
import Derived.Test.YteffgpcjfnjlkaaGreatM21
import Derived.Deep.Cut
set_option maxRecDepth 100000
set_option linter.unusedVariables false
set_option linter.unusedSimpArgs false
set_option linter.unnecessarySimpa false
namespace Go.Proofs.YteffgpcjfnjlkaaGreat
section
open Go.RowKit
variable {w0 w w' : World} {J : RJ} {s s' : RefS} {hl hl' : List Value} {vs vs' : List HV} {G K L : Value} {ea ea' : Option Addr} {ec ec' : Nat} {ers ers' : List (Value × Value)} {Mut Mut' : Nat → Prop} {P : Nat → Prop} {p : Nat} {t : TapeP} {r : RWD}
theorem BlkTy.ne {EV : Value} (h : BlkTy w J vs L EV P) {b : Nat} {c : Array Value} {T : TypeId} {fz : Nat × Nat} (hb : w.heap[b]? = some (.cells c T fz)) :
    (T ≠ 106 → J.bW ≠ b) ∧ (T ≠ 24 → J.bM ≠ b ∧ J.bT ≠ b) ∧ (T ≠ 4 → J.bF ≠ b) ∧ (T ≠ 113 → J.bH ≠ b) ∧ (T ≠ 32 → J.bO ≠ b) ∧ (T ≠ 46 → J.bw ≠ some b) ∧ (T ≠ 219 → L.ownBlock ≠ some b) ∧ (T ≠ 52 → EV.ownBlock ≠ some b) ∧
      ∀ q, q < J.nt → (T ≠ 28 → (vs.getD q hv0).2.2 ≠ b) ∧ (P q → (T ≠ 46 → (vs.getD q hv0).1.ownBlock ≠ some b) ∧ (T ≠ 3 → (vs.getD q hv0).2.1.ownBlock ≠ some b)) := by
  refine ⟨fun hT e => ?_, fun hT => ⟨fun e => ?_, fun e => ?_⟩, fun hT e => ?_, fun hT e => ?_, fun hT e => ?_, fun hT e => ?_, fun hT e => ?_, fun hT e => ?_, fun q hq => ⟨fun hT e => ?_, fun hP => ⟨fun hT e => ?_, fun hT e => ?_⟩⟩⟩
  · obtain ⟨_, h1⟩ := h.W; exact blk_ne9 hb h1 hT e.symm
  · obtain ⟨_, h1⟩ := h.M; exact blk_ne9 hb h1 hT e.symm
  · obtain ⟨_, h1⟩ := h.T; exact blk_ne9 hb h1 hT e.symm
  · obtain ⟨_, h1⟩ := h.F; exact blk_ne9 hb h1 hT e.symm
  · obtain ⟨_, h1⟩ := h.H; exact blk_ne9 hb h1 hT e.symm
  · obtain ⟨_, h1⟩ := h.O; exact blk_ne9 hb h1 hT e.symm
  · obtain ⟨_, _, h1⟩ := h.U b e; exact blk_ne9 hb h1 hT rfl
  · obtain ⟨_, _, h1⟩ := h.L b e; exact blk_ne9 hb h1 hT rfl
  · obtain ⟨_, _, h1⟩ := h.E b e; exact blk_ne9 hb h1 hT rfl
  · obtain ⟨_, h1⟩ := h.o q hq; exact blk_ne9 hb h1 hT e.symm
  · obtain ⟨_, _, h1⟩ := h.G q hq hP b e; exact blk_ne9 hb h1 hT rfl
  · obtain ⟨_, _, h1⟩ := h.K q hq hP b e; exact blk_ne9 hb h1 hT rfl
theorem LogA.notmut (h : LogA w0 w J s hl vs L ea ec ers) {b : Nat} {c : Array Value} {T : TypeId} {fz : Nat × Nat} (hb : w.heap[b]? = some (.cells c T fz)) (hge : w0.heap.size ≤ b)
    (hT : T ≠ 106 ∧ T ≠ 24 ∧ T ≠ 4 ∧ T ≠ 113 ∧ T ≠ 32 ∧ T ≠ 46 ∧ T ≠ 219 ∧ T ≠ 52 ∧ T ≠ 28 ∧ T ≠ 3) : ¬ LMut J vs L (.slice ea s.evs.length ec) b := fun hm => by
  obtain ⟨x1, x2, x3, x4, x5, x6, x7, x8, x9⟩ := h.ty.ne hb
  obtain ⟨t1, t2, t3, t4, t5, t6, t7, t8, t9, t10⟩ := hT
  rcases hm with e | e | e | e | e | e | e | e | e | ⟨q, hq, e | e | e⟩
  · exact x1 t1 e.symm
  · exact (x2 t2).1 e.symm
  · exact (x2 t2).2 e.symm
  · exact x3 t3 e.symm
  · exact x4 t4 e.symm
  · rcases e with e | e
    · exact x5 t5 e.symm
    · have := h.rest.res b e; omega
  · exact x6 t6 e
  · exact x7 t7 e
  · exact x8 t8 e
  · exact (x9 q hq).1 t9 e
  · exact ((x9 q hq).2 trivial).1 t6 e
  · exact ((x9 q hq).2 trivial).2 t10 e
theorem LogA.world {b : Nat} {c : Array Value} {T : TypeId} {fz : Nat × Nat} (h : LogA w0 w J s hl vs L ea ec ers) (hb : w.heap[b]? = some (.cells c T fz)) (hc : Chg (fun x => x = b) w w') (hm : LMut J vs L (.slice ea s.evs.length ec) b) (hm' : MutUp (LMut J vs L (.slice ea s.evs.length ec)) w Mut')
    (hT : T ≠ 106 ∧ T ≠ 24 ∧ T ≠ 46 ∧ T ≠ 219) :
    RMemAt w' J.bW 106 [.int .i64 (s.rw.now : Int), .slice (some ⟨J.bM, 0, none⟩) J.nt J.nt, .slice (some ⟨J.bT, 0, none⟩) J.sz J.sz, L] J.bw s.rw.mem ∧ (∃ n xs, n ≤ s.rw.mem.c.all ∧ w'.ownsRow 0 219 6 L n xs) ∧
      ListsAt w' Mut' J.bM J.nt s.rw.marks ∧ ListsAt w' Mut' J.bT J.sz s.rw.traces := by
  obtain ⟨n, xs, hn, hl9⟩ := h.log
  obtain ⟨x1, x2, x3, x4, x5, x6, x7, _⟩ := h.ty.ne hb
  have hS : ∀ x, x = b → LMut J vs L (.slice ea s.evs.length ec) x := fun x e => by rw [e]; exact hm
  exact ⟨h.mem.chg hc (x1 hT.1) (fun q e e9 => x6 hT.2.2.1 (by rw [e, e9])), ⟨n, xs, hn, row_chg hl9 hc (fun q e e9 => x7 hT.2.2.2 (by rw [e, e9]))⟩, h.marks.keep hc hS hm' (x2 hT.2.1).1, h.traces.keep hc hS hm' (x2 hT.2.1).2⟩
theorem LogA.tick (h : LogA w0 w J s hl vs L ea ec ers) : LogA w0 (w.setCell ⟨J.bW, 6, none⟩ (.int .i64 ((s.rw.now : Int) + 1))) J { s with rw := s.rw.tick } hl vs L ea ec ers := by
  obtain ⟨cW, hW⟩ := h.ty.W
  obtain ⟨x1, x2, x3, x4, x5, x6, x7, x8, x9⟩ := h.ty.ne hW
  have hc : Chg (fun x => x = J.bW) w (w.setCell ⟨J.bW, 6, none⟩ (.int .i64 ((s.rw.now : Int) + 1))) := (Chg.refl (fun x => x = J.bW) w).setCell (p := ⟨J.bW, 6, none⟩) (.inl rfl) _
  have hS : ∀ x, x = J.bW → LMut J vs L (.slice ea s.evs.length ec) x := fun x e => .inl e
  obtain ⟨n, xs, hn, hl9⟩ := h.log
  obtain ⟨_, hH⟩ := h.ty.H
  refine ⟨h.rest.turn (s' := { s with rw := s.rw.tick }) hc (fun x _ e => hS x e) (MutUp.refl _ _) (fun x e => by rw [e]; exact h.rest.ge.2.2.2.1) (fun x e q hq => by rw [e]; exact ⟨(x9 q hq).1 (by decide), fun hP => ⟨((x9 q hq).2 hP).1 (by decide), ((x9 q hq).2 hP).2 (by decide)⟩⟩) (fun x e e9 => absurd (by rw [← e]; exact e9) (x6 (by decide))) rfl
      ((hc.block _ (blk_lt h.rest.fin) (x3 (by decide))).trans h.rest.fin) h.rest.flen h.rest.lens.2.2.2 ((hc.block _ (blk_lt h.rest.out) (x5 (by decide))).trans h.rest.out) (row_chg h.rest.evs hc (fun b e e9 => x8 (by decide) (by rw [e, e9]))) (h.rest.lies hc (fun x _ e => hS x e) (MutUp.refl _ _)),
    (hc.block _ (blk_lt h.hb) (x4 (by decide))).trans h.hb, ?_, ⟨n, xs, hn, row_chg hl9 hc (fun b e e9 => x7 (by decide) (by rw [e, e9]))⟩, h.logge, h.marks.keep hc hS (MutUp.refl _ _) (x2 (by decide)).1, h.traces.keep hc hS (MutUp.refl _ _) (x2 (by decide)).2, h.mt⟩
  exact h.mem.tail 0 (.int .i64 ((s.rw.now : Int) + 1))
theorem LogA.idleN (h : LogA w0 w J s hl vs L ea ec ers) : LogA w0 (w.setCell ⟨J.bO, 8, none⟩ (.int .i64 ((s.idle : Int) + 1))) J { s with idle := s.idle + 1 } hl vs L ea ec ers := by
  obtain ⟨cO, hO⟩ := h.ty.O
  obtain ⟨x1, x2, x3, x4, x5, x6, x7, x8, x9⟩ := h.ty.ne hO
  have hc : Chg (fun x => x = J.bO) w (w.setCell ⟨J.bO, 8, none⟩ (.int .i64 ((s.idle : Int) + 1))) := (Chg.refl (fun x => x = J.bO) w).setCell (p := ⟨J.bO, 8, none⟩) (.inl rfl) _
  have hm : LMut J vs L (.slice ea s.evs.length ec) J.bO := .inr (.inr (.inr (.inr (.inr (.inl (.inl rfl))))))
  have hS : ∀ x, x = J.bO → LMut J vs L (.slice ea s.evs.length ec) x := fun x e => by rw [e]; exact hm
  obtain ⟨m1, m2, m3, m4⟩ := h.world hO hc hm (MutUp.refl _ _) ⟨by decide, by decide, by decide, by decide⟩
  refine ⟨h.rest.turn (s' := { s with idle := s.idle + 1 }) hc (fun x _ e => hS x e) (MutUp.refl _ _) (fun x e => by rw [e]; exact h.rest.ge.2.1) (fun x e q hq => by rw [e]; exact ⟨(x9 q hq).1 (by decide), fun hP => ⟨((x9 q hq).2 hP).1 (by decide), ((x9 q hq).2 hP).2 (by decide)⟩⟩) (fun x e e9 => absurd (by rw [← e]; exact e9) (x6 (by decide))) rfl
      ((hc.block _ (blk_lt h.rest.fin) (x3 (by decide))).trans h.rest.fin) h.rest.flen h.rest.lens.2.2.2 ?_ (row_chg h.rest.evs hc (fun b e e9 => x8 (by decide) (by rw [e, e9]))) (h.rest.lies hc (fun x _ e => hS x e) (MutUp.refl _ _)),
    (hc.block _ (blk_lt h.hb) (x4 (by decide))).trans h.hb, m1, m2, h.logge, m3, m4, h.mt⟩
  rw [blk_set h.rest.out]; rfl
theorem LogA.finN (h : LogA w0 w J s hl vs L ea ec ers) (i : Nat) : LogA w0 (w.setCell ⟨J.bF, i, none⟩ (.bool true)) J { s with fin := s.fin.set i true } hl vs L ea ec ers := by
  obtain ⟨x1, x2, x3, x4, x5, x6, x7, x8, x9⟩ := h.ty.ne h.rest.fin
  have hc : Chg (fun x => x = J.bF) w (w.setCell ⟨J.bF, i, none⟩ (.bool true)) := (Chg.refl (fun x => x = J.bF) w).setCell (p := ⟨J.bF, i, none⟩) (.inl rfl) _
  have hm : LMut J vs L (.slice ea s.evs.length ec) J.bF := .inr (.inr (.inr (.inl rfl)))
  have hS : ∀ x, x = J.bF → LMut J vs L (.slice ea s.evs.length ec) x := fun x e => by rw [e]; exact hm
  obtain ⟨m1, m2, m3, m4⟩ := h.world h.rest.fin hc hm (MutUp.refl _ _) ⟨by decide, by decide, by decide, by decide⟩
  refine ⟨h.rest.turn (s' := { s with fin := s.fin.set i true }) hc (fun x _ e => hS x e) (MutUp.refl _ _) (fun x e => by rw [e]; exact h.rest.ge.1) (fun x e q hq => by rw [e]; exact ⟨(x9 q hq).1 (by decide), fun hP => ⟨((x9 q hq).2 hP).1 (by decide), ((x9 q hq).2 hP).2 (by decide)⟩⟩) (fun x e e9 => absurd (by rw [← e]; exact e9) (x6 (by decide))) rfl
      ?_ (by simpa using h.rest.flen) h.rest.lens.2.2.2 ((hc.block _ (blk_lt h.rest.out) (x5 (by decide))).trans h.rest.out) (row_chg h.rest.evs hc (fun b e e9 => x8 (by decide) (by rw [e, e9]))) (h.rest.lies hc (fun x _ e => hS x e) (MutUp.refl _ _)),
    (hc.block _ (blk_lt h.hb) (x4 (by decide))).trans h.hb, m1, m2, h.logge, m3, m4, h.mt⟩
  rw [blk_set h.rest.fin]
  simp [List.map_set]
theorem LogA.app {w1 : World} (h : LogA w0 w J s hl vs L ea ec ers) (e : EvD) (he : e.ans.list = [] ∧ e.key = []) (hc : Chg (fun b => (Value.slice ea s.evs.length ec).ownBlock = some b) w w1) (hk : KeepB w (.slice ea s.evs.length ec) (.slice ea' (s.evs.length + 1) ec'))
    (hrow : w1.ownsRow w0.heap.size 52 8 (.slice ea' (s.evs.length + 1) ec') (s.evs.length + 1) (evRow s.evs ers ++ evCells e (.slice none 0 0, .slice none 0 0))) :
    LogA w0 (w1.setCell ⟨J.bO, 0, none⟩ (.slice ea' (s.evs.length + 1) ec')) J { s with evs := s.evs ++ [e] } hl vs L ea' ec' (ers ++ [(.slice none 0 0, .slice none 0 0)]) := by
  have ty := h.ty
  have hlen : (s.evs ++ [e]).length = s.evs.length + 1 := by simp
  obtain ⟨w2, hw2⟩ : ∃ w2, w2 = w1.setCell ⟨J.bO, 0, none⟩ (.slice ea' (s.evs.length + 1) ec') := ⟨_, rfl⟩
  have hE : ∀ b, (Value.slice ea s.evs.length ec).ownBlock = some b → ∃ c fz, w.heap[b]? = some (.cells c 52 fz) := fun b e => row_type h.rest.evs e
  have hne : ∀ {b' : Nat} {c : Array Value} {T : TypeId} {fz : Nat × Nat}, w.heap[b']? = some (.cells c T fz) → T ≠ 52 → ¬ (Value.slice ea s.evs.length ec).ownBlock = some b' := fun h9 hT e => by
    obtain ⟨_, _, h8⟩ := hE _ e; exact blk_ne9 h9 h8 hT rfl
  have hO1 : w1.heap[J.bO]? = some (.cells (outR (.slice ea s.evs.length ec) s.idle) 32 (0, 0)) := (hc.block _ (blk_lt h.rest.out) (hne h.rest.out (by decide))).trans h.rest.out
  obtain ⟨x1, x2, x3, x4, x5, x6, x7, x8, x9⟩ := ty.ne h.rest.out
  have hc1 : Chg (fun x => x = J.bO) w1 w2 := by rw [hw2]; exact (Chg.refl (fun x => x = J.bO) w1).setCell (p := ⟨J.bO, 0, none⟩) (.inl rfl) _
  have hc2 : Chg (fun x => (Value.slice ea s.evs.length ec).ownBlock = some x ∨ x = J.bO) w w2 := (hc.mono (fun _ _ e => .inl e)).trans (hc1.mono (fun _ _ e => .inr e))
  have hS : ∀ x, ((Value.slice ea s.evs.length ec).ownBlock = some x ∨ x = J.bO) → LMut J vs L (.slice ea s.evs.length ec) x := fun x e => by
    rcases e with e | e
    · exact .inr (.inr (.inr (.inr (.inr (.inr (.inr (.inr (.inl e))))))))
    · exact .inr (.inr (.inr (.inr (.inr (.inl (.inl e))))))
  have hM : MutUp (LMut J vs L (.slice ea s.evs.length ec)) w (LMut J vs L (.slice ea' (s.evs.length + 1) ec')) := fun x e => by
    rcases e with e | e | e | e | e | e | e | e | e | e
    · exact .inl (.inl e)
    · exact .inl (.inr (.inl e))
    · exact .inl (.inr (.inr (.inl e)))
    · exact .inl (.inr (.inr (.inr (.inl e))))
    · exact .inl (.inr (.inr (.inr (.inr (.inl e)))))
    · exact .inl (.inr (.inr (.inr (.inr (.inr (.inl e))))))
    · exact .inl (.inr (.inr (.inr (.inr (.inr (.inr (.inl e)))))))
    · exact .inl (.inr (.inr (.inr (.inr (.inr (.inr (.inr (.inl e))))))))
    · rcases hk x e with h9 | h9
      · exact .inl (.inr (.inr (.inr (.inr (.inr (.inr (.inr (.inr (.inl h9)))))))))
      · exact .inr h9
    · exact .inl (.inr (.inr (.inr (.inr (.inr (.inr (.inr (.inr (.inr e)))))))))
  have hn2 : ∀ {b' : Nat} {c : Array Value} {T : TypeId} {fz : Nat × Nat}, w.heap[b']? = some (.cells c T fz) → T ≠ 52 → T ≠ 32 → ¬ ((Value.slice ea s.evs.length ec).ownBlock = some b' ∨ b' = J.bO) := fun h9 hT hT2 e => by
    rcases e with e | e
    · exact hne h9 hT e
    · rw [e] at h9; exact blk_ne9 h9 h.rest.out hT2 rfl
  obtain ⟨n, xs, hn, hl9⟩ := h.log
  obtain ⟨_, hW⟩ := ty.W
  obtain ⟨_, hMb⟩ := ty.M
  obtain ⟨_, hTb⟩ := ty.T
  have hrow2 : w2.ownsRow w0.heap.size 52 8 (.slice ea' (s.evs.length + 1) ec') (s.evs.length + 1) (evRow (s.evs ++ [e]) (ers ++ [(.slice none 0 0, .slice none 0 0)])) := by
    rw [evRow_append _ _ _ _ h.rest.lens.2.2.2.symm, show evRow [e] [((.slice none 0 0 : Value), (.slice none 0 0 : Value))] = evCells e (.slice none 0 0, .slice none 0 0) ++ [] from rfl, List.append_nil]
    exact row_chg hrow hc1 (fun b e9 e8 => by rw [e8] at e9; exact row_ne hrow hO1 (by decide) e9)
  rw [← hw2]
  have hrest : LogR w0 w2 (LMut J vs L (.slice ea' (s.evs.length + 1) ec')) J (fun _ => True) { s with evs := s.evs ++ [e] } hl vs ea' ec' (ers ++ [(.slice none 0 0, .slice none 0 0)]) := by
    refine h.rest.turn (s' := { s with evs := s.evs ++ [e] }) hc2 (fun x _ e => hS x e) hM (fun x e => ?_) (fun x e q hq => ?_) (fun x e e9 => ?_) rfl ((hc2.block _ (blk_lt h.rest.fin) (hn2 h.rest.fin (by decide) (by decide))).trans h.rest.fin) h.rest.flen (by simp [h.rest.lens.2.2.2]) ?_ (by rw [hlen]; exact hrow2) (fun i hi => ?_)
    · rcases e with e | e
      · rcases h.rest.evs.2 with ⟨h1, _⟩ | ⟨g, cap, cur, h1, h2, _⟩
        · rw [h1] at e; cases e
        · rw [h1] at e; cases e; exact h2
      · rw [e]; exact h.rest.ge.2.1
    · refine ⟨fun e9 => ?_, fun hP => ⟨fun e9 => ?_, fun e9 => ?_⟩⟩
      · obtain ⟨_, h9⟩ := ty.o q hq; exact hn2 h9 (by decide) (by decide) (by rw [e9]; exact e)
      · obtain ⟨_, _, h9⟩ := ty.G q hq trivial x e9; exact hn2 h9 (by decide) (by decide) e
      · obtain ⟨_, _, h9⟩ := ty.K q hq trivial x e9; exact hn2 h9 (by decide) (by decide) e
    · obtain ⟨_, _, h9⟩ := ty.U x e9; exact absurd e (hn2 h9 (by decide) (by decide))
    · rw [hw2, blk_set hO1, hlen]; rfl
    · simp only [hlen] at hi
      by_cases h1 : i < s.evs.length
      · have e1 : (ers ++ [((.slice none 0 0 : Value), (.slice none 0 0 : Value))]).getD i vv0 = ers.getD i vv0 := by rw [List.getD_eq_getElem?_getD, List.getD_eq_getElem?_getD, List.getElem?_append_left (by rw [h.rest.lens.2.2.2]; exact h1)]
        have e2 : (s.evs ++ [e]).getD i ev0 = s.evs.getD i ev0 := by rw [List.getD_eq_getElem?_getD, List.getD_eq_getElem?_getD, List.getElem?_append_left h1]
        show LstU w2 _ _ ((s.evs ++ [e]).getD i ev0).ans.list ∧ Lst w2 _ _ ((s.evs ++ [e]).getD i ev0).key
        rw [e1, e2]
        exact h.rest.lies hc2 (fun x _ e => hS x e) hM i h1
      · obtain rfl : i = s.evs.length := by omega
        have e1 : (ers ++ [((.slice none 0 0 : Value), (.slice none 0 0 : Value))]).getD s.evs.length vv0 = (.slice none 0 0, .slice none 0 0) := by rw [List.getD_eq_getElem?_getD, List.getElem?_append_right (by rw [h.rest.lens.2.2.2]; exact Nat.le_refl _), h.rest.lens.2.2.2, Nat.sub_self]; rfl
        have e2 : (s.evs ++ [e]).getD s.evs.length ev0 = e := by rw [List.getD_eq_getElem?_getD, List.getElem?_append_right (Nat.le_refl _), Nat.sub_self]; rfl
        show LstU w2 _ _ ((s.evs ++ [e]).getD s.evs.length ev0).ans.list ∧ Lst w2 _ _ ((s.evs ++ [e]).getD s.evs.length ev0).key
        rw [e1, e2, he.1, he.2]
        exact ⟨LstU.nil _ _, Lst.nil _ _⟩
  refine ⟨by rw [hlen]; exact hrest, (hc2.block _ (blk_lt h.hb) (hn2 h.hb (by decide) (by decide))).trans h.hb, h.mem.chg hc2 (hn2 hW (by decide) (by decide)) (fun q e9 => by obtain ⟨_, _, h9⟩ := ty.U q e9; exact hn2 h9 (by decide) (by decide)), ⟨n, xs, hn, row_chg hl9 hc2 (fun b e9 => by obtain ⟨_, _, h9⟩ := ty.L b e9; exact hn2 h9 (by decide) (by decide))⟩, h.logge, ?_, ?_, h.mt⟩
  · rw [hlen]; exact h.marks.keep hc2 hS hM (hn2 hMb (by decide) (by decide))
  · rw [hlen]; exact h.traces.keep hc2 hS hM (hn2 hTb (by decide) (by decide))
end
section

/- The reference's play, whatever its object is: a thread begins a call: roundelayplain.begin. -/
open Go.RowKit
set_option maxHeartbeats 4000000 in
theorem begin_gen (w : World) (bH bW bM mc p ev now n : Nat) (pre post : List Value) (x0 x1 x2 x3 x4 x5 x6 x7 x8 x9 x10 x11 x12 x13 x14 x15 : Value) (hH : w.heap[bH]? = some (.cells (pre ++ ([x0, x1, x2, x3, x4, x5, x6, x7, x8, x9, x10, x11, x12, x13, x14, x15] ++ post)).toArray 113 (0, 0))) (hWH : bW ≠ bH) (hMH : bM ≠ bH)
    (ms : Array Value) (hM : w.heap[bM]? = some (.cells ms 24 (0, 0))) (hms : ms.size = n) (hp : p < n) (hn : n ≤ 16) (c6 : w.cell? ⟨bW, 6, none⟩ = some (.int .i64 (now : Int))) (c7 : w.cell? ⟨bW, 7, none⟩ = some (.slice (some ⟨bM, 0, none⟩) n mc)) :
    Calls Tryz.prog 55 #[.pointer (some ⟨bH, pre.length, none⟩), .pointer (some ⟨bW, 0, none⟩), .int .i64 (p : Int), .int .i64 (ev : Int)] w fun e w' => e = .returned (.tuple #[]) ∧ Chg (fun b => b = bH ∨ b = bM) w w' ∧ w'.heap[bM]? = some (.cells (ms.setIfInBounds p (.slice none 0 0)) 24 (0, 0)) ∧ w'.heap[bH]? = some (.cells (pre ++ (handL true ev bW (.slice none 0 0) (.slice none 0 0) (tapeB p now) x15 ++ post)).toArray 113 (0, 0)) := by
  have H0 := Lib.hid hH; have HM := Lib.hid hM; have C6 := Lib.hid c6; have C7 := Lib.hid c7
  have lW := World.block_lt_of_cell? _ _ c6
  have lM := blk_lt hM
  obtain ⟨y9, hy9⟩ : ∃ y, ms[p]? = some y := ⟨_, Array.getElem?_eq_getElem (by omega)⟩
  clear hM c6 c7 hms
  have c0 : w.cell? ⟨bH, pre.length, none⟩ = some (x0) := by rw [cell_blk hH]; exact mid_get (i := 0) (by exact (by decide : 0 < 16))
  have cf0 : w.frozen? ⟨bH, pre.length, none⟩ = false := frozen_blk hH _
  clear hH
  go_enter Tryz.func55, Tryz.ntmps55
  go_upto_region 1 with fail
  obtain ⟨w1, hw1⟩ : ∃ w1, w1 = w.setCell ⟨bH, pre.length, none⟩ (.bool true) := ⟨_, rfl⟩
  rw [← hw1]
  have h1 : w1.heap[bH]? = some (.cells (pre ++ ([.bool true, x1, x2, x3, x4, x5, x6, x7, x8, x9, x10, x11, x12, x13, x14, x15] ++ post)).toArray 113 (0, 0)) := by rw [hw1]; exact hand_set (i := 0) H0.out (by exact (by decide : 0 < 16)) _
  have g1 : Chg (fun b => b = bH) w w1 := by rw [hw1]; exact (Chg.refl (fun b => b = bH) w).setCell (p := ⟨bH, pre.length, none⟩) (.inl rfl) _
  have H1 := Lib.hid h1; have G1 := Lib.hid g1
  clear c0 cf0 hw1 g1
  have c1 : w1.cell? ⟨bH, pre.length + 1, none⟩ = some (x1) := by rw [cell_blk h1]; exact mid_get (i := 1) (by exact (by decide : 1 < 16))
  have cf1 : w1.frozen? ⟨bH, pre.length + 1, none⟩ = false := frozen_blk h1 _
  clear h1
  go_upto_region 2 with fail
  obtain ⟨w2, hw2⟩ : ∃ w2, w2 = w1.setCell ⟨bH, pre.length + 1, none⟩ (.int .i64 (ev : Int)) := ⟨_, rfl⟩
  rw [← hw2]
  have h2 : w2.heap[bH]? = some (.cells (pre ++ ([.bool true, .int .i64 (ev : Int), x2, x3, x4, x5, x6, x7, x8, x9, x10, x11, x12, x13, x14, x15] ++ post)).toArray 113 (0, 0)) := by rw [hw2]; exact hand_set (i := 1) H1.out (by exact (by decide : 1 < 16)) _
  have g2 : Chg (fun b => b = bH) w w2 := by rw [hw2]; exact G1.out.setCell (p := ⟨bH, pre.length + 1, none⟩) (.inl rfl) _
  have k6 : w2.cell? ⟨bW, 6, none⟩ = some (.int .i64 (now : Int)) := (g2.cell lW hWH).trans C6.out
  have H2 := Lib.hid h2; have G2 := Lib.hid g2
  clear c1 cf1 hw2 g2
  have c2 : w2.cell? ⟨bH, pre.length + 2, none⟩ = some (x2) := by rw [cell_blk h2]; exact mid_get (i := 2) (by exact (by decide : 2 < 16))
  have cf2 : w2.frozen? ⟨bH, pre.length + 2, none⟩ = false := frozen_blk h2 _
  have c3 : w2.cell? ⟨bH, pre.length + 3, none⟩ = some (x3) := by rw [cell_blk h2]; exact mid_get (i := 3) (by exact (by decide : 3 < 16))
  have cf3 : w2.frozen? ⟨bH, pre.length + 3, none⟩ = false := frozen_blk h2 _
  have c4 : w2.cell? ⟨bH, pre.length + 4, none⟩ = some (x4) := by rw [cell_blk h2]; exact mid_get (i := 4) (by exact (by decide : 4 < 16))
  have cf4 : w2.frozen? ⟨bH, pre.length + 4, none⟩ = false := frozen_blk h2 _
  have c5 : w2.cell? ⟨bH, pre.length + 5, none⟩ = some (x5) := by rw [cell_blk h2]; exact mid_get (i := 5) (by exact (by decide : 5 < 16))
  have cf5 : w2.frozen? ⟨bH, pre.length + 5, none⟩ = false := frozen_blk h2 _
  have c6 : w2.cell? ⟨bH, pre.length + 6, none⟩ = some (x6) := by rw [cell_blk h2]; exact mid_get (i := 6) (by exact (by decide : 6 < 16))
  have cf6 : w2.frozen? ⟨bH, pre.length + 6, none⟩ = false := frozen_blk h2 _
  have c7 : w2.cell? ⟨bH, pre.length + 7, none⟩ = some (x7) := by rw [cell_blk h2]; exact mid_get (i := 7) (by exact (by decide : 7 < 16))
  have cf7 : w2.frozen? ⟨bH, pre.length + 7, none⟩ = false := frozen_blk h2 _
  have c8 : w2.cell? ⟨bH, pre.length + 8, none⟩ = some (x8) := by rw [cell_blk h2]; exact mid_get (i := 8) (by exact (by decide : 8 < 16))
  have cf8 : w2.frozen? ⟨bH, pre.length + 8, none⟩ = false := frozen_blk h2 _
  have c9 : w2.cell? ⟨bH, pre.length + 9, none⟩ = some (x9) := by rw [cell_blk h2]; exact mid_get (i := 9) (by exact (by decide : 9 < 16))
  have cf9 : w2.frozen? ⟨bH, pre.length + 9, none⟩ = false := frozen_blk h2 _
  have c10 : w2.cell? ⟨bH, pre.length + 10, none⟩ = some (x10) := by rw [cell_blk h2]; exact mid_get (i := 10) (by exact (by decide : 10 < 16))
  have cf10 : w2.frozen? ⟨bH, pre.length + 10, none⟩ = false := frozen_blk h2 _
  have c11 : w2.cell? ⟨bH, pre.length + 11, none⟩ = some (x11) := by rw [cell_blk h2]; exact mid_get (i := 11) (by exact (by decide : 11 < 16))
  have cf11 : w2.frozen? ⟨bH, pre.length + 11, none⟩ = false := frozen_blk h2 _
  have c12 : w2.cell? ⟨bH, pre.length + 12, none⟩ = some (x12) := by rw [cell_blk h2]; exact mid_get (i := 12) (by exact (by decide : 12 < 16))
  have cf12 : w2.frozen? ⟨bH, pre.length + 12, none⟩ = false := frozen_blk h2 _
  have c13 : w2.cell? ⟨bH, pre.length + 13, none⟩ = some (x13) := by rw [cell_blk h2]; exact mid_get (i := 13) (by exact (by decide : 13 < 16))
  have cf13 : w2.frozen? ⟨bH, pre.length + 13, none⟩ = false := frozen_blk h2 _
  have c14 : w2.cell? ⟨bH, pre.length + 14, none⟩ = some (x14) := by rw [cell_blk h2]; exact mid_get (i := 14) (by exact (by decide : 14 < 16))
  have cf14 : w2.frozen? ⟨bH, pre.length + 14, none⟩ = false := frozen_blk h2 _
  clear h2
  go_upto_region 3 with fail
  obtain ⟨w3, hw3⟩ : ∃ w3, w3 = ((((((((((((w2.setCell ⟨bH, pre.length + 2, none⟩ (.pointer (some ⟨bW, 0, none⟩))).setCell ⟨bH, pre.length + 3, none⟩ (.int .i64 (p : Int))).setCell ⟨bH, pre.length + 4, none⟩ (.int .i64 (now : Int))).setCell ⟨bH, pre.length + 5, none⟩ (.slice none 0 0)).setCell ⟨bH, pre.length + 6, none⟩ (.slice none 0 0)).setCell ⟨bH, pre.length + 7, none⟩ (.int .i64 0)).setCell ⟨bH, pre.length + 8, none⟩ (.bool false)).setCell ⟨bH, pre.length + 9, none⟩ (.bool false)).setCell ⟨bH, pre.length + 10, none⟩ (.slice none 0 0)).setCell ⟨bH, pre.length + 11, none⟩ (.int .i64 0)).setCell ⟨bH, pre.length + 12, none⟩ (.int .u64 0)).setCell ⟨bH, pre.length + 13, none⟩ (.slice none 0 0)).setCell ⟨bH, pre.length + 14, none⟩ (.slice none 0 0) := ⟨_, rfl⟩
  rw [← hw3]
  have h3 : w3.heap[bH]? = some (.cells (pre ++ ([.bool true, .int .i64 (ev : Int), .pointer (some ⟨bW, 0, none⟩), .int .i64 (p : Int), .int .i64 (now : Int), .slice none 0 0, .slice none 0 0, .int .i64 0, .bool false, .bool false, .slice none 0 0, .int .i64 0, .int .u64 0, .slice none 0 0, .slice none 0 0, x15] ++ post)).toArray 113 (0, 0)) := by rw [hw3]; exact (hand_set (i := 14) (hand_set (i := 13) (hand_set (i := 12) (hand_set (i := 11) (hand_set (i := 10) (hand_set (i := 9) (hand_set (i := 8) (hand_set (i := 7) (hand_set (i := 6) (hand_set (i := 5) (hand_set (i := 4) (hand_set (i := 3) (hand_set (i := 2) H2.out (by exact (by decide : 2 < 16)) (.pointer (some ⟨bW, 0, none⟩))) (by exact (by decide : 3 < 16)) (.int .i64 (p : Int))) (by exact (by decide : 4 < 16)) (.int .i64 (now : Int))) (by exact (by decide : 5 < 16)) (.slice none 0 0)) (by exact (by decide : 6 < 16)) (.slice none 0 0)) (by exact (by decide : 7 < 16)) (.int .i64 0)) (by exact (by decide : 8 < 16)) (.bool false)) (by exact (by decide : 9 < 16)) (.bool false)) (by exact (by decide : 10 < 16)) (.slice none 0 0)) (by exact (by decide : 11 < 16)) (.int .i64 0)) (by exact (by decide : 12 < 16)) (.int .u64 0)) (by exact (by decide : 13 < 16)) (.slice none 0 0)) (by exact (by decide : 14 < 16)) (.slice none 0 0))
  have g3 : Chg (fun b => b = bH) w w3 := by rw [hw3]; exact (((((((((((((G2.out.setCell (p := ⟨bH, pre.length + 2, none⟩) (by exact .inl rfl) _).setCell (p := ⟨bH, pre.length + 3, none⟩) (by exact .inl rfl) _).setCell (p := ⟨bH, pre.length + 4, none⟩) (by exact .inl rfl) _).setCell (p := ⟨bH, pre.length + 5, none⟩) (by exact .inl rfl) _).setCell (p := ⟨bH, pre.length + 6, none⟩) (by exact .inl rfl) _).setCell (p := ⟨bH, pre.length + 7, none⟩) (by exact .inl rfl) _).setCell (p := ⟨bH, pre.length + 8, none⟩) (by exact .inl rfl) _).setCell (p := ⟨bH, pre.length + 9, none⟩) (by exact .inl rfl) _).setCell (p := ⟨bH, pre.length + 10, none⟩) (by exact .inl rfl) _).setCell (p := ⟨bH, pre.length + 11, none⟩) (by exact .inl rfl) _).setCell (p := ⟨bH, pre.length + 12, none⟩) (by exact .inl rfl) _).setCell (p := ⟨bH, pre.length + 13, none⟩) (by exact .inl rfl) _).setCell (p := ⟨bH, pre.length + 14, none⟩) (by exact .inl rfl) _)
  have k7 : w3.cell? ⟨bW, 7, none⟩ = some (.slice (some ⟨bM, 0, none⟩) n mc) := (g3.cell (by simpa using lW) hWH).trans C7.out
  have hM3 : w3.heap[bM]? = some (.cells ms 24 (0, 0)) := (g3.block _ lM hMH).trans HM.out
  have m1 : w3.cell? ⟨bM, p, none⟩ = some y9 := by rw [cell_blk hM3]; exact hy9
  have mf : w3.frozen? ⟨bM, p, none⟩ = false := frozen_blk hM3 _
  have l1 : (p : Int) < (n : Int) := by omega
  have lw : IntKind.i64.wrap (p : Int) = (p : Int) := by rw [IntKind.wrap_i64]; omega
  have fin : Chg (fun b => b = bH ∨ b = bM) w (w3.setCell ⟨bM, p, none⟩ (.slice none 0 0)) ∧ (w3.setCell ⟨bM, p, none⟩ (.slice none 0 0)).heap[bM]? = some (.cells (ms.setIfInBounds p (.slice none 0 0)) 24 (0, 0)) ∧ (w3.setCell ⟨bM, p, none⟩ (.slice none 0 0)).heap[bH]? = some (.cells (pre ++ (handL true ev bW (.slice none 0 0) (.slice none 0 0) (tapeB p now) x15 ++ post)).toArray 113 (0, 0)) :=
    ⟨(g3.mono (fun _ _ e => .inl e)).setCell (p := ⟨bM, p, none⟩) (.inl (.inr rfl)) _, blk_set hM3 _ _, by rw [blk_set_other hMH.symm]; exact h3⟩
  have Fin := Lib.hid fin
  clear h3 g3 hM3 fin hw3 k6 hy9 c2 cf2 c3 cf3 c4 cf4 c5 cf5 c6 cf6 c7 cf7 c8 cf8 c9 cf9 c10 cf10 c11 cf11 c12 cf12 c13 cf13 c14 cf14
  go_wp2
  (first | go_end0 | ((try simp only [Exit.inBlock, Exit.then]); refine bodyPost_ret (results_none rfl _ _ _) rfl ?_))
  exact ⟨rfl, Fin.out.1, Fin.out.2.1, Fin.out.2.2⟩
end
end Go.Proofs.YteffgpcjfnjlkaaGreat
