/- Layer 2: the law MemPlays: walk. -/
import Derived.Test.YtkocgeedpinplaaMemD
import Derived.Test.YtkocgeedpinplaaRef02
import Derived.Deep.RegionHeld3
set_option maxRecDepth 100000
namespace Go.Proofs.Ytkocgeedpinplaa
open Go.RowKit

structure ActD where
  kind : Int
  a : Int
  x : Nat
  y : Nat
def actV (x : ActD) (f : Nat) : Value := if f = 0 then .int .i64 x.kind else if f = 1 then .int .i64 x.a else if f = 2 then .int .u64 (x.x : Int) else .int .u64 (x.y : Int)
def actG (l : List ActD) (j f : Nat) : Value := actV (l.getD j ⟨0, 0, 0, 0⟩) f
structure ActWf (x : ActD) : Prop where
  wx : x.x < 18446744073709551616
  wy : x.y < 18446744073709551616

theorem do_any (bm : Nat) (bw : Option Nat) (m : MemD) (kind a : Int) (x y : Nat) (w : World) (h : MemAt w bm bw m) (hx : x < 18446744073709551616) (hy : y < 18446744073709551616) (hcnt : m.c.all + 1 < 1000000000000) :
    Calls Try.prog 22 #[.pointer (some ⟨bm, 0, none⟩), .agg #[.int .i64 kind, .int .i64 a, .int .u64 (x : Int), .int .u64 (y : Int)]] w fun e w' => e = .returned (.int .u64 ((memAcc m kind a x y).2 : Int)) ∧ MemAt w' bm bw (memAcc m kind a x y).1 ∧ Chg (MemSet bm bw) w w' := by
  have hg := h.gr (Gr.new w (.cells #[.int .i64 kind, .int .i64 a, .int .u64 (x : Int), .int .u64 (y : Int)] 44))
  have hgc : ∀ w', Chg (MemSet bm bw) (w.alloc (.cells #[.int .i64 kind, .int .i64 a, .int .u64 (x : Int), .int .u64 (y : Int)] 44)) w' → Chg (MemSet bm bw) w w' := fun w' h => (Chg.of_below (Gr.new w _)).trans h
  have Hgc := Lib.hid hgc
  by_cases k0 : kind = 0
  · subst k0
    have A := Lib.hid (read_any bm bw m a _ hg hcnt)
    have e1 : memAcc m 0 a x y = memRead m a := by simp [memAcc]
    rw [e1]
    clear h hg hgc e1 hcnt
    go_enter Try.func22, Try.ntmps22
    go_wp2_with fail
    refine A.out.mono ?_
    rintro e w1 ⟨rfl, hm, hc⟩
    have Hm := Lib.hid hm; have Hc := Lib.hid (Hgc.out _ hc); clear hm hc
    go_wp2
    go_ret
    exact ⟨rfl, Hm.out, Hc.out⟩
  by_cases k1 : kind = 1
  · subst k1
    have A := Lib.hid (write_any bm bw m a x _ hg hx hcnt)
    have e1 : memAcc m 1 a x y = (memWrite m a x, 0) := by simp [memAcc]
    rw [e1]
    clear h hg hgc e1 hcnt k0
    go_enter Try.func22, Try.ntmps22
    go_wp2_with fail
    refine A.out.mono ?_
    rintro e w1 ⟨rfl, hm, hc⟩
    have Hm := Lib.hid hm; have Hc := Lib.hid (Hgc.out _ hc); clear hm hc
    go_wp2
    go_ret
    exact ⟨rfl, Hm.out, Hc.out⟩
  by_cases k2 : kind = 2
  · subst k2
    have e1 : memAcc m 2 a x y = ((memSwap m a x y).1, b01 (memSwap m a x y).2) := by simp [memAcc]
    obtain ⟨b, hb⟩ : ∃ b, b = (memSwap m a x y).2 := ⟨_, rfl⟩
    have A := swap_any bm bw m a x y _ hg hy hcnt
    rw [e1]
    rw [← hb] at A ⊢
    have A' := Lib.hid A
    clear h hg hgc e1 hcnt k0 k1 hb A
    cases b
    all_goals
      go_enter Try.func22, Try.ntmps22
      go_wp2_with fail
      refine A'.out.mono ?_
      rintro e w1 ⟨rfl, hm, hc⟩
      have Hm := Lib.hid hm; have Hc := Lib.hid (Hgc.out _ hc); clear hm hc
      go_wp2
      go_ret
      exact ⟨rfl, Hm.out, Hc.out⟩
  · have A := Lib.hid (add_any bm bw m a x _ hg hcnt)
    have e1 : memAcc m kind a x y = memAdd m a x := by simp [memAcc, k0, k1, k2]
    rw [e1]
    have a0 : (kind == 0) = false := by simpa using k0
    have a1 : (kind == 1) = false := by simpa using k1
    have a2 : (kind == 2) = false := by simpa using k2
    clear h hg hgc e1 hcnt k0 k1 k2
    go_enter Try.func22, Try.ntmps22
    go_wp2_with fail
    refine A.out.mono ?_
    rintro e w1 ⟨rfl, hm, hc⟩
    have Hm := Lib.hid hm; have Hc := Lib.hid (Hgc.out _ hc); clear hm hc
    go_wp2
    go_ret
    exact ⟨rfl, Hm.out, Hc.out⟩

theorem memAcc_len (m : MemD) (kind a : Int) (x y : Nat) : (memAcc m kind a x y).1.ws.length = m.ws.length := by
  unfold memAcc memRead memWrite memSwap memAdd MemD.fault
  repeat' split
  all_goals simp
theorem memAcc_all (m : MemD) (kind a : Int) (x y : Nat) : (memAcc m kind a x y).1.c.all = m.c.all + 1 := by
  unfold memAcc memRead memWrite memSwap memAdd MemD.fault CountsD.all
  repeat' split
  all_goals (simp only; omega)

theorem memPlays_long (ws : List Nat) (a a2 : Option Addr) (c n2 c2 : Nat) (w : World) (hs : SlAt w a ws.length 1 (u64G ws)) (hl : 65536 < ws.length) :
    Calls Try.prog 4 #[.slice a ws.length c, .slice a2 n2 c2] w fun e w' => e = .returned (.bool true) ∧ Below w.heap.size w w' := by
  have T := Lib.hid two_true
  have N := Lib.hid (new_long a ws.length c w hs.1 hl)
  have h1 : (65536 : Int) < ws.length := by omega
  clear hs hl
  go_enter Try.func4, Try.ntmps4
  go_wp2_with fail
  refine N.out.mono ?_
  rintro e w1 ⟨rfl, rfl⟩
  go_wp2_with fail
  refine (T.out _).mono ?_
  rintro e w1 ⟨rfl, hb⟩
  have Hb := Lib.hid hb; clear hb
  go_wp2
  go_ret
  exact ⟨rfl, Hb.out⟩

structure PlaysSt (w wr : World) (bm : Nat) (bw : Option Nat) (b : Nat) (rw : Option Nat) (n k : Nat) (m : MemD) : Prop where
  mem : MemAt wr bm bw m
  ref : RMemAt wr b 40 [] rw m
  len : m.ws.length = n
  cnt : m.c.all = k
  below : Below w.heap.size w wr

set_option maxHeartbeats 4000000 in
theorem memPlays_any (ws : List Nat) (l : List ActD) (a a2 : Option Addr) (c c2 : Nat) (w : World) (hs : SlAt w a ws.length 1 (u64G ws)) (hc : a = none → c = 0) (hv : ∀ x ∈ ws, x < 18446744073709551616) (hl : ws.length ≤ 65536)
    (hs2 : SlAt w a2 l.length 4 (actG l)) (hw : ∀ x ∈ l, ActWf x) :
    Calls Try.prog 4 #[.slice a ws.length c, .slice a2 l.length c2] w fun e w' => e = .returned (.bool true) ∧ Below w.heap.size w w' := by
  have hm2 := hs2.1
  unfold maxLen at hm2
  have T := Lib.hid two_true
  have N := Lib.hid (new_mem a c ws w hs hl hc hv)
  have O := Lib.hid (fun (u : World) (h : Below w.heap.size w u) => of_any a c ws u (hs.grown h) (by omega) hc)
  have h1 : ¬ (65536 : Int) < ws.length := by omega
  have Hs2 := Lib.hid hs2; have Hw := Lib.hid hw; have Hv := Lib.hid hv; have Hl := Lib.hid hl
  clear hs hs2 hw hv hc hl
  go_enter Try.func4, Try.ntmps4
  go_wp2_with fail
  refine N.out.mono ?_
  rintro e w1 ⟨bm, bw, rfl, hm, hb, hq1, hq2⟩
  have Hm := Lib.hid hm; have Hb := Lib.hid hb; have Hq1 := Lib.hid hq1; have Hq2 := Lib.hid hq2
  clear hm hb hq1 hq2
  go_wp2_with fail
  refine (O.out _ Hb.out).mono ?_
  rintro e w2 ⟨v, rfl, ho, hb2⟩
  obtain ⟨va, vc, rfl⟩ := row_form ho
  have Ho := Lib.hid ho; have Hb2 := Lib.hid hb2
  clear ho hb2
  obtain ⟨b, hbd⟩ : ∃ b, b = w2.heap.size := ⟨_, rfl⟩
  obtain ⟨w3, hw3⟩ : ∃ w3, w3 = w2.alloc (.cells #[.slice va ws.length vc, .int .i64 0, .int .i64 0, .int .i64 0, .int .i64 0, .int .i64 0] 40) := ⟨_, rfl⟩
  have hst : ∃ rw, PlaysSt w w3 bm bw b rw ws.length 0 ⟨ws, c0⟩ ∧ (∀ k, MemSet b rw k → w.heap.size ≤ k ∧ ¬ MemSet bm bw k) := by
    have hbb : Below w1.heap.size w1 w3 := by rw [hw3]; exact Gr.alloc Hb2.out _
    have l1 := Hm.out.lt; have l2 := Hm.out.low; have l3 := Hb2.out.size; have l4 := Hb.out.size
    have hm3 := Hm.out.gr hbb
    obtain ⟨_, h2⟩ := Ho.out
    rcases h2 with ⟨h9, h0⟩ | ⟨q, cap, cur, h9, hq, hh, hcap, _, hcs, htake⟩ <;> simp only [Value.slice.injEq] at h9
    · obtain ⟨rfl, _, rfl⟩ := h9
      obtain rfl : ws = [] := List.eq_nil_of_length_eq_zero h0
      refine ⟨none, ⟨hm3, ⟨⟨none, 0, ⟨Nat.le_refl _, fun _ => rfl⟩, ?_, fun h => absurd h (by simp)⟩, by simp, (fun _ e => by cases e), by simp, (by show CountsD.all c0 < _; decide), (fun _ h => by cases h)⟩, rfl, rfl, Gr.trans Hb.out hbb⟩, ?_⟩
      · rw [hw3, hbd]; exact heap_alloc_new _ _
      · rintro k (rfl | h)
        · refine ⟨by omega, ?_⟩
          rintro (h | h)
          · omega
          · have := l2 _ h.symm; omega
        · cases h
    · obtain ⟨rfl, _, rfl⟩ := h9
      have hql := blk_lt hh
      refine ⟨some q, ⟨hm3, ⟨⟨some ⟨q, 0, none⟩, vc, ⟨hcap, fun h => by cases h⟩, ?_, fun _ => ⟨q, cur.toList.drop ws.length, rfl, rfl, ?_⟩⟩, ?_, ?_, (by have := Hl.out; simp only; omega), (by show CountsD.all c0 < _; decide), Hv.out⟩, rfl, rfl, Gr.trans Hb.out hbb⟩, ?_⟩
      · rw [hw3, hbd]; exact heap_alloc_new _ _
      · rw [hw3, Below.heap_alloc _ _ _ hql, hh]
        rw [Nat.mul_one] at htake
        rw [← htake, List.take_append_drop]
      · intro e; cases e; omega
      · intro q2 e; cases e; rw [hw3]; simp; omega
      · rintro k (rfl | h)
        · refine ⟨by omega, ?_⟩
          rintro (h | h)
          · omega
          · have := l2 _ h.symm; omega
        · cases h
          refine ⟨by omega, ?_⟩
          rintro (h | h)
          · omega
          · have := l2 _ h.symm; omega
  obtain ⟨rw, hst, hsep⟩ := hst
  have hms : ∀ k, MemSet bm bw k → w.heap.size ≤ k := by
    rintro k (rfl | h)
    · exact Hq1.out
    · exact Hq2.out _ h.symm
  have Hst := Lib.hid hst; have Hsep := Lib.hid hsep; have Hms := Lib.hid hms; have Hw3 := Lib.hid hw3; have Hbd := Lib.hid hbd
  clear hst hsep hms hw3 hbd
  go_wp2
  rw [← Hw3.out, ← Hbd.out]
  go_loopw [8] (fun i wr => ∃ (k : Nat) (m : MemD), k ≤ l.length ∧ k ≤ 500 ∧ i = .int .i64 k ∧ PlaysSt w wr bm bw b rw ws.length k m) (fun i _ => l.length - (intOf i).toNat)
  case atStart => exact ⟨0, ⟨ws, c0⟩, Nat.zero_le _, Nat.zero_le _, rfl, Hst.out⟩
  case round =>
    obtain ⟨k, m, hk, hk5, rfl, hst⟩ := hrel
    by_cases hlt : k < l.length ∧ k < 500
    · obtain ⟨hlt, hlt5⟩ := hlt
      obtain ⟨b4, o4, rfl, h4⟩ := Hs2.out.elem hst.below hlt
      obtain ⟨x, hx⟩ : ∃ x, x = l[k] := ⟨_, rfl⟩
      have hxw := Hw.out x (by rw [hx]; exact List.getElem_mem hlt)
      have hg : ∀ f, f < 4 → wr.cell? ⟨b4, o4 + (k * 4 + f), none⟩ = some (actV x f) := fun f hf => by rw [h4 f hf]; simp [actG, List.getD_eq_getElem?_getD, hlt, hx]
      have e0 : wr.cell? ⟨b4, o4 + k * 4, none⟩ = some (.int .i64 x.kind) := hg 0 (by omega)
      have e1 : wr.cell? ⟨b4, o4 + k * 4 + 1, none⟩ = some (.int .i64 x.a) := by rw [Nat.add_assoc]; exact hg 1 (by omega)
      have e2 : wr.cell? ⟨b4, o4 + k * 4 + 2, none⟩ = some (.int .u64 (x.x : Int)) := by rw [Nat.add_assoc]; exact hg 2 (by omega)
      have e3 : wr.cell? ⟨b4, o4 + k * 4 + 3, none⟩ = some (.int .u64 (x.y : Int)) := by rw [Nat.add_assoc]; exact hg 3 (by omega)
      have hb4 : b4 < w.heap.size := by
        obtain ⟨b9, o9, h9, h10, _⟩ := Hs2.out.2 k hlt
        cases h9; exact h10
      have nm : ¬ MemSet bm bw b4 := fun h => by have := Hms.out _ h; omega
      have nr : ¬ MemSet b rw b4 := fun h => by have := (Hsep.out _ h).1; omega
      have hcnt := hst.cnt; have hlen := hst.len
      have D := Lib.hid (fun (u : World) (h : Chg (fun _ => False) wr u) => do_any bm bw m x.kind x.a x.x x.y u (hst.mem.chg h (fun h => h) (fun _ _ h => h)) hxw.wx hxw.wy (by omega))
      have A := Lib.hid (fun (u : World) (h : Chg (MemSet bm bw) wr u) => racc_any b 40 [] rw m x.kind x.a x.x x.y u (hst.ref.chg h (fun h2 => (Hsep.out _ (.inl rfl)).2 h2) (fun q e h2 => (Hsep.out _ (.inr e.symm)).2 h2)) hxw.wx hxw.wy (by omega))
      have Hlen := Lib.hid (memAcc_len m x.kind x.a x.x x.y); have Hall := Lib.hid (memAcc_all m x.kind x.a x.x x.y)
      have Hst2 := Lib.hid hst.below
      have Hcnt := Lib.hid hcnt; have Hln := Lib.hid hlen
      have l1 : (k : Int) < l.length := by omega
      have l2 : (k : Int) < 500 := by omega
      obtain ⟨R, hR⟩ : ∃ R, R = (memAcc m x.kind x.a x.x x.y).2 := ⟨_, rfl⟩
      rw [← hR] at D A
      have Nm := Lib.hid nm; have Nr := Lib.hid nr
      clear hst h4 hx hxw hg nm nr hcnt hlen hR
      go_wp2_with fail
      go_region_held3 (fun u => u.cell? ⟨b4, o4 + k * 4, none⟩ = some (.int .i64 x.kind) ∧ u.cell? ⟨b4, o4 + k * 4 + 1, none⟩ = some (.int .i64 x.a) ∧ u.cell? ⟨b4, o4 + k * 4 + 2, none⟩ = some (.int .u64 (x.x : Int)) ∧ u.cell? ⟨b4, o4 + k * 4 + 3, none⟩ = some (.int .u64 (x.y : Int)))
        (first | exact ⟨e0, e1, e2, e3⟩ | exact ⟨box_keep hc2 Nr.out (box_keep hc Nm.out e0), box_keep hc2 Nr.out (box_keep hc Nm.out e1), box_keep hc2 Nr.out (box_keep hc Nm.out e2), box_keep hc2 Nr.out (box_keep hc Nm.out e3)⟩ | exact ⟨box_keep hc Nm.out e0, box_keep hc Nm.out e1, box_keep hc Nm.out e2, box_keep hc Nm.out e3⟩ | go_keep)
        (first | (go_at_call 22; refine (D.out _ ?_).mono ?_; (exact (Chg.refl _ _).drew); rintro e w4 ⟨rfl, hm, hc⟩) | (go_at_call 23; refine (A.out _ ?_).mono ?_; (exact (Chg.refl _ _).drew.trans hc); rintro e w5 ⟨rfl, hr, hc2⟩))
      have Hrel : Hid (∃ (k1 : Nat) (m : MemD), k1 ≤ l.length ∧ k1 ≤ 500 ∧ Value.int .i64 ((k : Int) + 1) = .int .i64 k1 ∧ PlaysSt w w5 bm bw b rw ws.length k1 m) :=
        ⟨k + 1, (memAcc m x.kind x.a x.x x.y).1, by omega, by omega, by go_num, ⟨hm.chg hc2 (fun h => (Hsep.out _ h).2 (.inl rfl)) (fun q e h => (Hsep.out _ h).2 (.inr e.symm)), hr, by rw [Hlen.out]; exact Hln.out, by rw [Hall.out, Hcnt.out],
          ((((Chg.of_below (S := fun k => MemSet bm bw k ∨ MemSet b rw k) Hst2.out).drew).trans (hc.mono (fun _ _ h => .inl h))).trans (hc2.mono (fun _ _ h => .inr h))).below (fun q h => by rcases h with h | h; exact Hms.out _ h; exact (Hsep.out _ h).1) (Nat.le_refl _)⟩⟩
      clear hm hr hc hc2
      go_wp2
      go_roundw
      case rel => exact Hrel.out
      case measure => simp [intOf] <;> omega
    · obtain ⟨wa, cap, hcap, hbk, hwk⟩ := hst.ref.blk
      have c0' : wr.cell? ⟨b, 0, none⟩ = some (.slice wa m.ws.length cap) := by rw [cell_blk hbk]; simp [rmemCells]
      have c1' : wr.cell? ⟨b, 1, none⟩ = some (.int .i64 (m.c.read : Int)) := by rw [cell_blk hbk]; simp [rmemCells]
      have c2' : wr.cell? ⟨b, 2, none⟩ = some (.int .i64 (m.c.write : Int)) := by rw [cell_blk hbk]; simp [rmemCells]
      have c3' : wr.cell? ⟨b, 3, none⟩ = some (.int .i64 (m.c.swap : Int)) := by rw [cell_blk hbk]; simp [rmemCells]
      have c4' : wr.cell? ⟨b, 4, none⟩ = some (.int .i64 (m.c.add : Int)) := by rw [cell_blk hbk]; simp [rmemCells]
      have c5' : wr.cell? ⟨b, 5, none⟩ = some (.int .i64 (m.c.fault : Int)) := by rw [cell_blk hbk]; simp [rmemCells]
      have hrs : SlAt wr wa m.ws.length 1 (u64G m.ws) := by
        refine ⟨by have := hst.ref.len; unfold maxLen; omega, fun j hj => ?_⟩
        obtain ⟨q, rest, hq, rfl, hr⟩ := hwk (by omega)
        refine ⟨q, 0, rfl, hst.ref.low q hq, fun f hf => ?_⟩
        obtain rfl : f = 0 := by omega
        rw [cell_blk hr]
        simp [u64G, u64V, List.getD_eq_getElem?_getD, hj, List.getElem?_append]
      have hmx : m.ws.length ≤ maxLen := hrs.1
      have Wd := Lib.hid (fun (u : World) (h : Chg (fun _ => False) wr u) => words_any bm bw m u (hst.mem.chg h (fun h => h) (fun _ _ h => h)))
      have Sm := fun (u : World) (va : Option Addr) (vc : Nat) (h : Below wr.heap.size wr u) (hv : SlAt u va m.ws.length 1 (u64G m.ws)) => same_any m.ws m.ws va wa vc cap u hv (hrs.grown h)
      simp only [decide_true] at Sm
      have Sm' := Lib.hid Sm
      have Ln := Lib.hid (fun (u : World) (h : Below wr.heap.size wr u) => len_any bm bw m u (hst.mem.gr h))
      have Cn := Lib.hid (fun (u : World) (h : Below wr.heap.size wr u) => counts_any bm bw m u (hst.mem.gr h))
      have Hsl := Lib.hid (fun (u : World) (va : Option Addr) (vc B : Nat) (h : u.ownsRow B 24 1 (.slice va m.ws.length vc) m.ws.length (m.ws.map u64V)) => (row_sl h hmx (g := u64G m.ws) (fun j hj => by simp [u64G, List.getD_eq_getElem?_getD, hj])).1)
      have Hlen := Lib.hid hst.len; have Hbl := Lib.hid hst.below; have Hlt := Lib.hid hst.ref.lt
      have hln : m.ws.length = ws.length := hst.len
      have hw2 : (k : Int) < l.length ∧ ¬ (k : Int) < 500 ∨ ¬ (k : Int) < l.length := by omega
      clear hst hbk hwk hrs hmx Sm hlt hcap
      have fin : Hid True := trivial
      rcases hw2 with ⟨t1, t2⟩ | t1
      all_goals
        rw [hln] at Wd Sm' Ln Hsl c0'
        clear hln
        go_wp2_with fail
        unfold countsV at Cn
        go_region_held3 (fun u => u.cell? ⟨b, 0, none⟩ = some (.slice wa ws.length cap) ∧ u.cell? ⟨b, 1, none⟩ = some (.int .i64 (m.c.read : Int)) ∧ u.cell? ⟨b, 2, none⟩ = some (.int .i64 (m.c.write : Int)) ∧ u.cell? ⟨b, 3, none⟩ = some (.int .i64 (m.c.swap : Int)) ∧ u.cell? ⟨b, 4, none⟩ = some (.int .i64 (m.c.add : Int)) ∧ u.cell? ⟨b, 5, none⟩ = some (.int .i64 (m.c.fault : Int)))
          (first | exact ⟨c0', c1', c2', c3', c4', c5'⟩ | exact ⟨(hx.cell (p := ⟨b, 0, none⟩) Hlt.out).trans c0', (hx.cell (p := ⟨b, 1, none⟩) Hlt.out).trans c1', (hx.cell (p := ⟨b, 2, none⟩) Hlt.out).trans c2', (hx.cell (p := ⟨b, 3, none⟩) Hlt.out).trans c3', (hx.cell (p := ⟨b, 4, none⟩) Hlt.out).trans c4', (hx.cell (p := ⟨b, 5, none⟩) Hlt.out).trans c5'⟩ | go_keep)
          (first | (go_at_call 25; refine (Wd.out _ ?_).mono ?_; (exact (Chg.refl _ _).drew); rintro e w4 ⟨v, rfl, ho, hx⟩; obtain ⟨va, vc, rfl⟩ := row_form ho; replace hx := undrew hx) | (go_at_call 24; refine (Sm'.out _ _ _ hx (Hsl.out _ _ _ _ ho)).mono ?_; rintro e w5 ⟨rfl, hb5⟩; replace hx := Gr.trans hx hb5) | (go_at_call 26; refine (Ln.out _ hx).mono ?_; rintro e w6 ⟨rfl, rfl⟩) | (go_at_call 27; refine (Cn.out _ hx).mono ?_; rintro e w7 ⟨rfl, hb7⟩; replace hx := Gr.trans hx hb7) | (go_at_call 16; refine (T.out _).mono ?_; rintro e w8 ⟨rfl, hb8⟩; replace hx := Gr.trans hx hb8))
        have Hx := Lib.hid (Gr.trans Hbl.out hx)
        clear hx
        go_wp2
        go_ret
        exact ⟨rfl, Hx.out⟩
end Go.Proofs.Ytkocgeedpinplaa
