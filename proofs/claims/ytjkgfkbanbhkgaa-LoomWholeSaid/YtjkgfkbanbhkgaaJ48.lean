/- Layer 6's reference: R, W, C, A on a tape, and an operation on words, where the access is made now. -/
import Derived.Test.YtjkgfkbanbhkgaaJ47
import Derived.Test.YtjkgfkbanbhkgaaJ08
import Derived.Test.YtjkgfkbanbhkgaaJ25
import Derived.Test.YtjkgfkbanbhkgaaJ21
set_option maxRecDepth 100000
set_option linter.unusedVariables false
set_option linter.unusedSimpArgs false
set_option linter.unnecessarySimpa false
namespace Go.Proofs.Ytjkgfkbanbhkgaa
section
open Go.RowKit

/-- What must hold for an access to be made now. -/
structure NewOk (t : TapeD) (m : MemD) : Prop where
  halt : t.halt = false
  fresh : t.fresh = true
  at_ : t.at_ = t.got.length
  cnt : m.c.all + 1 < 1000000000000
  glen : t.got.length + 1 ≤ 100000000
  klen : t.ticks.length + 1 ≤ 100000000
theorem swap_val (m : MemD) (a : Int) (x y : Nat) : (memAcc m 2 a x y).2 = b01 (memSwap m a x y).2 := rfl
variable (I : TIds) (G K L : Value) (t : TapeD) (m : MemD) (now : Nat) (w : World)
theorem tread_new (a : Int) (h : TapeAt w I G K L t m now) (ok : NewOk t m) :
    Calls Try.prog 48 #[.pointer (some ⟨I.tb, I.pre.length, none⟩), .int .i64 a] w fun e w' => e = .returned (.int .u64 ((memAcc m 0 a 0 0).2 : Int)) ∧ TapeOut w w' I G K L (AccD t (memAcc m 0 a 0 0).2 now) (memAcc m 0 a 0 0).1 now := by
  have A := Lib.hid (access_new I G K L t m now 0 a 0 0 w h ok.halt ok.fresh ok.at_ (by decide) (by decide) ok.cnt ok.glen ok.klen)
  obtain ⟨v, hv⟩ : ∃ v, v = (memAcc m 0 a 0 0).2 := ⟨_, rfl⟩
  obtain ⟨m1, hm1⟩ : ∃ m1, m1 = (memAcc m 0 a 0 0).1 := ⟨_, rfl⟩
  rw [← hv, ← hm1] at A
  rw [← hv, ← hm1]
  clear h ok hv hm1
  go_enter Try.func48, Try.ntmps48
  go_wp2_with (go_at_call 69; refine (A.out).mono ?_; rintro e w' ⟨rfl, h1⟩)
  go_ret
  exact ⟨rfl, h1⟩
theorem tadd_new (a : Int) (d : Nat) (hd : d < 18446744073709551616) (h : TapeAt w I G K L t m now) (ok : NewOk t m) :
    Calls Try.prog 51 #[.pointer (some ⟨I.tb, I.pre.length, none⟩), .int .i64 a, .int .u64 (d : Int)] w fun e w' => e = .returned (.int .u64 ((memAcc m 3 a d 0).2 : Int)) ∧ TapeOut w w' I G K L (AccD t (memAcc m 3 a d 0).2 now) (memAcc m 3 a d 0).1 now := by
  have A := Lib.hid (access_new I G K L t m now 3 a d 0 w h ok.halt ok.fresh ok.at_ hd (by decide) ok.cnt ok.glen ok.klen)
  obtain ⟨v, hv⟩ : ∃ v, v = (memAcc m 3 a d 0).2 := ⟨_, rfl⟩
  obtain ⟨m1, hm1⟩ : ∃ m1, m1 = (memAcc m 3 a d 0).1 := ⟨_, rfl⟩
  rw [← hv, ← hm1] at A
  rw [← hv, ← hm1]
  clear h ok hv hm1
  go_enter Try.func51, Try.ntmps51
  go_wp2_with (go_at_call 69; refine (A.out).mono ?_; rintro e w' ⟨rfl, h1⟩)
  go_ret
  exact ⟨rfl, h1⟩
theorem twrite_new (a : Int) (d : Nat) (hd : d < 18446744073709551616) (h : TapeAt w I G K L t m now) (ok : NewOk t m) :
    Calls Try.prog 49 #[.pointer (some ⟨I.tb, I.pre.length, none⟩), .int .i64 a, .int .u64 (d : Int)] w fun e w' => e = .returned (.tuple #[]) ∧ TapeOut w w' I G K L (AccD t (memAcc m 1 a d 0).2 now) (memAcc m 1 a d 0).1 now := by
  have A := Lib.hid (access_new I G K L t m now 1 a d 0 w h ok.halt ok.fresh ok.at_ hd (by decide) ok.cnt ok.glen ok.klen)
  obtain ⟨v, hv⟩ : ∃ v, v = (memAcc m 1 a d 0).2 := ⟨_, rfl⟩
  obtain ⟨m1, hm1⟩ : ∃ m1, m1 = (memAcc m 1 a d 0).1 := ⟨_, rfl⟩
  rw [← hv, ← hm1] at A
  rw [← hv, ← hm1]
  clear h ok hv hm1
  go_enter Try.func49, Try.ntmps49
  go_wp2_with (go_at_call 69; refine (A.out).mono ?_; rintro e w' ⟨rfl, h1⟩)
  (first | go_end0 | ((try simp only [Exit.inBlock, Exit.then]); refine bodyPost_ret (results_none rfl _ _ _) rfl ?_))
  exact ⟨rfl, h1⟩
theorem tswap_new (a : Int) (x y : Nat) (hx : x < 18446744073709551616) (hy : y < 18446744073709551616) (h : TapeAt w I G K L t m now) (ok : NewOk t m) :
    Calls Try.prog 50 #[.pointer (some ⟨I.tb, I.pre.length, none⟩), .int .i64 a, .int .u64 (x : Int), .int .u64 (y : Int)] w fun e w' => e = .returned (.bool (memSwap m a x y).2) ∧ TapeOut w w' I G K L (AccD t (memAcc m 2 a x y).2 now) (memAcc m 2 a x y).1 now := by
  have A := Lib.hid (access_new I G K L t m now 2 a x y w h ok.halt ok.fresh ok.at_ hx hy ok.cnt ok.glen ok.klen)
  have hvb : (memAcc m 2 a x y).2 = b01 (memSwap m a x y).2 := swap_val m a x y
  obtain ⟨m1, hm1⟩ : ∃ m1, m1 = (memAcc m 2 a x y).1 := ⟨_, rfl⟩
  rw [← hm1, hvb] at A
  rw [← hm1, hvb]
  obtain ⟨b, hb⟩ : ∃ b, b = (memSwap m a x y).2 := ⟨_, rfl⟩
  rw [← hb] at A
  rw [← hb]
  clear h ok hvb hm1 hb
  cases b with
  | true =>
    have A1 := Lib.hid (show Calls Try.prog 69 #[.pointer (some ⟨I.tb, I.pre.length, none⟩), .int .i64 2, .int .i64 a, .int .u64 (x : Int), .int .u64 (y : Int)] w fun e w' => e = .returned (.int .u64 1) ∧ TapeOut w w' I G K L (AccD t (b01 true) now) m1 now from A.out)
    clear A
    go_enter Try.func50, Try.ntmps50
    go_wp2_with (go_at_call 69; refine (A1.out).mono ?_; rintro e w' ⟨rfl, h1⟩)
    go_ret
    exact ⟨rfl, h1⟩
  | false =>
    have A1 := Lib.hid (show Calls Try.prog 69 #[.pointer (some ⟨I.tb, I.pre.length, none⟩), .int .i64 2, .int .i64 a, .int .u64 (x : Int), .int .u64 (y : Int)] w fun e w' => e = .returned (.int .u64 0) ∧ TapeOut w w' I G K L (AccD t (b01 false) now) m1 now from A.out)
    clear A
    go_enter Try.func50, Try.ntmps50
    go_wp2_with (go_at_call 69; refine (A1.out).mono ?_; rintro e w' ⟨rfl, h1⟩)
    go_ret
    exact ⟨rfl, h1⟩

def callW (c : CallD) : Value := .agg #[.int .i64 c.thread, .int .i64 c.obj, .int .i64 c.kind, .int .u64 (c.a : Int), .int .u64 (c.b : Int), .int .u64 (c.c : Int)]
/-- What an operation on words does, where its access is made now. -/
def cellD (base size : Nat) (t : TapeD) (m : MemD) (now : Nat) (c : CallD) : TapeD × MemD :=
  if c.kind < 0 ∨ 3 < c.kind then ({ t with err := 9 }, m) else if size ≤ c.a then ({ t with err := 10 }, m)
  else ({ AccD t (memAcc m c.kind ((base + c.a : Nat) : Int) c.b c.c).2 now with val := (memAcc m c.kind ((base + c.a : Nat) : Int) c.b c.c).2 }, (memAcc m c.kind ((base + c.a : Nat) : Int) c.b c.c).1)

set_option maxHeartbeats 4000000 in
theorem cell_any (base size : Nat) (sk sq : Int) (c : CallD) (hok : CallOk c) (hsz : base + size ≤ 1000000000) (h : TapeAt w I G K L t m now) (ok : NewOk t m) (hv0 : t.val = 0) :
    Calls Try.prog 21 #[.pointer (some ⟨I.tb, I.pre.length, none⟩), .int .i64 (base : Int), .agg #[.int .i64 sk, .int .i64 (size : Int), .int .i64 sq], callW c] w fun e w' => e = .returned (.tuple #[]) ∧ TapeOut w w' I G K L (cellD base size t m now c).1 (cellD base size t m now c).2 now := by
  obtain ⟨T', hT'⟩ : ∃ T', T' = cellD base size t m now c := ⟨_, rfl⟩
  rw [← hT']
  obtain ⟨wb, hwb⟩ : ∃ wb, wb = (w.alloc (.cells #[.int .i64 sk, .int .i64 (size : Int), .int .i64 sq] 58)).alloc (.cells #[.int .i64 c.thread, .int .i64 c.obj, .int .i64 c.kind, .int .u64 (c.a : Int), .int .u64 (c.b : Int), .int .u64 (c.c : Int)] 55) := ⟨_, rfl⟩
  have hg : Below w.heap.size w wb := by rw [hwb]; exact Gr.alloc (Gr.new _ _) _
  have hS : wb.heap[w.heap.size]? = some (.cells #[.int .i64 sk, .int .i64 (size : Int), .int .i64 sq] 58 (0, 0)) := by rw [hwb, Below.heap_alloc _ _ _ (by simp)]; exact heap_alloc_new _ _
  have hC : wb.heap[w.heap.size + 1]? = some (.cells #[.int .i64 c.thread, .int .i64 c.obj, .int .i64 c.kind, .int .u64 (c.a : Int), .int .u64 (c.b : Int), .int .u64 (c.c : Int)] 55 (0, 0)) := by
    rw [hwb]
    have := heap_alloc_new (w.alloc (.cells #[.int .i64 sk, .int .i64 (size : Int), .int .i64 sq] 58)) (.cells #[.int .i64 c.thread, .int .i64 c.obj, .int .i64 c.kind, .int .u64 (c.a : Int), .int .u64 (c.b : Int), .int .u64 (c.c : Int)] 55 (0, 0))
    simp only [World.size_alloc] at this
    exact this
  obtain ⟨hb, tob⟩ := h.grown hg
  have p1 : wb.cell? ⟨w.heap.size, 1, none⟩ = some (.int .i64 (size : Int)) := by rw [cell_blk hS]; rfl
  have q2 : wb.cell? ⟨w.heap.size + 1, 2, none⟩ = some (.int .i64 c.kind) := by rw [cell_blk hC]; rfl
  have q3 : wb.cell? ⟨w.heap.size + 1, 3, none⟩ = some (.int .u64 (c.a : Int)) := by rw [cell_blk hC]; rfl
  have q4 : wb.cell? ⟨w.heap.size + 1, 4, none⟩ = some (.int .u64 (c.b : Int)) := by rw [cell_blk hC]; rfl
  have q5 : wb.cell? ⟨w.heap.size + 1, 5, none⟩ = some (.int .u64 (c.c : Int)) := by rw [cell_blk hC]; rfl
  have e9 : wb.cell? ⟨I.tb, I.pre.length + 9, none⟩ = some (.int .i64 t.err) := hb.cell (i := 9) (by omega)
  have f9 : wb.frozen? ⟨I.tb, I.pre.length + 9, none⟩ = false := frozen_blk hb.blk _
  have Hwb := Lib.hid hwb; have Hb := Lib.hid hb; have Tob := Lib.hid tob; have HT := Lib.hid hT'; have Ok := Lib.hid ok
  have hca := hok.a; have hcb := hok.b; have hcc := hok.c
  have ws : IntKind.u64.wrap (size : Int) = (size : Int) := by rw [IntKind.wrap_u64]; omega
  have Hv0 := Lib.hid hv0
  clear hwb hg hS hC h hb tob hT' ok hv0
  by_cases hk0 : c.kind < 0
  · have hT : T' = ({ t with err := 9 }, m) := by rw [HT.out]; exact if_pos (.inl hk0)
    have Fin := Lib.hid (Hb.out.put (i := 9) (by omega) (.int .i64 9) (t' := { t with err := 9 }) rfl rfl rfl)
    subst hT
    clear HT
    go_enter Try.func21, Try.ntmps21
    go_upto_region 1 with fail
    unfold callW
    rw [← Hwb.out]
    go_wp2
    (first | go_end0 | ((try simp only [Exit.inBlock, Exit.then]); refine bodyPost_ret (results_none rfl _ _ _) rfl ?_))
    exact ⟨rfl, _, _, _, Fin.out.1, Tob.out.trans Fin.out.2⟩
  by_cases hk3 : 3 < c.kind
  · have hT : T' = ({ t with err := 9 }, m) := by rw [HT.out]; exact if_pos (.inr hk3)
    have Fin := Lib.hid (Hb.out.put (i := 9) (by omega) (.int .i64 9) (t' := { t with err := 9 }) rfl rfl rfl)
    subst hT
    clear HT
    go_enter Try.func21, Try.ntmps21
    go_upto_region 1 with fail
    unfold callW
    rw [← Hwb.out]
    go_wp2
    (first | go_end0 | ((try simp only [Exit.inBlock, Exit.then]); refine bodyPost_ret (results_none rfl _ _ _) rfl ?_))
    exact ⟨rfl, _, _, _, Fin.out.1, Tob.out.trans Fin.out.2⟩
  by_cases ha : size ≤ c.a
  · have hT : T' = ({ t with err := 10 }, m) := by rw [HT.out]; unfold cellD; rw [if_neg (by omega), if_pos ha]
    have Fin := Lib.hid (Hb.out.put (i := 9) (by omega) (.int .i64 10) (t' := { t with err := 10 }) rfl rfl rfl)
    have ha1 : (size : Int) ≤ (c.a : Int) := by omega
    subst hT
    clear HT
    go_enter Try.func21, Try.ntmps21
    go_upto_region 1 with fail
    unfold callW
    rw [← Hwb.out]
    go_wp2
    (first | go_end0 | ((try simp only [Exit.inBlock, Exit.then]); refine bodyPost_ret (results_none rfl _ _ _) rfl ?_))
    exact ⟨rfl, _, _, _, Fin.out.1, Tob.out.trans Fin.out.2⟩
  have ha1 : ¬ (size : Int) ≤ (c.a : Int) := by omega
  have wa : IntKind.i64.wrap (c.a : Int) = (c.a : Int) := by rw [IntKind.wrap_i64]; omega
  have wba : IntKind.i64.wrap ((base : Int) + (c.a : Int)) = ((base + c.a : Nat) : Int) := by rw [IntKind.wrap_i64]; omega
  obtain ⟨v, hv⟩ : ∃ v, v = (memAcc m c.kind ((base + c.a : Nat) : Int) c.b c.c).2 := ⟨_, rfl⟩
  obtain ⟨m1, hm1⟩ : ∃ m1, m1 = (memAcc m c.kind ((base + c.a : Nat) : Int) c.b c.c).1 := ⟨_, rfl⟩
  have hT : T' = ({ AccD t v now with val := v }, m1) := by rw [HT.out, hv, hm1]; unfold cellD; rw [if_neg (by omega), if_neg ha]
  subst hT
  obtain ⟨A, hA⟩ : ∃ A, A = base + c.a := ⟨_, rfl⟩
  rw [← hA] at hv hm1 wba
  have wb2 : (base : Int) + (c.a : Int) = (A : Int) := by omega
  have wb3 : IntKind.i64.wrap (A : Int) = (A : Int) := by rw [IntKind.wrap_i64]; omega
  clear hA
  have fin : ∀ (w2 : World) (v2 : Nat), v2 = v → TapeOut wb w2 I G K L (AccD t v2 now) m1 now → w2.cell? ⟨I.tb, I.pre.length + 10, none⟩ = some (.int .u64 0) ∧ w2.frozen? ⟨I.tb, I.pre.length + 10, none⟩ = false ∧ TapeOut w (w2.setCell ⟨I.tb, I.pre.length + 10, none⟩ (.int .u64 (v2 : Int))) I G K L { AccD t v now with val := v } m1 now := by
    rintro w2 v2 rfl ⟨G', K', L', h2, hto⟩
    obtain ⟨h3, hto3⟩ := h2.put (i := 10) (by omega) (.int .u64 (v2 : Int)) (t' := { AccD t v2 now with val := v2 }) rfl rfl rfl
    refine ⟨?_, frozen_blk h2.blk _, _, _, _, h3, Tob.out.trans (hto.trans hto3)⟩
    rw [h2.cell (i := 10) (by omega)]
    show some (Value.int .u64 (t.val : Int)) = _
    rw [Hv0.out]; rfl
  have fin0 : ∀ (w2 : World), v = 0 → TapeOut wb w2 I G K L (AccD t v now) m1 now → TapeOut w w2 I G K L { AccD t v now with val := v } m1 now := by
    rintro w2 h0 ⟨G', K', L', h2, hto⟩
    have e : ({ AccD t v now with val := v } : TapeD) = AccD t v now := by
      have h9 : v = t.val := h0.trans Hv0.out.symm
      simp only [AccD, h9]
    rw [e]
    exact ⟨_, _, _, h2, Tob.out.trans hto⟩
  have Fin := Lib.hid fin; have Fin0 := Lib.hid fin0
  clear fin fin0 HT
  by_cases h0 : c.kind = 0
  · have hk : (c.kind == 0) = true := by simp [h0]
    have e1 : memAcc m c.kind (A : Int) c.b c.c = memAcc m 0 (A : Int) 0 0 := by rw [h0]; rfl
    rw [e1] at hv hm1
    have A1 := Lib.hid (tread_new I G K L t m now wb (A : Int) Hb.out Ok.out)
    rw [← hv, ← hm1] at A1
    clear e1 hv hm1
    go_enter Try.func21, Try.ntmps21
    go_upto_region 1 with fail
    unfold callW
    rw [← Hwb.out]
    go_wp2_with (go_at_call 48; refine A1.out.mono ?_; rintro e w2 ⟨rfl, h2⟩; obtain ⟨z10, zf, Z⟩ := Fin.out w2 v rfl h2)
    (first | go_end0 | ((try simp only [Exit.inBlock, Exit.then]); refine bodyPost_ret (results_none rfl _ _ _) rfl ?_))
    exact ⟨rfl, Z⟩
  by_cases h1 : c.kind = 1
  · have e1 : memAcc m c.kind (A : Int) c.b c.c = memAcc m 1 (A : Int) c.b 0 := by rw [h1]; rfl
    rw [e1] at hv hm1
    have hv0' : v = 0 := by rw [hv]; rfl
    have A1 := Lib.hid (twrite_new I G K L t m now wb (A : Int) c.b hcb Hb.out Ok.out)
    rw [← hv, ← hm1] at A1
    clear e1 hv hm1
    go_enter Try.func21, Try.ntmps21
    go_upto_region 1 with fail
    unfold callW
    rw [← Hwb.out]
    go_wp2_with (go_at_call 49; refine (A1.out).mono ?_; rintro e w2 ⟨rfl, h2⟩)
    (first | go_end0 | ((try simp only [Exit.inBlock, Exit.then]); refine bodyPost_ret (results_none rfl _ _ _) rfl ?_))
    exact ⟨rfl, Fin0.out _ hv0' h2⟩
  by_cases h2k : c.kind = 2
  · have e1 : memAcc m c.kind (A : Int) c.b c.c = memAcc m 2 (A : Int) c.b c.c := by rw [h2k]
    rw [e1] at hv hm1
    have A1 := Lib.hid (tswap_new I G K L t m now wb (A : Int) c.b c.c hcb hcc Hb.out Ok.out)
    rw [← hv, ← hm1] at A1
    have hvb : v = b01 (memSwap m (A : Int) c.b c.c).2 := hv.trans (swap_val _ _ _ _)
    obtain ⟨b, hb⟩ : ∃ b, b = (memSwap m (A : Int) c.b c.c).2 := ⟨_, rfl⟩
    rw [← hb] at A1 hvb
    clear e1 hv hm1 hb
    cases b with
    | true =>
      obtain rfl : v = 1 := hvb
      go_enter Try.func21, Try.ntmps21
      go_upto_region 1 with fail
      unfold callW
      rw [← Hwb.out]
      go_wp2_with (go_at_call 50; refine A1.out.mono ?_; rintro e w2 ⟨rfl, h2⟩; obtain ⟨z10, zf, Z⟩ := Fin.out w2 1 rfl h2)
      (first | go_end0 | ((try simp only [Exit.inBlock, Exit.then]); refine bodyPost_ret (results_none rfl _ _ _) rfl ?_))
      exact ⟨rfl, Z⟩
    | false =>
      obtain rfl : v = 0 := hvb
      go_enter Try.func21, Try.ntmps21
      go_upto_region 1 with fail
      unfold callW
      rw [← Hwb.out]
      go_wp2_with (go_at_call 50; refine (A1.out).mono ?_; rintro e w2 ⟨rfl, h2⟩)
      (first | go_end0 | ((try simp only [Exit.inBlock, Exit.then]); refine bodyPost_ret (results_none rfl _ _ _) rfl ?_))
      exact ⟨rfl, Fin0.out _ (by trivial) h2⟩
  · have h3 : c.kind = 3 := by omega
    have e1 : memAcc m c.kind (A : Int) c.b c.c = memAcc m 3 (A : Int) c.b 0 := by rw [h3]; rfl
    rw [e1] at hv hm1
    have A1 := Lib.hid (tadd_new I G K L t m now wb (A : Int) c.b hcb Hb.out Ok.out)
    rw [← hv, ← hm1] at A1
    clear e1 hv hm1
    go_enter Try.func21, Try.ntmps21
    go_upto_region 1 with fail
    unfold callW
    rw [← Hwb.out]
    go_wp2_with (go_at_call 51; refine A1.out.mono ?_; rintro e w2 ⟨rfl, h2⟩; obtain ⟨z10, zf, Z⟩ := Fin.out w2 v rfl h2)
    (first | go_end0 | ((try simp only [Exit.inBlock, Exit.then]); refine bodyPost_ret (results_none rfl _ _ _) rfl ?_))
    exact ⟨rfl, Z⟩
end
section

/- Operations done one by one, in the order of their keys: what makes a report whole, in plain numbers. -/
open Go.RowKit

instance evLt_dec (evs : List EvD) (i j : Nat) : Decidable (evLt evs i j) := inferInstanceAs (Decidable (_ ∨ _))

theorem cnt_filter (P : EvD → Bool) : ∀ l : List EvD, cnt P l = (l.filter P).length
  | [] => rfl
  | e :: l => by
    rw [cnt_cons, cnt_filter P l, List.filter_cons]
    split
    · rw [List.length_cons]; omega
    · omega
theorem evs_range (evs : List EvD) : evs = (List.range evs.length).map (evAt evs) := by
  apply List.ext_getElem
  · simp
  · intro i h1 h2
    simp [evAt, List.getD_eq_getElem?_getD, h1]
theorem cnt_range (P : EvD → Bool) (evs : List EvD) : cnt P evs = ((List.range evs.length).filter fun i => P (evAt evs i)).length := by
  rw [cnt_filter]
  have h := evs_range evs
  have h2 : (evs.filter P).length = (((List.range evs.length).map (evAt evs)).filter P).length := by rw [← h]
  rw [h2, List.filter_map, List.length_map]; rfl
theorem order_count (evs : List EvD) (Q : Nat → Bool) : ∀ k, ((orderK evs k).filter Q).length = ((List.range k).filter fun i => Q i && decide (kAt evs i ≠ [])).length
  | 0 => rfl
  | k + 1 => by
    rw [List.range_succ, List.filter_append, List.length_append, ← order_count evs Q k]
    have hK : orderK evs (k + 1) = if kAt evs k = [] then orderK evs k else insK evs (orderK evs k) k := rfl
    rw [hK]
    split
    · rename_i h; simp [h]
    · rename_i h
      have e : ((orderK evs k).filter Q).length = (((orderK evs k).take (insAt evs (orderK evs k) k (orderK evs k).length)).filter Q).length + (((orderK evs k).drop (insAt evs (orderK evs k) k (orderK evs k).length)).filter Q).length := by
        rw [← List.length_append, ← List.filter_append, List.take_append_drop]
      unfold insK
      rw [List.filter_append, List.filter_cons, List.length_append, e]
      cases hq : Q k <;> simp [hq, h] <;> omega
/-- How many of a kind stand ahead of one in the order. -/
theorem pre_count {evs : List EvD} {l m : List Nat} {i : Nat} (h : orderD evs = l ++ i :: m) (Q : Nat → Bool) : (l.filter Q).length = ((List.range evs.length).filter fun j => Q j && decide (evLt evs j i) && decide (kAt evs j ≠ [])).length := by
  have h0 := order_count evs (fun j => Q j && decide (evLt evs j i)) evs.length
  rw [← h0]
  show _ = ((orderD evs).filter _).length
  have hs : (orderD evs).Pairwise (evLt evs) := (orderK_spec evs evs.length).1
  rw [h] at hs ⊢
  obtain ⟨_, p2, p3⟩ := List.pairwise_append.1 hs
  obtain ⟨p4, _⟩ := List.pairwise_cons.1 p2
  rw [List.filter_append, List.length_append]
  have e1 : l.filter (fun j => Q j && decide (evLt evs j i)) = l.filter Q := List.filter_congr fun j hj => by
    rw [decide_eq_true (p3 j hj i (by simp)), Bool.and_true]
  have e2 : (i :: m).filter (fun j => Q j && decide (evLt evs j i)) = [] := by
    rw [List.filter_eq_nil_iff]
    intro j hj
    rcases List.mem_cons.1 hj with rfl | hj
    · rw [decide_eq_false (evLt_irrefl evs j)]; simp
    · rw [decide_eq_false (evLt_asymm (p4 j hj))]; simp
  rw [e1, e2, List.length_nil, Nat.add_zero]

/-- A fold holds if each operation answers as the ones ahead of it make it answer. -/
theorem fold_of {ap : List Nat → CallD → List Nat × AnsD} {calls : List CallD} {evs : List EvD} : ∀ (L : List Nat) (st : List Nat),
    (∀ l i m, L = l ++ i :: m → (evAt evs i).resp ≠ 0 → (evAt evs i).ans = if (calls.getD (evAt evs i).call d0).obj ≠ 0 then ⟨12, 0, []⟩ else (ap (foldTo ap calls evs st l) (calls.getD (evAt evs i).call d0)).2) → Fold ap calls evs st L
  | [], _, _ => trivial
  | i :: L, st, h => by
    have h0 := h [] i L rfl
    unfold Fold
    split
    · rename_i ho
      refine ⟨fun hr => (h0 hr).trans (if_pos ho), fold_of L st fun l j m hL hr => ?_⟩
      have := h (i :: l) j m (by rw [hL]; rfl) hr
      rw [this, show foldTo ap calls evs st (i :: l) = foldTo ap calls evs (if (calls.getD (evAt evs i).call d0).obj ≠ 0 then st else (ap st (calls.getD (evAt evs i).call d0)).1) l from rfl, if_pos ho]
    · rename_i ho
      refine ⟨fun hr => (h0 hr).trans (if_neg ho), fold_of L _ fun l j m hL hr => ?_⟩
      have := h (i :: l) j m (by rw [hL]; rfl) hr
      rw [this, show foldTo ap calls evs st (i :: l) = foldTo ap calls evs (if (calls.getD (evAt evs i).call d0).obj ≠ 0 then st else (ap st (calls.getD (evAt evs i).call d0)).1) l from rfl, if_neg ho]

/-- A report is that of operations done one by one. -/
structure WholeGood (ap : List Nat → CallD → List Nat × AnsD) (s0 : List Nat) (calls : List CallD) (n : Nat) (r : RepD) : Prop where
  rows : RowsGood calls n r
  fold : Fold ap calls r.evs s0 (orderD r.evs)
theorem rows_ahead {calls : List CallD} {n : Nat} {r : RepD} (h : RowsGood calls n r) {i k : Nat} (hi : i < r.evs.length) (hk : k < r.evs.length) (hr : (evAt r.evs i).resp ≠ 0) (hlt : (evAt r.evs i).resp < (evAt r.evs k).inv) (hne : kAt r.evs k ≠ []) : kAt r.evs i ≠ [] ∧ keyLt (kAt r.evs i) (kAt r.evs k) = true := by
  obtain ⟨_, _, _, w1, w2, w3⟩ := (h.ev i hi).resp hr
  have hk2 : 2 * ((evAt r.evs k).inv : Int) ≤ (kAt r.evs k).headD 0 := by
    by_cases hr2 : (evAt r.evs k).resp = 0
    · rcases (h.ev k hk).open_ hr2 with h1 | h1
      · exact absurd h1 hne
      · exact h1.2.1
    · exact ((h.ev k hk).resp hr2).2.2.2.2.1
  exact ⟨w1, keyLt_head w1 hne (by unfold kAt at *; omega)⟩
end
end Go.Proofs.Ytjkgfkbanbhkgaa
