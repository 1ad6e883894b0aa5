/- What the checkers say of things that are alike. -/
import Derived.Test.YtkocgeedpinplaaTickW
import Derived.Test.YtkocgeedpinplaaClone
set_option maxRecDepth 100000
namespace Go.Proofs.Ytkocgeedpinplaa
open Go.RowKit

theorem same_eq (xs : List Nat) (a a2 : Option Addr) (c c2 : Nat) (w : World) (hs : SlAt w a xs.length 1 (u64G xs)) (hs2 : SlAt w a2 xs.length 1 (u64G xs)) :
    Calls Try.prog 24 #[.slice a xs.length c, .slice a2 xs.length c2] w fun e w' => e = .returned (.bool true) ∧ Below w.heap.size w w' := by
  have hm := hs.1
  unfold maxLen at hm
  have Hs := Lib.hid hs; have Hs2 := Lib.hid hs2
  clear hs hs2
  go_enter Try.func24, Try.ntmps24
  go_wp2
  go_loopw [5, 13] (fun _ i wr => ∃ k : Nat, k ≤ xs.length ∧ i = .int .i64 k ∧ Below w.heap.size w wr) (fun _ i _ => xs.length - (intOf i).toNat)
  case atStart => exact ⟨0, Nat.zero_le _, rfl, Gr.refl _⟩
  case round =>
    obtain ⟨k, hk, rfl, hb⟩ := hrel
    by_cases hlt : k < xs.length
    · obtain ⟨b, o, rfl, h4⟩ := Hs.out.elem hb hlt
      obtain ⟨b2, o2, rfl, h5⟩ := Hs2.out.elem hb hlt
      obtain ⟨x, hx⟩ : ∃ x, x = xs.getD k 0 := ⟨_, rfl⟩
      have e4 : wr.cell? ⟨b, o + k, none⟩ = some (.int .u64 (x : Int)) := by have h0 := h4 0 (by omega); rw [Nat.mul_one, Nat.add_zero] at h0; rw [h0, hx]; rfl
      have e5 : wr.cell? ⟨b2, o2 + k, none⟩ = some (.int .u64 (x : Int)) := by have h0 := h5 0 (by omega); rw [Nat.mul_one, Nat.add_zero] at h0; rw [h0, hx]; rfl
      have l1 : (k : Int) < xs.length := by omega
      have Hb := Lib.hid hb
      clear h4 h5 hb hx
      go_wp2_with fail
      go_quiet (fail)
      go_wp2
      go_roundw
      case rel => exact ⟨k + 1, by omega, by go_num, below_drewN Hb.out _⟩
      case measure => simp [intOf] <;> omega
    · have l1 : ¬ (k : Int) < xs.length := by omega
      have Hb := Lib.hid hb
      clear hb
      go_wp2
      go_ret
      exact ⟨rfl, Hb.out⟩
theorem ints_eq (xs : List Int) (a a2 : Option Addr) (c c2 : Nat) (w : World) (hs : SlAt w a xs.length 1 (intG xs)) (hs2 : SlAt w a2 xs.length 1 (intG xs)) :
    Calls Try.prog 61 #[.slice a xs.length c, .slice a2 xs.length c2] w fun e w' => e = .returned (.bool true) ∧ Below w.heap.size w w' := by
  have hm := hs.1
  unfold maxLen at hm
  have Hs := Lib.hid hs; have Hs2 := Lib.hid hs2
  clear hs hs2
  go_enter Try.func61, Try.ntmps61
  go_wp2
  go_loopw [5, 13] (fun _ i wr => ∃ k : Nat, k ≤ xs.length ∧ i = .int .i64 k ∧ Below w.heap.size w wr) (fun _ i _ => xs.length - (intOf i).toNat)
  case atStart => exact ⟨0, Nat.zero_le _, rfl, Gr.refl _⟩
  case round =>
    obtain ⟨k, hk, rfl, hb⟩ := hrel
    by_cases hlt : k < xs.length
    · obtain ⟨b, o, rfl, h4⟩ := Hs.out.elem hb hlt
      obtain ⟨b2, o2, rfl, h5⟩ := Hs2.out.elem hb hlt
      obtain ⟨x, hx⟩ : ∃ x, x = xs.getD k 0 := ⟨_, rfl⟩
      have e4 : wr.cell? ⟨b, o + k, none⟩ = some (.int .i64 x) := by have h0 := h4 0 (by omega); rw [Nat.mul_one, Nat.add_zero] at h0; rw [h0, hx]; rfl
      have e5 : wr.cell? ⟨b2, o2 + k, none⟩ = some (.int .i64 x) := by have h0 := h5 0 (by omega); rw [Nat.mul_one, Nat.add_zero] at h0; rw [h0, hx]; rfl
      have l1 : (k : Int) < xs.length := by omega
      have Hb := Lib.hid hb
      clear h4 h5 hb hx
      go_wp2_with fail
      go_quiet (fail)
      go_wp2
      go_roundw
      case rel => exact ⟨k + 1, by omega, by go_num, below_drewN Hb.out _⟩
      case measure => simp [intOf] <;> omega
    · have l1 : ¬ (k : Int) < xs.length := by omega
      have Hb := Lib.hid hb
      clear hb
      go_wp2
      go_ret
      exact ⟨rfl, Hb.out⟩

theorem answer_eq (er : Int) (vl : Nat) (xs : List Nat) (a a2 : Option Addr) (c c2 : Nat) (w : World) (hs : SlAt w a xs.length 1 (u64G xs)) (hs2 : SlAt w a2 xs.length 1 (u64G xs)) :
    Calls Try.prog 36 #[.agg #[.int .i64 er, .int .u64 (vl : Int), .slice a xs.length c], .agg #[.int .i64 er, .int .u64 (vl : Int), .slice a2 xs.length c2]] w fun e w' => e = .returned (.bool true) ∧ Below w.heap.size w w' := by
  have S := Lib.hid (fun (u : World) (h : Below w.heap.size w u) => same_eq xs a a2 c c2 u (hs.grown h) (hs2.grown h))
  obtain ⟨n, hn⟩ : ∃ n, n = xs.length := ⟨_, rfl⟩
  rw [← hn] at S ⊢
  clear hs hs2 hn
  go_enter Try.func36, Try.ntmps36
  go_wp2_with (go_at_call 24; refine (S.out _ (Gr.alloc (Gr.new _ _) _)).mono ?_; rintro e w' ⟨rfl, hb⟩)
  go_ret
  exact ⟨rfl, Gr.trans (Gr.alloc (Gr.new _ _) _) hb⟩
/-- An event's value. -/
def evV (e : EvD) (la : Option Addr) (lc : Nat) (ka : Option Addr) (kc : Nat) : Value := .agg #[.int .i64 (e.call : Int), .int .i64 (e.inv : Int), .int .i64 (e.resp : Int), .int .i64 (e.steps : Int), .int .i64 e.ans.err, .int .u64 (e.ans.val : Int), .slice la e.ans.list.length lc, .slice ka e.key.length kc]
theorem event_eq (e : EvD) (la la2 ka ka2 : Option Addr) (lc lc2 kc kc2 : Nat) (w : World) (hl : SlAt w la e.ans.list.length 1 (u64G e.ans.list)) (hl2 : SlAt w la2 e.ans.list.length 1 (u64G e.ans.list)) (hk : SlAt w ka e.key.length 1 (intG e.key)) (hk2 : SlAt w ka2 e.key.length 1 (intG e.key)) :
    Calls Try.prog 33 #[evV e la lc ka kc, evV e la2 lc2 ka2 kc2] w fun r w' => r = .returned (.bool true) ∧ Below w.heap.size w w' := by
  obtain ⟨cl, iv, rs, st, ⟨er, vl, li⟩, ky⟩ := e
  unfold evV
  simp only at hl hl2 hk hk2 ⊢
  have A := Lib.hid (fun (u : World) (h : Below w.heap.size w u) => answer_eq er vl li la la2 lc lc2 u (hl.grown h) (hl2.grown h))
  have K := Lib.hid (fun (u : World) (h : Below w.heap.size w u) => ints_eq ky ka ka2 kc kc2 u (hk.grown h) (hk2.grown h))
  obtain ⟨n, hn⟩ : ∃ n, n = li.length := ⟨_, rfl⟩
  obtain ⟨m, hm⟩ : ∃ m, m = ky.length := ⟨_, rfl⟩
  rw [← hn] at A ⊢
  rw [← hm] at K ⊢
  clear hl hl2 hk hk2 hn hm
  obtain ⟨wa, hwa⟩ : ∃ wa, wa = (w.alloc (.cells #[.int .i64 (cl : Int), .int .i64 (iv : Int), .int .i64 (rs : Int), .int .i64 (st : Int), .int .i64 er, .int .u64 (vl : Int), .slice la n lc, .slice ka m kc] 67)).alloc (.cells #[.int .i64 (cl : Int), .int .i64 (iv : Int), .int .i64 (rs : Int), .int .i64 (st : Int), .int .i64 er, .int .u64 (vl : Int), .slice la2 n lc2, .slice ka2 m kc2] 67) := ⟨_, rfl⟩
  have hga : Below w.heap.size w wa := by rw [hwa]; exact Gr.alloc (Gr.new _ _) _
  have hr1 : wa.heap[w.heap.size]? = some (.cells #[.int .i64 (cl : Int), .int .i64 (iv : Int), .int .i64 (rs : Int), .int .i64 (st : Int), .int .i64 er, .int .u64 (vl : Int), .slice la n lc, .slice ka m kc] 67 (0, 0)) := by rw [hwa, Below.heap_alloc _ _ _ (by simp)]; exact heap_alloc_new _ _
  have hr2 : wa.heap[w.heap.size + 1]? = some (.cells #[.int .i64 (cl : Int), .int .i64 (iv : Int), .int .i64 (rs : Int), .int .i64 (st : Int), .int .i64 er, .int .u64 (vl : Int), .slice la2 n lc2, .slice ka2 m kc2] 67 (0, 0)) := by
    rw [hwa]
    have := heap_alloc_new (w.alloc (.cells #[.int .i64 (cl : Int), .int .i64 (iv : Int), .int .i64 (rs : Int), .int .i64 (st : Int), .int .i64 er, .int .u64 (vl : Int), .slice la n lc, .slice ka m kc] 67)) (.cells #[.int .i64 (cl : Int), .int .i64 (iv : Int), .int .i64 (rs : Int), .int .i64 (st : Int), .int .i64 er, .int .u64 (vl : Int), .slice la2 n lc2, .slice ka2 m kc2] 67 (0, 0))
    simp only [World.size_alloc] at this
    exact this
  have Hwa := Lib.hid hwa; have Hga := Lib.hid hga; have Hr1 := Lib.hid hr1; have Hr2 := Lib.hid hr2
  clear hwa hga hr1 hr2
  go_enter Try.func33, Try.ntmps33
  go_wp2_with fail
  rw [← Hwa.out]
  refine (A.out _ Hga.out).mono ?_
  rintro r w1 ⟨rfl, hb1⟩
  have s1 := (hb1.block _ (blk_lt Hr1.out)).trans Hr1.out
  have s2 := (hb1.block _ (blk_lt Hr2.out)).trans Hr2.out
  have k7 : w1.cell? ⟨w.heap.size, 7, none⟩ = some (.slice ka m kc) := by rw [cell_blk s1]; rfl
  have k7' : w1.cell? ⟨w.heap.size + 1, 7, none⟩ = some (.slice ka2 m kc2) := by rw [cell_blk s2]; rfl
  have Hb1 := Lib.hid hb1
  clear s1 s2 hb1
  go_wp2_with fail
  refine (K.out _ (Gr.trans Hga.out Hb1.out)).mono ?_
  rintro r w2 ⟨rfl, hb2⟩
  have Hb2 := Lib.hid hb2
  clear hb2
  go_wp2
  go_ret
  exact ⟨rfl, Gr.trans Hga.out (Gr.trans Hb1.out Hb2.out)⟩
end Go.Proofs.Ytkocgeedpinplaa
