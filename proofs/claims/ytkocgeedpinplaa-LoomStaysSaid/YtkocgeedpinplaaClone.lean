/- slices.Clone at []uint64 and at []int. -/
import Derived.Test.YtkocgeedpinplaaLaw
import Derived.Test.YtkocgeedpinplaaChg
set_option maxRecDepth 100000
namespace Go.Proofs.Ytkocgeedpinplaa
open Go.RowKit

theorem int_info0 : (Try.prog.info? 3).map (fun i => (i.zero, i.size, i.bytes)) = some (some (.int .i64 0), 1, 8) := by kernel_rfl
theorem uint64_info0 : (Try.prog.info? 24).map (fun i => (i.zero, i.size, i.bytes)) = some (some (.int .u64 0), 1, 8) := by kernel_rfl

theorem clone_u64 (a : Option Addr) (n c : Nat) (g : Nat → Nat → Value) (w : World) (hs : SlAt w a n 1 g) (h1 : ∀ j, (g j 0).oneCell' = true) (hn : n ≤ 1000000000) (hc : a = none → c = 0) :
    Calls Try.prog 46 #[.slice a n c] w fun e w' => ∃ v, e = .returned v ∧ w'.ownsRow w.heap.size 24 1 v n ((List.range n).map fun j => g j 0) ∧ Below w.heap.size w w' ∧ (v = .slice none 0 0 ↔ a = none) := by
  have Hs := Lib.hid hs; have H1 := Lib.hid h1
  obtain ⟨i0, hi, hz0, hz1, hz2⟩ := info_parts uint64_info0
  have hnl : ∀ u : World, (binOp .eql 22 (.slice a n c) (.slice none 0 0)).run Try.prog u = .ok (.bool a.isNone) u := fun u => Lib.run_eql_slice_nil u _ 24 _ _ _ _ _ Try.underlying22
  clear hs h1
  cases a with
  | none =>
    obtain rfl : n = 0 := by
      rcases Nat.eq_zero_or_pos n with h | h
      · exact h
      · obtain ⟨b, off, h0, _⟩ := Hs.out.2 0 h; cases h0
    obtain rfl := hc rfl
    simp only [Option.isNone_none] at hnl
    clear hc
    go_enter Try.func46, Try.ntmps46
    go_wp2
    go_ret
    exact ⟨_, rfl, World.ownsRow_nil _ _ _ _, Gr.refl _, by simp⟩
  | some ad =>
    simp only [Option.isNone_some] at hnl
    clear hc
    have hown : (w.alloc (.cells #[] 24)).ownsRow w.heap.size 24 1 (.slice (some ⟨w.heap.size, 0, none⟩) 0 0) 0 [] := World.ownsRow_made w #[] 0 (Nat.le_refl _) (Nat.zero_le _) rfl
    have hnew : ∀ j u, ((List.range n).map fun j => g j 0)[j]? = some u → (w.alloc (.cells #[] 24)).cell? (ad.add j) = some u := by
      intro j u hu
      simp only [List.getElem?_map, Option.map_eq_some_iff] at hu
      obtain ⟨i, hi2, rfl⟩ := hu
      rw [List.getElem?_eq_some_iff] at hi2
      obtain ⟨hj, rfl⟩ := hi2
      simp only [List.length_range] at hj
      rw [List.getElem_range]
      obtain ⟨b, off, h0, hb, hcell⟩ := (Hs.out.grown (Gr.new w (.cells #[] 24))).2 j hj
      cases h0
      have := hcell 0 (by omega)
      rw [Nat.mul_one, Nat.add_zero] at this
      rw [← this]
      unfold Addr.add
      split
      · rename_i h; rw [h]; rfl
      · rfl
    have Hnew := Lib.hid hnew; have Hown := Lib.hid hown
    clear hnew hown
    go_enter Try.func46, Try.ntmps46
    go_wp2_with (at_builtin; refine wpList_append_own _ rfl (.tmp 5) (.tmp 6) 22 rfl w.heap.size 24 i0 (.int .u64 0) 1 8 Try.underlying22 hi hz0 hz1 hz2 rfl (by decide) (.slice (some ⟨w.heap.size, 0, none⟩) 0 0) 0 [] rfl Hown.out ad n c ((List.range n).map fun j => g j 0) rfl ?c1 Hnew.out ?c2 ?c3 ?c4 ?c5 ?_)
    case c1 => simp
    case c2 =>
      intro u hu
      obtain ⟨j, _, rfl⟩ := List.mem_map.1 hu
      exact H1.out j
    case c3 => unfold maxLen; omega
    case c4 => omega
    case c5 => simp
    intro v w1 hown1 hgrow hnil
    have Hg := Lib.hid hgrow; have Ho := Lib.hid hown1; have Hn := Lib.hid hnil
    clear hgrow hown1 hnil
    go_wp2
    go_ret
    refine ⟨v, rfl, ?_, (Gr.new w _).grown Hg.out (by simp) (fun k hk => by simp only [Value.ownBlock, Option.some.injEq] at hk; omega), ?_⟩
    · have h5 := Ho.out
      simpa using h5
    · constructor
      · intro h; exact absurd h (by simpa using Hn.out)
      · intro h; cases h

theorem clone_int (a : Option Addr) (n c : Nat) (g : Nat → Nat → Value) (w : World) (hs : SlAt w a n 1 g) (h1 : ∀ j, (g j 0).oneCell' = true) (hn : n ≤ 1000000000) (hc : a = none → c = 0) :
    Calls Try.prog 143 #[.slice a n c] w fun e w' => ∃ v, e = .returned v ∧ w'.ownsRow w.heap.size 3 1 v n ((List.range n).map fun j => g j 0) ∧ Below w.heap.size w w' ∧ (v = .slice none 0 0 ↔ a = none) := by
  have Hs := Lib.hid hs; have H1 := Lib.hid h1
  obtain ⟨i0, hi, hz0, hz1, hz2⟩ := info_parts int_info0
  have hnl : ∀ u : World, (binOp .eql 53 (.slice a n c) (.slice none 0 0)).run Try.prog u = .ok (.bool a.isNone) u := fun u => Lib.run_eql_slice_nil u _ 3 _ _ _ _ _ Try.underlying53
  clear hs h1
  cases a with
  | none =>
    obtain rfl : n = 0 := by
      rcases Nat.eq_zero_or_pos n with h | h
      · exact h
      · obtain ⟨b, off, h0, _⟩ := Hs.out.2 0 h; cases h0
    obtain rfl := hc rfl
    simp only [Option.isNone_none] at hnl
    clear hc
    go_enter Try.func143, Try.ntmps143
    go_wp2
    go_ret
    exact ⟨_, rfl, World.ownsRow_nil _ _ _ _, Gr.refl _, by simp⟩
  | some ad =>
    simp only [Option.isNone_some] at hnl
    clear hc
    have hown : (w.alloc (.cells #[] 3)).ownsRow w.heap.size 3 1 (.slice (some ⟨w.heap.size, 0, none⟩) 0 0) 0 [] := World.ownsRow_made w #[] 0 (Nat.le_refl _) (Nat.zero_le _) rfl
    have hnew : ∀ j u, ((List.range n).map fun j => g j 0)[j]? = some u → (w.alloc (.cells #[] 3)).cell? (ad.add j) = some u := by
      intro j u hu
      simp only [List.getElem?_map, Option.map_eq_some_iff] at hu
      obtain ⟨i, hi2, rfl⟩ := hu
      rw [List.getElem?_eq_some_iff] at hi2
      obtain ⟨hj, rfl⟩ := hi2
      simp only [List.length_range] at hj
      rw [List.getElem_range]
      obtain ⟨b, off, h0, hb, hcell⟩ := (Hs.out.grown (Gr.new w (.cells #[] 3))).2 j hj
      cases h0
      have := hcell 0 (by omega)
      rw [Nat.mul_one, Nat.add_zero] at this
      rw [← this]
      unfold Addr.add
      split
      · rename_i h; rw [h]; rfl
      · rfl
    have Hnew := Lib.hid hnew; have Hown := Lib.hid hown
    clear hnew hown
    go_enter Try.func143, Try.ntmps143
    go_wp2_with (at_builtin; refine wpList_append_own _ rfl (.tmp 5) (.tmp 6) 53 rfl w.heap.size 3 i0 (.int .i64 0) 1 8 Try.underlying53 hi hz0 hz1 hz2 rfl (by decide) (.slice (some ⟨w.heap.size, 0, none⟩) 0 0) 0 [] rfl Hown.out ad n c ((List.range n).map fun j => g j 0) rfl ?c1 Hnew.out ?c2 ?c3 ?c4 ?c5 ?_)
    case c1 => simp
    case c2 =>
      intro u hu
      obtain ⟨j, _, rfl⟩ := List.mem_map.1 hu
      exact H1.out j
    case c3 => unfold maxLen; omega
    case c4 => omega
    case c5 => simp
    intro v w1 hown1 hgrow hnil
    have Hg := Lib.hid hgrow; have Ho := Lib.hid hown1; have Hn := Lib.hid hnil
    clear hgrow hown1 hnil
    go_wp2
    go_ret
    refine ⟨v, rfl, ?_, (Gr.new w _).grown Hg.out (by simp) (fun k hk => by simp only [Value.ownBlock, Option.some.injEq] at hk; omega), ?_⟩
    · have h5 := Ho.out
      simpa using h5
    · constructor
      · intro h; exact absurd h (by simpa using Hn.out)
      · intro h; cases h

/-- 'append(own, src...)' from whatever slice is read, nil too. -/
theorem wpList_append_copy {P : Program} (w : World) {ops : Array Oper} {rest : List Oper} {o : Oper} {A : Act} {Q : Exit → Act → World → Prop} (hgd : o.guard = none) (s x : Operand) (t : TypeId)
    (ho : o.op = .call { callee := .builtin .append, args := #[s, x], argTypes := #[t, t] })
    (base : Nat) (e : TypeId) (i : TypeInfo) (z : Value) (bytes : Nat) (ht : P.underlying t = some (.slice e)) (hi : P.info? e = some i) (hz : i.zero = some z)
    (hsize : i.size = 1) (hby : i.bytes = bytes) (hzs : z.cells.size = 1)
    (v : Value) (n : Nat) (xs : List Value) (hs : A.eval s = v) (hown : w.ownsRow base e 1 v n xs)
    (a : Option Addr) (m c : Nat) (g : Nat → Nat → Value) (hx : A.eval x = .slice a m c) (hsl : SlAt w a m 1 g) (hnil : a = none → c = 0) (h1 : ∀ j, (g j 0).oneCell' = true)
    (h63 : n + m ≤ maxLen) (hbytes : (n + m) * bytes ≤ 140737488355328) (hbase : base ≤ w.heap.size)
    (h : ∀ v' w', w'.ownsRow base e 1 v' (n + m) (xs ++ (List.range m).map fun j => g j 0) → w.grownBy w' v.ownBlock → (v' = .slice none 0 0 ↔ v = .slice none 0 0 ∧ m = 0) → wpList P ops Q rest (A.put o.dst v') w') : wpList P ops Q (o :: rest) A w := by
  cases a with
  | none =>
    obtain rfl : m = 0 := by
      rcases Nat.eq_zero_or_pos m with h | h
      · exact h
      · obtain ⟨b, off, h0, _⟩ := hsl.2 0 h; cases h0
    obtain rfl := hnil rfl
    refine wpList_plain hgd fun _ hK => ?_
    unfold Oper.wp execOp
    simp only [ho, resolve, invoke, builtin, Sem.run_bind, Sem.run_pure, Result.andThen_ok, List.map_toArray, List.map_cons, List.map_nil, hs, hx]
    rw [run_append_owned_none (P := P) base t o.type e i 1 ht hi v n xs (w := w) hown]
    refine hK _ _ (h v w ?_ ⟨rfl, rfl, rfl, Nat.le_refl _, fun _ _ _ => rfl⟩ (by simp))
    simpa using hown
  | some ad =>
    have hnew : ∀ j u, ((List.range m).map fun j => g j 0)[j]? = some u → w.cell? (ad.add j) = some u := by
      intro j u hu
      simp only [List.getElem?_map, Option.map_eq_some_iff] at hu
      obtain ⟨i, hi2, rfl⟩ := hu
      rw [List.getElem?_eq_some_iff] at hi2
      obtain ⟨hj, rfl⟩ := hi2
      simp only [List.length_range] at hj
      rw [List.getElem_range]
      obtain ⟨b, off, h0, hb, hcell⟩ := hsl.2 j hj
      cases h0
      have := hcell 0 (by omega)
      rw [Nat.mul_one, Nat.add_zero] at this
      rw [← this]
      unfold Addr.add
      split
      · rename_i h; rw [h]; rfl
      · rfl
    exact wpList_append_own w hgd s x t ho base e i z 1 bytes ht hi hz hsize hby hzs (by decide) v n xs hs hown ad m c _ hx (by simp) hnew (fun u hu => by obtain ⟨j, _, rfl⟩ := List.mem_map.1 hu; exact h1 j) h63 hbytes hbase h
end Go.Proofs.Ytkocgeedpinplaa
