/- The adder and cells as if each operation were done at once, in plain numbers. -/
import Derived.Test.YtkocgeedpinplaaQ34
import Derived.Test.YtkocgeedpinplaaQ29
import Derived.Test.YtkocgeedpinplaaQ28
import Derived.Test.YtkocgeedpinplaaQ31
import Derived.Test.YtkocgeedpinplaaQ27
import Derived.Test.YtkocgeedpinplaaQ33
set_option maxRecDepth 100000
set_option linter.unusedVariables false
set_option linter.unusedSimpArgs false
set_option linter.unnecessarySimpa false
namespace Go.Proofs.Ytkocgeedpinplaa
section
open Go.RowKit

def adderAp (st : List Nat) (c : CallD) : List Nat × AnsD :=
  if c.kind = 0 then (st.set 0 ((st.getD 0 0 + c.a) % 18446744073709551616), ⟨0, st.getD 0 0, []⟩) else if c.kind = 1 then (st, ⟨0, st.getD 0 0, []⟩)
  else if c.kind = 2 then (st.set 0 ((st.getD 0 0 + 1) % 18446744073709551616), ⟨0, st.getD 0 0, []⟩) else (st, ⟨9, 0, []⟩)
def cellsAp (size : Nat) (st : List Nat) (c : CallD) : List Nat × AnsD :=
  if c.kind < 0 ∨ 3 < c.kind then (st, ⟨9, 0, []⟩) else if size ≤ c.a then (st, ⟨10, 0, []⟩)
  else if c.kind = 0 then (st, ⟨0, st.getD c.a 0, []⟩)
  else if c.kind = 1 then (st.set c.a c.b, ⟨0, 0, []⟩)
  else if c.kind = 2 then (if st.getD c.a 0 = c.b then (st.set c.a c.c, ⟨0, 1, []⟩) else (st, ⟨0, 0, []⟩))
  else (st.set c.a ((st.getD c.a 0 + c.b) % 18446744073709551616), ⟨0, st.getD c.a 0, []⟩)
theorem memIn_lt {m : MemD} {a : Nat} (h : a < m.ws.length) : memOut m (a : Int) = false := by unfold memOut; simp; omega
theorem adder_onceAp : OnceAp adderRef adderAct adderAp 1 where
  refuse := by
    intro c e ws h
    unfold adderRef at h
    split at h
    · cases h
    · rename_i hk
      cases h
      unfold adderAp
      rw [if_neg (by omega), if_neg (by omega), if_neg (by omega)]
  go := by
    intro c wd hr hl hf
    unfold adderRef at hr
    split at hr
    · rename_i hk
      have hin : memOut wd.mem 0 = false := memIn_lt (m := wd.mem) (a := 0) (by omega)
      have hadd : ∀ d, memAdd wd.mem 0 d = ({ ws := wd.mem.ws.set 0 ((wd.mem.ws.getD 0 0 + d) % 18446744073709551616), c := { wd.mem.c with add := wd.mem.c.add + 1 } }, wd.mem.ws.getD 0 0) := fun d => by unfold memAdd; rw [hin]; rfl
      have hrd : memRead wd.mem 0 = ({ wd.mem with c := { wd.mem.c with read := wd.mem.c.read + 1 } }, wd.mem.ws.getD 0 0) := by unfold memRead; rw [hin]; rfl
      by_cases h1 : c.kind = 1
      · have e1 : adderAct c wd = ({ wd with mem := (memRead wd.mem 0).1 }, (0, (memRead wd.mem 0).2)) := if_pos h1
        have e2 : adderAp wd.mem.ws c = (wd.mem.ws, ⟨0, wd.mem.ws.getD 0 0, []⟩) := by unfold adderAp; rw [if_neg (by omega), if_pos h1]
        rw [e1, e2, hrd]
        exact ⟨rfl, hl, hf⟩
      · have e1 : adderAct c wd = ({ wd with mem := (memAdd wd.mem 0 (adderD c)).1 }, (0, (memAdd wd.mem 0 (adderD c)).2)) := if_neg h1
        rw [e1, hadd]
        refine ⟨?_, by simpa using hl, hf⟩
        by_cases h2 : c.kind = 2
        · have e2 : adderAp wd.mem.ws c = (wd.mem.ws.set 0 ((wd.mem.ws.getD 0 0 + 1) % 18446744073709551616), ⟨0, wd.mem.ws.getD 0 0, []⟩) := by unfold adderAp; rw [if_neg (by omega), if_neg h1, if_pos h2]
          have e3 : adderD c = 1 := if_pos h2
          rw [e2, e3]
        · have e2 : adderAp wd.mem.ws c = (wd.mem.ws.set 0 ((wd.mem.ws.getD 0 0 + c.a) % 18446744073709551616), ⟨0, wd.mem.ws.getD 0 0, []⟩) := by unfold adderAp; rw [if_pos (by omega)]
          have e3 : adderD c = c.a := if_neg h2
          rw [e2, e3]
    · cases hr
  marks := by intro c wd; unfold adderAct; split <;> rfl
  now := by intro c wd; unfold adderAct; split <;> rfl
  all := by
    intro c wd; unfold adderAct; split
    · exact memRead_cnt _ _
    · exact memAdd_cnt _ _ _
theorem cells_onceAp (size : Nat) : OnceAp (cellsRef size) cellsAct (cellsAp size) size where
  refuse := by
    intro c e ws h
    unfold cellsRef at h
    unfold cellsAp
    split at h
    · rename_i hk; cases h; rw [if_pos hk]
    · rename_i hk
      split at h
      · rename_i ha; cases h; rw [if_neg hk, if_pos ha]
      · cases h
  go := by
    intro c wd hr hl hf
    unfold cellsRef at hr
    split at hr
    · cases hr
    · rename_i hk
      split at hr
      · cases hr
      · rename_i ha
        have hin : memOut wd.mem (c.a : Int) = false := memIn_lt (by omega)
        unfold cellsAct cellsAp
        rw [if_neg hk, if_neg ha]
        by_cases h0 : c.kind = 0
        · rw [if_pos h0, if_pos h0]
          unfold memRead; rw [hin]
          exact ⟨rfl, hl, hf⟩
        · rw [if_neg h0, if_neg h0]
          by_cases h1 : c.kind = 1
          · rw [if_pos h1, if_pos h1]
            unfold memWrite; rw [hin]
            exact ⟨rfl, by simpa using hl, hf⟩
          · rw [if_neg h1, if_neg h1]
            by_cases h2 : c.kind = 2
            · rw [if_pos h2, if_pos h2]
              unfold memSwap; rw [hin]
              simp only [Int.toNat_natCast, Bool.false_eq_true, if_false]
              by_cases hs : wd.mem.ws.getD c.a 0 = c.b
              · simp only [if_pos hs]
                exact ⟨rfl, by simpa using hl, hf⟩
              · simp only [if_neg hs]
                exact ⟨rfl, hl, hf⟩
            · rw [if_neg h2, if_neg h2]
              unfold memAdd; rw [hin]
              exact ⟨rfl, by simpa using hl, hf⟩
  marks := by intro c wd; unfold cellsAct; split; rfl; split; rfl; split <;> rfl
  now := by intro c wd; unfold cellsAct; split; rfl; split; rfl; split <;> rfl
  all := by
    intro c wd; unfold cellsAct; split
    · exact memRead_cnt _ _
    · split
      · exact memWrite_cnt _ _ _
      · split
        · exact memSwap_cnt _ _ _ _
        · exact memAdd_cnt _ _ _
end
section

/- Layer 6: the order of keys: the walks of ahead, Order. -/
open Go.RowKit

/-- A world gets a name. -/
theorem nameW {F : World → Prop} {W : World} (h : ∀ w', w' = W → F w') : F W := h W rfl
theorem keyLt_drop {xs ys : List Int} {k : Nat} (h1 : k < xs.length) (h2 : k < ys.length) : keyLt (xs.drop k) (ys.drop k) = if xs.getD k 0 = ys.getD k 0 then keyLt (xs.drop (k + 1)) (ys.drop (k + 1)) else decide (xs.getD k 0 < ys.getD k 0) := by
  rw [List.drop_eq_getElem_cons h1, List.drop_eq_getElem_cons h2]
  simp only [keyLt, List.getD_eq_getElem?_getD, List.getElem?_eq_getElem h1, List.getElem?_eq_getElem h2, Option.getD_some]
theorem keyLt_end {xs ys : List Int} {k : Nat} (h1 : k ≤ xs.length) (h2 : k ≤ ys.length) (h : ¬ (k < xs.length ∧ k < ys.length)) : keyLt (xs.drop k) (ys.drop k) = decide (xs.length < ys.length) := by
  by_cases h3 : k < xs.length
  · have h4 : ys.drop k = [] := List.drop_eq_nil_of_le (by omega)
    rw [h4, List.drop_eq_getElem_cons h3]
    simp only [keyLt]
    symm; apply decide_eq_false; omega
  · have h4 : xs.drop k = [] := List.drop_eq_nil_of_le (by omega)
    rw [h4]
    by_cases h5 : k < ys.length
    · rw [List.drop_eq_getElem_cons h5]
      simp only [keyLt]
      symm; apply decide_eq_true; omega
    · rw [List.drop_eq_nil_of_le (by omega)]
      simp only [keyLt]
      symm; apply decide_eq_false; omega

set_option maxHeartbeats 4000000 in
theorem ahead_any (xs ys : List Int) (a a2 : Option Addr) (c c2 : Nat) (w : World) (hs : SlAt w a xs.length 1 (intG xs)) (hs2 : SlAt w a2 ys.length 1 (intG ys)) :
    Calls Try.prog 62 #[.slice a xs.length c, .slice a2 ys.length c2] w fun e w' => e = .returned (.bool (keyLt xs ys)) ∧ Below w.heap.size w w' := by
  have hm := hs.1; have hm2 := hs2.1
  unfold maxLen at hm hm2
  obtain ⟨r, hr⟩ : ∃ r, r = keyLt xs ys := ⟨_, rfl⟩
  rw [← hr]
  obtain ⟨n, hn⟩ : ∃ n, n = xs.length := ⟨_, rfl⟩
  obtain ⟨m, hmm⟩ : ∃ m, m = ys.length := ⟨_, rfl⟩
  rw [← hn] at hs hm ⊢
  rw [← hmm] at hs2 hm2 ⊢
  have Hs := Lib.hid hs; have Hs2 := Lib.hid hs2; have Hr := Lib.hid hr; have Hn := Lib.hid hn; have Hm := Lib.hid hmm
  clear hs hs2 hr hn hmm
  go_enter Try.func62, Try.ntmps62
  go_wp2
  go_loopw [5] (fun i wr => ∃ k : Nat, k ≤ n ∧ k ≤ m ∧ i = .int .i64 k ∧ Below w.heap.size w wr ∧ keyLt (xs.drop k) (ys.drop k) = r) (fun i _ => n - (intOf i).toNat)
  case atStart => exact ⟨0, Nat.zero_le _, Nat.zero_le _, rfl, Gr.refl _, by rw [List.drop_zero, List.drop_zero]; exact Hr.out.symm⟩
  case round =>
    obtain ⟨k, hk, hk2, rfl, hb, hkey⟩ := hrel
    by_cases hlt : k < n
    · by_cases hlt2 : k < m
      · obtain ⟨b, o, rfl, h4⟩ := Hs.out.elem hb hlt
        obtain ⟨b2, o2, rfl, h5⟩ := Hs2.out.elem hb hlt2
        obtain ⟨x, hx⟩ : ∃ x, x = xs.getD k 0 := ⟨_, rfl⟩
        obtain ⟨y, hy⟩ : ∃ y, y = ys.getD k 0 := ⟨_, rfl⟩
        have e4 : wr.cell? ⟨b, o + k, none⟩ = some (.int .i64 x) := by have h0 := h4 0 (by omega); rw [Nat.mul_one, Nat.add_zero] at h0; rw [h0, hx]; rfl
        have e5 : wr.cell? ⟨b2, o2 + k, none⟩ = some (.int .i64 y) := by have h0 := h5 0 (by omega); rw [Nat.mul_one, Nat.add_zero] at h0; rw [h0, hy]; rfl
        have hstep := keyLt_drop (xs := xs) (ys := ys) (k := k) (by rw [← Hn.out]; exact hlt) (by rw [← Hm.out]; exact hlt2)
        rw [← hx, ← hy, hkey] at hstep
        have l1 : (k : Int) < n := by omega
        have l2 : (k : Int) < m := by omega
        have Hb := Lib.hid hb
        by_cases hxy : x = y
        · rw [if_pos hxy] at hstep
          subst hxy
          have Hst := Lib.hid hstep
          clear h4 h5 hb hx hy hstep hkey
          go_wp2_with fail
          go_quiet (fail)
          go_wp2
          go_roundw
          case rel => exact ⟨k + 1, by omega, by omega, by go_num, below_drewN Hb.out nq, Hst.out.symm⟩
          case measure => simp [intOf] <;> omega
        · rw [if_neg hxy] at hstep
          subst hstep
          clear h4 h5 hb hx hy hkey
          go_wp2_with fail
          go_quiet (fail)
          revert nq; intro n1
          go_wp2_with fail
          go_quiet (fail)
          go_wp2
          go_ret
          first
          | exact ⟨rfl, below_drewN Hb.out _⟩
          | exact ⟨rfl, below_drewN (below_drewN Hb.out _) _⟩
      · have hstep := keyLt_end (xs := xs) (ys := ys) (k := k) (by rw [← Hn.out]; exact hk) (by rw [← Hm.out]; exact hk2) (by rw [← Hn.out, ← Hm.out]; omega)
        rw [hkey, ← Hn.out, ← Hm.out] at hstep
        have hr1 : r = false := by rw [hstep]; apply decide_eq_false; omega
        subst hr1
        have l1 : (k : Int) < n := by omega
        have l2 : ¬ (k : Int) < m := by omega
        have l3 : ¬ (n : Int) < m := by omega
        have Hb := Lib.hid hb
        clear hb hstep hkey
        go_wp2
        go_ret
        exact ⟨rfl, Hb.out⟩
    · have hstep := keyLt_end (xs := xs) (ys := ys) (k := k) (by rw [← Hn.out]; exact hk) (by rw [← Hm.out]; exact hk2) (by rw [← Hn.out, ← Hm.out]; omega)
      rw [hkey, ← Hn.out, ← Hm.out] at hstep
      have l1 : ¬ (k : Int) < n := by omega
      have Hb := Lib.hid hb
      by_cases l3 : (n : Int) < m
      · have hr1 : r = true := by rw [hstep]; apply decide_eq_true; omega
        subst hr1
        clear hb hstep hkey
        go_wp2
        go_ret
        exact ⟨rfl, Hb.out⟩
      · have hr1 : r = false := by rw [hstep]; apply decide_eq_false; omega
        subst hr1
        clear hb hstep hkey
        go_wp2
        go_ret
        exact ⟨rfl, Hb.out⟩

set_option maxHeartbeats 4000000 in
theorem ahead4_any (xs ys : List Int) (a a2 : Option Addr) (c c2 : Nat) (w : World) (hs : SlAt w a xs.length 1 (intG xs)) (hs2 : SlAt w a2 ys.length 1 (intG ys)) :
    Calls Try.prog 82 #[.slice a xs.length c, .slice a2 ys.length c2] w fun e w' => e = .returned (.bool (keyLt xs ys)) ∧ Below w.heap.size w w' := by
  have hm := hs.1; have hm2 := hs2.1
  unfold maxLen at hm hm2
  obtain ⟨r, hr⟩ : ∃ r, r = keyLt xs ys := ⟨_, rfl⟩
  rw [← hr]
  obtain ⟨n, hn⟩ : ∃ n, n = xs.length := ⟨_, rfl⟩
  obtain ⟨m, hmm⟩ : ∃ m, m = ys.length := ⟨_, rfl⟩
  rw [← hn] at hs hm ⊢
  rw [← hmm] at hs2 hm2 ⊢
  have Hs := Lib.hid hs; have Hs2 := Lib.hid hs2; have Hr := Lib.hid hr; have Hn := Lib.hid hn; have Hm := Lib.hid hmm
  clear hs hs2 hr hn hmm
  go_enter Try.func82, Try.ntmps82
  go_wp2
  go_loopw [5] (fun i wr => ∃ k : Nat, k ≤ n ∧ k ≤ m ∧ i = .int .i64 k ∧ Below w.heap.size w wr ∧ keyLt (xs.drop k) (ys.drop k) = r) (fun i _ => n - (intOf i).toNat)
  case atStart => exact ⟨0, Nat.zero_le _, Nat.zero_le _, rfl, Gr.refl _, by rw [List.drop_zero, List.drop_zero]; exact Hr.out.symm⟩
  case round =>
    obtain ⟨k, hk, hk2, rfl, hb, hkey⟩ := hrel
    by_cases hlt : k < n
    · by_cases hlt2 : k < m
      · obtain ⟨b, o, rfl, h4⟩ := Hs.out.elem hb hlt
        obtain ⟨b2, o2, rfl, h5⟩ := Hs2.out.elem hb hlt2
        obtain ⟨x, hx⟩ : ∃ x, x = xs.getD k 0 := ⟨_, rfl⟩
        obtain ⟨y, hy⟩ : ∃ y, y = ys.getD k 0 := ⟨_, rfl⟩
        have e4 : wr.cell? ⟨b, o + k, none⟩ = some (.int .i64 x) := by have h0 := h4 0 (by omega); rw [Nat.mul_one, Nat.add_zero] at h0; rw [h0, hx]; rfl
        have e5 : wr.cell? ⟨b2, o2 + k, none⟩ = some (.int .i64 y) := by have h0 := h5 0 (by omega); rw [Nat.mul_one, Nat.add_zero] at h0; rw [h0, hy]; rfl
        have hstep := keyLt_drop (xs := xs) (ys := ys) (k := k) (by rw [← Hn.out]; exact hlt) (by rw [← Hm.out]; exact hlt2)
        rw [← hx, ← hy, hkey] at hstep
        have l1 : (k : Int) < n := by omega
        have l2 : (k : Int) < m := by omega
        have Hb := Lib.hid hb
        by_cases hxy : x = y
        · rw [if_pos hxy] at hstep
          subst hxy
          have Hst := Lib.hid hstep
          clear h4 h5 hb hx hy hstep hkey
          go_wp2_with fail
          go_quiet (fail)
          go_wp2
          go_roundw
          case rel => exact ⟨k + 1, by omega, by omega, by go_num, below_drewN Hb.out nq, Hst.out.symm⟩
          case measure => simp [intOf] <;> omega
        · rw [if_neg hxy] at hstep
          subst hstep
          clear h4 h5 hb hx hy hkey
          go_wp2_with fail
          go_quiet (fail)
          revert nq; intro n1
          go_wp2_with fail
          go_quiet (fail)
          go_wp2
          go_ret
          first
          | exact ⟨rfl, below_drewN Hb.out _⟩
          | exact ⟨rfl, below_drewN (below_drewN Hb.out _) _⟩
      · have hstep := keyLt_end (xs := xs) (ys := ys) (k := k) (by rw [← Hn.out]; exact hk) (by rw [← Hm.out]; exact hk2) (by rw [← Hn.out, ← Hm.out]; omega)
        rw [hkey, ← Hn.out, ← Hm.out] at hstep
        have hr1 : r = false := by rw [hstep]; apply decide_eq_false; omega
        subst hr1
        have l1 : (k : Int) < n := by omega
        have l2 : ¬ (k : Int) < m := by omega
        have l3 : ¬ (n : Int) < m := by omega
        have Hb := Lib.hid hb
        clear hb hstep hkey
        go_wp2
        go_ret
        exact ⟨rfl, Hb.out⟩
    · have hstep := keyLt_end (xs := xs) (ys := ys) (k := k) (by rw [← Hn.out]; exact hk) (by rw [← Hm.out]; exact hk2) (by rw [← Hn.out, ← Hm.out]; omega)
      rw [hkey, ← Hn.out, ← Hm.out] at hstep
      have l1 : ¬ (k : Int) < n := by omega
      have Hb := Lib.hid hb
      by_cases l3 : (n : Int) < m
      · have hr1 : r = true := by rw [hstep]; apply decide_eq_true; omega
        subst hr1
        clear hb hstep hkey
        go_wp2
        go_ret
        exact ⟨rfl, Hb.out⟩
      · have hr1 : r = false := by rw [hstep]; apply decide_eq_false; omega
        subst hr1
        clear hb hstep hkey
        go_wp2
        go_ret
        exact ⟨rfl, Hb.out⟩
end
section

/- Layer 6: a report's rows: the walk of roundelayplain.Rows. -/
open Go.RowKit

set_option maxHeartbeats 4000000 in
theorem within_true (ks : List Int) (iv rs : Nat) (a : Option Addr) (c : Nat) (w : World) (hs : SlAt w a ks.length 1 (intG ks)) (hk : Within ks iv rs) (hr : rs < 1000000) :
    Calls Try.prog 60 #[.slice a ks.length c, .int .i64 (iv : Int), .int .i64 (rs : Int)] w fun e w' => e = .returned (.bool true) ∧ Below w.heap.size w w' := by
  obtain ⟨h1, h2, h3⟩ := hk
  match ks, h1 with
  | k :: ks, _ =>
    simp only [List.headD_cons] at h2 h3
    obtain ⟨b, o, rfl, _, h4⟩ := hs.2 0 (by simp)
    have hm := hs.1
    have e4 : w.cell? ⟨b, o, none⟩ = some (.int .i64 k) := by have h0 := h4 0 (by omega); rw [Nat.zero_mul, Nat.add_zero] at h0; simpa [intG] using h0
    obtain ⟨n, hn⟩ : ∃ n, n = (k :: ks).length := ⟨_, rfl⟩
    have hn0 : 0 < n := by rw [hn]; simp
    rw [← hn] at hm ⊢
    unfold maxLen at hm
    have l0 : (0 : Int) < (n : Int) := by omega
    have l1 : (iv : Int) ≤ k.tdiv 2 := by rw [Int.tdiv_eq_ediv_of_nonneg (by omega)]; omega
    have l2 : (k + 1).tdiv 2 ≤ (rs : Int) := by rw [Int.tdiv_eq_ediv_of_nonneg (by omega)]; omega
    have l3 : 0 ≤ k ∧ k < 2000000 := by omega
    have w1 : IntKind.i64.wrap (k.tdiv 2) = k.tdiv 2 := by rw [IntKind.wrap_i64, Int.tdiv_eq_ediv_of_nonneg (by omega)]; omega
    have w2 : IntKind.i64.wrap ((k + 1).tdiv 2) = (k + 1).tdiv 2 := by rw [IntKind.wrap_i64, Int.tdiv_eq_ediv_of_nonneg (by omega)]; omega
    have w3 : IntKind.i64.wrap (k + 1) = k + 1 := by rw [IntKind.wrap_i64]; omega
    clear hs h4 h2 h3 hn hn0 hr
    go_enter Try.func60, Try.ntmps60
    go_wp2
    go_ret
    exact ⟨rfl, Gr.refl _⟩
end
section

/- A report's events, as the laws' checks meet them. -/
open Go.RowKit

theorem RepAt.ev8 {X : Nat → Prop} {B : Nat} {w wr : World} {ea : Option Addr} {en ec : Nat} {wv : Value} {ers : List (Value × Value)} {r : RepD} (h : RepAt X B w (.slice ea en ec) wv ers r) (hn : en = r.evs.length) {k : Nat} (hk : k < en) (hb : Below w.heap.size w wr) :
    ∃ g la lc ka kc, ea = some ⟨g, 0, none⟩ ∧ g < wr.heap.size ∧
      wr.cell? ⟨g, k * 8, none⟩ = some (.int .i64 ((evAt r.evs k).call : Int)) ∧ wr.cell? ⟨g, k * 8 + 1, none⟩ = some (.int .i64 ((evAt r.evs k).inv : Int)) ∧ wr.cell? ⟨g, k * 8 + 2, none⟩ = some (.int .i64 ((evAt r.evs k).resp : Int)) ∧ wr.cell? ⟨g, k * 8 + 3, none⟩ = some (.int .i64 ((evAt r.evs k).steps : Int)) ∧
      wr.cell? ⟨g, k * 8 + 4, none⟩ = some (.int .i64 (evAt r.evs k).ans.err) ∧ wr.cell? ⟨g, k * 8 + 5, none⟩ = some (.int .u64 ((evAt r.evs k).ans.val : Int)) ∧ wr.cell? ⟨g, k * 8 + 6, none⟩ = some (.slice la (evAt r.evs k).ans.list.length lc) ∧ wr.cell? ⟨g, k * 8 + 7, none⟩ = some (.slice ka (evAt r.evs k).key.length kc) ∧
      SlAt wr la (evAt r.evs k).ans.list.length 1 (u64G (evAt r.evs k).ans.list) ∧ SlAt wr ka (evAt r.evs k).key.length 1 (intG (evAt r.evs k).key) ∧ ((evAt r.evs k).key = [] → ka = none ∧ kc = 0) := by
  obtain ⟨g, rfl, hg, hev⟩ := h.event hn (by omega)
  have hans := h.ans k (by rw [← hn]; exact hk)
  obtain ⟨V, hV⟩ : ∃ V, V = ers.getD k vv0 := ⟨_, rfl⟩
  rw [← hV] at hans
  obtain ⟨⟨la, lc, hlv, hls, _⟩, ⟨ka, kc, hkv, hkn, hks, _⟩⟩ := hans
  have hcells : ∀ f, f < 8 → wr.cell? ⟨g, k * 8 + f, none⟩ = (evCells (evAt r.evs k) V)[f]? := fun f hf => by rw [hb.cell hg, hev k f hk hf, hV]; rfl
  refine ⟨g, la, lc, ka, kc, rfl, Nat.lt_of_lt_of_le hg hb.size, hcells 0 (by omega), hcells 1 (by omega), hcells 2 (by omega), hcells 3 (by omega), hcells 4 (by omega), hcells 5 (by omega), ?_, ?_, hls.grown hb, hks.grown hb, fun h0 => ?_⟩
  · rw [hcells 6 (by omega)]; exact congrArg some hlv
  · rw [hcells 7 (by omega)]; exact congrArg some hkv
  · have := hkn h0
    rw [hkv] at this
    simp only [Value.slice.injEq] at this
    exact ⟨this.1, this.2.2⟩
theorem cnt_take_succ (P : EvD → Bool) (l : List EvD) (j : Nat) (hj : j < l.length) : cnt P (l.take (j + 1)) = cnt P (l.take j) + (if P (evAt l j) then 1 else 0) := by
  rw [List.take_succ_eq_append_getElem hj, cnt_append, cnt_cons, cnt_nil, Nat.add_zero]
  congr 2
  unfold evAt
  rw [List.getD_eq_getElem?_getD, List.getElem?_eq_getElem hj, Option.getD_some]

set_option maxHeartbeats 4000000 in
theorem most_true {X : Nat → Prop} {B : Nat} (w : World) (m : Nat) (ea va : Option Addr) (en ec vn vc : Nat) (ers : List (Value × Value)) (rp : RepD) (hrep : RepAt X B w (.slice ea en ec) (.slice va vn vc) ers rp) (hen : en = rp.evs.length) (hlen : rp.evs.length < 1000000) (hm : ∀ i, i < rp.evs.length → (evAt rp.evs i).steps ≤ m) :
    Calls Try.prog 43 #[repV (.slice ea en ec) (.slice va vn vc) rp, .int .i64 (m : Int)] w fun e w' => e = .returned (.bool true) ∧ Below w.heap.size w w' := by
  obtain ⟨wa, hwa⟩ : ∃ wa, wa = w.alloc (.cells #[.slice ea en ec, .slice va vn vc, .int .i64 (rp.c.read : Int), .int .i64 (rp.c.write : Int), .int .i64 (rp.c.swap : Int), .int .i64 (rp.c.add : Int), .int .i64 (rp.c.fault : Int), .int .i64 (rp.ticks : Int), .int .i64 (rp.idle : Int)] 57) := ⟨_, rfl⟩
  have hga : Below w.heap.size w wa := by rw [hwa]; exact Gr.new _ _
  have hba : wa.heap[w.heap.size]? = some (.cells #[.slice ea en ec, .slice va vn vc, .int .i64 (rp.c.read : Int), .int .i64 (rp.c.write : Int), .int .i64 (rp.c.swap : Int), .int .i64 (rp.c.add : Int), .int .i64 (rp.c.fault : Int), .int .i64 (rp.ticks : Int), .int .i64 (rp.idle : Int)] 57 (0, 0)) := by rw [hwa]; exact heap_alloc_new _ _
  have a0 : wa.cell? ⟨w.heap.size, 0, none⟩ = some (.slice ea en ec) := by rw [cell_blk hba]; rfl
  have hlt0 := blk_lt hba
  have henl : en ≤ 9223372036854775807 := by omega
  have Hrep := Lib.hid hrep; have Hen := Lib.hid hen; have Hm := Lib.hid hm; have Hga := Lib.hid hga; have A0 := Lib.hid a0; have Hlt0 := Lib.hid hlt0; have Hwa := Lib.hid hwa
  clear hrep hen hm hga hba hlt0 hwa hlen
  unfold repV
  go_enter Try.func43, Try.ntmps43
  go_wp2_with fail
  rw [← Hwa.out]
  go_wp2
  go_loopw [9] (fun i wr => ∃ k : Nat, k ≤ en ∧ i = .int .i64 k ∧ Below wa.heap.size wa wr) (fun i _ => en - (intOf i).toNat)
  case atStart => exact ⟨0, Nat.zero_le _, rfl, Gr.refl _⟩
  case round =>
    obtain ⟨k, hk, rfl, hb⟩ := hrel
    have b0 : wr.cell? ⟨w.heap.size, 0, none⟩ = some (.slice ea en ec) := (hb.cell Hlt0.out).trans A0.out
    by_cases hlt : k < en
    · obtain ⟨g, la, lc, ka, kc, rfl, hg, e0, e1, e2, e3, e4, e5, e6, e7, hls, hks, hkn⟩ := Hrep.out.ev8 Hen.out hlt (Gr.trans Hga.out hb)
      have hs := Hm.out k (by rw [← Hen.out]; exact hlt)
      obtain ⟨st, hst⟩ : ∃ st, st = (evAt rp.evs k).steps := ⟨_, rfl⟩
      rw [← hst] at e3 hs
      have l1 : (k : Int) < (en : Int) := by omega
      have l2 : (st : Int) ≤ (m : Int) := by omega
      have Hb := Lib.hid hb
      clear e0 e1 e2 e4 e5 e6 e7 hls hks hst hs hb hg hkn
      go_wp2
      go_roundw
      case rel => exact ⟨k + 1, by omega, by go_num, Hb.out⟩
      case measure => simp [intOf] <;> omega
    · have l1 : ¬ (k : Int) < (en : Int) := by omega
      have Hb := Lib.hid hb
      clear hb
      go_wp2
      go_ret
      exact ⟨rfl, Gr.trans Hga.out Hb.out⟩
end
end Go.Proofs.Ytkocgeedpinplaa
