/- The adder and cells as if each operation were done at once, in plain numbers. -/
import Derived.Test.YtkocgeedpinplaaJ48
import Derived.Test.YtkocgeedpinplaaJ33
set_option maxRecDepth 100000
set_option linter.unusedVariables false
set_option linter.unusedSimpArgs false
set_option linter.unnecessarySimpa false
namespace Go.Proofs.Ytkocgeedpinplaa
section
open Go.RowKit

def adderAp (st : List Nat) (c : CallD) : List Nat × AnsD :=
  if c.kind = 0 then (st.set 0 ((st.getD 0 0 + c.a) % 18446744073709551616), ⟨0, st.getD 0 0, []⟩) else if c.kind = 1 then (st, ⟨0, st.getD 0 0, []⟩)
  else if c.kind = 2 then (st.set 0 ((st.getD 0 0 + 1) % 18446744073709551616), ⟨0, st.getD 0 0, []⟩) else (st, ⟨9, 0, []⟩)
def cellsAp (size : Nat) (st : List Nat) (c : CallD) : List Nat × AnsD :=
  if c.kind < 0 ∨ 3 < c.kind then (st, ⟨9, 0, []⟩) else if size ≤ c.a then (st, ⟨10, 0, []⟩)
  else if c.kind = 0 then (st, ⟨0, st.getD c.a 0, []⟩)
  else if c.kind = 1 then (st.set c.a c.b, ⟨0, 0, []⟩)
  else if c.kind = 2 then (if st.getD c.a 0 = c.b then (st.set c.a c.c, ⟨0, 1, []⟩) else (st, ⟨0, 0, []⟩))
  else (st.set c.a ((st.getD c.a 0 + c.b) % 18446744073709551616), ⟨0, st.getD c.a 0, []⟩)
theorem memIn_lt {m : MemD} {a : Nat} (h : a < m.ws.length) : memOut m (a : Int) = false := by unfold memOut; simp; omega
theorem adder_onceAp : OnceAp adderRef adderAct adderAp 1 where
  refuse := by
    intro c e ws h
    unfold adderRef at h
    split at h
    · cases h
    · rename_i hk
      cases h
      unfold adderAp
      rw [if_neg (by omega), if_neg (by omega), if_neg (by omega)]
  go := by
    intro c wd hr hl hf
    unfold adderRef at hr
    split at hr
    · rename_i hk
      have hin : memOut wd.mem 0 = false := memIn_lt (m := wd.mem) (a := 0) (by omega)
      have hadd : ∀ d, memAdd wd.mem 0 d = ({ ws := wd.mem.ws.set 0 ((wd.mem.ws.getD 0 0 + d) % 18446744073709551616), c := { wd.mem.c with add := wd.mem.c.add + 1 } }, wd.mem.ws.getD 0 0) := fun d => by unfold memAdd; rw [hin]; rfl
      have hrd : memRead wd.mem 0 = ({ wd.mem with c := { wd.mem.c with read := wd.mem.c.read + 1 } }, wd.mem.ws.getD 0 0) := by unfold memRead; rw [hin]; rfl
      by_cases h1 : c.kind = 1
      · have e1 : adderAct c wd = ({ wd with mem := (memRead wd.mem 0).1 }, (0, (memRead wd.mem 0).2)) := if_pos h1
        have e2 : adderAp wd.mem.ws c = (wd.mem.ws, ⟨0, wd.mem.ws.getD 0 0, []⟩) := by unfold adderAp; rw [if_neg (by omega), if_pos h1]
        rw [e1, e2, hrd]
        exact ⟨rfl, hl, hf⟩
      · have e1 : adderAct c wd = ({ wd with mem := (memAdd wd.mem 0 (adderD c)).1 }, (0, (memAdd wd.mem 0 (adderD c)).2)) := if_neg h1
        rw [e1, hadd]
        refine ⟨?_, by simpa using hl, hf⟩
        by_cases h2 : c.kind = 2
        · have e2 : adderAp wd.mem.ws c = (wd.mem.ws.set 0 ((wd.mem.ws.getD 0 0 + 1) % 18446744073709551616), ⟨0, wd.mem.ws.getD 0 0, []⟩) := by unfold adderAp; rw [if_neg (by omega), if_neg h1, if_pos h2]
          have e3 : adderD c = 1 := if_pos h2
          rw [e2, e3]
        · have e2 : adderAp wd.mem.ws c = (wd.mem.ws.set 0 ((wd.mem.ws.getD 0 0 + c.a) % 18446744073709551616), ⟨0, wd.mem.ws.getD 0 0, []⟩) := by unfold adderAp; rw [if_pos (by omega)]
          have e3 : adderD c = c.a := if_neg h2
          rw [e2, e3]
    · cases hr
  marks := by intro c wd; unfold adderAct; split <;> rfl
  now := by intro c wd; unfold adderAct; split <;> rfl
  all := by
    intro c wd; unfold adderAct; split
    · exact memRead_cnt _ _
    · exact memAdd_cnt _ _ _
theorem cells_onceAp (size : Nat) : OnceAp (cellsRef size) cellsAct (cellsAp size) size where
  refuse := by
    intro c e ws h
    unfold cellsRef at h
    unfold cellsAp
    split at h
    · rename_i hk; cases h; rw [if_pos hk]
    · rename_i hk
      split at h
      · rename_i ha; cases h; rw [if_neg hk, if_pos ha]
      · cases h
  go := by
    intro c wd hr hl hf
    unfold cellsRef at hr
    split at hr
    · cases hr
    · rename_i hk
      split at hr
      · cases hr
      · rename_i ha
        have hin : memOut wd.mem (c.a : Int) = false := memIn_lt (by omega)
        unfold cellsAct cellsAp
        rw [if_neg hk, if_neg ha]
        by_cases h0 : c.kind = 0
        · rw [if_pos h0, if_pos h0]
          unfold memRead; rw [hin]
          exact ⟨rfl, hl, hf⟩
        · rw [if_neg h0, if_neg h0]
          by_cases h1 : c.kind = 1
          · rw [if_pos h1, if_pos h1]
            unfold memWrite; rw [hin]
            exact ⟨rfl, by simpa using hl, hf⟩
          · rw [if_neg h1, if_neg h1]
            by_cases h2 : c.kind = 2
            · rw [if_pos h2, if_pos h2]
              unfold memSwap; rw [hin]
              simp only [Int.toNat_natCast, Bool.false_eq_true, if_false]
              by_cases hs : wd.mem.ws.getD c.a 0 = c.b
              · simp only [if_pos hs]
                exact ⟨rfl, by simpa using hl, hf⟩
              · simp only [if_neg hs]
                exact ⟨rfl, hl, hf⟩
            · rw [if_neg h2, if_neg h2]
              unfold memAdd; rw [hin]
              exact ⟨rfl, by simpa using hl, hf⟩
  marks := by intro c wd; unfold cellsAct; split; rfl; split; rfl; split <;> rfl
  now := by intro c wd; unfold cellsAct; split; rfl; split; rfl; split <;> rfl
  all := by
    intro c wd; unfold cellsAct; split
    · exact memRead_cnt _ _
    · split
      · exact memWrite_cnt _ _ _
      · split
        · exact memSwap_cnt _ _ _ _
        · exact memAdd_cnt _ _ _
end
section

/- Layer 27: the adder as the reference has it. -/
open Go.RowKit

set_option maxHeartbeats 4000000 in
theorem ref_adder (w1 : World) (B q cp v : Nat) (x : CallD) (hr : w1.ownsRow B 24 1 (.slice (some ⟨q, 0, none⟩) 1 cp) 1 [.int .u64 (v : Int)]) :
    Calls Try.prog 93 #[.slice (some ⟨q, 0, none⟩) 1 cp, callAgg x] w1 fun e w' => e = .returned (.tuple #[.slice (some ⟨q, 0, none⟩) 1 cp, ansV (adderAp [v] x).2.err (adderAp [v] x).2.val (.slice none 0 0)]) ∧ Chg (fun b => b = q) w1 w' ∧ ∃ v', (adderAp [v] x).1 = [v'] ∧ (adderAp [v] x).2.list = [] ∧ w'.ownsRow B 24 1 (.slice (some ⟨q, 0, none⟩) 1 cp) 1 [.int .u64 (v' : Int)] := by
  obtain ⟨th, ob, kd', ca, cb, cc⟩ := x
  obtain ⟨rq, rf⟩ := row_at hr (j := 0) rfl
  have hql := (hr.lt q rfl).2
  have Hr := Lib.hid hr
  unfold callAgg
  simp only
  clear hr
  have fin : ∀ (kk : Int) (nv : Nat) (er : Int) (vl : Nat) (wb w' : World), wb.heap.size = w1.heap.size → Chg (fun b => b = q) w1 wb → wb.ownsRow B 24 1 (.slice (some ⟨q, 0, none⟩) 1 cp) 1 [.int .u64 (nv : Int)] → w' = (wb.alloc (.cells #[.int .i64 th, .int .i64 ob, .int .i64 kk, .int .u64 (ca : Int), .int .u64 (cb : Int), .int .u64 (cc : Int)] 80)).alloc (.cells #[.int .i64 er, .int .u64 (vl : Int), .slice none 0 0] 65) →
      w'.cell? ⟨w1.heap.size + 1, 0, none⟩ = some (.int .i64 er) ∧ w'.cell? ⟨w1.heap.size + 1, 1, none⟩ = some (.int .u64 (vl : Int)) ∧ w'.cell? ⟨w1.heap.size + 1, 2, none⟩ = some (.slice none 0 0) ∧ Chg (fun b => b = q) w1 w' ∧ w'.ownsRow B 24 1 (.slice (some ⟨q, 0, none⟩) 1 cp) 1 [.int .u64 (nv : Int)] := by
    intro kk nv er vl wb w' hsz hc hrow hw'
    have t1 : w'.heap[w1.heap.size + 1]? = some (.cells #[.int .i64 er, .int .u64 (vl : Int), .slice none 0 0] 65 (0, 0)) := by rw [hw', ← hsz]; exact allocs_get [_, _] wb 1 _ rfl
    have hb : Below wb.heap.size wb w' := by rw [hw']; exact allocs_below wb [_, _]
    exact ⟨by rw [cell_blk t1]; rfl, by rw [cell_blk t1]; rfl, by rw [cell_blk t1]; rfl, hc.trans (Chg.of_below hb), row_below hrow hb⟩
  have put : ∀ nv : Nat, (w1.setCell ⟨q, 0, none⟩ (.int .u64 (nv : Int))).heap.size = w1.heap.size ∧ Chg (fun b => b = q) w1 (w1.setCell ⟨q, 0, none⟩ (.int .u64 (nv : Int))) ∧ (w1.setCell ⟨q, 0, none⟩ (.int .u64 (nv : Int))).ownsRow B 24 1 (.slice (some ⟨q, 0, none⟩) 1 cp) 1 [.int .u64 (nv : Int)] := fun nv =>
    ⟨by simp [World.setCell], (Chg.refl (fun b => b = q) w1).setCell (p := ⟨q, 0, none⟩) (.inl rfl) _, row_put Hr.out 0 _⟩
  have Fin := Lib.hid fin; have Put := Lib.hid put
  clear fin put
  by_cases h0 : kd' = 0
  · subst h0
    obtain ⟨nv, hnv⟩ : ∃ nv, nv = (v + ca) % 18446744073709551616 := ⟨_, rfl⟩
    have hap : adderAp [v] ⟨th, ob, 0, ca, cb, cc⟩ = ([nv], ⟨0, v, []⟩) := by rw [hnv]; rfl
    rw [hap]
    go_enter Try.func93, Try.ntmps93
    go_wp2
    rw [wrap_sum, ← hnv]
    obtain ⟨p0, p1, p2⟩ := Put.out nv
    obtain ⟨k0, k1, k2, f1, f2⟩ := Fin.out 0 nv 0 v _ _ p0 p1 p2 rfl
    refine bodyPost_ret (v := .tuple #[.slice (some ⟨q, 0, none⟩) 1 cp, ansV 0 v (.slice none 0 0)]) (by simp [results, Try.results93 , go_sem, ansV, k0, k1, k2]) rfl ?_
    exact ⟨rfl, f1, nv, rfl, trivial, f2⟩
  by_cases h1 : kd' = 1
  · subst h1
    have hap : adderAp [v] ⟨th, ob, 1, ca, cb, cc⟩ = ([v], ⟨0, v, []⟩) := rfl
    rw [hap]
    go_enter Try.func93, Try.ntmps93
    go_wp2
    obtain ⟨k0, k1, k2, f1, f2⟩ := Fin.out 1 v 0 v _ _ rfl (Chg.refl _ w1) Hr.out rfl
    refine bodyPost_ret (v := .tuple #[.slice (some ⟨q, 0, none⟩) 1 cp, ansV 0 v (.slice none 0 0)]) (by simp [results, Try.results93 , go_sem, ansV, k0, k1, k2]) rfl ?_
    exact ⟨rfl, f1, v, rfl, trivial, f2⟩
  by_cases h2 : kd' = 2
  · subst h2
    obtain ⟨nv, hnv⟩ : ∃ nv, nv = (v + 1) % 18446744073709551616 := ⟨_, rfl⟩
    have hap : adderAp [v] ⟨th, ob, 2, ca, cb, cc⟩ = ([nv], ⟨0, v, []⟩) := by rw [hnv]; rfl
    rw [hap]
    go_enter Try.func93, Try.ntmps93
    go_wp2
    rw [wrap_one, ← hnv]
    obtain ⟨p0, p1, p2⟩ := Put.out nv
    obtain ⟨k0, k1, k2, f1, f2⟩ := Fin.out 2 nv 0 v _ _ p0 p1 p2 rfl
    refine bodyPost_ret (v := .tuple #[.slice (some ⟨q, 0, none⟩) 1 cp, ansV 0 v (.slice none 0 0)]) (by simp [results, Try.results93 , go_sem, ansV, k0, k1, k2]) rfl ?_
    exact ⟨rfl, f1, nv, rfl, trivial, f2⟩
  · have hap : adderAp [v] ⟨th, ob, kd', ca, cb, cc⟩ = ([v], ⟨9, 0, []⟩) := by unfold adderAp; rw [if_neg h0, if_neg h1, if_neg h2]
    rw [hap]
    go_enter Try.func93, Try.ntmps93
    go_wp2
    obtain ⟨k0, k1, k2, f1, f2⟩ := Fin.out kd' v 9 0 _ _ rfl (Chg.refl _ w1) Hr.out rfl
    refine bodyPost_ret (v := .tuple #[.slice (some ⟨q, 0, none⟩) 1 cp, ansV 9 0 (.slice none 0 0)]) (by simp [results, Try.results93 , go_sem, ansV, k0, k1, k2]) rfl ?_
    exact ⟨rfl, f1, v, rfl, trivial, f2⟩
set_option maxHeartbeats 4000000 in
theorem adder_apply (n : Nat) (u : World) (a : Option Addr) (c v : Nat) (x : CallD) (hs : SlAt u a 1 1 (u64G [v])) (hv : v < 18446744073709551616) (hx : CallOk x) :
    Calls Try.prog 79 #[.int .i64 (n : Int), specV 3 0 0, .slice a 1 c, callAgg x] u (ApPost adderAp [v] x u) := by
  obtain ⟨b, o, rfl, hb, h4⟩ := hs.2 0 (by omega)
  have e4 : u.cell? ⟨b, o, none⟩ = some (.int .u64 (v : Int)) := by have h0 := h4 0 (by omega); rw [Nat.zero_mul, Nat.add_zero] at h0; exact h0
  obtain ⟨th, ob, kd', ca, cb, cc⟩ := x
  obtain ⟨wa, hwa⟩ : ∃ wa, wa = (((u.alloc (.cells #[.int .i64 3, .int .i64 0, .int .i64 0] 83)).alloc (.cells #[.int .i64 th, .int .i64 ob, .int .i64 kd', .int .u64 (ca : Int), .int .u64 (cb : Int), .int .u64 (cc : Int)] 80)).alloc (.cells #[.int .i64 0, .int .u64 0, .slice none 0 0] 65)).alloc (.cells #[] 24) := ⟨_, rfl⟩
  have hga : Below u.heap.size u wa := by rw [hwa]; exact allocs_below u [_, _, _, _]
  have r0 : wa.heap[u.heap.size]? = some (.cells #[.int .i64 3, .int .i64 0, .int .i64 0] 83 (0, 0)) := by rw [hwa]; exact allocs_get [_, _, _, _] u 0 _ rfl
  have r1 : wa.heap[u.heap.size + 1]? = some (.cells #[.int .i64 th, .int .i64 ob, .int .i64 kd', .int .u64 (ca : Int), .int .u64 (cb : Int), .int .u64 (cc : Int)] 80 (0, 0)) := by rw [hwa]; exact allocs_get [_, _, _, _] u 1 _ rfl
  have r2 : wa.heap[u.heap.size + 2]? = some (.cells #[.int .i64 0, .int .u64 0, .slice none 0 0] 65 (0, 0)) := by rw [hwa]; exact allocs_get [_, _, _, _] u 2 _ rfl
  have r3 : wa.heap[u.heap.size + 3]? = some (.cells #[] 24 (0, 0)) := by rw [hwa]; exact allocs_get [_, _, _, _] u 3 _ rfl
  have hwsz : wa.heap.size = u.heap.size + 4 := by rw [hwa]; simp
  have x4 : wa.cell? ⟨b, o, none⟩ = some (.int .u64 (v : Int)) := (hga.cell hb).trans e4
  obtain ⟨i0, hi, hz0, hz1, hz2⟩ := info_parts uint64_info0
  have hown : wa.ownsRow (u.heap.size + 3) 24 1 (.slice (some ⟨u.heap.size + 3, 0, none⟩) 0 0) 0 [] := ⟨rfl, .inr ⟨u.heap.size + 3, 0, #[], rfl, Nat.le_refl _, r3, Nat.le_refl _, Nat.zero_le _, rfl, rfl⟩⟩
  have hnew : ∀ j w', [Value.int .u64 (v : Int)][j]? = some w' → wa.cell? ((⟨b, o, none⟩ : Addr).add j) = some w' := by
    intro j w' h
    match j, h with
    | 0, h => simp only [List.getElem?_cons_zero, Option.some.injEq] at h; subst h; exact x4
  rw [hwa] at hown hnew
  have Hown := Lib.hid hown; have Hnew := Lib.hid hnew; have Hwa := Lib.hid hwa; have Hga := Lib.hid hga; have R0 := Lib.hid r0; have R1 := Lib.hid r1; have R2 := Lib.hid r2; have Hwsz := Lib.hid hwsz
  unfold specV callAgg
  simp only
  clear hown hnew hwa hga r0 r1 r2 r3 hs h4 e4 hx hb hwsz x4 hv
  go_enter Try.func79, Try.ntmps79
  go_wp2_with (at_builtin; refine wpList_append_own _ rfl (.tmp 11) (.tmp 12) 22 rfl (u.heap.size + 3) 24 i0 (.int .u64 0) 1 8 Try.underlying22 hi hz0 hz1 hz2 rfl (by decide) (.slice (some ⟨u.heap.size + 3, 0, none⟩) 0 0) 0 [] rfl Hown.out ⟨b, o, none⟩ 1 c [.int .u64 (v : Int)] rfl ?c1 Hnew.out ?c2 ?c3 ?c4 ?c5 ?_)
  case c1 => rfl
  case c2 => intro w' hw'; simp only [List.mem_singleton] at hw'; subst hw'; rfl
  case c3 => unfold maxLen; omega
  case c4 => omega
  case c5 => simp
  intro o' w1 hown1 hgrow _
  obtain ⟨q, cp, rfl, hq1, hq2, hq3⟩ := row_own hown1
  rw [← Hwa.out] at hgrow
  have hch : Chg (fun b => u.heap.size + 3 ≤ b) wa w1 := (Chg.refl _ wa).grown hgrow (fun k hk => by simp only [Value.ownBlock, Option.some.injEq] at hk; exact .inl (by omega))
  have hb1 : Below u.heap.size u w1 := Hga.out.trans (hch.below (fun k h => by omega) Hga.out.size)
  have s0 := (hch.block _ (by rw [Hwsz.out]; omega) (by omega)).trans R0.out
  have s1 := (hch.block _ (by rw [Hwsz.out]; omega) (by omega)).trans R1.out
  have s2 := (hch.block _ (by rw [Hwsz.out]; omega) (by omega)).trans R2.out
  have z0 : w1.cell? ⟨u.heap.size, 0, none⟩ = some (.int .i64 3) := by rw [cell_blk s0]; rfl
  have z2 : w1.cell? ⟨u.heap.size + 1, 2, none⟩ = some (.int .i64 kd') := by rw [cell_blk s1]; rfl
  have a0 : w1.cell? ⟨u.heap.size + 1 + 1, 0, none⟩ = some (.int .i64 0) := by rw [show u.heap.size + 1 + 1 = u.heap.size + 2 from rfl, cell_blk s2]; rfl
  have a1 : w1.cell? ⟨u.heap.size + 1 + 1, 1, none⟩ = some (.int .u64 0) := by rw [show u.heap.size + 1 + 1 = u.heap.size + 2 from rfl, cell_blk s2]; rfl
  have a2 : w1.cell? ⟨u.heap.size + 1 + 1, 2, none⟩ = some (.slice none 0 0) := by rw [show u.heap.size + 1 + 1 = u.heap.size + 2 from rfl, cell_blk s2]; rfl
  have f0 : w1.frozen? ⟨u.heap.size + 1 + 1, 0, none⟩ = false := frozen_blk s2 0
  have f1 : w1.frozen? ⟨u.heap.size + 1 + 1, 1, none⟩ = false := frozen_blk s2 1
  have f2 : w1.frozen? ⟨u.heap.size + 1 + 1, 2, none⟩ = false := frozen_blk s2 2
  have hlt2 : u.heap.size + 1 + 1 < w1.heap.size := blk_lt s2
  have rq := (row_at hown1 (j := 0) rfl).1
  have y0 : w1.cell? ⟨u.heap.size + 1, 0, none⟩ = some (.int .i64 th) := by rw [cell_blk s1]; rfl
  have y1 : w1.cell? ⟨u.heap.size + 1, 1, none⟩ = some (.int .i64 ob) := by rw [cell_blk s1]; rfl
  have y3 : w1.cell? ⟨u.heap.size + 1, 3, none⟩ = some (.int .u64 (ca : Int)) := by rw [cell_blk s1]; rfl
  have y4 : w1.cell? ⟨u.heap.size + 1, 4, none⟩ = some (.int .u64 (cb : Int)) := by rw [cell_blk s1]; rfl
  have y5 : w1.cell? ⟨u.heap.size + 1, 5, none⟩ = some (.int .u64 (cc : Int)) := by rw [cell_blk s1]; rfl
  have Hown1 := Lib.hid hown1; have Hb1 := Lib.hid hb1; have S2 := Lib.hid s2; have Hq1 := Lib.hid hq1; have Hq2 := Lib.hid hq2
  clear hown1 hgrow hch hb1 s0 s1 s2 Hown Hnew Hwa Hga R0 R1 R2 Hwsz hq1 hq2
  have AD := Lib.hid (ref_adder w1 _ q cp v ⟨th, ob, kd', ca, cb, cc⟩ Hown1.out)
  unfold callAgg at AD
  simp only at AD
  clear rq a0 a1 a2 f0 f1 f2
  go_wp2_with fail
  refine AD.out.mono ?_
  rintro e w2 ⟨rfl, hch2, nv, hst, hli, hrow2⟩
  have s3 := (hch2.block _ (blk_lt S2.out) (by have := Hq1.out; omega)).trans S2.out
  have a0 : w2.cell? ⟨u.heap.size + 1 + 1, 0, none⟩ = some (.int .i64 0) := by rw [show u.heap.size + 1 + 1 = u.heap.size + 2 from rfl, cell_blk s3]; rfl
  have a1 : w2.cell? ⟨u.heap.size + 1 + 1, 1, none⟩ = some (.int .u64 0) := by rw [show u.heap.size + 1 + 1 = u.heap.size + 2 from rfl, cell_blk s3]; rfl
  have a2 : w2.cell? ⟨u.heap.size + 1 + 1, 2, none⟩ = some (.slice none 0 0) := by rw [show u.heap.size + 1 + 1 = u.heap.size + 2 from rfl, cell_blk s3]; rfl
  have f0 : w2.frozen? ⟨u.heap.size + 1 + 1, 0, none⟩ = false := frozen_blk s3 0
  have f1 : w2.frozen? ⟨u.heap.size + 1 + 1, 1, none⟩ = false := frozen_blk s3 1
  have f2 : w2.frozen? ⟨u.heap.size + 1 + 1, 2, none⟩ = false := frozen_blk s3 2
  have hlt3 : u.heap.size + 1 + 1 < w2.heap.size := blk_lt s3
  have S3 := Lib.hid s3; have Hch2 := Lib.hid hch2; have Hrow2 := Lib.hid hrow2; have Hst := Lib.hid hst; have Hli := Lib.hid hli
  obtain ⟨ar, har⟩ : ∃ ar, ar = adderAp [v] ⟨th, ob, kd', ca, cb, cc⟩ := ⟨_, rfl⟩
  rw [← har] at Hst Hli ⊢
  have Har := Lib.hid har
  obtain ⟨st', er, vl, li⟩ := ar
  unfold ansV
  simp only
  clear s3 hch2 hrow2 hst hli z0 z2 y0 y1 y3 y4 y5 har
  go_wp2
  obtain ⟨t1, t2, t3⟩ := set3 S3.out (.int .i64 er) (.int .u64 (vl : Int)) (.slice none 0 0)
  obtain ⟨w3, hw3⟩ : ∃ w3, w3 = (((w2.setCell ⟨u.heap.size + 2, 0, none⟩ (.int .i64 er)).setCell ⟨u.heap.size + 2, 1, none⟩ (.int .u64 (vl : Int))).setCell ⟨u.heap.size + 2, 2, none⟩ (.slice none 0 0)) := ⟨_, rfl⟩
  rw [← hw3] at t1 t2 t3
  rw [show u.heap.size + 1 + 1 = u.heap.size + 2 from rfl, ← hw3]
  have k0 : w3.cell? ⟨u.heap.size + 2, 0, none⟩ = some (.int .i64 er) := by rw [cell_blk t1]; rfl
  have k1 : w3.cell? ⟨u.heap.size + 2, 1, none⟩ = some (.int .u64 (vl : Int)) := by rw [cell_blk t1]; rfl
  have k2 : w3.cell? ⟨u.heap.size + 2, 2, none⟩ = some (.slice none 0 0) := by rw [cell_blk t1]; rfl
  refine bodyPost_ret (v := .tuple #[.slice (some ⟨q, 0, none⟩) 1 cp, ansV er vl (.slice none 0 0)]) (by simp [results, Try.results79 , go_sem, ansV, k0, k1, k2]) rfl ?_
  have hq1 := Hq1.out; have hq2 := Hq2.out; have hc2 := Hch2.out.size; have hs3 := t2.size
  have e1 : st' = [nv] := Hst.out
  have e2 : li = [] := Hli.out
  subst e1 e2
  unfold ApPost
  rw [← Har.out]
  refine ⟨some ⟨q, 0, none⟩, cp, none, 0, rfl, ⟨(sl_row1 Hrow2.out rfl).chg t2 (fun b off e h => by cases e; omega), fun b off e => ?_⟩, SlAt.nil _ _ _ _, (Hb1.out.trans (Hch2.out.below (fun k h => by omega) Hb1.out.size)).trans (t2.below (fun k h => by omega) (Nat.le_trans Hb1.out.size hc2))⟩
  cases e
  omega

theorem size_adder (n : Nat) (u : World) : Calls Try.prog 77 #[.int .i64 (n : Int), specV 3 0 0] u fun e u' => ∃ z : Int, e = .returned (.int .i64 z) ∧ 0 ≤ z ∧ Below u.heap.size u u' := by
  unfold specV
  go_enter Try.func77, Try.ntmps77
  go_wp2
  go_ret
  exact ⟨1, rfl, by omega, Gr.new _ _⟩
theorem adder_spec (n : Nat) : SpecOk 3 0 0 n adderAp [0] oneInv where
  size := size_adder n
  new := new_one 3 (by omega) n 0 0
  apply := by
    rintro u a c st x hs ⟨v, rfl, hv⟩ hx
    exact adder_apply n u a c v x hs hv hx
  inv0 := ⟨0, rfl, by omega⟩
  invS := by
    rintro st x ⟨v, rfl, hv⟩ hx
    unfold adderAp
    split
    · exact ⟨_, rfl, Nat.mod_lt _ (by omega)⟩
    · split
      · exact ⟨v, rfl, hv⟩
      · split
        · exact ⟨_, rfl, Nat.mod_lt _ (by omega)⟩
        · exact ⟨v, rfl, hv⟩
  queue := by omega
theorem adder_whole2 {n : Nat} {calls : List CallD} {picks : List Int} (hck : checkN n calls picks.length = 0) : WholeGood adderAp [0] calls n (playD adderS () [0] calls picks) ∧
    (∀ i, i < (playD adderS () [0] calls picks).evs.length → kAt (playD adderS () [0] calls picks).evs i ≠ [] → (evAt (playD adderS () [0] calls picks).evs i).resp ≠ 0) ∧ (playD adderS () [0] calls picks).evs.length ≤ picks.length := by
  have hnp := (checkN_zero hck).2
  obtain ⟨o1, _, _, o4, _, _, o7⟩ := on_play adder_onceAp hck [0] rfl picks hnp
  exact ⟨o1, fun i hi _ => (o7 i hi).2, o4⟩
end
end Go.Proofs.Ytkocgeedpinplaa
