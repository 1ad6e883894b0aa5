/- Layer 27: the tally and the adder as the reference has them. -/
import Derived.Test.YtkocgeedpinplaaJ48
import Derived.Test.YtkocgeedpinplaaJ50
import Derived.Test.YtkocgeedpinplaaJ39
set_option maxRecDepth 100000
set_option linter.unusedVariables false
set_option linter.unusedSimpArgs false
set_option linter.unnecessarySimpa false
namespace Go.Proofs.Ytkocgeedpinplaa
section
open Go.RowKit

set_option maxHeartbeats 4000000 in
theorem tally_apply (n : Nat) (u : World) (a : Option Addr) (c v : Nat) (x : CallD) (hs : SlAt u a 1 1 (u64G [v])) (hv : v < 18446744073709551616) (hx : CallOk x) :
    Calls Try.prog 79 #[.int .i64 (n : Int), specV 2 0 0, .slice a 1 c, callAgg x] u (ApPost tallyAp [v] x u) := by
  obtain ⟨b, o, rfl, hb, h4⟩ := hs.2 0 (by omega)
  have e4 : u.cell? ⟨b, o, none⟩ = some (.int .u64 (v : Int)) := by have h0 := h4 0 (by omega); rw [Nat.zero_mul, Nat.add_zero] at h0; exact h0
  obtain ⟨th, ob, kd', ca, cb, cc⟩ := x
  obtain ⟨wa, hwa⟩ : ∃ wa, wa = (((u.alloc (.cells #[.int .i64 2, .int .i64 0, .int .i64 0] 83)).alloc (.cells #[.int .i64 th, .int .i64 ob, .int .i64 kd', .int .u64 (ca : Int), .int .u64 (cb : Int), .int .u64 (cc : Int)] 80)).alloc (.cells #[.int .i64 0, .int .u64 0, .slice none 0 0] 65)).alloc (.cells #[] 24) := ⟨_, rfl⟩
  have hga : Below u.heap.size u wa := by rw [hwa]; exact allocs_below u [_, _, _, _]
  have r0 : wa.heap[u.heap.size]? = some (.cells #[.int .i64 2, .int .i64 0, .int .i64 0] 83 (0, 0)) := by rw [hwa]; exact allocs_get [_, _, _, _] u 0 _ rfl
  have r1 : wa.heap[u.heap.size + 1]? = some (.cells #[.int .i64 th, .int .i64 ob, .int .i64 kd', .int .u64 (ca : Int), .int .u64 (cb : Int), .int .u64 (cc : Int)] 80 (0, 0)) := by rw [hwa]; exact allocs_get [_, _, _, _] u 1 _ rfl
  have r2 : wa.heap[u.heap.size + 2]? = some (.cells #[.int .i64 0, .int .u64 0, .slice none 0 0] 65 (0, 0)) := by rw [hwa]; exact allocs_get [_, _, _, _] u 2 _ rfl
  have r3 : wa.heap[u.heap.size + 3]? = some (.cells #[] 24 (0, 0)) := by rw [hwa]; exact allocs_get [_, _, _, _] u 3 _ rfl
  have hwsz : wa.heap.size = u.heap.size + 4 := by rw [hwa]; simp
  have x4 : wa.cell? ⟨b, o, none⟩ = some (.int .u64 (v : Int)) := (hga.cell hb).trans e4
  obtain ⟨i0, hi, hz0, hz1, hz2⟩ := info_parts uint64_info0
  have hown : wa.ownsRow (u.heap.size + 3) 24 1 (.slice (some ⟨u.heap.size + 3, 0, none⟩) 0 0) 0 [] := ⟨rfl, .inr ⟨u.heap.size + 3, 0, #[], rfl, Nat.le_refl _, r3, Nat.le_refl _, Nat.zero_le _, rfl, rfl⟩⟩
  have hnew : ∀ j w', [Value.int .u64 (v : Int)][j]? = some w' → wa.cell? ((⟨b, o, none⟩ : Addr).add j) = some w' := by
    intro j w' h
    match j, h with
    | 0, h => simp only [List.getElem?_cons_zero, Option.some.injEq] at h; subst h; exact x4
  rw [hwa] at hown hnew
  have Hown := Lib.hid hown; have Hnew := Lib.hid hnew; have Hwa := Lib.hid hwa; have Hga := Lib.hid hga; have R0 := Lib.hid r0; have R1 := Lib.hid r1; have R2 := Lib.hid r2; have Hwsz := Lib.hid hwsz
  unfold specV callAgg
  simp only
  clear hown hnew hwa hga r0 r1 r2 r3 hs h4 e4 hx hb hwsz x4 hv
  go_enter Try.func79, Try.ntmps79
  go_wp2_with (at_builtin; refine wpList_append_own _ rfl (.tmp 11) (.tmp 12) 22 rfl (u.heap.size + 3) 24 i0 (.int .u64 0) 1 8 Try.underlying22 hi hz0 hz1 hz2 rfl (by decide) (.slice (some ⟨u.heap.size + 3, 0, none⟩) 0 0) 0 [] rfl Hown.out ⟨b, o, none⟩ 1 c [.int .u64 (v : Int)] rfl ?c1 Hnew.out ?c2 ?c3 ?c4 ?c5 ?_)
  case c1 => rfl
  case c2 => intro w' hw'; simp only [List.mem_singleton] at hw'; subst hw'; rfl
  case c3 => unfold maxLen; omega
  case c4 => omega
  case c5 => simp
  intro o' w1 hown1 hgrow _
  obtain ⟨q, cp, rfl, hq1, hq2, hq3⟩ := row_own hown1
  rw [← Hwa.out] at hgrow
  have hch : Chg (fun b => u.heap.size + 3 ≤ b) wa w1 := (Chg.refl _ wa).grown hgrow (fun k hk => by simp only [Value.ownBlock, Option.some.injEq] at hk; exact .inl (by omega))
  have hb1 : Below u.heap.size u w1 := Hga.out.trans (hch.below (fun k h => by omega) Hga.out.size)
  have s0 := (hch.block _ (by rw [Hwsz.out]; omega) (by omega)).trans R0.out
  have s1 := (hch.block _ (by rw [Hwsz.out]; omega) (by omega)).trans R1.out
  have s2 := (hch.block _ (by rw [Hwsz.out]; omega) (by omega)).trans R2.out
  have z0 : w1.cell? ⟨u.heap.size, 0, none⟩ = some (.int .i64 2) := by rw [cell_blk s0]; rfl
  have z2 : w1.cell? ⟨u.heap.size + 1, 2, none⟩ = some (.int .i64 kd') := by rw [cell_blk s1]; rfl
  have a0 : w1.cell? ⟨u.heap.size + 1 + 1, 0, none⟩ = some (.int .i64 0) := by rw [show u.heap.size + 1 + 1 = u.heap.size + 2 from rfl, cell_blk s2]; rfl
  have a1 : w1.cell? ⟨u.heap.size + 1 + 1, 1, none⟩ = some (.int .u64 0) := by rw [show u.heap.size + 1 + 1 = u.heap.size + 2 from rfl, cell_blk s2]; rfl
  have a2 : w1.cell? ⟨u.heap.size + 1 + 1, 2, none⟩ = some (.slice none 0 0) := by rw [show u.heap.size + 1 + 1 = u.heap.size + 2 from rfl, cell_blk s2]; rfl
  have f0 : w1.frozen? ⟨u.heap.size + 1 + 1, 0, none⟩ = false := frozen_blk s2 0
  have f1 : w1.frozen? ⟨u.heap.size + 1 + 1, 1, none⟩ = false := frozen_blk s2 1
  have f2 : w1.frozen? ⟨u.heap.size + 1 + 1, 2, none⟩ = false := frozen_blk s2 2
  have hlt2 : u.heap.size + 1 + 1 < w1.heap.size := blk_lt s2
  have rq := (row_at hown1 (j := 0) rfl).1
  have Hown1 := Lib.hid hown1; have Hb1 := Lib.hid hb1; have S2 := Lib.hid s2; have Hq1 := Lib.hid hq1; have Hq2 := Lib.hid hq2
  clear hown1 hgrow hch hb1 s0 s1 s2 Hown Hnew Hwa Hga R0 R1 R2 Hwsz hq1 hq2
  by_cases h0 : kd' = 0
  · subst h0
    go_wp2
    obtain ⟨t1, t2, t3⟩ := set3 S2.out (.int .i64 0) (.int .u64 0) (.slice none 0 0)
    obtain ⟨w3, hw3⟩ : ∃ w3, w3 = (((w1.setCell ⟨u.heap.size + 2, 0, none⟩ (.int .i64 0)).setCell ⟨u.heap.size + 2, 1, none⟩ (.int .u64 0)).setCell ⟨u.heap.size + 2, 2, none⟩ (.slice none 0 0)) := ⟨_, rfl⟩
    rw [← hw3] at t1 t2 t3
    obtain ⟨v1, hv1⟩ : ∃ v1, v1 = (v + 1) % 18446744073709551616 := ⟨_, rfl⟩
    rw [show u.heap.size + 1 + 1 = u.heap.size + 2 from rfl, ← hw3, wrap_one, ← t3, ← hv1]
    obtain ⟨w4, hw4⟩ : ∃ w4, w4 = w3.alloc (.cells #[.int .u64 (v1 : Int)] 24) := ⟨_, rfl⟩
    rw [← hw4]
    have t4 : w4.heap[u.heap.size + 2]? = some (.cells #[.int .i64 0, .int .u64 0, .slice none 0 0] 65 (0, 0)) := by rw [hw4, Below.heap_alloc _ _ _ (blk_lt t1)]; exact t1
    have t5 : w4.heap[w3.heap.size]? = some (.cells #[.int .u64 (v1 : Int)] 24 (0, 0)) := by rw [hw4]; exact heap_alloc_new w3 _
    have k0 : w4.cell? ⟨u.heap.size + 2, 0, none⟩ = some (.int .i64 0) := by rw [cell_blk t4]; rfl
    have k1 : w4.cell? ⟨u.heap.size + 2, 1, none⟩ = some (.int .u64 0) := by rw [cell_blk t4]; rfl
    have k2 : w4.cell? ⟨u.heap.size + 2, 2, none⟩ = some (.slice none 0 0) := by rw [cell_blk t4]; rfl
    have hbel : Below u.heap.size u w4 := by rw [hw4]; exact ((Hb1.out.trans (t2.below (fun k h => by omega) Hb1.out.size))).alloc (by have := Hb1.out.size; omega) _
    have hs5 := blk_lt t5
    clear hw4 hw3
    refine bodyPost_ret (v := .tuple #[.slice (some ⟨w3.heap.size, 0, none⟩) 1 1, ansV 0 0 (.slice none 0 0)]) (by simp [results, Try.results79 , go_sem, ansV, k0, k1, k2]) rfl ?_
    have hap : tallyAp [v] ⟨th, ob, 0, ca, cb, cc⟩ = ([v1], ⟨0, 0, []⟩) := by rw [hv1]; exact tallyAp_0 rfl
    unfold ApPost
    rw [hap]
    refine ⟨some ⟨w3.heap.size, 0, none⟩, 1, none, 0, rfl, ⟨sl_one t5, fun b off e => ?_⟩, SlAt.nil _ _ _ _, hbel⟩
    cases e
    have := Hb1.out.size
    omega
  by_cases h1 : kd' = 1
  · subst h1
    have hap : tallyAp [v] ⟨th, ob, 1, ca, cb, cc⟩ = ([v], ⟨0, v, []⟩) := tallyAp_1 (by simp) rfl
    have Hap := Lib.hid hap
    clear hap
    have hqne : q ≠ u.heap.size + 1 + 1 := by have := Hq1.out; omega
    have hqne2 : u.heap.size + 1 + 1 ≠ q := by have := Hq1.out; omega
    go_wp2_with fail
    go_region_held3 (fun w' => w'.cell? ⟨q, 0, none⟩ = some (.int .u64 (v : Int))) (first | exact rq | go_keep) (fail)
    all_goals
      go_wp2
      obtain ⟨t1, t2, t3⟩ := set3 S2.out (.int .i64 0) (.int .u64 (v : Int)) (.slice none 0 0)
      obtain ⟨w3, hw3⟩ : ∃ w3, w3 = (((w1.setCell ⟨u.heap.size + 2, 0, none⟩ (.int .i64 0)).setCell ⟨u.heap.size + 2, 1, none⟩ (.int .u64 (v : Int))).setCell ⟨u.heap.size + 2, 2, none⟩ (.slice none 0 0)) := ⟨_, rfl⟩
      rw [← hw3] at t1 t2 t3
      rw [show u.heap.size + 1 + 1 = u.heap.size + 2 from rfl, ← hw3]
      obtain ⟨w4, hw4⟩ : ∃ w4, w4 = w3.drew := ⟨_, rfl⟩
      have t4 : w4.heap[u.heap.size + 2]? = some (.cells #[.int .i64 0, .int .u64 (v : Int), .slice none 0 0] 65 (0, 0)) := by rw [hw4]; exact t1
      have t5 : Chg (fun k => k = u.heap.size + 2) w1 w4 := by rw [hw4]; exact t2.drew
      rw [← hw4]
      have k0 : w4.cell? ⟨u.heap.size + 2, 0, none⟩ = some (.int .i64 0) := by rw [cell_blk t4]; rfl
      have k1 : w4.cell? ⟨u.heap.size + 2, 1, none⟩ = some (.int .u64 (v : Int)) := by rw [cell_blk t4]; rfl
      have k2 : w4.cell? ⟨u.heap.size + 2, 2, none⟩ = some (.slice none 0 0) := by rw [cell_blk t4]; rfl
      clear hw4 hw3
      refine bodyPost_ret (v := .tuple #[.slice (some ⟨q, 0, none⟩) 1 cp, ansV 0 v (.slice none 0 0)]) (by simp [results, Try.results79 , go_sem, ansV, k0, k1, k2]) rfl ?_
      have hq1 := Hq1.out; have hq2 := Hq2.out; have hsz5 := t5.size
      unfold ApPost
      rw [Hap.out]
      refine ⟨some ⟨q, 0, none⟩, cp, none, 0, rfl, ⟨(sl_row1 Hown1.out rfl).chg t5 (fun b off e h => by cases e; omega), fun b off e => ?_⟩, SlAt.nil _ _ _ _, Hb1.out.trans (t5.below (fun k h => by omega) Hb1.out.size)⟩
      cases e
      omega
  · have hap : tallyAp [v] ⟨th, ob, kd', ca, cb, cc⟩ = ([v], ⟨9, 0, []⟩) := tallyAp_9 h0 h1
    have Hap := Lib.hid hap
    clear hap
    go_wp2
    obtain ⟨t1, t2, t3⟩ := set3 S2.out (.int .i64 9) (.int .u64 0) (.slice none 0 0)
    obtain ⟨w3, hw3⟩ : ∃ w3, w3 = (((w1.setCell ⟨u.heap.size + 2, 0, none⟩ (.int .i64 9)).setCell ⟨u.heap.size + 2, 1, none⟩ (.int .u64 0)).setCell ⟨u.heap.size + 2, 2, none⟩ (.slice none 0 0)) := ⟨_, rfl⟩
    rw [← hw3] at t1 t2 t3
    rw [show u.heap.size + 1 + 1 = u.heap.size + 2 from rfl, ← hw3]
    have k0 : w3.cell? ⟨u.heap.size + 2, 0, none⟩ = some (.int .i64 9) := by rw [cell_blk t1]; rfl
    have k1 : w3.cell? ⟨u.heap.size + 2, 1, none⟩ = some (.int .u64 0) := by rw [cell_blk t1]; rfl
    have k2 : w3.cell? ⟨u.heap.size + 2, 2, none⟩ = some (.slice none 0 0) := by rw [cell_blk t1]; rfl
    refine bodyPost_ret (v := .tuple #[.slice (some ⟨q, 0, none⟩) 1 cp, ansV 9 0 (.slice none 0 0)]) (by simp [results, Try.results79 , go_sem, ansV, k0, k1, k2]) rfl ?_
    have hq1 := Hq1.out; have hq2 := Hq2.out
    unfold ApPost
    rw [Hap.out]
    refine ⟨some ⟨q, 0, none⟩, cp, none, 0, rfl, ⟨(sl_row1 Hown1.out rfl).chg t2 (fun b off e h => by cases e; omega), fun b off e => ?_⟩, SlAt.nil _ _ _ _, Hb1.out.trans (t2.below (fun k h => by omega) Hb1.out.size)⟩
    cases e
    omega

theorem size_tally (n : Nat) (u : World) : Calls Try.prog 77 #[.int .i64 (n : Int), specV 2 0 0] u fun e u' => ∃ z : Int, e = .returned (.int .i64 z) ∧ 0 ≤ z ∧ Below u.heap.size u u' := by
  unfold specV
  go_enter Try.func77, Try.ntmps77
  go_wp2
  go_ret
  exact ⟨(n : Int), rfl, by omega, Gr.new _ _⟩
theorem tally_spec (n : Nat) : SpecOk 2 0 0 n tallyAp [0] oneInv where
  size := size_tally n
  new := new_one 2 (by omega) n 0 0
  apply := by
    rintro u a c st x hs ⟨v, rfl, hv⟩ hx
    exact tally_apply n u a c v x hs hv hx
  inv0 := ⟨0, rfl, by omega⟩
  invS := by
    rintro st x ⟨v, rfl, hv⟩ hx
    by_cases h0 : x.kind = 0
    · rw [tallyAp_0 h0]; exact ⟨_, rfl, Nat.mod_lt _ (by omega)⟩
    · by_cases h1 : x.kind = 1
      · rw [tallyAp_1 h0 h1]; exact ⟨v, rfl, hv⟩
      · rw [tallyAp_9 h0 h1]; exact ⟨v, rfl, hv⟩
  queue := by omega
theorem ta_whole2 {n : Nat} {calls : List CallD} {picks : List Int} (hck : checkN n calls picks.length = 0) : WholeGood tallyAp [0] calls n (playD (tallyS n) () (List.replicate n 0) calls picks) ∧
    (∀ i, i < (playD (tallyS n) () (List.replicate n 0) calls picks).evs.length → kAt (playD (tallyS n) () (List.replicate n 0) calls picks).evs i ≠ [] → (evAt (playD (tallyS n) () (List.replicate n 0) calls picks).evs i).resp ≠ 0) ∧ (playD (tallyS n) () (List.replicate n 0) calls picks).evs.length ≤ picks.length := by
  obtain ⟨hg, h, hnow⟩ := ta_picks hck picks
  refine ⟨ta_whole hck picks (np_ok hck), fun i hi hk hr => hk ?_, (ta_report hck picks).1⟩
  have hthr' := thr_16 hck
  have hlen := end_length (calls := calls) hg
  have hi' : i < (picksD (tallyS n) calls (play0 (tallyS n) () (List.replicate n 0) calls) picks).evs.length := by rw [← hlen]; exact hi
  have hat := end_at hg hthr' hi'
  by_cases hr2 : (evAt (picksD (tallyS n) calls (play0 (tallyS n) () (List.replicate n 0) calls) picks).evs i).resp = 0
  · obtain ⟨s, _, e⟩ := hat.2 hr2
    show (evAt (endD (tallyS n) _) i).key = []
    rw [e]
    show (_ : Option (List Int)).getD _ = []
    have hm := h.marks
    show ((picksD (tallyS n) calls (play0 (tallyS n) () (List.replicate n 0) calls) picks).wd.marks).getD _ [] = []
    rw [hm]; exact rep_getD 16 _ []
  · have e := hat.1 hr2
    have hr' : (evAt (endD (tallyS n) (picksD (tallyS n) calls (play0 (tallyS n) () (List.replicate n 0) calls) picks)) i).resp = 0 := hr
    rw [e] at hr'
    exact absurd hr' hr2
end
section

/- The walk of TallyWhole. -/
open Go.RowKit

set_option maxHeartbeats 4000000 in
theorem tallyWhole_any (n : Int) (calls : List CallD) (picks : List Int) (ca pa : Option Addr) (cc pc : Nat) (w : World) (hc : CallsAt noB w ca calls) (hp : PicksAt w pa picks) :
    Calls Try.prog 12 #[.int .i64 n, .slice ca calls.length cc, .slice pa picks.length pc] w fun e w' => e = .returned (.bool true) ∧ Below w.heap.size w w' := by
  have M := many_any ca pa calls.length picks.length cc pc w hc.sl.1 hp.sl.1
  have T := Lib.hid tally_one
  cases hM : manyB calls.length picks.length with
  | true =>
    rw [hM] at M
    have HM := Lib.hid M
    clear M hc hp hM
    go_enter Try.func12, Try.ntmps12
    go_wp2_with (first | (go_at_call 28; refine (HM.out).mono ?_; rintro e w' ⟨rfl, rfl⟩) | (go_at_call 40; refine (T.out _).mono ?_; rintro e w' ⟨rfl, hb⟩))
    go_ret
    exact ⟨rfl, hb⟩
  | false =>
    rw [hM] at M
    have HM := Lib.hid M
    have P := tallyPlay_any noB w n calls picks ca pa cc pc (fun b hb => hb.elim) hc hp
    obtain ⟨er, her⟩ : ∃ er, er = checkN n calls picks.length := ⟨_, rfl⟩
    rw [← her] at P
    have HP := Lib.hid P; have Her := Lib.hid her; have Hc := Lib.hid hc
    clear M P hc hp hM her
    by_cases her0 : er = 0
    · have hck : checkN n calls picks.length = 0 := by rw [← Her.out]; exact her0
      obtain ⟨z1, z2, _⟩ := wrongN_zero (checkN_zero hck).1
      have hnp := (checkN_zero hck).2
      obtain ⟨m, rfl⟩ : ∃ m : Nat, n = (m : Int) := ⟨n.toNat, by omega⟩
      try simp only [Int.toNat_natCast] at HP
      obtain ⟨q1, q2, q3⟩ : WholeGood tallyAp [0] calls m (playD (tallyS m) () (List.replicate m 0) calls picks) ∧ (∀ i, i < (playD (tallyS m) () (List.replicate m 0) calls picks).evs.length → kAt (playD (tallyS m) () (List.replicate m 0) calls picks).evs i ≠ [] → (evAt (playD (tallyS m) () (List.replicate m 0) calls picks).evs i).resp ≠ 0) ∧ (playD (tallyS m) () (List.replicate m 0) calls picks).evs.length ≤ picks.length := ta_whole2 hck
      have K := tally_spec m
      subst her0
      obtain ⟨rr, hrr⟩ : ∃ rr, rr = playD (tallyS m) () (List.replicate m 0) calls picks := ⟨_, rfl⟩
      rw [← hrr] at HP q1 q2 q3
      have Q1 := Lib.hid q1; have Q2 := Lib.hid q2; have Q3 := Lib.hid q3; have Hnp := Lib.hid hnp; have HK := Lib.hid K
      clear hck hrr Her q1 q2 q3 hnp z1 z2 K
      go_enter Try.func12, Try.ntmps12
      go_wp2_with (go_at_call 28; refine (HM.out).mono ?_; rintro e w' ⟨rfl, rfl⟩)
      refine HP.out.mono ?_
      rintro e w1 ⟨ea, en, ec, va, vn, vc, rp, rfl, hb1, hr⟩
      rcases hr with ⟨h0, _⟩ | ⟨_, hrp, hen, hvn, ers, hrep⟩
      · exact absurd rfl h0
      subst hrp
      obtain ⟨w2, hw2⟩ : ∃ w2, w2 = w1.alloc (.cells #[.slice ea en ec, .slice va vn vc, .int .i64 (rp.c.read : Int), .int .i64 (rp.c.write : Int), .int .i64 (rp.c.swap : Int), .int .i64 (rp.c.add : Int), .int .i64 (rp.c.fault : Int), .int .i64 (rp.ticks : Int), .int .i64 (rp.idle : Int)] 57) := ⟨_, rfl⟩
      have hb2 : Below w1.heap.size w1 w2 := by rw [hw2]; exact Gr.new _ _
      obtain ⟨w3, hw3⟩ : ∃ w3, w3 = w2.alloc (.cells #[.int .i64 2, .int .i64 0, .int .i64 0] 83) := ⟨_, rfl⟩
      have hb3 : Below w2.heap.size w2 w3 := by rw [hw3]; exact Gr.new _ _
      have hin2 : RepIn w1 w2 w1.heap.size ea en ec va vn vc rp := ⟨Nat.le_refl _, by rw [hw2]; exact heap_alloc_new _ _⟩
      have hin := hin2.grown hb3
      have hsp : w3.heap[w2.heap.size]? = some (.cells #[.int .i64 2, .int .i64 0, .int .i64 0] 83 (0, 0)) := by rw [hw3]; exact heap_alloc_new _ _
      have hb03 := Gr.trans hb1 (Gr.trans hb2 hb3)
      have hlen : rp.evs.length < 1000000 := by have := Q3.out; have := Hnp.out; omega
      have WH := Lib.hid (whole_ok HK.out w3 calls ca ea va cc en ec vn vc w2.heap.size 0 1 ers rp (by rw [cell_blk hsp]; rfl) (by rw [cell_blk hsp]; rfl) (by rw [cell_blk hsp]; rfl) (hrep.grown (Gr.trans hb2 hb3)) hen hlen (Hc.out.grown hb03) Q1.out Q2.out)
      have Hb03 := Lib.hid hb03; have Hw2 := Lib.hid hw2; have Hw3 := Lib.hid hw3
      have r0 : w2.cell? ⟨w1.heap.size, 0, none⟩ = some (.slice ea en ec) := hin2.cell 0
      have r1 : w2.cell? ⟨w1.heap.size, 1, none⟩ = some (.slice va vn vc) := hin2.cell 1
      have r2 : w2.cell? ⟨w1.heap.size, 2, none⟩ = some (.int .i64 (rp.c.read : Int)) := hin2.cell 2
      have r3 : w2.cell? ⟨w1.heap.size, 3, none⟩ = some (.int .i64 (rp.c.write : Int)) := hin2.cell 3
      have r4 : w2.cell? ⟨w1.heap.size, 4, none⟩ = some (.int .i64 (rp.c.swap : Int)) := hin2.cell 4
      have r5 : w2.cell? ⟨w1.heap.size, 5, none⟩ = some (.int .i64 (rp.c.add : Int)) := hin2.cell 5
      have r6 : w2.cell? ⟨w1.heap.size, 6, none⟩ = some (.int .i64 (rp.c.fault : Int)) := hin2.cell 6
      have r7 : w2.cell? ⟨w1.heap.size, 7, none⟩ = some (.int .i64 (rp.ticks : Int)) := hin2.cell 7
      have r8 : w2.cell? ⟨w1.heap.size, 8, none⟩ = some (.int .i64 (rp.idle : Int)) := hin2.cell 8
      have hlt2 : w1.heap.size < w2.heap.size := blk_lt hin2.blk
      clear hrep hb1 hb2 hb3 hin hin2 hsp hb03 hw2 hw3 hvn hen hlen
      unfold repV
      unfold repV at WH
      go_upto_region 4 with fail
      rw [← Hw2.out]
      go_wp2_with fail
      rw [← Hw3.out]
      refine WH.out.mono ?_
      rintro e w4 ⟨rfl, hb4⟩
      have Hb4 := Lib.hid hb4
      clear hb4 r0 r1 r2 r3 r4 r5 r6 r7 r8
      go_wp2_with (go_at_call 40; refine (T.out _).mono ?_; rintro e w' ⟨rfl, hb⟩)
      go_ret
      exact ⟨rfl, Gr.trans Hb03.out (Gr.trans Hb4.out hb)⟩
    · have hn0 : ¬ er = 0 := her0
      have Hn0 := Lib.hid her0
      go_enter Try.func12, Try.ntmps12
      go_wp2_with (go_at_call 28; refine (HM.out).mono ?_; rintro e w' ⟨rfl, rfl⟩)
      refine HP.out.mono ?_
      rintro e w1 ⟨ea, en, ec, va, vn, vc, rp, rfl, hb1, hr⟩
      rcases hr with ⟨_, rfl, rfl, rfl, rfl, rfl, rfl, rfl⟩ | ⟨h0, _⟩
      · unfold repV
        have N := Lib.hid none_true
        go_wp2_with (first | (go_at_call 31; refine (N.out _).mono ?_; rintro e w2 ⟨rfl, hb2⟩) | (go_at_call 40; refine (T.out _).mono ?_; rintro e w' ⟨rfl, hb⟩))
        go_ret
        exact ⟨rfl, Gr.trans hb1 (Gr.trans (Gr.new _ _) (Gr.trans hb2 hb))⟩
      · exact absurd h0 her0
end
end Go.Proofs.Ytkocgeedpinplaa
