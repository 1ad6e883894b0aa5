/- The walk of AdderWhole. -/
import Derived.Test.YtkocgeedpinplaaJ48
import Derived.Test.YtkocgeedpinplaaJ49
import Derived.Test.YtkocgeedpinplaaJ28
import Derived.Test.YtkocgeedpinplaaJ29
import Derived.Test.YtkocgeedpinplaaJ39
import Derived.Test.YtkocgeedpinplaaJ44
set_option maxRecDepth 100000
set_option linter.unusedVariables false
set_option linter.unusedSimpArgs false
set_option linter.unnecessarySimpa false
namespace Go.Proofs.Ytkocgeedpinplaa
section
open Go.RowKit

set_option maxHeartbeats 4000000 in
theorem adderWhole_any (n : Int) (calls : List CallD) (picks : List Int) (ca pa : Option Addr) (cc pc : Nat) (w : World) (hc : CallsAt noB w ca calls) (hp : PicksAt w pa picks) :
    Calls Try.prog 14 #[.int .i64 n, .slice ca calls.length cc, .slice pa picks.length pc] w fun e w' => e = .returned (.bool true) ∧ Below w.heap.size w w' := by
  have M := many_any ca pa calls.length picks.length cc pc w hc.sl.1 hp.sl.1
  have T := Lib.hid adder_two
  cases hM : manyB calls.length picks.length with
  | true =>
    rw [hM] at M
    have HM := Lib.hid M
    clear M hc hp hM
    go_enter Try.func14, Try.ntmps14
    go_wp2_with (first | (go_at_call 28; refine (HM.out).mono ?_; rintro e w' ⟨rfl, rfl⟩) | (go_at_call 44; refine (T.out _).mono ?_; rintro e w' ⟨rfl, hb⟩))
    go_ret
    exact ⟨rfl, hb⟩
  | false =>
    rw [hM] at M
    have HM := Lib.hid M
    have P := adderPlay_any noB w n calls picks ca pa cc pc (fun b hb => hb.elim) hc hp
    obtain ⟨er, her⟩ : ∃ er, er = checkN n calls picks.length := ⟨_, rfl⟩
    rw [← her] at P
    have HP := Lib.hid P; have Her := Lib.hid her; have Hc := Lib.hid hc
    clear M P hc hp hM her
    by_cases her0 : er = 0
    · have hck : checkN n calls picks.length = 0 := by rw [← Her.out]; exact her0
      obtain ⟨z1, z2, _⟩ := wrongN_zero (checkN_zero hck).1
      have hnp := (checkN_zero hck).2
      obtain ⟨m, rfl⟩ : ∃ m : Nat, n = (m : Int) := ⟨n.toNat, by omega⟩
      try simp only [Int.toNat_natCast] at HP
      obtain ⟨q1, q2, q3⟩ : WholeGood adderAp [0] calls m (playD adderS () [0] calls picks) ∧ (∀ i, i < (playD adderS () [0] calls picks).evs.length → kAt (playD adderS () [0] calls picks).evs i ≠ [] → (evAt (playD adderS () [0] calls picks).evs i).resp ≠ 0) ∧ (playD adderS () [0] calls picks).evs.length ≤ picks.length := adder_whole2 hck
      have K := adder_spec m
      subst her0
      obtain ⟨rr, hrr⟩ : ∃ rr, rr = playD adderS () [0] calls picks := ⟨_, rfl⟩
      rw [← hrr] at HP q1 q2 q3
      have Q1 := Lib.hid q1; have Q2 := Lib.hid q2; have Q3 := Lib.hid q3; have Hnp := Lib.hid hnp; have HK := Lib.hid K
      clear hck hrr Her q1 q2 q3 hnp z1 z2 K
      go_enter Try.func14, Try.ntmps14
      go_wp2_with (go_at_call 28; refine (HM.out).mono ?_; rintro e w' ⟨rfl, rfl⟩)
      refine HP.out.mono ?_
      rintro e w1 ⟨ea, en, ec, va, vn, vc, rp, rfl, hb1, hr⟩
      rcases hr with ⟨h0, _⟩ | ⟨_, hrp, hen, hvn, ers, hrep⟩
      · exact absurd rfl h0
      subst hrp
      obtain ⟨w2, hw2⟩ : ∃ w2, w2 = w1.alloc (.cells #[.slice ea en ec, .slice va vn vc, .int .i64 (rp.c.read : Int), .int .i64 (rp.c.write : Int), .int .i64 (rp.c.swap : Int), .int .i64 (rp.c.add : Int), .int .i64 (rp.c.fault : Int), .int .i64 (rp.ticks : Int), .int .i64 (rp.idle : Int)] 57) := ⟨_, rfl⟩
      have hb2 : Below w1.heap.size w1 w2 := by rw [hw2]; exact Gr.new _ _
      obtain ⟨w3, hw3⟩ : ∃ w3, w3 = w2.alloc (.cells #[.int .i64 3, .int .i64 0, .int .i64 0] 83) := ⟨_, rfl⟩
      have hb3 : Below w2.heap.size w2 w3 := by rw [hw3]; exact Gr.new _ _
      have hin2 : RepIn w1 w2 w1.heap.size ea en ec va vn vc rp := ⟨Nat.le_refl _, by rw [hw2]; exact heap_alloc_new _ _⟩
      have hin := hin2.grown hb3
      have hsp : w3.heap[w2.heap.size]? = some (.cells #[.int .i64 3, .int .i64 0, .int .i64 0] 83 (0, 0)) := by rw [hw3]; exact heap_alloc_new _ _
      have hb03 := Gr.trans hb1 (Gr.trans hb2 hb3)
      have hlen : rp.evs.length < 1000000 := by have := Q3.out; have := Hnp.out; omega
      have WH := Lib.hid (whole_ok HK.out w3 calls ca ea va cc en ec vn vc w2.heap.size 0 1 ers rp (by rw [cell_blk hsp]; rfl) (by rw [cell_blk hsp]; rfl) (by rw [cell_blk hsp]; rfl) (hrep.grown (Gr.trans hb2 hb3)) hen hlen (Hc.out.grown hb03) Q1.out Q2.out)
      have Hb03 := Lib.hid hb03; have Hw2 := Lib.hid hw2; have Hw3 := Lib.hid hw3
      have r0 : w2.cell? ⟨w1.heap.size, 0, none⟩ = some (.slice ea en ec) := hin2.cell 0
      have r1 : w2.cell? ⟨w1.heap.size, 1, none⟩ = some (.slice va vn vc) := hin2.cell 1
      have r2 : w2.cell? ⟨w1.heap.size, 2, none⟩ = some (.int .i64 (rp.c.read : Int)) := hin2.cell 2
      have r3 : w2.cell? ⟨w1.heap.size, 3, none⟩ = some (.int .i64 (rp.c.write : Int)) := hin2.cell 3
      have r4 : w2.cell? ⟨w1.heap.size, 4, none⟩ = some (.int .i64 (rp.c.swap : Int)) := hin2.cell 4
      have r5 : w2.cell? ⟨w1.heap.size, 5, none⟩ = some (.int .i64 (rp.c.add : Int)) := hin2.cell 5
      have r6 : w2.cell? ⟨w1.heap.size, 6, none⟩ = some (.int .i64 (rp.c.fault : Int)) := hin2.cell 6
      have r7 : w2.cell? ⟨w1.heap.size, 7, none⟩ = some (.int .i64 (rp.ticks : Int)) := hin2.cell 7
      have r8 : w2.cell? ⟨w1.heap.size, 8, none⟩ = some (.int .i64 (rp.idle : Int)) := hin2.cell 8
      have hlt2 : w1.heap.size < w2.heap.size := blk_lt hin2.blk
      clear hrep hb1 hb2 hb3 hin hin2 hsp hb03 hw2 hw3 hvn hen hlen
      unfold repV
      unfold repV at WH
      go_upto_region 4 with fail
      rw [← Hw2.out]
      go_wp2_with fail
      rw [← Hw3.out]
      refine WH.out.mono ?_
      rintro e w4 ⟨rfl, hb4⟩
      have Hb4 := Lib.hid hb4
      clear hb4 r0 r1 r2 r3 r4 r5 r6 r7 r8
      go_wp2_with (go_at_call 44; refine (T.out _).mono ?_; rintro e w' ⟨rfl, hb⟩)
      go_ret
      exact ⟨rfl, Gr.trans Hb03.out (Gr.trans Hb4.out hb)⟩
    · have hn0 : ¬ er = 0 := her0
      have Hn0 := Lib.hid her0
      go_enter Try.func14, Try.ntmps14
      go_wp2_with (go_at_call 28; refine (HM.out).mono ?_; rintro e w' ⟨rfl, rfl⟩)
      refine HP.out.mono ?_
      rintro e w1 ⟨ea, en, ec, va, vn, vc, rp, rfl, hb1, hr⟩
      rcases hr with ⟨_, rfl, rfl, rfl, rfl, rfl, rfl, rfl⟩ | ⟨h0, _⟩
      · unfold repV
        have N := Lib.hid none_true
        go_wp2_with (first | (go_at_call 31; refine (N.out _).mono ?_; rintro e w2 ⟨rfl, hb2⟩) | (go_at_call 44; refine (T.out _).mono ?_; rintro e w' ⟨rfl, hb⟩))
        go_ret
        exact ⟨rfl, Gr.trans hb1 (Gr.trans (Gr.new _ _) (Gr.trans hb2 hb))⟩
      · exact absurd h0 her0
end
section

/- Layer 8: a tally's report is that of operations done one by one (8.6), in plain numbers. -/
open Go.RowKit

def tallyAp (st : List Nat) (c : CallD) : List Nat × AnsD := if c.kind = 0 then ([(st.getD 0 0 + 1) % 18446744073709551616], ⟨0, 0, []⟩) else if c.kind = 1 then (st, ⟨0, st.getD 0 0, []⟩) else (st, ⟨9, 0, []⟩)
theorem tallyAp_0 {st : List Nat} {c : CallD} (h : c.kind = 0) : tallyAp st c = ([(st.getD 0 0 + 1) % 18446744073709551616], ⟨0, 0, []⟩) := if_pos h
theorem tallyAp_1 {st : List Nat} {c : CallD} (h0 : ¬ c.kind = 0) (h : c.kind = 1) : tallyAp st c = (st, ⟨0, st.getD 0 0, []⟩) := (if_neg h0).trans (if_pos h)
theorem tallyAp_9 {st : List Nat} {c : CallD} (h0 : ¬ c.kind = 0) (h : ¬ c.kind = 1) : tallyAp st c = (st, ⟨9, 0, []⟩) := (if_neg h0).trans (if_neg h)
def taQ (calls : List CallD) (evs : List EvD) (j : Nat) : Bool := decide (objOf calls (evAt evs j) = 0) && decide (kindOf calls (evAt evs j) = 0)
theorem ta_foldTo (calls : List CallD) (evs : List EvD) : ∀ (l : List Nat) (v : Nat), v + l.length < 18446744073709551616 → foldTo tallyAp calls evs [v] l = [v + (l.filter (taQ calls evs)).length]
  | [], v, _ => rfl
  | i :: l, v, h => by
    have hl : v + l.length + 1 < 18446744073709551616 := by simpa [Nat.add_assoc] using h
    have hs : foldTo tallyAp calls evs [v] (i :: l) = foldTo tallyAp calls evs (if objOf calls (evAt evs i) ≠ 0 then [v] else (tallyAp [v] (calls.getD (evAt evs i).call d0)).1) l := rfl
    rw [hs]
    by_cases ho : objOf calls (evAt evs i) = 0
    · rw [if_neg (fun x => x ho)]
      by_cases hk : kindOf calls (evAt evs i) = 0
      · rw [tallyAp_0 hk]
        have e : taQ calls evs i = true := by unfold taQ; rw [ho, hk]; rfl
        rw [List.filter_cons_of_pos e, List.length_cons]
        have e2 : (([v] : List Nat).getD 0 0 + 1) % 18446744073709551616 = v + 1 := by
          rw [show ([v] : List Nat).getD 0 0 = v from rfl, Nat.mod_eq_of_lt (by omega)]
        simp only [e2]
        rw [ta_foldTo calls evs l (v + 1) (by omega)]
        congr 1; omega
      · have e : ¬ taQ calls evs i = true := by unfold taQ; simp [hk]
        rw [List.filter_cons_of_neg e]
        have e3 : (tallyAp [v] (calls.getD (evAt evs i).call d0)).1 = [v] := by
          by_cases h1 : kindOf calls (evAt evs i) = 1
          · rw [tallyAp_1 hk h1]
          · rw [tallyAp_9 hk h1]
        rw [e3]
        exact ta_foldTo calls evs l v (by omega)
    · rw [if_pos ho]
      have e : ¬ taQ calls evs i = true := by unfold taQ; simp [ho]
      rw [List.filter_cons_of_neg e]
      exact ta_foldTo calls evs l v (by omega)
theorem key_ahead (r wn : Nat) (x : Int) : keyLt [2 * (r : Int)] [2 * (wn : Int), x] = decide (r ≤ wn) := by
  simp only [keyLt]
  by_cases h : r = wn
  · subst h; simp
  · rw [if_neg (by omega)]
    by_cases h2 : r ≤ wn
    · rw [decide_eq_true h2]; apply decide_eq_true; omega
    · rw [decide_eq_false h2]; apply decide_eq_false; omega

theorem ta_whole {n : Nat} {calls : List CallD} {np : Nat} (hck : checkN n calls np = 0) (picks : List Int) (hnp : picks.length ≤ 65536) : WholeGood tallyAp [0] calls n (playD (tallyS n) () (List.replicate n 0) calls picks) := by
  obtain ⟨h1, h2⟩ := n_ok hck
  obtain ⟨hg, h, hnow⟩ := ta_picks hck picks
  obtain ⟨st, hst⟩ : ∃ st, st = picksD (tallyS n) calls (play0 (tallyS n) () (List.replicate n 0) calls) picks := ⟨_, rfl⟩
  rw [← hst] at hg h hnow
  have hP : playD (tallyS n) () (List.replicate n 0) calls picks = reportD (tallyS n) st := by rw [hst]; rfl
  rw [hP]
  have hthr : ∀ c, c < calls.length → 0 ≤ (calls.getD c d0).thread ∧ (calls.getD c d0).thread < n := fun c hc => by have := thr_ok hck c hc; omega
  have hthr' : ∀ c, c < calls.length → 0 ≤ (calls.getD c d0).thread ∧ (calls.getD c d0).thread < 16 := fun c hc => by have := hthr c hc; omega
  have hmk : ∀ p, st.wd.marks.getD p [] = [] := fun p => by rw [h.marks]; exact rep_getD 16 p []
  have hlen := end_length (calls := calls) hg
  have hat := fun i hi => end_at hg hthr' (i := i) hi
  have hkey : ∀ i, i < st.evs.length → (evAt st.evs i).resp ≠ 0 → Within (evAt st.evs i).key (evAt st.evs i).inv (evAt st.evs i).resp := by
    intro i hi hr
    have hre := hg.ev.resp i hi hr
    have hd := h.done i hi hr
    unfold taDone at hd
    split at hd
    · rw [hd.2.1]; exact within_tick hre.1
    · split at hd
      · rw [hd.2.1]; exact within_tick hre.1
      · split at hd
        · obtain ⟨wn, v, _, k2, k3, k4, _⟩ := hd
          rw [k2]; exact ⟨by simp, by simp; omega, by simp; omega⟩
        · rw [hd.2.1]; exact within_tick hre.1
  have hrows : RowsGood calls n (reportD (tallyS n) st) := rows_good hg (by omega) (by omega) hthr ⟨hkey, fun p s k _ => .inl (hmk p)⟩ h.fault h.all (by omega)
  refine ⟨hrows, ?_⟩
  show Fold tallyAp calls (endD (tallyS n) st) [0] (orderD (endD (tallyS n) st))
  have hlow := hg.ev.len_le
  have hpre : ∀ i, i < st.evs.length → (evAt (endD (tallyS n) st) i).call = (evAt st.evs i).call ∧ (evAt (endD (tallyS n) st) i).resp = (evAt st.evs i).resp ∧ (evAt st.evs i).resp = (evAt st.evs i).resp := by
    intro i hi
    by_cases hr : (evAt st.evs i).resp = 0
    · obtain ⟨s, _, e⟩ := (hat i hi).2 hr
      rw [e]; exact ⟨rfl, rfl, rfl⟩
    · rw [(hat i hi).1 hr]; exact ⟨rfl, rfl, rfl⟩
  refine fold_of _ _ fun l i m hL hr => ?_
  have hiL : i ∈ orderD (endD (tallyS n) st) := by rw [hL]; simp
  have hi : i < st.evs.length := by rw [← hlen]; exact (orderD_mem hiL).1
  rw [(hpre i hi).2.1] at hr
  have hei := (hat i hi).1 hr
  rw [hei]
  have hd := h.done i hi hr
  have hll : l.length ≤ st.evs.length := by
    have := orderK_len (endD (tallyS n) st) (endD (tallyS n) st).length
    rw [show orderK (endD (tallyS n) st) (endD (tallyS n) st).length = orderD (endD (tallyS n) st) from rfl, hL, hlen, List.length_append, List.length_cons] at this
    omega
  unfold taDone at hd
  split at hd
  · rename_i ho
    exact hd.1.trans (if_pos ho).symm
  · rename_i ho
    refine Eq.trans ?_ (if_neg ho).symm
    have hk : kindOf calls (evAt st.evs i) = (calls.getD (evAt st.evs i).call d0).kind := rfl
    split at hd
    · rename_i k0
      rw [tallyAp_0 k0]; exact hd.1
    · rename_i k0
      split at hd
      · rename_i k1
        obtain ⟨wn, v, a1, a2, a3, a4, a5, _⟩ := hd
        rw [tallyAp_1 k0 k1, a1]
        show (⟨0, v, []⟩ : AnsD) = ⟨0, (foldTo tallyAp calls (endD (tallyS n) st) [0] l).getD 0 0, []⟩
        rw [ta_foldTo _ _ l 0 (by omega)]
        show (⟨0, v, []⟩ : AnsD) = ⟨0, 0 + (l.filter (taQ calls (endD (tallyS n) st))).length, []⟩
        rw [Nat.zero_add, pre_count hL, ← a5, cnt_range, hlen]
        congr 2
        refine List.filter_congr fun j hj => ?_
        have hj' : j < st.evs.length := List.mem_range.1 hj
        obtain ⟨j1, j2, _⟩ := hpre j hj'
        have hq : taQ calls (endD (tallyS n) st) j = (decide (objOf calls (evAt st.evs j) = 0) && decide (kindOf calls (evAt st.evs j) = 0)) := by
          unfold taQ objOf kindOf; rw [j1]
        rw [hq]
        unfold tP4 isK
        by_cases hrj : (evAt st.evs j).resp = 0
        · obtain ⟨s, _, e⟩ := (hat j hj').2 hrj
          have hkj : kAt (endD (tallyS n) st) j = [] := by unfold kAt; rw [e]; exact hmk _
          rw [hkj]; simp [hrj]
        · have hej := (hat j hj').1 hrj
          by_cases hoj : objOf calls (evAt st.evs j) = 0
          · by_cases hkj : kindOf calls (evAt st.evs j) = 0
            · have hdj := h.done j hj' hrj
              unfold taDone at hdj
              rw [if_neg (fun x => x hoj), if_pos hkj] at hdj
              have ej : kAt (endD (tallyS n) st) j = [2 * ((evAt st.evs j).resp : Int)] := by unfold kAt; rw [hej]; exact hdj.2.1
              have ei : kAt (endD (tallyS n) st) i = [2 * (wn : Int), 2 * ((evAt st.evs i).resp : Int)] := by unfold kAt; rw [hei]; exact a2
              have el : decide (evLt (endD (tallyS n) st) j i) = decide ((evAt st.evs j).resp ≤ wn) := by
                refine decide_eq_decide.2 ?_
                unfold evLt
                rw [ej, ei, key_ahead]
                by_cases hle : (evAt st.evs j).resp ≤ wn <;> simp [hle]
              rw [el, ej]
              simp [hoj, hkj, hrj]
            · simp [hkj]
          · simp [hoj]
      · rename_i k1
        rw [tallyAp_9 k0 k1]; exact hd.1
end
end Go.Proofs.Ytkocgeedpinplaa
