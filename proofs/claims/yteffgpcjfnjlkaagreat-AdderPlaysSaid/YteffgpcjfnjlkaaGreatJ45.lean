/- The adder and cells as if each operation were done at once, in plain numbers. -/
import Derived.Test.YteffgpcjfnjlkaaGreatJ44
import Derived.Test.YteffgpcjfnjlkaaGreatJ27
import Derived.Test.YteffgpcjfnjlkaaGreatJ40
import Derived.Test.YteffgpcjfnjlkaaGreatJ43
import Derived.Test.YteffgpcjfnjlkaaGreatJ29
import Derived.Test.YteffgpcjfnjlkaaGreatJ30
set_option maxRecDepth 100000
set_option linter.unusedVariables false
set_option linter.unusedSimpArgs false
set_option linter.unnecessarySimpa false
namespace Go.Proofs.YteffgpcjfnjlkaaGreat
section
open Go.RowKit
def adderAp (st : List Nat) (c : CallD) : List Nat × AnsD :=
  if c.kind = 0 then (st.set 0 ((st.getD 0 0 + c.a) % 18446744073709551616), ⟨0, st.getD 0 0, []⟩) else if c.kind = 1 then (st, ⟨0, st.getD 0 0, []⟩)
  else if c.kind = 2 then (st.set 0 ((st.getD 0 0 + 1) % 18446744073709551616), ⟨0, st.getD 0 0, []⟩) else (st, ⟨9, 0, []⟩)
theorem memIn_lt {m : MemD} {a : Nat} (h : a < m.ws.length) : memOut m (a : Int) = false := by unfold memOut; simp; omega
theorem adder_onceAp : OnceAp adderRef adderAct adderAp 1 where
  refuse := by
    intro c e ws h
    unfold adderRef at h
    split at h
    · cases h
    · rename_i hk
      cases h
      unfold adderAp
      rw [if_neg (by omega), if_neg (by omega), if_neg (by omega)]
  go := by
    intro c wd hr hl hf
    unfold adderRef at hr
    split at hr
    · rename_i hk
      have hin : memOut wd.mem 0 = false := memIn_lt (m := wd.mem) (a := 0) (by omega)
      have hadd : ∀ d, memAdd wd.mem 0 d = ({ ws := wd.mem.ws.set 0 ((wd.mem.ws.getD 0 0 + d) % 18446744073709551616), c := { wd.mem.c with add := wd.mem.c.add + 1 } }, wd.mem.ws.getD 0 0) := fun d => by unfold memAdd; rw [hin]; rfl
      have hrd : memRead wd.mem 0 = ({ wd.mem with c := { wd.mem.c with read := wd.mem.c.read + 1 } }, wd.mem.ws.getD 0 0) := by unfold memRead; rw [hin]; rfl
      by_cases h1 : c.kind = 1
      · have e1 : adderAct c wd = ({ wd with mem := (memRead wd.mem 0).1 }, (0, (memRead wd.mem 0).2)) := if_pos h1
        have e2 : adderAp wd.mem.ws c = (wd.mem.ws, ⟨0, wd.mem.ws.getD 0 0, []⟩) := by unfold adderAp; rw [if_neg (by omega), if_pos h1]
        rw [e1, e2, hrd]
        exact ⟨rfl, hl, hf⟩
      · have e1 : adderAct c wd = ({ wd with mem := (memAdd wd.mem 0 (adderD c)).1 }, (0, (memAdd wd.mem 0 (adderD c)).2)) := if_neg h1
        rw [e1, hadd]
        refine ⟨?_, by simpa using hl, hf⟩
        by_cases h2 : c.kind = 2
        · have e2 : adderAp wd.mem.ws c = (wd.mem.ws.set 0 ((wd.mem.ws.getD 0 0 + 1) % 18446744073709551616), ⟨0, wd.mem.ws.getD 0 0, []⟩) := by unfold adderAp; rw [if_neg (by omega), if_neg h1, if_pos h2]
          have e3 : adderD c = 1 := if_pos h2
          rw [e2, e3]
        · have e2 : adderAp wd.mem.ws c = (wd.mem.ws.set 0 ((wd.mem.ws.getD 0 0 + c.a) % 18446744073709551616), ⟨0, wd.mem.ws.getD 0 0, []⟩) := by unfold adderAp; rw [if_pos (by omega)]
          have e3 : adderD c = c.a := if_neg h2
          rw [e2, e3]
    · cases hr
  marks := by intro c wd; unfold adderAct; split <;> rfl
  now := by intro c wd; unfold adderAct; split <;> rfl
  all := by
    intro c wd; unfold adderAct; split
    · exact memRead_cnt _ _
    · exact memAdd_cnt _ _ _
end
section

/- An adder in the reference's play. -/
open Go.RowKit
def raddDo (c : CallD) (t : TapeP) (r : RWD) : TapeP × RWD :=
  if c.kind = 0 then valP (accP 3 0 c.a 0 t r) else if c.kind = 1 then valP (accP 0 0 0 0 t r) else if c.kind = 2 then valP (accP 3 0 1 0 t r) else ({ t with err := 9 }, r)
theorem radd_dob : DoB raddDo where
  runs := by
    intro c t r
    unfold raddDo
    repeat' split
    · exact Runs.valP _ _ _ _
    · exact Runs.valP _ _ _ _
    · exact Runs.valP _ _ _ _
    · exact Runs.errP _ _ _
  priv := by
    intro c t r h
    unfold raddDo valP
    repeat' split
    all_goals first | exact h | (simp only [accP_priv]; exact h)
theorem radd_dot : DoT raddDo := by
  intro c t r x hx
  unfold raddDo valP at hx
  repeat' split at hx
  all_goals first | exact .inl hx | exact accP_ticks _ _ _ _ _ _ _ hx
theorem radd_one : OneDo adderRef adderAct 1 raddDo where
  refuse := by
    intro c t r e h ht
    unfold adderRef at h
    split at h
    · cases h
    · rename_i hk
      cases h
      unfold raddDo
      rw [if_neg (by omega), if_neg (by omega), if_neg (by omega)]
  go := by
    intro c t r wd h ht hm hl
    unfold adderRef at h
    split at h
    · rename_i hk
      unfold raddDo adderAct adderD
      by_cases h0 : c.kind = 0
      · rw [if_pos h0, if_neg (by omega), if_neg (by omega), accP_new ht, hm]; exact ⟨rfl, ht.halt, ht.err, rfl, ht.list, ht.key⟩
      by_cases h1 : c.kind = 1
      · rw [if_neg h0, if_pos h1, if_pos h1, accP_new ht, hm]; exact ⟨rfl, ht.halt, ht.err, rfl, ht.list, ht.key⟩
      have h2 : c.kind = 2 := by omega
      rw [if_neg h0, if_neg h1, if_pos h2, if_neg h1, if_pos h2, accP_new ht, hm]
      exact ⟨rfl, ht.halt, ht.err, rfl, ht.list, ht.key⟩
    · cases h
  keep := by
    intro c wd
    unfold adderAct
    split <;> exact ⟨rfl, rfl, rfl, rfl⟩
  len := by
    intro c wd
    unfold adderAct
    split
    · exact memRead_len _ _
    · exact memAdd_len _ _ _
section
variable {B : RBase} {w : World} {t : TapeP} {r : RWD}
set_option maxHeartbeats 4000000 in
theorem radd_r (c : CallD) (hok : CallOk c) (h : RAt B w t r) :
    Calls Tryz.prog 81 #[.pointer (some ⟨B.I.tb, B.I.pre.length, none⟩), .int .i64 0, .agg #[.int .i64 c.thread, .int .i64 0, .int .i64 c.kind, .int .u64 (c.a : Int), .int .u64 (c.b : Int), .int .u64 (c.c : Int)]] w fun e u => e = .returned (.tuple #[]) ∧ RAt B u (raddDo c t r).1 (raddDo c t r).2 := by
  obtain ⟨wb, hwb⟩ : ∃ wb, wb = w.alloc (.cells #[.int .i64 c.thread, .int .i64 0, .int .i64 c.kind, .int .u64 (c.a : Int), .int .u64 (c.b : Int), .int .u64 (c.c : Int)] 48) := ⟨_, rfl⟩
  have hg : Below w.heap.size w wb := by rw [hwb]; exact Gr.new _ _
  have hC : wb.heap[w.heap.size]? = some (.cells #[.int .i64 c.thread, .int .i64 0, .int .i64 c.kind, .int .u64 (c.a : Int), .int .u64 (c.b : Int), .int .u64 (c.c : Int)] 48 (0, 0)) := by rw [hwb]; exact heap_alloc_new _ _
  have hA := h.grown hg
  have q2 : wb.cell? ⟨w.heap.size, 2, none⟩ = some (.int .i64 c.kind) := by rw [cell_blk hC]; rfl
  have q3 : wb.cell? ⟨w.heap.size, 3, none⟩ = some (.int .u64 (c.a : Int)) := by rw [cell_blk hC]; rfl
  have e9 : wb.cell? ⟨B.I.tb, B.I.pre.length + 9, none⟩ = some (.int .i64 t.err) := hA.cErr
  have f9 : wb.frozen? ⟨B.I.tb, B.I.pre.length + 9, none⟩ = false := hA.frozen _
  have Hwb := Lib.hid hwb; have HA := Lib.hid hA
  have hca := hok.a
  obtain ⟨R, hR⟩ : ∃ R, R = raddDo c t r := ⟨_, rfl⟩
  have HR := Lib.hid hR
  rw [← hR]
  clear hwb hg hC h hA hR hok
  obtain ⟨th, ob, kd, xa, xb, xc⟩ := c
  simp only at *
  by_cases h0 : kd = 0
  · have hT : R = valP (accP 3 0 xa 0 t r) := by rw [HR.out]; unfold raddDo; rw [if_pos h0]
    have A1 := Lib.hid (tadd_r HA.out 0 xa hca)
    obtain ⟨Z, hZ⟩ : ∃ Z, Z = accP 3 0 xa 0 t r := ⟨_, rfl⟩
    rw [← hZ] at A1 hT
    obtain ⟨v, t', r'⟩ := Z
    subst hT
    clear HR hZ
    subst h0
    go_enter Tryz.func81, Tryz.ntmps81
    go_upto_region 1 with fail
    rw [← Hwb.out]
    go_wp2_with (go_at_call 105; refine A1.out.mono ?_; rintro e w2 ⟨rfl, h2⟩; have z10 := h2.cVal; have zf := h2.frozen (B.I.pre.length + 10))
    (first | go_end0 | ((try simp only [Exit.inBlock, Exit.then]); refine bodyPost_ret (results_none rfl _ _ _) rfl ?_))
    exact ⟨rfl, h2.putVal v⟩
  by_cases h1 : kd = 1
  · have hT : R = valP (accP 0 0 0 0 t r) := by rw [HR.out]; unfold raddDo; rw [if_neg h0, if_pos h1]
    have A1 := Lib.hid (tread_r HA.out 0)
    obtain ⟨Z, hZ⟩ : ∃ Z, Z = accP 0 0 0 0 t r := ⟨_, rfl⟩
    rw [← hZ] at A1 hT
    obtain ⟨v, t', r'⟩ := Z
    subst hT
    clear HR hZ
    subst h1
    go_enter Tryz.func81, Tryz.ntmps81
    go_upto_region 1 with fail
    rw [← Hwb.out]
    go_wp2_with (go_at_call 102; refine A1.out.mono ?_; rintro e w2 ⟨rfl, h2⟩; have z10 := h2.cVal; have zf := h2.frozen (B.I.pre.length + 10))
    (first | go_end0 | ((try simp only [Exit.inBlock, Exit.then]); refine bodyPost_ret (results_none rfl _ _ _) rfl ?_))
    exact ⟨rfl, h2.putVal v⟩
  by_cases h2k : kd = 2
  · have hT : R = valP (accP 3 0 1 0 t r) := by rw [HR.out]; unfold raddDo; rw [if_neg h0, if_neg h1, if_pos h2k]
    have A1 := Lib.hid (tadd_r HA.out 0 1 (by decide))
    obtain ⟨Z, hZ⟩ : ∃ Z, Z = accP 3 0 1 0 t r := ⟨_, rfl⟩
    rw [← hZ] at A1 hT
    obtain ⟨v, t', r'⟩ := Z
    subst hT
    clear HR hZ
    subst h2k
    go_enter Tryz.func81, Tryz.ntmps81
    go_upto_region 1 with fail
    rw [← Hwb.out]
    go_wp2_with (go_at_call 105; refine A1.out.mono ?_; rintro e w2 ⟨rfl, h2⟩; have z10 := h2.cVal; have zf := h2.frozen (B.I.pre.length + 10))
    (first | go_end0 | ((try simp only [Exit.inBlock, Exit.then]); refine bodyPost_ret (results_none rfl _ _ _) rfl ?_))
    exact ⟨rfl, h2.putVal v⟩
  · have hT : R = ({ t with err := 9 }, r) := by rw [HR.out]; unfold raddDo; rw [if_neg h0, if_neg h1, if_neg h2k]
    have Fin := Lib.hid (HA.out.putErr 9)
    subst hT
    clear HR
    go_enter Tryz.func81, Tryz.ntmps81
    go_upto_region 1 with fail
    rw [← Hwb.out]
    go_wp2
    (first | go_end0 | ((try simp only [Exit.inBlock, Exit.then]); refine bodyPost_ret (results_none rfl _ _ _) rfl ?_))
    exact ⟨rfl, Fin.out⟩
theorem radd_do (n : Nat) : DoC 3 0 0 n (fun _ _ _ => True) raddDo := by
  intro B u c t r hok hob _ hA
  have C := do_adder (B := B) (w := u) (t := t) (r := r) (fun u' => RAt B u' (raddDo c t r).1 (raddDo c t r).2) n 0 0 c.thread c.kind c.a c.b c.c hA (fun u' h' => radd_r c hok h')
  have R := radd_dob.runs c t r
  have e1 : callW c = .agg #[.int .i64 c.thread, .int .i64 0, .int .i64 c.kind, .int .u64 (c.a : Int), .int .u64 (c.b : Int), .int .u64 (c.c : Int)] := by unfold callW; rw [hob]
  rw [e1]
  refine C.mono ?_
  rintro e u' ⟨rfl, h1⟩
  exact ⟨rfl, _, h1, R.thread, R.inv, rfl, rfl, rfl, fun _ => ⟨rfl, rfl, rfl, rfl, fun _ => rfl⟩⟩
end
theorem size_one (kd P Q n : Int) (h : kd = 1 ∨ kd = 3) (w : World) : Calls Tryz.prog 69 #[.int .i64 n, .agg #[.int .i64 kd, .int .i64 P, .int .i64 Q]] w fun e w' => e = .returned (.int .i64 1) ∧ Below w.heap.size w w' := by
  rcases h with rfl | rfl
  all_goals
    go_enter Tryz.func69, Tryz.ntmps69
    go_wp2
    go_ret
    exact ⟨rfl, Gr.new _ _⟩
theorem radder_play (X : Nat → Prop) (q0 : Int) (calls : List CallD) (picks : List Int) (ca pa : Option Addr) (cc pc bS : Nat) (w : World) (hX : ∀ b, X b → b < w.heap.size) (hS : SpecAt w bS 3 0 0) (hc : CallsAt noB w ca calls) (hp : PicksAt w pa picks) :
    Calls Tryz.prog 14 #[.int .i64 q0, .slice (some ⟨bS, 0, none⟩) 1 1, .slice ca calls.length cc, .slice pa picks.length pc] w fun e w' => RefAny X w w' (checkN q0 calls picks.length) (playD adderS () [0] calls picks) true e := by
  by_cases hck : checkN q0 calls picks.length = 0
  · obtain ⟨z1, z2, z3, _⟩ := wrongN_zero (checkN_zero hck).1
    obtain ⟨n, rfl⟩ : ∃ n : Nat, q0 = (n : Int) := ⟨q0.toNat, by omega⟩
    rw [hck]
    have hthr := thr_16 hck
    exact rplay_any (S := adderS) (M := oneSim _ _) X 1 3 0 0 picks ca pa cc pc bS w () (fun _ _ _ => True) hX (by decide) (by omega) (by omega) hck hS hc hp (fun v => size_one 3 0 0 (n : Int) (.inr rfl) v) radd_dob radd_dot (radd_do n) (late_marks 3 0 0 n (by decide)) (one_ok radd_one n calls) (fun o wd p s => (radd_one.keep _ _).2.2.1) (fun _ _ => trivial)
      (fun k => one_len radd_one hthr () _ rfl _) (fun _ _ _ _ _ _ _ _ _ _ _ _ _ _ _ => trivial)
  · refine rplay_of X q0 _ _ _ _ _ w (fun u hu hul => ?_)
    exact rlog_wrong _ q0 calls picks ca pa cc pc _ _ u hck (hc.grown hu) (hp.grown hu)
theorem radder_len {q0 : Int} {calls : List CallD} {picks : List Int} (hck : checkN q0 calls picks.length = 0) : (playD adderS () [0] calls picks).evs.length < 1000000 ∧ (playD adderS () [0] calls picks).words.length < 1000000 := by
  obtain ⟨z1, z2, z3, _⟩ := wrongN_zero (checkN_zero hck).1
  obtain ⟨n, rfl⟩ : ∃ n : Nat, q0 = (n : Int) := ⟨q0.toNat, by omega⟩
  obtain ⟨a1, a2⟩ := rlen_any (S := adderS) (M := oneSim _ _) 1 picks () hck radd_dob (one_ok radd_one n calls) (fun o wd p s => (radd_one.keep _ _).2.2.1) (fun _ _ => trivial) (fun k => one_len radd_one (thr_16 hck) () _ rfl _)
  have a1' : (playD adderS () [0] calls picks).evs.length ≤ 65536 := a1
  have a2' : (playD adderS () [0] calls picks).words.length = 1 := a2
  omega
theorem radder_most {q0 : Int} {calls : List CallD} {picks : List Int} (hck : checkN q0 calls picks.length = 0) : ∀ i, i < (playD adderS () [0] calls picks).evs.length → (evAt (playD adderS () [0] calls picks).evs i).steps ≤ 1 := by
  obtain ⟨z1, z2, z3, _⟩ := wrongN_zero (checkN_zero hck).1
  obtain ⟨n, rfl⟩ : ∃ n : Nat, q0 = (n : Int) := ⟨q0.toNat, by omega⟩
  intro i hi
  have h := (on_play (n := n) adder_onceAp hck [0] rfl picks (checkN_zero hck).2).2.2.2.2.2.2 i hi
  exact Nat.le_of_eq h.1
end
section

/- The walk of AdderPlays. -/
open Go.RowKit
set_option maxHeartbeats 4000000 in
theorem adderPlays_any (q0 : Int) (calls : List CallD) (picks : List Int) (ca pa : Option Addr) (cc pc : Nat) (w : World) (hc : CallsAt noB w ca calls) (hp : PicksAt w pa picks) :
    Calls Tryz.prog 6 #[.int .i64 q0, .slice ca calls.length cc, .slice pa picks.length pc] w fun e w' => e = .returned (.bool true) ∧ Below w.heap.size w w' := by
  have hgb : Below w.heap.size w w := (Gr.refl _)
  have M := many_any ca pa calls.length picks.length cc pc w (hc.grown hgb).sl.1 hp.sl.1
  have T := Lib.hid adder_two
  cases hM : manyB calls.length picks.length with
  | true =>
    rw [hM] at M
    have HM := Lib.hid M; have Hgb := Lib.hid hgb
    clear M hc hp hM hgb
    go_enter Tryz.func6, Tryz.ntmps6
    go_wp2_with (first | (go_at_call 11; refine (HM.out).mono ?_; rintro e w' ⟨rfl, rfl⟩) | (go_at_call 20; refine (T.out _).mono ?_; rintro e w' ⟨rfl, hb⟩))
    go_ret
    exact ⟨rfl, Gr.trans Hgb.out hb⟩
  | false =>
    rw [hM] at M
    have HM := Lib.hid M
    have P := adderPlay_any noB w q0 calls picks ca pa cc pc (fun b hb => hb.elim) (hc.grown hgb) (hp.grown hgb)
    have RF := Lib.hid (fun (u : World) (hu : Below w.heap.size w u) (bS : Nat) (hS : SpecAt u bS 3 0 0) => radder_play noB q0 calls picks ca pa cc pc bS u (fun b hb => hb.elim) hS (hc.grown hu) (hp.grown hu))
    have hlen : checkN q0 calls picks.length = 0 → _ := fun h => radder_len h
    have hmost : checkN q0 calls picks.length = 0 → _ := fun h => radder_most h
    obtain ⟨er, her⟩ : ∃ er, er = checkN q0 calls picks.length := ⟨_, rfl⟩
    obtain ⟨rr, hrr⟩ : ∃ rr, rr = playD adderS () [0] calls picks := ⟨_, rfl⟩
    rw [← her, ← hrr] at P RF hlen hmost
    have hl1 : (repOf er rr).evs.length < 1000000 ∧ (repOf er rr).words.length < 1000000 := by
      unfold repOf
      split
      · rename_i h; exact hlen h
      · exact ⟨by decide, by decide⟩
    have hm1 : ∀ i, i < (repOf er rr).evs.length → (evAt (repOf er rr).evs i).steps ≤ 1 := by
      unfold repOf
      split
      · rename_i h; exact hmost h
      · exact fun i hi => absurd hi (Nat.not_lt_zero i)
    have HP := Lib.hid P; have Hgb := Lib.hid hgb; have Hl1 := Lib.hid hl1; have Hm1 := Lib.hid hm1
    clear M P hc hp hM her hrr hgb hlen hl1 hmost hm1
    go_enter Tryz.func6, Tryz.ntmps6
    go_wp2_with (go_at_call 11; refine (HM.out).mono ?_; rintro e w' ⟨rfl, rfl⟩)
    refine HP.out.mono ?_
    intro e w1 hret
    obtain ⟨hb1, ea, ec, va, vc, ers, rfl, hrep⟩ := hret.one
    clear hret
    have hl1 := Hl1.out
    have HMost := Hm1
    obtain ⟨rp, hrp⟩ : ∃ rp, rp = repOf er rr := ⟨_, rfl⟩
    rw [← hrp] at hrep hl1 HMost ⊢
    obtain ⟨en, hen⟩ : ∃ en, en = rp.evs.length := ⟨_, rfl⟩
    obtain ⟨vn, hvn⟩ : ∃ vn, vn = rp.words.length := ⟨_, rfl⟩
    rw [← hen, ← hvn] at hrep ⊢
    obtain ⟨w2, hw2⟩ : ∃ w2, w2 = (w1.alloc (.cells #[.slice ea en ec, .slice va vn vc, .int .i64 (rp.c.read : Int), .int .i64 (rp.c.write : Int), .int .i64 (rp.c.swap : Int), .int .i64 (rp.c.add : Int), .int .i64 (rp.c.fault : Int), .int .i64 (rp.ticks : Int), .int .i64 (rp.idle : Int)] 32)).alloc (.cells #[.int .i64 3, .int .i64 0, .int .i64 0] 39) := ⟨_, rfl⟩
    have hb2 : Below w1.heap.size w1 w2 := by rw [hw2]; exact Gr.alloc (Gr.new _ _) _
    have hB1 : w2.heap[w1.heap.size]? = some (.cells #[.slice ea en ec, .slice va vn vc, .int .i64 (rp.c.read : Int), .int .i64 (rp.c.write : Int), .int .i64 (rp.c.swap : Int), .int .i64 (rp.c.add : Int), .int .i64 (rp.c.fault : Int), .int .i64 (rp.ticks : Int), .int .i64 (rp.idle : Int)] 32 (0, 0)) := by rw [hw2, Below.heap_alloc _ _ _ (by simp)]; exact heap_alloc_new _ _
    have hSp : w2.heap[w1.heap.size + 1]? = some (.cells #[.int .i64 3, .int .i64 0, .int .i64 0] 39 (0, 0)) := by
      rw [hw2]
      have := heap_alloc_new (w1.alloc (.cells #[.slice ea en ec, .slice va vn vc, .int .i64 (rp.c.read : Int), .int .i64 (rp.c.write : Int), .int .i64 (rp.c.swap : Int), .int .i64 (rp.c.add : Int), .int .i64 (rp.c.fault : Int), .int .i64 (rp.ticks : Int), .int .i64 (rp.idle : Int)] 32)) (.cells #[.int .i64 3, .int .i64 0, .int .i64 0] 39 (0, 0))
      simp only [World.size_alloc] at this
      exact this
    have R2 := Lib.hid (RF.out w2 (Gr.trans Hgb.out (Gr.trans hb1 hb2)) (w1.heap.size + 1) ⟨hSp⟩)
    have Hb1 := Lib.hid hb1; have Hb2 := Lib.hid hb2; have HB1 := Lib.hid hB1; have Hw2 := Lib.hid hw2; have Hrep := Lib.hid hrep; have Hrp := Lib.hid hrp; have Hen := Lib.hid hen; have Hvn := Lib.hid hvn; have Hl := Lib.hid hl1
    clear hb1 hb2 hB1 hSp hw2 hrep hrp hen hvn hl1
    unfold repV
    go_wp2_with fail
    rw [← Hw2.out]
    refine R2.out.mono ?_
    intro e w3 hret
    obtain ⟨hb3, ea2, ec2, va2, vc2, ers2, rfl, hrep2, hsl2⟩ := hret.one
    clear hret
    rw [← Hrp.out] at hrep2 hsl2 ⊢
    rw [← Hen.out] at hrep2 ⊢
    rw [← Hvn.out] at hsl2 ⊢
    obtain ⟨w4, hw4⟩ : ∃ w4, w4 = w3.alloc (.cells #[.slice ea2 en ec2, .slice va2 vn vc2, .int .i64 (rp.c.read : Int), .int .i64 (rp.c.write : Int), .int .i64 (rp.c.swap : Int), .int .i64 (rp.c.add : Int), .int .i64 (rp.c.fault : Int), .int .i64 (rp.ticks : Int), .int .i64 (rp.idle : Int)] 32) := ⟨_, rfl⟩
    have hb4 : Below w3.heap.size w3 w4 := by rw [hw4]; exact Gr.new _ _
    have hB2 : w4.heap[w3.heap.size]? = some (.cells #[.slice ea2 en ec2, .slice va2 vn vc2, .int .i64 (rp.c.read : Int), .int .i64 (rp.c.write : Int), .int .i64 (rp.c.swap : Int), .int .i64 (rp.c.add : Int), .int .i64 (rp.c.fault : Int), .int .i64 (rp.ticks : Int), .int .i64 (rp.idle : Int)] 32 (0, 0)) := by rw [hw4]; exact heap_alloc_new _ _
    have hb14 : Below w1.heap.size w1 w4 := Gr.trans Hb2.out (Gr.trans hb3 hb4)
    obtain ⟨b1, hb19⟩ : ∃ b1, b1 = w1.heap.size := ⟨_, rfl⟩
    have hB1 : w4.heap[b1]? = some (.cells #[.slice ea en ec, .slice va vn vc, .int .i64 (rp.c.read : Int), .int .i64 (rp.c.write : Int), .int .i64 (rp.c.swap : Int), .int .i64 (rp.c.add : Int), .int .i64 (rp.c.fault : Int), .int .i64 (rp.ticks : Int), .int .i64 (rp.idle : Int)] 32 (0, 0)) := by rw [hb19]; exact ((Gr.trans hb3 hb4).block _ (blk_lt HB1.out)).trans HB1.out
    have r0 : w4.cell? ⟨b1, 0, none⟩ = some (.slice ea en ec) := by rw [cell_blk hB1]; rfl
    have r1 : w4.cell? ⟨b1, 1, none⟩ = some (.slice va vn vc) := by rw [cell_blk hB1]; rfl
    have r2 : w4.cell? ⟨b1, 2, none⟩ = some (.int .i64 (rp.c.read : Int)) := by rw [cell_blk hB1]; rfl
    have r3 : w4.cell? ⟨b1, 3, none⟩ = some (.int .i64 (rp.c.write : Int)) := by rw [cell_blk hB1]; rfl
    have r4 : w4.cell? ⟨b1, 4, none⟩ = some (.int .i64 (rp.c.swap : Int)) := by rw [cell_blk hB1]; rfl
    have r5 : w4.cell? ⟨b1, 5, none⟩ = some (.int .i64 (rp.c.add : Int)) := by rw [cell_blk hB1]; rfl
    have r6 : w4.cell? ⟨b1, 6, none⟩ = some (.int .i64 (rp.c.fault : Int)) := by rw [cell_blk hB1]; rfl
    have r7 : w4.cell? ⟨b1, 7, none⟩ = some (.int .i64 (rp.ticks : Int)) := by rw [cell_blk hB1]; rfl
    have r8 : w4.cell? ⟨b1, 8, none⟩ = some (.int .i64 (rp.idle : Int)) := by rw [cell_blk hB1]; rfl
    have s0 : w4.cell? ⟨w3.heap.size, 0, none⟩ = some (.slice ea2 en ec2) := by rw [cell_blk hB2]; rfl
    have s1 : w4.cell? ⟨w3.heap.size, 1, none⟩ = some (.slice va2 vn vc2) := by rw [cell_blk hB2]; rfl
    have s2 : w4.cell? ⟨w3.heap.size, 2, none⟩ = some (.int .i64 (rp.c.read : Int)) := by rw [cell_blk hB2]; rfl
    have s3 : w4.cell? ⟨w3.heap.size, 3, none⟩ = some (.int .i64 (rp.c.write : Int)) := by rw [cell_blk hB2]; rfl
    have s4 : w4.cell? ⟨w3.heap.size, 4, none⟩ = some (.int .i64 (rp.c.swap : Int)) := by rw [cell_blk hB2]; rfl
    have s5 : w4.cell? ⟨w3.heap.size, 5, none⟩ = some (.int .i64 (rp.c.add : Int)) := by rw [cell_blk hB2]; rfl
    have s6 : w4.cell? ⟨w3.heap.size, 6, none⟩ = some (.int .i64 (rp.c.fault : Int)) := by rw [cell_blk hB2]; rfl
    have s7 : w4.cell? ⟨w3.heap.size, 7, none⟩ = some (.int .i64 (rp.ticks : Int)) := by rw [cell_blk hB2]; rfl
    have s8 : w4.cell? ⟨w3.heap.size, 8, none⟩ = some (.int .i64 (rp.idle : Int)) := by rw [cell_blk hB2]; rfl
    have hrep := Hrep.out; have hen := Hen.out; have hvn := Hvn.out; have hl := Hl.out
    have SM := Lib.hid (rsame_any w4 ea ea2 va va2 en ec ec2 vn vc vc2 ers ers2 rp (hrep.grown hb14) (hrep2.grown hb4) (hsl2.grown hb4) hen hvn hl.1 hl.2)
    unfold repV at SM
    have MO := Lib.hid (fun (u : World) (hu : Below w4.heap.size w4 u) => most_true u 1 ea va en ec vn vc ers rp ((hrep.grown hb14).grown hu) hen (by omega) HMost.out)
    unfold repV at MO
    have Hall := Lib.hid (Gr.trans Hgb.out (Gr.trans Hb1.out hb14)); have Hw4 := Lib.hid hw4
    rw [← hb19]
    have hl4 : b1 < w4.heap.size := blk_lt hB1
    clear hb3 hrep2 hsl2 hw4 hb4 hB1 hB2 hb14 hb19 hrep hen hvn hl
    unfold repV
    go_upto_region 5 with fail
    rw [← Hw4.out]
    have le : (er == er) = true := by simp
    go_wp2_with (first | (go_at_call 15; refine SM.out.mono ?_; rintro e w5 ⟨rfl, hb5⟩; have t0 := (hb5.cell (p := ⟨b1, 0, none⟩) hl4).trans r0; have t1 := (hb5.cell (p := ⟨b1, 1, none⟩) hl4).trans r1; have t2 := (hb5.cell (p := ⟨b1, 2, none⟩) hl4).trans r2; have t3 := (hb5.cell (p := ⟨b1, 3, none⟩) hl4).trans r3; have t4 := (hb5.cell (p := ⟨b1, 4, none⟩) hl4).trans r4; have t5 := (hb5.cell (p := ⟨b1, 5, none⟩) hl4).trans r5; have t6 := (hb5.cell (p := ⟨b1, 6, none⟩) hl4).trans r6; have t7 := (hb5.cell (p := ⟨b1, 7, none⟩) hl4).trans r7; have t8 := (hb5.cell (p := ⟨b1, 8, none⟩) hl4).trans r8) | (go_at_call 22; refine (MO.out _ hb5).mono ?_; rintro e w6 ⟨rfl, hb6⟩) | (go_at_call 20; refine (T.out _).mono ?_; rintro e w7 ⟨rfl, hb7⟩))
    go_ret
    exact ⟨rfl, Gr.trans Hall.out (Gr.trans hb5 (Gr.trans hb6 hb7))⟩
end
end Go.Proofs.YteffgpcjfnjlkaaGreat
