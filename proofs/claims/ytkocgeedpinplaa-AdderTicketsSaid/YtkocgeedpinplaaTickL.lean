/- Layer 9: the walk of AdderTickets. -/
import Derived.Test.YtkocgeedpinplaaTickW
set_option maxRecDepth 100000
namespace Go.Proofs.Ytkocgeedpinplaa
open Go.RowKit

theorem call_info : (Try.prog.info? 80).map (fun i => (i.zero, i.size, i.bytes)) = some (some (.agg #[.int .i64 0, .int .i64 0, .int .i64 0, .int .u64 0, .int .u64 0, .int .u64 0]), 6, 48) := by kernel_rfl
theorem row_calls {w : World} {B : Nat} {ca : Option Addr} {cc : Nat} {l : List CallD} (h : w.ownsRow B 80 6 (.slice ca l.length cc) l.length (l.flatMap callL)) (hl : l.length ≤ 1000000) : SlAt w ca l.length 6 (callG l) := by
  rcases Nat.eq_zero_or_pos l.length with h0 | h0
  · rw [h0]; exact SlAt.nil _ _ _ _
  · obtain ⟨g, c, h1, h2, h3⟩ := h.form h0
    simp only [Value.slice.injEq, true_and] at h1
    obtain ⟨rfl, rfl⟩ := h1
    refine ⟨by unfold maxLen; omega, fun j hj => ⟨g, 0, rfl, h3, fun f hf => ?_⟩⟩
    rw [Nat.zero_add, h.cellAt _ (by omega)]
    exact callL_get l j f hj hf
theorem news_six (w : World) (c : List Value) (T : TypeId) (j : Nat) (u : Value) (h : c[j]? = some u) : (w.alloc (.cells c.toArray T)).cell? ((⟨w.heap.size, 0, none⟩ : Addr).add j) = some u := by
  rw [Addr.add_mid, Nat.zero_add, cell_new]; simpa using h
theorem tkCall_at {N i j : Nat} (hj : j < N) : callL (tkCall N (i * N + j)) = [.int .i64 (j : Int), .int .i64 0, .int .i64 2, .int .u64 0, .int .u64 0, .int .u64 0] := by
  unfold tkCall callL
  rw [Nat.mul_comm i N, Nat.mul_add_mod, Nat.mod_eq_of_lt hj]
  rfl

set_option maxHeartbeats 4000000 in
theorem adderTickets_any (n : Int) (m : Nat) (picks : List Int) (pa : Option Addr) (pc : Nat) (w : World) (hp : PicksAt w pa picks) (hm : m < 256) :
    Calls Try.prog 13 #[.int .i64 n, .int .u8 (m : Int), .slice pa picks.length pc] w fun e w' => e = .returned (.bool true) ∧ Below w.heap.size w w' := by
  have T := Lib.hid adder_two
  have hpl := hp.sl.1
  unfold maxLen at hpl
  by_cases h1 : n < 1
  · clear hp
    go_enter Try.func13, Try.ntmps13
    go_wp2_with (go_at_call 44; refine (T.out _).mono ?_; rintro e w' ⟨rfl, hb⟩)
    go_ret
    exact ⟨rfl, hb⟩
  by_cases h2 : 16 < n
  · clear hp
    go_enter Try.func13, Try.ntmps13
    go_wp2_with (go_at_call 44; refine (T.out _).mono ?_; rintro e w' ⟨rfl, hb⟩)
    go_ret
    exact ⟨rfl, hb⟩
  by_cases h3 : (1000 : Int) < (picks.length : Int)
  · clear hp
    go_enter Try.func13, Try.ntmps13
    go_wp2_with (go_at_call 44; refine (T.out _).mono ?_; rintro e w' ⟨rfl, hb⟩)
    go_ret
    exact ⟨rfl, hb⟩
  obtain ⟨N, rfl⟩ : ∃ N : Nat, n = (N : Int) := ⟨n.toNat, by omega⟩
  have hp3 : picks.length ≤ 1000 := by omega
  have Hp := Lib.hid hp
  clear hp
  go_enter Try.func13, Try.ntmps13
  obtain ⟨i0, hi0, hz0, hz1, hz2⟩ := info_parts call_info
  obtain ⟨K, hK⟩ : ∃ K : Nat, (K : Int) = (m : Int) % 32 ∧ K < 32 := ⟨m % 32, by omega, by omega⟩
  obtain ⟨hK1, hK2⟩ := hK
  go_wp2
  rw [← hK1]
  clear hK1
  go_loopw [7, 27] (fun v i wr => ∃ k : Nat, k ≤ K ∧ i = .int .i64 k ∧ Below w.heap.size w wr ∧ wr.ownsRow w.heap.size 80 6 v (k * N) ((tk N (k * N)).flatMap callL)) (fun _ i _ => K - (intOf i).toNat)
  case atStart => exact ⟨0, Nat.zero_le _, rfl, Gr.refl _, by rw [Nat.zero_mul]; exact World.ownsRow_nil _ _ _ _⟩
  case round =>
    obtain ⟨k, hk, rfl, hb, hrow⟩ := hrel
    by_cases hlt : k < K
    · have l1 : (k : Int) < (K : Int) := by omega
      have Hb := Lib.hid hb; have Hrow := Lib.hid hrow
      clear hb hrow
      go_wp2
      go_loopw [7, 30] (fun v i wr => ∃ j : Nat, j ≤ N ∧ i = .int .i64 j ∧ Below w.heap.size w wr ∧ wr.ownsRow w.heap.size 80 6 v (k * N + j) ((tk N (k * N + j)).flatMap callL)) (fun _ i _ => N - (intOf i).toNat)
      case atStart => exact ⟨0, Nat.zero_le _, rfl, Hb.out, Hrow.out⟩
      case round =>
        obtain ⟨j, hj, rfl, hb, hrow⟩ := hrel
        by_cases hlj : j < N
        · have l2 : (j : Int) < (N : Int) := by omega
          have hkn : k * N + j < 1000 := by
            have h8 : k * N ≤ 31 * 16 := Nat.mul_le_mul (by omega) (by omega)
            omega
          have Hb2 := Lib.hid hb; have Hrow2 := Lib.hid hrow
          have Hat := Lib.hid (tkCall_at (i := k) hlj)
          clear hb hrow
          go_wp2_with (at_builtin; refine wpList_append_own _ rfl _ _ 52 rfl w.heap.size 80 i0 (.agg #[.int .i64 0, .int .i64 0, .int .i64 0, .int .u64 0, .int .u64 0, .int .u64 0]) 6 48 Try.underlying52 hi0 hz0 hz1 hz2 rfl (by decide) _ _ _ rfl (Hrow2.out.alloc _) ⟨wr.heap.size, 0, none⟩ 1 1 [.int .i64 (j : Int), .int .i64 0, .int .i64 2, .int .u64 0, .int .u64 0, .int .u64 0] rfl rfl ?c1 ?c2 ?c3 ?c4 ?c5 ?_)
          case c1 => exact fun q u hq => news_six _ _ _ q u hq
          case c2 => simp [Value.oneCell']
          case c3 => unfold maxLen; omega
          case c4 => omega
          case c5 => have := Hb2.out.size; simp; omega
          intro v' wa hown' hgrow _
          have hca : Chg (fun b => w.heap.size ≤ b) w wa := (((Chg.of_below (S := fun b => w.heap.size ≤ b) Hb2.out).alloc _)).grown hgrow (fun q hq => .inl (Hrow2.out.lt q hq).1)
          have Hown := Lib.hid hown'; have Hca := Lib.hid hca
          clear hown' hgrow hca
          go_wp2
          go_roundw
          case rel =>
            refine ⟨j + 1, by omega, by go_num, Hca.out.below (fun b h => h) (Nat.le_refl _), ?_⟩
            have h8 := Hown.out
            rw [show k * N + (j + 1) = (k * N + j) + 1 by omega, tk_succ, List.flatMap_append, List.flatMap_cons, List.flatMap_nil, List.append_nil, Hat.out]
            exact h8
          case measure => simp [intOf] <;> omega
        · have l2 : ¬ (j : Int) < (N : Int) := by omega
          obtain rfl : j = N := by omega
          have Hb2 := Lib.hid hb; have Hrow2 := Lib.hid hrow
          clear hb hrow
          go_wp2
          go_roundw
          case rel => exact ⟨k + 1, by omega, by go_num, Hb2.out, by rw [Nat.succ_mul]; exact Hrow2.out⟩
          case measure => simp [intOf] <;> omega
    · have l1 : ¬ (k : Int) < (K : Int) := by omega
      obtain rfl : k = K := by omega
      have hm8 : k * N ≤ 31 * 16 := Nat.mul_le_mul (by omega) (by omega)
      obtain ⟨M, hM⟩ : ∃ M, M = k * N := ⟨_, rfl⟩
      rw [← hM] at hrow
      obtain ⟨ca, cc, rfl⟩ := row_form hrow
      have hrow' : wr.ownsRow w.heap.size 80 6 (.slice ca (tk N M).length cc) (tk N M).length ((tk N M).flatMap callL) := by rw [tk_len]; exact hrow
      have hsl := row_calls hrow' (by rw [tk_len]; omega)
      have hca : CallsAt noB wr ca (tk N M) := ⟨hsl, fun x hx => by
        obtain ⟨q, hq, rfl⟩ := tk_mem hx
        have h8 := Nat.mod_lt q (show 0 < N by omega)
        exact callOk_small (by omega) (by omega) (by decide) (by decide) (by decide) (by decide) (by decide), fun _ _ _ _ h => h⟩
      have P := adderPlay_any noB wr N (tk N M) picks ca pa cc pc (fun b hb => hb.elim) hca (Hp.out.grown hb)
      rw [tk_check (by omega) (by omega) (by omega) (by omega), tk_len] at P
      obtain ⟨q1, q2, q3⟩ := tk_play (n := N) (m := M) hp3
      obtain ⟨rr, hrr⟩ : ∃ rr, rr = playD adderS () [0] (tk N M) picks := ⟨_, rfl⟩
      rw [← hrr] at P q1 q2 q3
      have HP := Lib.hid P; have Hb := Lib.hid hb; have Q2 := Lib.hid q2; have Q1 := Lib.hid q1; have HM := Lib.hid hM
      clear P hb q2 q1 hM hrow hrow' hsl hca hrr
      go_wp2_with fail
      refine HP.out.mono ?_
      rintro e w1 ⟨ea, en, ec, va, vn, vc, rp, rfl, hb1, hr⟩
      rcases hr with ⟨h0, _⟩ | ⟨_, hrp, hen, hvn, ers, hrep⟩
      · exact absurd rfl h0
      subst hrp
      have htk : (rp.ticks : Int) = (en : Int) := by rw [Q1.out, hen]
      have hen1 : en ≤ 1000 := by rw [hen]; exact q3
      have Hev := Lib.hid (fun h0 => hrep.event hen h0)
      have Hb1 := Lib.hid hb1; have Hen := Lib.hid hen
      have Hbw := Lib.hid (Gr.trans Hb.out hb1)
      clear hrep hb1 hen hvn q3
      unfold repV
      rw [htk]
      clear htk
      obtain ⟨w2, hw2⟩ : ∃ w2, w2 = w1.alloc (.cells #[.slice ea en ec, .slice va vn vc, .int .i64 (rp.c.read : Int), .int .i64 (rp.c.write : Int), .int .i64 (rp.c.swap : Int), .int .i64 (rp.c.add : Int), .int .i64 (rp.c.fault : Int), .int .i64 (en : Int), .int .i64 (rp.idle : Int)] 57) := ⟨_, rfl⟩
      have hb2 : Below w1.heap.size w1 w2 := by rw [hw2]; exact Gr.new _ _
      have b0 : w2.cell? ⟨w1.heap.size, 0, none⟩ = some (.slice ea en ec) := by rw [hw2, cell_new]; rfl
      have Hw2 := Lib.hid hw2; have Hb2 := Lib.hid hb2
      clear hw2 hb2
      go_wp2
      rw [← Hw2.out]
      go_loopw [60] (fun i wr => ∃ q : Nat, q ≤ en ∧ i = .int .i64 q ∧ wr = w2) (fun i _ => en - (intOf i).toNat)
      case atStart => exact ⟨0, Nat.zero_le _, rfl, rfl⟩
      case round =>
        obtain ⟨q, hq, rfl, rfl⟩ := hrel
        by_cases hlq : q < en
        · have l3 : (q : Int) < (en : Int) := by omega
          obtain ⟨g, rfl, hg, hev⟩ := Hev.out (by omega)
          have hq2 := Q2.out q (by rw [← Hen.out]; exact hlq)
          have c5 : wr.cell? ⟨g, q * 8 + 5, none⟩ = some (.int .u64 (q : Int)) := by
            rw [Hb2.out.cell hg, hev q 5 hlq (by omega)]
            show some (Value.int .u64 ((rp.evs.getD q ev0).ans.val : Int)) = _
            rw [hq2.1]
          have c2 : wr.cell? ⟨g, q * 8 + 2, none⟩ = some (.int .i64 ((q : Int) + 1)) := by
            rw [Hb2.out.cell hg, hev q 2 hlq (by omega)]
            show some (natV (rp.evs.getD q ev0).resp) = _
            rw [hq2.2]; simp [natV]
          clear hev hq2
          go_wp2
          go_roundw
          case rel => exact ⟨q + 1, by omega, by go_num, trivial⟩
          case measure => simp [intOf] <;> omega
        · have l3 : ¬ (q : Int) < (en : Int) := by omega
          go_wp2_with (go_at_call 44; refine (T.out _).mono ?_; rintro e w' ⟨rfl, hb⟩)
          go_ret
          exact ⟨rfl, Gr.trans Hbw.out (Gr.trans Hb2.out hb)⟩
end Go.Proofs.Ytkocgeedpinplaa
