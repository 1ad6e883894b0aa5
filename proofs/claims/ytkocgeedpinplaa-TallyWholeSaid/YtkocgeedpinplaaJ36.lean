/- Layer 7: the walk of ConsAgrees. -/
import Derived.Test.YtkocgeedpinplaaJ24
import Derived.Test.YtkocgeedpinplaaJ23
import Derived.Test.YtkocgeedpinplaaJ29
set_option maxRecDepth 100000
set_option linter.unusedVariables false
set_option linter.unusedSimpArgs false
set_option linter.unnecessarySimpa false
namespace Go.Proofs.Ytkocgeedpinplaa
open Go.RowKit

def bothCalls : List CallD := [⟨0, 0, 0, 5, 0, 0⟩, ⟨1, 0, 0, 6, 0, 0⟩]
theorem both_rep : playD consS () [0] bothCalls [0, 1, 1, 0] = ⟨[⟨0, 1, 4, 2, ⟨0, 5, []⟩, [2]⟩, ⟨1, 2, 3, 2, ⟨0, 5, []⟩, [4]⟩], [6], ⟨2, 0, 2, 0, 0⟩, 4, 0⟩ := by rfl
theorem both_check : checkN 2 bothCalls 4 = 0 := by rfl

set_option maxHeartbeats 4000000 in
theorem cons_both (w : World) : Calls Try.prog 37 #[] w fun e w' => e = .returned (.bool true) ∧ Below w.heap.size w w' := by
  obtain ⟨wa, hwa⟩ : ∃ wa, wa = (w.alloc (.cells #[.int .i64 0, .int .i64 0, .int .i64 0, .int .u64 5, .int .u64 0, .int .u64 0, .int .i64 1, .int .i64 0, .int .i64 0, .int .u64 6, .int .u64 0, .int .u64 0] 80)).alloc (.cells #[.int .i64 0, .int .i64 1, .int .i64 1, .int .i64 0] 3) := ⟨_, rfl⟩
  have hga : Below w.heap.size w wa := by rw [hwa]; exact Gr.alloc (Gr.new _ _) _
  have h1 : wa.heap[w.heap.size]? = some (.cells (bothCalls.flatMap callL).toArray 80 (0, 0)) := by rw [hwa, Below.heap_alloc _ _ _ (by simp), heap_alloc_new]; rfl
  have h2 : wa.heap[w.heap.size + 1]? = some (.cells (([0, 1, 1, 0] : List Int).map (Value.int .i64)).toArray 3 (0, 0)) := by
    rw [hwa]
    have := heap_alloc_new (w.alloc (.cells #[.int .i64 0, .int .i64 0, .int .i64 0, .int .u64 5, .int .u64 0, .int .u64 0, .int .i64 1, .int .i64 0, .int .i64 0, .int .u64 6, .int .u64 0, .int .u64 0] 80)) (.cells #[.int .i64 0, .int .i64 1, .int .i64 1, .int .i64 0] 3 (0, 0))
    simp only [World.size_alloc] at this
    exact this
  have P := consPlay_any noB wa 2 bothCalls [0, 1, 1, 0] (some ⟨w.heap.size, 0, none⟩) (some ⟨w.heap.size + 1, 0, none⟩) 2 4 (fun b hb => hb.elim) ⟨calls_block h1 (by decide), (by
      intro x hx
      simp only [bothCalls, List.mem_cons, List.not_mem_nil, or_false] at hx
      rcases hx with rfl | rfl <;> exact callOk_small (by decide) (by decide) (by decide) (by decide) (by decide) (by decide) (by decide)), fun _ _ _ _ h => h⟩ ⟨ints_block h2 (by decide), by intro x hx; simp only [List.mem_cons, List.not_mem_nil, or_false] at hx; rcases hx with rfl | rfl | rfl | rfl <;> rfl⟩
  rw [show ([0, 1, 1, 0] : List Int).length = 4 from rfl, both_check, both_rep, show bothCalls.length = 2 from rfl] at P
  have HP := Lib.hid P; have Hwa := Lib.hid hwa; have Hga := Lib.hid hga
  clear P h1 h2 hwa hga
  go_enter Try.func37, Try.ntmps37
  go_wp2_with fail
  rw [← Hwa.out]
  refine HP.out.mono ?_
  rintro e w1 ⟨ea, en, ec, va, vn, vc, rp, rfl, hb, hr⟩
  rcases hr with ⟨h0, _⟩ | ⟨_, hrp, hen, hvn, ers, hrep⟩
  · exact absurd rfl h0
  obtain ⟨g, rfl, hg, hev⟩ := hrep.event hen (by rw [hen]; decide)
  obtain ⟨q, rfl, hq, hwd⟩ := hrep.word hvn (by rw [hvn]; decide)
  have hen2 : en = 2 := hen
  have hvn2 : vn = 1 := hvn
  subst hen2 hvn2 hrp
  have c5 : w1.cell? ⟨g, 5, none⟩ = some (.int .u64 5) := hev 0 5 (by omega) (by omega)
  have c10 : w1.cell? ⟨g, 10, none⟩ = some (.int .i64 3) := hev 1 2 (by omega) (by omega)
  have c13 : w1.cell? ⟨g, 13, none⟩ = some (.int .u64 5) := hev 1 5 (by omega) (by omega)
  have d0 : w1.cell? ⟨q, 0, none⟩ = some (.int .u64 6) := hwd 0 (by omega)
  have Hb := Lib.hid hb
  clear hrep hev hwd hb hen hvn
  unfold repV
  go_wp2
  go_ret
  exact ⟨rfl, Gr.trans Hga.out (Gr.trans Hb.out (Gr.new _ _))⟩

/-- Are there too many calls, or picks? -/
def manyB (l p : Nat) : Bool := decide ((60 < l ∧ l ≤ 1000) ∨ (600 < p ∧ p ≤ 65536) ∨ 1100 < l)
theorem many_any (ca pa : Option Addr) (l p cc pc : Nat) (w : World) (hl : l ≤ maxLen) (hp : p ≤ maxLen) :
    Calls Try.prog 28 #[.slice ca l cc, .slice pa p pc] w fun e w' => e = .returned (.bool (manyB l p)) ∧ w = w' := by
  unfold maxLen at hl hp
  obtain ⟨b, hb⟩ : ∃ b, b = manyB l p := ⟨_, rfl⟩
  rw [← hb]
  by_cases h1 : (60 : Int) < (l : Int) <;> by_cases h2 : (l : Int) ≤ 1000 <;> by_cases h3 : (600 : Int) < (p : Int) <;> by_cases h4 : (p : Int) ≤ 65536 <;> by_cases h5 : (1100 : Int) < (l : Int)
  all_goals first | (exfalso; omega) | skip
  all_goals
    have hv : b = decide ((60 < l ∧ l ≤ 1000) ∨ (600 < p ∧ p ≤ 65536) ∨ 1100 < l) := hb
    first
      | (have hb2 : b = true := by rw [hv]; simp; omega
         subst hb2; clear hb hv
         go_enter Try.func28, Try.ntmps28
         go_wp2
         go_ret
         exact ⟨rfl, rfl⟩)
      | (have hb2 : b = false := by rw [hv]; simp; omega
         subst hb2; clear hb hv
         go_enter Try.func28, Try.ntmps28
         go_wp2
         go_ret
         exact ⟨rfl, rfl⟩)

theorem same_nil (w : World) : Calls Try.prog 24 #[.slice none 0 0, .slice none 0 0] w fun e w' => e = .returned (.bool true) ∧ w = w' := by
  go_enter Try.func24, Try.ntmps24
  go_wp2
  go_loopw [13] (fun i wr => i = .int .i64 0 ∧ wr = w) (fun _ _ => 0)
  case atStart => exact ⟨rfl, rfl⟩
  case round =>
    obtain ⟨rfl, rfl⟩ := hrel
    go_wp2
    go_ret
    exact ⟨rfl, rfl⟩
theorem sameRep_nil (w : World) : Calls Try.prog 59 #[.agg #[.slice none 0 0, .slice none 0 0, .int .i64 0, .int .i64 0, .int .i64 0, .int .i64 0, .int .i64 0, .int .i64 0, .int .i64 0], .agg #[.slice none 0 0, .slice none 0 0, .int .i64 0, .int .i64 0, .int .i64 0, .int .i64 0, .int .i64 0, .int .i64 0, .int .i64 0]] w fun e w' => e = .returned (.bool true) ∧ Below w.heap.size w w' := by
  have Sm := Lib.hid same_nil
  go_enter Try.func59, Try.ntmps59
  go_wp2_with (go_at_call 24; refine (Sm.out _).mono ?_; rintro e w' ⟨rfl, rfl⟩)
  obtain ⟨w2, hw2⟩ : ∃ w2, w2 = (w.alloc (.cells #[.slice none 0 0, .slice none 0 0, .int .i64 0, .int .i64 0, .int .i64 0, .int .i64 0, .int .i64 0, .int .i64 0, .int .i64 0] 57)).alloc (.cells #[.slice none 0 0, .slice none 0 0, .int .i64 0, .int .i64 0, .int .i64 0, .int .i64 0, .int .i64 0, .int .i64 0, .int .i64 0] 57) := ⟨_, rfl⟩
  rw [← hw2]
  have hb : Below w.heap.size w w2 := by rw [hw2]; exact Gr.alloc (Gr.new _ _) _
  have Hb := Lib.hid hb
  clear hb hw2
  go_loopw [45] (fun i wr => i = .int .i64 0 ∧ wr = w2) (fun _ _ => 0)
  case atStart => exact ⟨rfl, rfl⟩
  case round =>
    obtain ⟨rfl, rfl⟩ := hrel
    go_wp2
    go_ret
    exact ⟨rfl, Hb.out⟩
theorem none_true (w : World) : Calls Try.prog 31 #[.agg #[.slice none 0 0, .slice none 0 0, .int .i64 0, .int .i64 0, .int .i64 0, .int .i64 0, .int .i64 0, .int .i64 0, .int .i64 0]] w fun e w' => e = .returned (.bool true) ∧ Below w.heap.size w w' := by
  have Sm := Lib.hid sameRep_nil
  go_enter Try.func31, Try.ntmps31
  go_wp2_with (go_at_call 59; refine (Sm.out _).mono ?_; rintro e w' ⟨rfl, hb⟩)
  go_ret
  exact ⟨rfl, Gr.trans (Gr.new _ _) hb⟩

set_option maxHeartbeats 8000000 in
theorem consAgrees_any (n : Int) (calls : List CallD) (picks : List Int) (ca pa : Option Addr) (cc pc : Nat) (w : World) (hc : CallsAt noB w ca calls) (hp : PicksAt w pa picks) :
    Calls Try.prog 9 #[.int .i64 n, .slice ca calls.length cc, .slice pa picks.length pc] w fun e w' => e = .returned (.bool true) ∧ Below w.heap.size w w' := by
  have M := many_any ca pa calls.length picks.length cc pc w hc.sl.1 hp.sl.1
  have T := Lib.hid cons_both
  have hcl := hc.sl.1
  unfold maxLen at hcl
  cases hM : manyB calls.length picks.length with
  | true =>
    rw [hM] at M
    have HM := Lib.hid M
    clear M hc hp hM
    go_enter Try.func9, Try.ntmps9
    go_wp2_with (first | (go_at_call 28; refine (HM.out).mono ?_; rintro e w' ⟨rfl, rfl⟩) | (go_at_call 37; refine (T.out _).mono ?_; rintro e w' ⟨rfl, hb⟩))
    go_ret
    exact ⟨rfl, hb⟩
  | false =>
    rw [hM] at M
    have HM := Lib.hid M
    have P := consPlay_any noB w n calls picks ca pa cc pc (fun b hb => hb.elim) hc hp
    obtain ⟨er, her⟩ : ∃ er, er = checkN n calls picks.length := ⟨_, rfl⟩
    rw [← her] at P
    have HP := Lib.hid P; have Her := Lib.hid her; have Hc := Lib.hid hc
    have hp0 := hp
    clear M P hc hp hM her
    by_cases her0 : er = 0
    · have hck : checkN n calls picks.length = 0 := by rw [← Her.out]; exact her0
      obtain ⟨hw0, _⟩ := checkN_zero hck
      obtain ⟨z1, z2, z3, z4⟩ := wrongN_zero hw0
      have hthr : ∀ c, c < calls.length → 0 ≤ (calls.getD c d0).thread ∧ (calls.getD c d0).thread < 16 := fun c hcl => by
        unfold anyBad at z4
        rw [List.any_eq_false] at z4
        have e : calls.getD c d0 = calls[c] := by simp [List.getD_eq_getElem?_getD, hcl]
        have h9 : badT n calls[c] = false := by simpa using z4 calls[c] (List.getElem_mem hcl)
        rw [e]
        obtain ⟨y, hy⟩ : ∃ y, y = calls[c] := ⟨_, rfl⟩
        rw [← hy] at h9 ⊢
        unfold badT at h9
        simp at h9
        omega
      obtain ⟨hlen, x, hev1, hprop⟩ := co_play hthr picks
      have hpl := hp0.sl.1
      unfold maxLen at hpl
      subst her0
      obtain ⟨rr, hrr⟩ : ∃ rr, rr = playD consS () [0] calls picks := ⟨_, rfl⟩
      rw [← hrr] at HP hev1 hprop hlen
      have Hev1 := Lib.hid hev1; have Hprop := Lib.hid hprop
      clear hck hw0 z1 z2 z3 z4 hthr hev1 hprop hrr Her hp0
      go_enter Try.func9, Try.ntmps9
      go_wp2_with (go_at_call 28; refine (HM.out).mono ?_; rintro e w' ⟨rfl, rfl⟩)
      refine HP.out.mono ?_
      rintro e w1 ⟨ea, en, ec, va, vn, vc, rp, rfl, hb1, hr⟩
      rcases hr with ⟨h0, _⟩ | ⟨_, hrp, hen, hvn, ers, hrep⟩
      · exact absurd rfl h0
      subst hrp
      obtain ⟨w2, hw2⟩ : ∃ w2, w2 = w1.alloc (.cells #[.slice ea en ec, .slice va vn vc, .int .i64 (rp.c.read : Int), .int .i64 (rp.c.write : Int), .int .i64 (rp.c.swap : Int), .int .i64 (rp.c.add : Int), .int .i64 (rp.c.fault : Int), .int .i64 (rp.ticks : Int), .int .i64 (rp.idle : Int)] 57) := ⟨_, rfl⟩
      have hb2 : Below w1.heap.size w1 w2 := by rw [hw2]; exact Gr.new _ _
      have b0 : w2.cell? ⟨w1.heap.size, 0, none⟩ = some (.slice ea en ec) := by rw [hw2, cell_new]; rfl
      have hrep2 := hrep.grown hb2
      have hb02 := Gr.trans hb1 hb2
      have hs2 : w1.heap.size < w2.heap.size := by rw [hw2]; simp
      have Hrep := Lib.hid hrep2; have Hb02 := Lib.hid hb02; have Hw2 := Lib.hid hw2; have Hen := Lib.hid hen; have B0 := Lib.hid b0
      have henl : en ≤ 9223372036854775807 := by rw [hen]; omega
      clear hrep hrep2 hb1 hb2 hb02 hw2 hvn hen b0
      unfold repV
      go_wp2
      rw [← Hw2.out]
      go_loopw [9, 10, 37] (fun s fv i wr => ∃ k : Nat, k ≤ en ∧ i = .int .i64 k ∧ Below w2.heap.size w2 wr ∧ ∃ (b : Bool) (f : Nat), s = .bool b ∧ fv = .int .u64 (f : Int) ∧ (b = true → f + 1 = x)) (fun _ _ i _ => en - (intOf i).toNat)
      case atStart => exact ⟨0, Nat.zero_le _, rfl, Gr.refl _, false, 0, rfl, rfl, fun h => by cases h⟩
      case round =>
        obtain ⟨k, hk, rfl, hb, b, f, rfl, rfl, hbf⟩ := hrel
        have b0 : wr.cell? ⟨w1.heap.size, 0, none⟩ = some (.slice ea en ec) := (hb.cell hs2).trans B0.out
        by_cases hlt : k < en
        · obtain ⟨g, rfl, hg, hev⟩ := Hrep.out.event Hen.out (by omega)
          have hkl : k < rp.evs.length := by rw [← Hen.out]; exact hlt
          obtain ⟨hcall, hst, hfit⟩ := Hev1.out k hkl
          have hans := Hrep.out.ans k hkl
          obtain ⟨V, hV⟩ : ∃ V, V = ers.getD k vv0 := ⟨_, rfl⟩
          rw [← hV] at hans
          obtain ⟨E, hE⟩ : ∃ E, E = evAt rp.evs k := ⟨_, rfl⟩
          have hcells : ∀ f, f < 8 → wr.cell? ⟨g, k * 8 + f, none⟩ = (evCells E V)[f]? := fun f hf => by rw [hb.cell hg, hev k f hlt hf, hE, hV]; rfl
          rw [← hE] at hcall hst hfit
          rw [show rp.evs.getD k ev0 = E from hE.symm] at hans
          obtain ⟨⟨la, lc, hlv, _⟩, ⟨ka, kc, hkv, _⟩⟩ := hans
          obtain ⟨c, iv, rs, st, ⟨er2, vl, li⟩, ky⟩ := E
          simp only at hcall hst hfit hlv hkv
          have e0 : wr.cell? ⟨g, k * 8, none⟩ = some (.int .i64 (c : Int)) := hcells 0 (by omega)
          have e1 : wr.cell? ⟨g, k * 8 + 1, none⟩ = some (.int .i64 (iv : Int)) := hcells 1 (by omega)
          have e2 : wr.cell? ⟨g, k * 8 + 2, none⟩ = some (.int .i64 (rs : Int)) := hcells 2 (by omega)
          have e3 : wr.cell? ⟨g, k * 8 + 3, none⟩ = some (.int .i64 (st : Int)) := hcells 3 (by omega)
          have e4 : wr.cell? ⟨g, k * 8 + 4, none⟩ = some (.int .i64 er2) := hcells 4 (by omega)
          have e5 : wr.cell? ⟨g, k * 8 + 5, none⟩ = some (.int .u64 (vl : Int)) := hcells 5 (by omega)
          have e6 : wr.cell? ⟨g, k * 8 + 6, none⟩ = some (.slice la li.length lc) := by rw [← hlv]; exact hcells 6 (by omega)
          have e7 : wr.cell? ⟨g, k * 8 + 7, none⟩ = some (.slice ka ky.length kc) := by rw [← hkv]; exact hcells 7 (by omega)
          obtain ⟨ln, hln⟩ : ∃ ln, ln = li.length := ⟨_, rfl⟩
          obtain ⟨kn, hkn⟩ : ∃ kn, kn = ky.length := ⟨_, rfl⟩
          rw [← hln] at e6
          rw [← hkn] at e7
          have l1 : (k : Int) < (en : Int) := by omega
          have l2 : (c : Int) < (calls.length : Int) := by omega
          have l3 : (st : Int) ≤ 2 := by omega
          have l4 : (0 : Int) ≤ (c : Int) := by omega
          have Hb := Lib.hid hb; have Hfit := Lib.hid hfit; have Hbf := Lib.hid hbf
          clear hcells hev hcall hst hfit hlv hkv hln hkn hE hV hb hbf hkl
          by_cases hr0 : rs = 0
          · subst hr0
            go_wp2
            go_roundw
            case rel => exact ⟨k + 1, by omega, by go_num, Gr.trans Hb.out (Gr.new _ _), b, f, rfl, rfl, Hbf.out⟩
            case measure => simp [intOf] <;> omega
          · have hr1 : ¬ ((rs : Int) = 0) := by omega
            by_cases he0 : er2 = 0
            · subst he0
              have hx := Hfit.out hr0 rfl
              try simp only at hx
              cases b with
              | false =>
                have Hx := Lib.hid hx
                clear hx hr0
                go_wp2_with fail
                go_quiet (fail)
                go_wp2
                go_roundw
                case rel => exact ⟨k + 1, by omega, by go_num, below_drewN (Gr.trans Hb.out (Gr.new _ _)) nq, true, vl, rfl, rfl, fun _ => Hx.out⟩
                case measure => simp [intOf] <;> omega
              | true =>
                have hfx := Hbf.out rfl
                obtain rfl : f = vl := by omega
                have Hx := Lib.hid hx
                clear hx hr0 hfx
                go_wp2_with fail
                go_quiet (fail)
                go_wp2
                go_roundw
                case rel => exact ⟨k + 1, by omega, by go_num, below_drewN (Gr.trans Hb.out (Gr.new _ _)) nq, true, f, rfl, rfl, fun _ => Hx.out⟩
                case measure => simp [intOf] <;> omega
            · have he1 : (er2 != 0) = true := by simp [he0]
              clear hr0
              go_wp2
              go_roundw
              case rel => exact ⟨k + 1, by omega, by go_num, Gr.trans Hb.out (Gr.new _ _), b, f, rfl, rfl, Hbf.out⟩
              case measure => simp [intOf] <;> omega
        · have l1 : ¬ (k : Int) < (en : Int) := by omega
          obtain rfl : k = en := by omega
          have Hb := Lib.hid hb; have Hbf := Lib.hid hbf
          clear hb hbf
          go_wp2
          go_loopw [13, 86] (fun pv i wq => ∃ q : Nat, q ≤ k ∧ i = .int .i64 q ∧ Below w2.heap.size w2 wq ∧ ∃ pb : Bool, pv = .bool pb ∧ (pb = true ∨ (b = true ∧ ∀ j, j < q → ¬ ((calls.getD (evAt rp.evs j).call d0).obj = 0 ∧ (calls.getD (evAt rp.evs j).call d0).kind = 0 ∧ (calls.getD (evAt rp.evs j).call d0).a = f)))) (fun _ i _ => k - (intOf i).toNat)
          case atStart =>
            refine ⟨0, Nat.zero_le _, rfl, Hb.out, !b, rfl, ?_⟩
            cases b with
            | false => exact .inl rfl
            | true => exact .inr ⟨rfl, fun j hj => by omega⟩
          case round =>
            obtain ⟨q, hq, rfl, hbq, pb, rfl, hpb⟩ := hrel
            have b1 : wr.cell? ⟨w1.heap.size, 0, none⟩ = some (.slice ea k ec) := (hbq.cell hs2).trans B0.out
            by_cases hlq : q < k
            · obtain ⟨g, rfl, hg, hev⟩ := Hrep.out.event Hen.out (by omega)
              have hql : q < rp.evs.length := by rw [← Hen.out]; exact hlq
              have hcall := (Hev1.out q hql).1
              obtain ⟨cI, hcI⟩ : ∃ cI, cI = (evAt rp.evs q).call := ⟨_, rfl⟩
              have e0 : wr.cell? ⟨g, q * 8, none⟩ = some (.int .i64 (cI : Int)) := by
                have h8 := hev q 0 hlq (by omega)
                rw [Nat.add_zero] at h8
                rw [hbq.cell hg, h8, hcI]; rfl
              rw [← hcI] at hcall
              obtain ⟨b9, off, rfl, y0, y1, y2, y3, y4, y5⟩ := call_at Hc.out.sl hcall (Gr.trans Hb02.out hbq)
              obtain ⟨C, hC⟩ : ∃ C, C = calls.getD cI Proofs.Ytkocgeedpinplaa.d0 := ⟨_, rfl⟩
              rw [← hC] at y0 y1 y2 y3 y4 y5
              have hCq : calls.getD (evAt rp.evs q).call Proofs.Ytkocgeedpinplaa.d0 = C := by rw [← hcI, hC]
              obtain ⟨th, ob, kd, a, bb, c3⟩ := C
              simp only at y0 y1 y2 y3 y4 y5
              have l1 : (q : Int) < (k : Int) := by omega
              have l2 : (cI : Int) < (calls.length : Int) := by omega
              have l4 : (0 : Int) ≤ (cI : Int) := by omega
              have Hbq := Lib.hid hbq; have HCq := Lib.hid hCq
              cases pb with
              | true =>
                clear hev hql hcall hcI hC hbq hCq hpb
                go_wp2
                go_roundw
                case rel => exact ⟨q + 1, by omega, by go_num, Gr.trans Hbq.out (Gr.new _ _), true, rfl, .inl rfl⟩
                case measure => simp [intOf] <;> omega
              | false =>
                rcases hpb with h9 | ⟨hbt, hno⟩
                · cases h9
                have Hno := Lib.hid hno; have Hbt := Lib.hid hbt
                clear hev hql hcall hcI hC hbq hCq hno hbt
                have next : ∀ {w' : World}, ¬ (ob = 0 ∧ kd = 0 ∧ a = f) → ∀ j, j < q + 1 → ¬ ((calls.getD (evAt rp.evs j).call Proofs.Ytkocgeedpinplaa.d0).obj = 0 ∧ (calls.getD (evAt rp.evs j).call Proofs.Ytkocgeedpinplaa.d0).kind = 0 ∧ (calls.getD (evAt rp.evs j).call Proofs.Ytkocgeedpinplaa.d0).a = f) := by
                  intro _ hnm j hj
                  rcases Nat.lt_or_ge j q with h1 | h1
                  · exact Hno.out j h1
                  · obtain rfl : j = q := by omega
                    rw [HCq.out]; exact hnm
                have Next := Lib.hid (@next w)
                clear next
                by_cases ho : ob = 0
                · by_cases hk0 : kd = 0
                  · by_cases ha : a = f
                    · subst ho hk0 ha
                      go_wp2
                      go_roundw
                      case rel => exact ⟨q + 1, by omega, by go_num, Gr.trans Hbq.out (Gr.new _ _), true, rfl, .inl rfl⟩
                      case measure => simp [intOf] <;> omega
                    · have ha2 : ¬ ((a : Int) = (f : Int)) := by omega
                      have Hn := Lib.hid (Next.out (fun h => ha h.2.2))
                      subst ho hk0
                      clear ha
                      go_wp2
                      go_roundw
                      case rel => exact ⟨q + 1, by omega, by go_num, Gr.trans Hbq.out (Gr.new _ _), _, rfl, .inr ⟨Hbt.out, Hn.out⟩⟩
                      case measure => simp [intOf] <;> omega
                  · have Hn := Lib.hid (Next.out (fun h => hk0 h.2.1))
                    subst ho
                    go_wp2
                    go_roundw
                    case rel => exact ⟨q + 1, by omega, by go_num, Gr.trans Hbq.out (Gr.new _ _), _, rfl, .inr ⟨Hbt.out, Hn.out⟩⟩
                    case measure => simp [intOf] <;> omega
                · have Hn := Lib.hid (Next.out (fun h => ho h.1))
                  go_wp2
                  go_roundw
                  case rel => exact ⟨q + 1, by omega, by go_num, Gr.trans Hbq.out (Gr.new _ _), _, rfl, .inr ⟨Hbt.out, Hn.out⟩⟩
                  case measure => simp [intOf] <;> omega
            · have l1 : ¬ (q : Int) < (k : Int) := by omega
              obtain rfl : q = k := by omega
              have hpt : pb = true := by
                rcases hpb with h9 | ⟨hbt, hno⟩
                · exact h9
                · exfalso
                  have hx := Hbf.out hbt
                  obtain ⟨j, j1, j2, j3, j4⟩ := Hprop.out (by omega)
                  exact hno j (by rw [Hen.out]; exact j1) ⟨j2, j3, by omega⟩
              subst hpt
              have Hbq := Lib.hid hbq
              clear hbq hpb
              go_wp2_with (go_at_call 37; refine (T.out _).mono ?_; rintro e w' ⟨rfl, hb⟩)
              go_ret
              exact ⟨rfl, Gr.trans Hb02.out (Gr.trans Hbq.out hb)⟩
    · have Her0 := Lib.hid her0
      have hn0 : ¬ er = 0 := her0
      go_enter Try.func9, Try.ntmps9
      go_wp2_with (go_at_call 28; refine (HM.out).mono ?_; rintro e w' ⟨rfl, rfl⟩)
      refine HP.out.mono ?_
      rintro e w1 ⟨ea, en, ec, va, vn, vc, rp, rfl, hb1, hr⟩
      rcases hr with ⟨_, rfl, rfl, rfl, rfl, rfl, rfl, rfl⟩ | ⟨h0, _⟩
      · unfold repV
        have N := Lib.hid none_true
        go_wp2_with (first | (go_at_call 31; refine (N.out _).mono ?_; rintro e w2 ⟨rfl, hb2⟩) | (go_at_call 37; refine (T.out _).mono ?_; rintro e w' ⟨rfl, hb⟩))
        go_ret
        exact ⟨rfl, Gr.trans hb1 (Gr.trans (Gr.new _ _) (Gr.trans hb2 hb))⟩
      · exact absurd h0 her0
end Go.Proofs.Ytkocgeedpinplaa
