/- A report's events, as the laws' checks meet them. -/
import Derived.Test.YtkocgeedpinplaaJ32
import Derived.Test.YtkocgeedpinplaaJ29
import Derived.Test.YtkocgeedpinplaaJ36
set_option maxRecDepth 100000
set_option linter.unusedVariables false
set_option linter.unusedSimpArgs false
set_option linter.unnecessarySimpa false
namespace Go.Proofs.Ytkocgeedpinplaa
open Go.RowKit

theorem RepAt.ev8 {X : Nat → Prop} {B : Nat} {w wr : World} {ea : Option Addr} {en ec : Nat} {wv : Value} {ers : List (Value × Value)} {r : RepD} (h : RepAt X B w (.slice ea en ec) wv ers r) (hn : en = r.evs.length) {k : Nat} (hk : k < en) (hb : Below w.heap.size w wr) :
    ∃ g la lc ka kc, ea = some ⟨g, 0, none⟩ ∧ g < wr.heap.size ∧
      wr.cell? ⟨g, k * 8, none⟩ = some (.int .i64 ((evAt r.evs k).call : Int)) ∧ wr.cell? ⟨g, k * 8 + 1, none⟩ = some (.int .i64 ((evAt r.evs k).inv : Int)) ∧ wr.cell? ⟨g, k * 8 + 2, none⟩ = some (.int .i64 ((evAt r.evs k).resp : Int)) ∧ wr.cell? ⟨g, k * 8 + 3, none⟩ = some (.int .i64 ((evAt r.evs k).steps : Int)) ∧
      wr.cell? ⟨g, k * 8 + 4, none⟩ = some (.int .i64 (evAt r.evs k).ans.err) ∧ wr.cell? ⟨g, k * 8 + 5, none⟩ = some (.int .u64 ((evAt r.evs k).ans.val : Int)) ∧ wr.cell? ⟨g, k * 8 + 6, none⟩ = some (.slice la (evAt r.evs k).ans.list.length lc) ∧ wr.cell? ⟨g, k * 8 + 7, none⟩ = some (.slice ka (evAt r.evs k).key.length kc) ∧
      SlAt wr la (evAt r.evs k).ans.list.length 1 (u64G (evAt r.evs k).ans.list) ∧ SlAt wr ka (evAt r.evs k).key.length 1 (intG (evAt r.evs k).key) ∧ ((evAt r.evs k).key = [] → ka = none ∧ kc = 0) := by
  obtain ⟨g, rfl, hg, hev⟩ := h.event hn (by omega)
  have hans := h.ans k (by rw [← hn]; exact hk)
  obtain ⟨V, hV⟩ : ∃ V, V = ers.getD k vv0 := ⟨_, rfl⟩
  rw [← hV] at hans
  obtain ⟨⟨la, lc, hlv, hls, _⟩, ⟨ka, kc, hkv, hkn, hks, _⟩⟩ := hans
  have hcells : ∀ f, f < 8 → wr.cell? ⟨g, k * 8 + f, none⟩ = (evCells (evAt r.evs k) V)[f]? := fun f hf => by rw [hb.cell hg, hev k f hk hf, hV]; rfl
  refine ⟨g, la, lc, ka, kc, rfl, Nat.lt_of_lt_of_le hg hb.size, hcells 0 (by omega), hcells 1 (by omega), hcells 2 (by omega), hcells 3 (by omega), hcells 4 (by omega), hcells 5 (by omega), ?_, ?_, hls.grown hb, hks.grown hb, fun h0 => ?_⟩
  · rw [hcells 6 (by omega)]; exact congrArg some hlv
  · rw [hcells 7 (by omega)]; exact congrArg some hkv
  · have := hkn h0
    rw [hkv] at this
    simp only [Value.slice.injEq] at this
    exact ⟨this.1, this.2.2⟩
theorem cnt_take_succ (P : EvD → Bool) (l : List EvD) (j : Nat) (hj : j < l.length) : cnt P (l.take (j + 1)) = cnt P (l.take j) + (if P (evAt l j) then 1 else 0) := by
  rw [List.take_succ_eq_append_getElem hj, cnt_append, cnt_cons, cnt_nil, Nat.add_zero]
  congr 2
  unfold evAt
  rw [List.getD_eq_getElem?_getD, List.getElem?_eq_getElem hj, Option.getD_some]

set_option maxHeartbeats 4000000 in
theorem most_true {X : Nat → Prop} {B : Nat} (w : World) (m : Nat) (ea va : Option Addr) (en ec vn vc : Nat) (ers : List (Value × Value)) (rp : RepD) (hrep : RepAt X B w (.slice ea en ec) (.slice va vn vc) ers rp) (hen : en = rp.evs.length) (hlen : rp.evs.length < 1000000) (hm : ∀ i, i < rp.evs.length → (evAt rp.evs i).steps ≤ m) :
    Calls Try.prog 43 #[repV (.slice ea en ec) (.slice va vn vc) rp, .int .i64 (m : Int)] w fun e w' => e = .returned (.bool true) ∧ Below w.heap.size w w' := by
  obtain ⟨wa, hwa⟩ : ∃ wa, wa = w.alloc (.cells #[.slice ea en ec, .slice va vn vc, .int .i64 (rp.c.read : Int), .int .i64 (rp.c.write : Int), .int .i64 (rp.c.swap : Int), .int .i64 (rp.c.add : Int), .int .i64 (rp.c.fault : Int), .int .i64 (rp.ticks : Int), .int .i64 (rp.idle : Int)] 57) := ⟨_, rfl⟩
  have hga : Below w.heap.size w wa := by rw [hwa]; exact Gr.new _ _
  have hba : wa.heap[w.heap.size]? = some (.cells #[.slice ea en ec, .slice va vn vc, .int .i64 (rp.c.read : Int), .int .i64 (rp.c.write : Int), .int .i64 (rp.c.swap : Int), .int .i64 (rp.c.add : Int), .int .i64 (rp.c.fault : Int), .int .i64 (rp.ticks : Int), .int .i64 (rp.idle : Int)] 57 (0, 0)) := by rw [hwa]; exact heap_alloc_new _ _
  have a0 : wa.cell? ⟨w.heap.size, 0, none⟩ = some (.slice ea en ec) := by rw [cell_blk hba]; rfl
  have hlt0 := blk_lt hba
  have henl : en ≤ 9223372036854775807 := by omega
  have Hrep := Lib.hid hrep; have Hen := Lib.hid hen; have Hm := Lib.hid hm; have Hga := Lib.hid hga; have A0 := Lib.hid a0; have Hlt0 := Lib.hid hlt0; have Hwa := Lib.hid hwa
  clear hrep hen hm hga hba hlt0 hwa hlen
  unfold repV
  go_enter Try.func43, Try.ntmps43
  go_wp2_with fail
  rw [← Hwa.out]
  go_wp2
  go_loopw [9] (fun i wr => ∃ k : Nat, k ≤ en ∧ i = .int .i64 k ∧ Below wa.heap.size wa wr) (fun i _ => en - (intOf i).toNat)
  case atStart => exact ⟨0, Nat.zero_le _, rfl, Gr.refl _⟩
  case round =>
    obtain ⟨k, hk, rfl, hb⟩ := hrel
    have b0 : wr.cell? ⟨w.heap.size, 0, none⟩ = some (.slice ea en ec) := (hb.cell Hlt0.out).trans A0.out
    by_cases hlt : k < en
    · obtain ⟨g, la, lc, ka, kc, rfl, hg, e0, e1, e2, e3, e4, e5, e6, e7, hls, hks, hkn⟩ := Hrep.out.ev8 Hen.out hlt (Gr.trans Hga.out hb)
      have hs := Hm.out k (by rw [← Hen.out]; exact hlt)
      obtain ⟨st, hst⟩ : ∃ st, st = (evAt rp.evs k).steps := ⟨_, rfl⟩
      rw [← hst] at e3 hs
      have l1 : (k : Int) < (en : Int) := by omega
      have l2 : (st : Int) ≤ (m : Int) := by omega
      have Hb := Lib.hid hb
      clear e0 e1 e2 e4 e5 e6 e7 hls hks hst hs hb hg hkn
      go_wp2
      go_roundw
      case rel => exact ⟨k + 1, by omega, by go_num, Hb.out⟩
      case measure => simp [intOf] <;> omega
    · have l1 : ¬ (k : Int) < (en : Int) := by omega
      have Hb := Lib.hid hb
      clear hb
      go_wp2
      go_ret
      exact ⟨rfl, Gr.trans Hga.out Hb.out⟩
end Go.Proofs.Ytkocgeedpinplaa
