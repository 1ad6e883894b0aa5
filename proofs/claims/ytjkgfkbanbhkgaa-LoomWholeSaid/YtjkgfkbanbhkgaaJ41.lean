/- A report's events, as the laws' checks meet them. -/
import Derived.Test.YtjkgfkbanbhkgaaJ25
import Derived.Test.YtjkgfkbanbhkgaaJ22
import Derived.Test.YtjkgfkbanbhkgaaJ28
import Derived.Test.YtjkgfkbanbhkgaaJ34
import Derived.Test.YtjkgfkbanbhkgaaJ02
import Derived.Deep.QuietTactic
set_option maxRecDepth 100000
set_option linter.unusedVariables false
set_option linter.unusedSimpArgs false
set_option linter.unnecessarySimpa false
namespace Go.Proofs.Ytjkgfkbanbhkgaa
section
open Go.RowKit

theorem RepAt.ev8 {X : Nat → Prop} {B : Nat} {w wr : World} {ea : Option Addr} {en ec : Nat} {wv : Value} {ers : List (Value × Value)} {r : RepD} (h : RepAt X B w (.slice ea en ec) wv ers r) (hn : en = r.evs.length) {k : Nat} (hk : k < en) (hb : Below w.heap.size w wr) :
    ∃ g la lc ka kc, ea = some ⟨g, 0, none⟩ ∧ g < wr.heap.size ∧
      wr.cell? ⟨g, k * 8, none⟩ = some (.int .i64 ((evAt r.evs k).call : Int)) ∧ wr.cell? ⟨g, k * 8 + 1, none⟩ = some (.int .i64 ((evAt r.evs k).inv : Int)) ∧ wr.cell? ⟨g, k * 8 + 2, none⟩ = some (.int .i64 ((evAt r.evs k).resp : Int)) ∧ wr.cell? ⟨g, k * 8 + 3, none⟩ = some (.int .i64 ((evAt r.evs k).steps : Int)) ∧
      wr.cell? ⟨g, k * 8 + 4, none⟩ = some (.int .i64 (evAt r.evs k).ans.err) ∧ wr.cell? ⟨g, k * 8 + 5, none⟩ = some (.int .u64 ((evAt r.evs k).ans.val : Int)) ∧ wr.cell? ⟨g, k * 8 + 6, none⟩ = some (.slice la (evAt r.evs k).ans.list.length lc) ∧ wr.cell? ⟨g, k * 8 + 7, none⟩ = some (.slice ka (evAt r.evs k).key.length kc) ∧
      SlAt wr la (evAt r.evs k).ans.list.length 1 (u64G (evAt r.evs k).ans.list) ∧ SlAt wr ka (evAt r.evs k).key.length 1 (intG (evAt r.evs k).key) ∧ ((evAt r.evs k).key = [] → ka = none ∧ kc = 0) := by
  obtain ⟨g, rfl, hg, hev⟩ := h.event hn (by omega)
  have hans := h.ans k (by rw [← hn]; exact hk)
  obtain ⟨V, hV⟩ : ∃ V, V = ers.getD k vv0 := ⟨_, rfl⟩
  rw [← hV] at hans
  obtain ⟨⟨la, lc, hlv, hls, _⟩, ⟨ka, kc, hkv, hkn, hks, _⟩⟩ := hans
  have hcells : ∀ f, f < 8 → wr.cell? ⟨g, k * 8 + f, none⟩ = (evCells (evAt r.evs k) V)[f]? := fun f hf => by rw [hb.cell hg, hev k f hk hf, hV]; rfl
  refine ⟨g, la, lc, ka, kc, rfl, Nat.lt_of_lt_of_le hg hb.size, hcells 0 (by omega), hcells 1 (by omega), hcells 2 (by omega), hcells 3 (by omega), hcells 4 (by omega), hcells 5 (by omega), ?_, ?_, hls.grown hb, hks.grown hb, fun h0 => ?_⟩
  · rw [hcells 6 (by omega)]; exact congrArg some hlv
  · rw [hcells 7 (by omega)]; exact congrArg some hkv
  · have := hkn h0
    rw [hkv] at this
    simp only [Value.slice.injEq] at this
    exact ⟨this.1, this.2.2⟩
theorem cnt_take_succ (P : EvD → Bool) (l : List EvD) (j : Nat) (hj : j < l.length) : cnt P (l.take (j + 1)) = cnt P (l.take j) + (if P (evAt l j) then 1 else 0) := by
  rw [List.take_succ_eq_append_getElem hj, cnt_append, cnt_cons, cnt_nil, Nat.add_zero]
  congr 2
  unfold evAt
  rw [List.getD_eq_getElem?_getD, List.getElem?_eq_getElem hj, Option.getD_some]

set_option maxHeartbeats 4000000 in
theorem most_true {X : Nat → Prop} {B : Nat} (w : World) (m : Nat) (ea va : Option Addr) (en ec vn vc : Nat) (ers : List (Value × Value)) (rp : RepD) (hrep : RepAt X B w (.slice ea en ec) (.slice va vn vc) ers rp) (hen : en = rp.evs.length) (hlen : rp.evs.length < 1000000) (hm : ∀ i, i < rp.evs.length → (evAt rp.evs i).steps ≤ m) :
    Calls Try.prog 30 #[repV (.slice ea en ec) (.slice va vn vc) rp, .int .i64 (m : Int)] w fun e w' => e = .returned (.bool true) ∧ Below w.heap.size w w' := by
  obtain ⟨wa, hwa⟩ : ∃ wa, wa = w.alloc (.cells #[.slice ea en ec, .slice va vn vc, .int .i64 (rp.c.read : Int), .int .i64 (rp.c.write : Int), .int .i64 (rp.c.swap : Int), .int .i64 (rp.c.add : Int), .int .i64 (rp.c.fault : Int), .int .i64 (rp.ticks : Int), .int .i64 (rp.idle : Int)] 32) := ⟨_, rfl⟩
  have hga : Below w.heap.size w wa := by rw [hwa]; exact Gr.new _ _
  have hba : wa.heap[w.heap.size]? = some (.cells #[.slice ea en ec, .slice va vn vc, .int .i64 (rp.c.read : Int), .int .i64 (rp.c.write : Int), .int .i64 (rp.c.swap : Int), .int .i64 (rp.c.add : Int), .int .i64 (rp.c.fault : Int), .int .i64 (rp.ticks : Int), .int .i64 (rp.idle : Int)] 32 (0, 0)) := by rw [hwa]; exact heap_alloc_new _ _
  have a0 : wa.cell? ⟨w.heap.size, 0, none⟩ = some (.slice ea en ec) := by rw [cell_blk hba]; rfl
  have hlt0 := blk_lt hba
  have henl : en ≤ 9223372036854775807 := by omega
  have Hrep := Lib.hid hrep; have Hen := Lib.hid hen; have Hm := Lib.hid hm; have Hga := Lib.hid hga; have A0 := Lib.hid a0; have Hlt0 := Lib.hid hlt0; have Hwa := Lib.hid hwa
  clear hrep hen hm hga hba hlt0 hwa hlen
  unfold repV
  go_enter Try.func30, Try.ntmps30
  go_wp2_with fail
  rw [← Hwa.out]
  go_wp2
  go_loopw [9] (fun i wr => ∃ k : Nat, k ≤ en ∧ i = .int .i64 k ∧ Below wa.heap.size wa wr) (fun i _ => en - (intOf i).toNat)
  case atStart => exact ⟨0, Nat.zero_le _, rfl, Gr.refl _⟩
  case round =>
    obtain ⟨k, hk, rfl, hb⟩ := hrel
    have b0 : wr.cell? ⟨w.heap.size, 0, none⟩ = some (.slice ea en ec) := (hb.cell Hlt0.out).trans A0.out
    by_cases hlt : k < en
    · obtain ⟨g, la, lc, ka, kc, rfl, hg, e0, e1, e2, e3, e4, e5, e6, e7, hls, hks, hkn⟩ := Hrep.out.ev8 Hen.out hlt (Gr.trans Hga.out hb)
      have hs := Hm.out k (by rw [← Hen.out]; exact hlt)
      obtain ⟨st, hst⟩ : ∃ st, st = (evAt rp.evs k).steps := ⟨_, rfl⟩
      rw [← hst] at e3 hs
      have l1 : (k : Int) < (en : Int) := by omega
      have l2 : (st : Int) ≤ (m : Int) := by omega
      have Hb := Lib.hid hb
      clear e0 e1 e2 e4 e5 e6 e7 hls hks hst hs hb hg hkn
      go_wp2
      go_roundw
      case rel => exact ⟨k + 1, by omega, by go_num, Hb.out⟩
      case measure => simp [intOf] <;> omega
    · have l1 : ¬ (k : Int) < (en : Int) := by omega
      have Hb := Lib.hid hb
      clear hb
      go_wp2
      go_ret
      exact ⟨rfl, Gr.trans Hga.out Hb.out⟩
end
section

/- Layer 13: what those that take and give back get (13.3 to 13.5), in plain numbers; the walk of 'is'. -/
open Go.RowKit

/-- Places that a thread took, and that were given back to it, ahead of a tick. -/
def fT (calls : List CallD) (T : Int) (t : Nat) (e : EvD) : Bool := decide (e.resp < t) && pIs calls 0 e && decide ((calls.getD e.call d0).thread = T)
def fG (k : Nat) (calls : List CallD) (T : Int) (t : Nat) (e : EvD) : Bool := decide (e.resp < t) && pIs calls 1 e && decide ((((argOf calls e % 1024 - 2) / k : Nat) : Int) = T)
structure PoGood (n k : Nat) (calls : List CallD) (evs : List EvD) : Prop where
  call : ∀ i, i < evs.length → (evAt evs i).call < calls.length
  tt : ∀ i j, i < evs.length → j < evs.length → i ≠ j → pIs calls 0 (evAt evs i) = true → pIs calls 0 (evAt evs j) = true → (evAt evs i).ans.val % 1024 = (evAt evs j).ans.val % 1024 →
    (evAt evs j).ans.val ≠ (evAt evs i).ans.val ∧ ((evAt evs i).resp < (evAt evs j).resp ∨ ∃ m, m < evs.length ∧ pIs calls 1 (evAt evs m) = true ∧ argOf calls (evAt evs m) = (evAt evs j).ans.val ∧ (evAt evs m).resp < (evAt evs i).resp)
  gg : ∀ i j, i < evs.length → j < evs.length → i ≠ j → pIs calls 1 (evAt evs i) = true → pIs calls 1 (evAt evs j) = true → argOf calls (evAt evs j) ≠ argOf calls (evAt evs i)
  gt : ∀ i, i < evs.length → pIs calls 1 (evAt evs i) = true → ∃ j, j < evs.length ∧ pIs calls 0 (evAt evs j) = true ∧ (evAt evs j).resp < (evAt evs i).resp ∧ (evAt evs j).ans.val = argOf calls (evAt evs i)
  steps : ∀ i, i < evs.length → (evAt evs i).steps ≤ k + 1
  full : ∀ i, i < evs.length → (evAt evs i).ans.err = 6 → cnt (fT calls (calls.getD (evAt evs i).call d0).thread (evAt evs i).inv) evs = cnt (fG k calls (calls.getD (evAt evs i).call d0).thread (evAt evs i).inv) evs + k
  place : ∀ i, i < evs.length → pIs calls 1 (evAt evs i) = true → 2 ≤ argOf calls (evAt evs i) % 1024
theorem div_at {a k t : Nat} (hk : 1 ≤ k) : a / k = t ↔ t * k ≤ a ∧ a < t * k + k := by
  constructor
  · rintro rfl
    have h1 := Nat.div_mul_le_self a k
    have h2 := Nat.lt_div_mul_add (a := a) (b := k) (by omega)
    omega
  · rintro ⟨h1, h2⟩
    have h3 : t ≤ a / k := (Nat.le_div_iff_mul_le (by omega)).2 h1
    have h4 : a / k < t + 1 := by
      rw [Nat.div_lt_iff_lt_mul (by omega), Nat.succ_mul]; exact h2
    omega
theorem po_steps {n k : Nat} {calls : List CallD} {st : PlayD (poolS n k)} (hg : StGood calls st) (h : PoInv n k calls st) {i : Nat} (hi : i < st.evs.length) : (evAt st.evs i).steps ≤ k + 1 := by
  by_cases hr : (evAt st.evs i).resp = 0
  · have ho := (hg.ev.open_ i hi hr).2
    unfold hndOf at ho
    obtain ⟨p, hp⟩ : ∃ p, p = tn calls (evAt st.evs i) := ⟨_, rfl⟩
    rw [← hp] at ho
    cases hh : st.hands.getD p (none, 0) with
    | mk m j =>
      rw [hh] at ho
      cases m with
      | none => simp at ho
      | some s =>
        simp only [Option.isSome_some, if_true, Option.some.injEq] at ho
        subst ho
        obtain ⟨_, g2⟩ := h.hand p s j hh
        match s, g2 with
        | .take a f m free r, ⟨b1, b2, b3, _, _, _, _, b8⟩ =>
          cases free with
          | true => simp only [if_true] at b8; omega
          | false => simp only [Bool.false_eq_true, if_false] at b8; omega
  · exact (h.done i hi hr).1
theorem po_report {n k : Nat} (hk1 : 1 ≤ k) (hk2 : k ≤ 32) {calls : List CallD} {np : Nat} (hck : checkN n calls np = 0) (picks : List Int) :
    (playD (poolS n k) () (List.replicate (n * k) 0) calls picks).evs.length ≤ picks.length ∧ PoGood n k calls (playD (poolS n k) () (List.replicate (n * k) 0) calls picks).evs := by
  obtain ⟨z1, z2⟩ := n_ok hck
  have hnk : n * k ≤ 512 := by
    have : n * k ≤ 16 * 32 := Nat.mul_le_mul (by omega) hk2
    omega
  obtain ⟨hg, h, hnow⟩ := po_picks hk1 hk2 hck picks
  obtain ⟨st, hst⟩ : ∃ st, st = picksD (poolS n k) calls (play0 (poolS n k) () (List.replicate (n * k) 0) calls) picks := ⟨_, rfl⟩
  rw [← hst] at hg h hnow
  have hE : (playD (poolS n k) () (List.replicate (n * k) 0) calls picks).evs = endD (poolS n k) st := by rw [hst]; rfl
  rw [hE]
  have hlen := end_length (calls := calls) hg
  obtain ⟨e1, e2⟩ := end_same st (fun _ _ _ _ => rfl) (List.range 16) st.evs
  have hev := hg.ev.len_le
  have hsame : ∀ i, (evAt (endD (poolS n k) st) i).call = (evAt st.evs i).call ∧ (evAt (endD (poolS n k) st) i).inv = (evAt st.evs i).inv ∧ (evAt (endD (poolS n k) st) i).resp = (evAt st.evs i).resp ∧ (evAt (endD (poolS n k) st) i).steps = (evAt st.evs i).steps ∧ (evAt (endD (poolS n k) st) i).ans = (evAt st.evs i).ans := e2
  have hp : ∀ kd i, pIs calls kd (evAt (endD (poolS n k) st) i) = pIs calls kd (evAt st.evs i) := fun kd i => by
    obtain ⟨s1, s2, s3, s4, s5⟩ := hsame i
    unfold pIs isK objOf kindOf; rw [s1, s3, s5]
  have ha : ∀ i, argOf calls (evAt (endD (poolS n k) st) i) = argOf calls (evAt st.evs i) := fun i => by unfold argOf; rw [(hsame i).1]
  have hr : ∀ i, (evAt (endD (poolS n k) st) i).resp = (evAt st.evs i).resp := fun i => (hsame i).2.2.1
  have hv : ∀ i, (evAt (endD (poolS n k) st) i).ans.val = (evAt st.evs i).ans.val := fun i => by rw [(hsame i).2.2.2.2]
  refine ⟨by omega, ⟨fun i hi => ?_, fun i j hi hj hij p1 p2 hm => ?_, fun i j hi hj hij p1 p2 => ?_, fun i hi p1 => ?_, fun i hi => ?_, fun i hi h6 => ?_, fun i hi p1 => ?_⟩⟩
  · rw [hlen] at hi
    rw [(hsame i).1]; exact hg.ev.call i hi
  · rw [hlen] at hi hj
    rw [hp] at p1 p2
    rw [hv, hv] at hm
    rw [hv, hv, hr, hr]
    obtain ⟨t1, t2⟩ := h.w.tt i j hi hj hij p1 p2 hm
    refine ⟨t1, t2.imp id ?_⟩
    rintro ⟨m, m1, m2, m3, m4⟩
    exact ⟨m, by rw [hlen]; exact m1, by rw [hp]; exact m2, by rw [ha]; exact m3, by rw [hr]; exact m4⟩
  · rw [hlen] at hi hj
    rw [hp] at p1 p2
    rw [ha, ha]
    exact h.w.gg i j hi hj hij p1 p2
  · rw [hlen] at hi
    rw [hp] at p1
    rw [ha, hr]
    obtain ⟨a, v, _, _, _, _, j, j1, j2, j3, j4⟩ := h.w.gives i hi p1
    exact ⟨j, by rw [hlen]; exact j1, by rw [hp]; exact j2, by rw [hr]; exact j3, by rw [hv]; exact j4⟩
  · rw [hlen] at hi
    rw [(hsame i).2.2.2.1]; exact po_steps hg h hi
  · rw [hlen] at hi
    obtain ⟨s1, s2, s3, s4, s5⟩ := hsame i
    rw [s5] at h6
    rw [s1, s2]
    have hT : ∀ T t, cnt (fT calls T t) (endD (poolS n k) st) = cnt (fT calls T t) st.evs := fun T t => cnt_same hlen (fun m hm => by unfold fT; rw [hp, hr, (hsame m).1])
    have hG : ∀ T t, cnt (fG k calls T t) (endD (poolS n k) st) = cnt (fG k calls T t) st.evs := fun T t => cnt_same hlen (fun m hm => by unfold fG; rw [hp, hr, ha])
    rw [hT, hG]
    have hrr : (evAt st.evs i).resp ≠ 0 := by
      intro h0
      have h9 := h.fresh i hi h0
      rw [h9] at h6; exact absurd h6 (by decide)
    have hd := (h.done i hi hrr).2 h6
    have hth := thr_ok hck _ (hg.ev.call i hi)
    have hT2 : (calls.getD (evAt st.evs i).call d0).thread = ((tn calls (evAt st.evs i) : Nat) : Int) := by unfold tn; omega
    rw [hT2]
    have c1 : cnt (fT calls ((tn calls (evAt st.evs i) : Nat) : Int) (evAt st.evs i).inv) st.evs = cnt (pRT calls (tn calls (evAt st.evs i) * k) (tn calls (evAt st.evs i) * k + k) (evAt st.evs i).inv) st.evs := by
      refine cnt_congr fun m hm => ?_
      unfold fT pRT
      cases hpm : pIs calls 0 (evAt st.evs m) with
      | false => simp
      | true =>
        obtain ⟨a, v, q1, q2, q3, q4, q5, _⟩ := h.w.takes m hm hpm
        have hthm := thr_ok hck _ (hg.ev.call m hm)
        rw [q5, poRef_mod (by omega)]
        have e : ((calls.getD (evAt st.evs m).call d0).thread = ((tn calls (evAt st.evs i) : Nat) : Int)) ↔ (tn calls (evAt st.evs i) * k + 2 ≤ a + 2 ∧ a + 2 < tn calls (evAt st.evs i) * k + k + 2) := by
          constructor
          · intro he
            have : tn calls (evAt st.evs m) = tn calls (evAt st.evs i) := by rw [show tn calls (evAt st.evs m) = (calls.getD (evAt st.evs m).call d0).thread.toNat from rfl, he]; simp
            rw [← this]; omega
          · rintro ⟨r1, r2⟩
            by_cases hne : tn calls (evAt st.evs m) = tn calls (evAt st.evs i)
            · rw [← hne]; unfold tn; omega
            · exact absurd rfl (rng_apart hne q2 q3 (by omega) (by omega))
        rw [decide_eq_decide.2 e, Bool.and_true, Bool.true_and, Bool.and_comm]
    have c2 : cnt (fG k calls ((tn calls (evAt st.evs i) : Nat) : Int) (evAt st.evs i).inv) st.evs = cnt (pRG calls (tn calls (evAt st.evs i) * k) (tn calls (evAt st.evs i) * k + k) (evAt st.evs i).inv) st.evs := by
      refine cnt_congr fun m hm => ?_
      unfold fG pRG
      cases hpm : pIs calls 1 (evAt st.evs m) with
      | false => simp
      | true =>
        obtain ⟨a, v, q1, q2, _⟩ := h.w.gives m hm hpm
        rw [q2, poRef_mod (by omega)]
        have e : ((((a + 2 - 2) / k : Nat) : Int) = ((tn calls (evAt st.evs i) : Nat) : Int)) ↔ (tn calls (evAt st.evs i) * k + 2 ≤ a + 2 ∧ a + 2 < tn calls (evAt st.evs i) * k + k + 2) := by
          have := div_at (a := a) (k := k) (t := tn calls (evAt st.evs i)) hk1
          rw [show a + 2 - 2 = a by omega]
          constructor
          · intro he
            have h9 := this.1 (by omega)
            omega
          · intro he
            have h9 := this.2 (by omega)
            omega
        rw [decide_eq_decide.2 e, Bool.and_true, Bool.true_and, Bool.and_comm]
    rw [c1, c2]; exact hd
  · rw [hlen] at hi
    rw [hp] at p1
    rw [ha]
    obtain ⟨a, v, q1, q2, _⟩ := h.w.gives i hi p1
    rw [q2, poRef_mod (by omega)]; omega
/-- What 'is' tells. -/
def isV (calls : List CallD) (cI rs : Nat) (er kd : Int) : Bool := decide ((calls.getD cI d0).obj = 0) && decide ((calls.getD cI d0).kind = kd) && decide (rs ≠ 0) && decide (er = 0)
theorem isV_pIs {calls : List CallD} {e : EvD} {kd : Int} : isV calls e.call e.resp e.ans.err kd = pIs calls kd e := rfl
set_option maxHeartbeats 4000000 in
theorem is_any {w0 : World} {ca : Option Addr} {calls : List CallD} (hs : SlAt w0 ca calls.length 6 (callG calls)) (cc cI iv rs st : Nat) (er : Int) (vl : Nat) (x6 x7 : Value) (kd : Int) (hc : cI < calls.length) (w : World) (hb : Below w0.heap.size w0 w) :
    Calls Try.prog 42 #[.slice ca calls.length cc, .agg #[.int .i64 (cI : Int), .int .i64 (iv : Int), .int .i64 (rs : Int), .int .i64 (st : Int), .int .i64 er, .int .u64 (vl : Int), x6, x7], .int .i64 kd] w fun e w' => e = .returned (.bool (isV calls cI rs er kd)) ∧ Below w.heap.size w w' := by
  obtain ⟨b9, off, rfl, y0, y1, y2, y3, y4, y5⟩ := call_at hs hc hb
  have hb9 := World.block_lt_of_cell? _ _ y1
  obtain ⟨V, hV⟩ : ∃ V, V = isV calls cI rs er kd := ⟨_, rfl⟩
  rw [← hV]
  unfold isV at hV
  obtain ⟨C, hC⟩ : ∃ C, C = calls.getD cI Proofs.Ytjkgfkbanbhkgaa.d0 := ⟨_, rfl⟩
  rw [← hC] at y1 y2 hV
  obtain ⟨th, ob, k0, ca1, cb1, cc1⟩ := C
  simp only at y1 y2 hV
  have hcm := hs.1
  unfold maxLen at hcm
  have l1 : (cI : Int) < (calls.length : Int) := by omega
  have l2 : (0 : Int) ≤ (cI : Int) := by omega
  have l3 : ¬ (cI : Int) < 0 := by omega
  obtain ⟨w2, hw2⟩ : ∃ w2, w2 = w.alloc (.cells #[.int .i64 (cI : Int), .int .i64 (iv : Int), .int .i64 (rs : Int), .int .i64 (st : Int), .int .i64 er, .int .u64 (vl : Int), x6, x7] 50) := ⟨_, rfl⟩
  have hb2 : Below w.heap.size w w2 := by rw [hw2]; exact Gr.new _ _
  have hx2 : w2.heap[w.heap.size]? = some (.cells #[.int .i64 (cI : Int), .int .i64 (iv : Int), .int .i64 (rs : Int), .int .i64 (st : Int), .int .i64 er, .int .u64 (vl : Int), x6, x7] 50 (0, 0)) := by rw [hw2]; exact heap_alloc_new _ _
  have z1 := (hb2.cell hb9).trans y1
  have z2 := (hb2.cell (World.block_lt_of_cell? _ _ y2)).trans y2
  have x0 : w2.cell? ⟨w.heap.size, 0, none⟩ = some (.int .i64 (cI : Int)) := by rw [cell_blk hx2]; rfl
  have x2 : w2.cell? ⟨w.heap.size, 2, none⟩ = some (.int .i64 (rs : Int)) := by rw [cell_blk hx2]; rfl
  have x4 : w2.cell? ⟨w.heap.size, 4, none⟩ = some (.int .i64 er) := by rw [cell_blk hx2]; rfl
  have Hw2 := Lib.hid hw2; have Hb2 := Lib.hid hb2
  clear hs hb y0 y1 y2 y3 y4 y5 hC hw2 hb2 hx2 hc hb9
  by_cases o0 : ob = 0
  · by_cases e0 : k0 = kd
    · by_cases r0 : rs = 0
      · have hV2 : V = false := by rw [hV, decide_eq_false (show ¬ rs ≠ 0 by omega)]; simp
        have r2 : ((rs : Int) != 0) = false := by simpa using r0
        subst o0 e0 hV2
        clear hV r0
        go_enter Try.func42, Try.ntmps42
        go_upto_region 1 with fail
        rw [← Hw2.out]
        go_wp2
        go_ret
        exact ⟨rfl, Hb2.out⟩
      · have r1 : ¬ (rs : Int) = 0 := by omega
        have r2 : ((rs : Int) != 0) = true := by simpa using r0
        by_cases f0 : er = 0
        · have hV2 : V = true := by rw [hV, decide_eq_true o0, decide_eq_true e0, decide_eq_true r0, decide_eq_true f0]; rfl
          subst o0 e0 f0 hV2
          clear hV
          go_enter Try.func42, Try.ntmps42
          go_upto_region 1 with fail
          rw [← Hw2.out]
          go_wp2
          go_ret
          exact ⟨rfl, Hb2.out⟩
        · have hV2 : V = false := by rw [hV, decide_eq_false f0]; simp
          have f1 : (er == 0) = false := by simpa using f0
          subst o0 e0 hV2
          clear hV
          go_enter Try.func42, Try.ntmps42
          go_upto_region 1 with fail
          rw [← Hw2.out]
          go_wp2
          go_ret
          exact ⟨rfl, Hb2.out⟩
    · have hV2 : V = false := by rw [hV, decide_eq_false e0]; simp
      have f1 : (k0 == kd) = false := by simpa using e0
      subst o0 hV2
      clear hV
      go_enter Try.func42, Try.ntmps42
      go_upto_region 1 with fail
      rw [← Hw2.out]
      go_wp2
      go_ret
      exact ⟨rfl, Hb2.out⟩
  · have hV2 : V = false := by rw [hV, decide_eq_false o0]; simp
    have f1 : (ob == 0) = false := by simpa using o0
    subst hV2
    clear hV
    go_enter Try.func42, Try.ntmps42
    go_upto_region 1 with fail
    rw [← Hw2.out]
    go_wp2
    go_ret
    exact ⟨rfl, Hb2.out⟩
end
section

/- Regions that draw their order, whose operations only read, and whose calls leave what was there: one walk in the order of the text serves every order. -/
open Go.RowKit

/-- The worlds in which all that is in w is as it is in w. -/
structure GrownOf (w : World) where
  u : World
  below : Below w.heap.size w u
instance grownOf_nonempty (w : World) : Nonempty (GrownOf w) := ⟨⟨w, Below.refl _ _⟩⟩
theorem wp_region_grown_lit {P : Program} {id : Nat} {Q : Exit → Act → World → Prop} {a : Act} {w : World} {l : List Oper} (hm : P.follows .mixedOrders = true) (hB : Region.lexB .any l.toArray = true)
    (h : wpQuiet P l.toArray (fun w' => ∃ n : GrownOf w, w' = n.u) (fun a' => ∀ w', (∃ n : GrownOf w, w' = n.u) → Q .normal a' w') l a) : (Code.region id l.toArray true).wp P Q a w :=
  wp_region_quiet (C := fun w' => ∃ n : GrownOf w, w' = n.u) hm hB ⟨⟨_, (Below.refl w.heap.size w).drew⟩, rfl⟩ (by simpa using h)
theorem grown_cell {w : World} {p : Addr} {v : Value} (h : w.cell? p = some v) : ∀ n : GrownOf w, n.u.cell? p = some v := fun n => (n.below.cell (World.block_lt_of_cell? _ _ h)).trans h
theorem grown_frozen {w : World} {p : Addr} {b : Bool} (hp : p.block < w.heap.size) (h : w.frozen? p = b) : ∀ n : GrownOf w, n.u.frozen? p = b := fun n => (n.below.frozen hp).trans h
theorem quietG {P : Program} {f : FuncId} {args : Array Value} {w : World} {n : GrownOf w} {v : Value}
    (h : Calls P f args n.u fun e w' => e = .returned v ∧ Below n.u.heap.size n.u w') : Calls P f args n.u fun e w'' => e = .returned v ∧ ∃ m : GrownOf w, w'' = m.u :=
  h.mono fun _ w' ⟨he, hb⟩ => ⟨he, ⟨w', Gr.trans n.below hb⟩, rfl⟩
theorem quietGS {P : Program} {f : FuncId} {args : Array Value} {w : World} {n : GrownOf w} {v : Value}
    (h : Calls P f args n.u fun e w' => e = .returned v ∧ n.u = w') : Calls P f args n.u fun e w'' => e = .returned v ∧ ∃ m : GrownOf w, w'' = m.u :=
  h.mono fun _ w' ⟨he, hb⟩ => ⟨he, n, hb.symm⟩
/-- Blocks that are made one behind the other. -/
theorem allocs_below (w : World) : ∀ l : List Obj, Below w.heap.size w (l.foldl World.alloc w) := by
  have : ∀ (l : List Obj) (u : World), Below w.heap.size w u → Below w.heap.size w (l.foldl World.alloc u) := by
    intro l
    induction l with
    | nil => intro u h; exact h
    | cons o l ih => intro u h; exact ih _ (Gr.alloc h o)
  exact fun l => this l w (Gr.refl w)
theorem allocs_get : ∀ (l : List Obj) (w : World) (k : Nat) (o : Obj), l[k]? = some o → (l.foldl World.alloc w).heap[w.heap.size + k]? = some o
  | [], _, k, _, h => by simp at h
  | x :: l, w, 0, o, h => by
    rw [List.foldl_cons, (allocs_below (w.alloc x) l).block _ (by simp)]
    simp only [List.getElem?_cons_zero, Option.some.injEq] at h
    subst h
    exact heap_alloc_new _ _
  | x :: l, w, k + 1, o, h => by
    rw [List.foldl_cons]
    have := allocs_get l (w.alloc x) k o (by simpa using h)
    rw [World.size_alloc] at this
    rw [show w.heap.size + (k + 1) = w.heap.size + 1 + k by omega]
    exact this
end
end Go.Proofs.Ytjkgfkbanbhkgaa
