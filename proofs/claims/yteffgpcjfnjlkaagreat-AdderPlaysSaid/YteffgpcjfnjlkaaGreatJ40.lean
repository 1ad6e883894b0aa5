/- Two reports that say the same are alike: roundelayplain.Same. -/
import Derived.Test.YteffgpcjfnjlkaaGreatJ39
import Derived.Test.YteffgpcjfnjlkaaGreatJ30
import Derived.Test.YteffgpcjfnjlkaaGreatJ07
import Derived.BigQuiet
import Derived.Deep.Cut
import Derived.Test.YteffgpcjfnjlkaaGreatJ20
import Derived.Test.YteffgpcjfnjlkaaGreatJ29
import Derived.Test.YteffgpcjfnjlkaaGreatJ34
import Derived.Test.YteffgpcjfnjlkaaGreatJ16
import Derived.Test.YteffgpcjfnjlkaaGreatJ25
import Derived.Test.YteffgpcjfnjlkaaGreatJ35
set_option maxRecDepth 100000
set_option linter.unusedVariables false
set_option linter.unusedSimpArgs false
set_option linter.unnecessarySimpa false
namespace Go.Proofs.YteffgpcjfnjlkaaGreat
section
open Go.RowKit
set_option maxHeartbeats 8000000 in
theorem rsame_any {X Y : Nat → Prop} {B B' : Nat} (w : World) (ea ea2 va va2 : Option Addr) (en ec ec2 vn vc vc2 : Nat) (ers ers2 : List (Value × Value)) (rp : RepD) (hrep : RepAt X B w (.slice ea en ec) (.slice va vn vc) ers rp) (hrep2 : RepAt Y B' w (.slice ea2 en ec2) (.slice none 0 0) ers2 { rp with words := [] }) (hsw2 : SlAt w va2 vn 1 (u64G rp.words))
    (hen : en = rp.evs.length) (hvn : vn = rp.words.length) (hlen : rp.evs.length < 1000000) (hwl : rp.words.length < 1000000) :
    Calls Tryz.prog 15 #[repV (.slice ea en ec) (.slice va vn vc) rp, repV (.slice ea2 en ec2) (.slice va2 vn vc2) rp] w fun e w' => e = .returned (.bool true) ∧ Below w.heap.size w w' := by
  obtain ⟨wa, hwa⟩ : ∃ wa, wa = (w.alloc (.cells #[.slice ea en ec, .slice va vn vc, .int .i64 (rp.c.read : Int), .int .i64 (rp.c.write : Int), .int .i64 (rp.c.swap : Int), .int .i64 (rp.c.add : Int), .int .i64 (rp.c.fault : Int), .int .i64 (rp.ticks : Int), .int .i64 (rp.idle : Int)] 32)).alloc (.cells #[.slice ea2 en ec2, .slice va2 vn vc2, .int .i64 (rp.c.read : Int), .int .i64 (rp.c.write : Int), .int .i64 (rp.c.swap : Int), .int .i64 (rp.c.add : Int), .int .i64 (rp.c.fault : Int), .int .i64 (rp.ticks : Int), .int .i64 (rp.idle : Int)] 32) := ⟨_, rfl⟩
  have hga : Below w.heap.size w wa := by rw [hwa]; exact Gr.alloc (Gr.new _ _) _
  have hr1 : wa.heap[w.heap.size]? = some (.cells #[.slice ea en ec, .slice va vn vc, .int .i64 (rp.c.read : Int), .int .i64 (rp.c.write : Int), .int .i64 (rp.c.swap : Int), .int .i64 (rp.c.add : Int), .int .i64 (rp.c.fault : Int), .int .i64 (rp.ticks : Int), .int .i64 (rp.idle : Int)] 32 (0, 0)) := by rw [hwa, Below.heap_alloc _ _ _ (by simp)]; exact heap_alloc_new _ _
  have hr2 : wa.heap[w.heap.size + 1]? = some (.cells #[.slice ea2 en ec2, .slice va2 vn vc2, .int .i64 (rp.c.read : Int), .int .i64 (rp.c.write : Int), .int .i64 (rp.c.swap : Int), .int .i64 (rp.c.add : Int), .int .i64 (rp.c.fault : Int), .int .i64 (rp.ticks : Int), .int .i64 (rp.idle : Int)] 32 (0, 0)) := by
    rw [hwa]
    have := heap_alloc_new (w.alloc (.cells #[.slice ea en ec, .slice va vn vc, .int .i64 (rp.c.read : Int), .int .i64 (rp.c.write : Int), .int .i64 (rp.c.swap : Int), .int .i64 (rp.c.add : Int), .int .i64 (rp.c.fault : Int), .int .i64 (rp.ticks : Int), .int .i64 (rp.idle : Int)] 32)) (.cells #[.slice ea2 en ec2, .slice va2 vn vc2, .int .i64 (rp.c.read : Int), .int .i64 (rp.c.write : Int), .int .i64 (rp.c.swap : Int), .int .i64 (rp.c.add : Int), .int .i64 (rp.c.fault : Int), .int .i64 (rp.ticks : Int), .int .i64 (rp.idle : Int)] 32 (0, 0))
    simp only [World.size_alloc] at this
    exact this
  have hs1 : w.heap.size < wa.heap.size := blk_lt hr1
  have hs2 : w.heap.size + 1 < wa.heap.size := blk_lt hr2
  have r0 : wa.cell? ⟨w.heap.size, 0, none⟩ = some (.slice ea en ec) := by rw [cell_blk hr1]; rfl
  have r1 : wa.cell? ⟨w.heap.size, 1, none⟩ = some (.slice va vn vc) := by rw [cell_blk hr1]; rfl
  have r2 : wa.cell? ⟨w.heap.size, 2, none⟩ = some (.int .i64 (rp.c.read : Int)) := by rw [cell_blk hr1]; rfl
  have r3 : wa.cell? ⟨w.heap.size, 3, none⟩ = some (.int .i64 (rp.c.write : Int)) := by rw [cell_blk hr1]; rfl
  have r4 : wa.cell? ⟨w.heap.size, 4, none⟩ = some (.int .i64 (rp.c.swap : Int)) := by rw [cell_blk hr1]; rfl
  have r5 : wa.cell? ⟨w.heap.size, 5, none⟩ = some (.int .i64 (rp.c.add : Int)) := by rw [cell_blk hr1]; rfl
  have r6 : wa.cell? ⟨w.heap.size, 6, none⟩ = some (.int .i64 (rp.c.fault : Int)) := by rw [cell_blk hr1]; rfl
  have r7 : wa.cell? ⟨w.heap.size, 7, none⟩ = some (.int .i64 (rp.ticks : Int)) := by rw [cell_blk hr1]; rfl
  have r8 : wa.cell? ⟨w.heap.size, 8, none⟩ = some (.int .i64 (rp.idle : Int)) := by rw [cell_blk hr1]; rfl
  have s0 : wa.cell? ⟨w.heap.size + 1, 0, none⟩ = some (.slice ea2 en ec2) := by rw [cell_blk hr2]; rfl
  have s1 : wa.cell? ⟨w.heap.size + 1, 1, none⟩ = some (.slice va2 vn vc2) := by rw [cell_blk hr2]; rfl
  have s2 : wa.cell? ⟨w.heap.size + 1, 2, none⟩ = some (.int .i64 (rp.c.read : Int)) := by rw [cell_blk hr2]; rfl
  have s3 : wa.cell? ⟨w.heap.size + 1, 3, none⟩ = some (.int .i64 (rp.c.write : Int)) := by rw [cell_blk hr2]; rfl
  have s4 : wa.cell? ⟨w.heap.size + 1, 4, none⟩ = some (.int .i64 (rp.c.swap : Int)) := by rw [cell_blk hr2]; rfl
  have s5 : wa.cell? ⟨w.heap.size + 1, 5, none⟩ = some (.int .i64 (rp.c.add : Int)) := by rw [cell_blk hr2]; rfl
  have s6 : wa.cell? ⟨w.heap.size + 1, 6, none⟩ = some (.int .i64 (rp.c.fault : Int)) := by rw [cell_blk hr2]; rfl
  have s7 : wa.cell? ⟨w.heap.size + 1, 7, none⟩ = some (.int .i64 (rp.ticks : Int)) := by rw [cell_blk hr2]; rfl
  have s8 : wa.cell? ⟨w.heap.size + 1, 8, none⟩ = some (.int .i64 (rp.idle : Int)) := by rw [cell_blk hr2]; rfl
  obtain ⟨a9, c9, e9, hsw, _⟩ := sl_of_row (g := u64G rp.words) hrep.words (by unfold maxLen; omega) (fun j hj => by simp [u64G, u64V, List.getD_eq_getElem?_getD, hj])
  simp only [Value.slice.injEq] at e9
  obtain ⟨rfl, rfl, rfl⟩ := e9
  have SE := Lib.hid (fun (u : World) (hu : Below wa.heap.size wa u) => same_eq rp.words va va2 vc vc2 u ((hsw.grown hga).grown hu) ((hsw2.grown hga).grown hu))
  have Hrep := Lib.hid (hrep.grown hga); have Hrep2 := Lib.hid (hrep2.grown hga); have Hga := Lib.hid hga; have Hwa := Lib.hid hwa; have Hen := Lib.hid hen
  have R0 := Lib.hid r0; have S0 := Lib.hid s0
  have henl : en ≤ 9223372036854775807 := by omega
  clear hrep hrep2 hga hwa hen hvn hr1 hr2 hsw hsw2
  unfold repV
  go_enter Tryz.func15, Tryz.ntmps15
  go_upto_region 1 with fail
  rw [← Hwa.out]
  go_wp2_with fail
  refine (SE.out _ (Gr.refl _)).mono ?_
  rintro e w2 ⟨rfl, hb2⟩
  have q0 := (hb2.cell hs1).trans r0
  have Hb2 := Lib.hid hb2
  have S0 := Lib.hid s0; have Q0 := Lib.hid r0
  clear r0 s0 r1 s1 r2 s2 r3 s3 r4 s4 r5 s5 r6 s6 r7 s7 r8 s8 hb2
  go_wp2
  go_loopw [45] (fun i wr => ∃ j : Nat, j ≤ en ∧ i = .int .i64 j ∧ Below wa.heap.size wa wr) (fun i _ => en - (intOf i).toNat)
  case atStart => exact ⟨0, Nat.zero_le _, rfl, Hb2.out⟩
  case round =>
    clear q0
    obtain ⟨j, hj, rfl, hb⟩ := hrel
    by_cases hlt : j < en
    · obtain ⟨g, la, lc, ka, kc, rfl, hgl, e0, e1, e2, e3, e4, e5, e6, e7, hls, hks, _⟩ := Hrep.out.ev8 Hen.out hlt hb
      obtain ⟨g2, la2, lc2, ka2, kc2, rfl, hgl2, f0, f1, f2, f3, f4, f5, f6, f7, hls2, hks2, _⟩ := Hrep2.out.ev8 Hen.out hlt hb
      simp only at f0 f1 f2 f3 f4 f5 f6 f7 hls2 hks2
      obtain ⟨E, hE⟩ : ∃ E, E = evAt rp.evs j := ⟨_, rfl⟩
      rw [← hE] at e0 e1 e2 e3 e4 e5 e6 e7 f0 f1 f2 f3 f4 f5 f6 f7 hls hks hls2 hks2
      have EQ := (fun (u : World) (h : Below wr.heap.size wr u) => event_eq E la la2 ka ka2 lc lc2 kc kc2 u (hls.grown h) (hls2.grown h) (hks.grown h) (hks2.grown h))
      obtain ⟨c, iv, rs, st, ⟨er, vl, li⟩, ky⟩ := E
      unfold evV at EQ
      simp only at e0 e1 e2 e3 e4 e5 e6 e7 f0 f1 f2 f3 f4 f5 f6 f7 EQ
      obtain ⟨ln, hln⟩ : ∃ ln, ln = li.length := ⟨_, rfl⟩
      obtain ⟨kn, hkn⟩ : ∃ kn, kn = ky.length := ⟨_, rfl⟩
      rw [← hln] at e6 f6 EQ
      rw [← hkn] at e7 f7 EQ
      have q0 := (hb.cell hs1).trans Q0.out
      have s0 := (hb.cell hs2).trans S0.out
      have A0 := grown_cell q0; have B0 := grown_cell s0
      have E0 := grown_cell e0; have F0 := grown_cell f0
      have E1 := grown_cell e1; have F1 := grown_cell f1
      have E2 := grown_cell e2; have F2 := grown_cell f2
      have E3 := grown_cell e3; have F3 := grown_cell f3
      have E4 := grown_cell e4; have F4 := grown_cell f4
      have E5 := grown_cell e5; have F5 := grown_cell f5
      have E6 := grown_cell e6; have F6 := grown_cell f6
      have E7 := grown_cell e7; have F7 := grown_cell f7
      have HEQ := Lib.hid EQ; have Hb := Lib.hid hb
      have l1 : (j : Int) < (en : Int) := by omega
      clear EQ hls hks hls2 hks2 hE hln hkn hb q0 s0 e0 f0 e1 f1 e2 f2 e3 f3 e4 f4 e5 f5 e6 f6 e7 f7
      go_wp2_with fail
      ((with_reducible refine wp_region_grown_lit (by kernel_rfl) (by kernel_rfl) ?_); (repeat (first | go_big_quiet_skip | (go_big_quiet_want; go_big_quiet_op; first | go_big_quiet_on | ((with_reducible apply Exists.intro); (with_reducible refine ⟨fun _ => ?_, ?_⟩); ((go_at_call 36; first | exact quietG (HEQ.out _ (GrownOf.below _)) | exact quietGS (HEQ.out _ (GrownOf.below _)))); go_big_quiet_on)) | ((with_reducible refine wpQuiet_step (fun K hK => ?_)); go_simp; first | ((with_reducible refine hK _ ?_); clear hK K) | ((with_reducible apply Exists.intro); (with_reducible refine ⟨fun _ => ?_, hK _ ?_⟩); ((go_at_call 36; first | exact quietG (HEQ.out _ (GrownOf.below _)) | exact quietGS (HEQ.out _ (GrownOf.below _)))); clear hK K)))); (with_reducible refine wpQuiet_nil ?_); intro _ hw'; obtain ⟨nq, hw''⟩ := hw'; subst hw'')
      obtain ⟨w3, hw3⟩ : ∃ w3, w3 = nq.u := ⟨_, rfl⟩
      have hb3 := nq.below
      rw [← hw3] at hb3 ⊢
      have Hb3 := Lib.hid hb3
      clear A0 B0 E0 F0 E1 F1 E2 F2 E3 F3 E4 F4 E5 F5 E6 F6 E7 F7 hw3 nq hb3
      go_wp2
      go_roundw
      case rel => exact ⟨j + 1, by omega, by go_num, Gr.trans Hb.out Hb3.out⟩
      case measure => simp [intOf] <;> omega
    · have l1 : ¬ (j : Int) < (en : Int) := by omega
      have Hb := Lib.hid hb
      clear hb
      go_wp2
      go_ret
      exact ⟨rfl, Gr.trans Hga.out Hb.out⟩
end
section

/- What a law on plays has in hand: the loom's report, the reference's, and that they are one. -/
open Go.RowKit
def repOf (er : Int) (r : RepD) : RepD := if er = 0 then r else ⟨[], [], c0, 0, 0⟩
theorem nil_rep (X : Nat → Prop) (B : Nat) (w : World) : RepAt X B w (.slice none 0 0) (.slice none 0 0) [] ⟨[], [], c0, 0, 0⟩ := ⟨⟨rfl, .inl ⟨rfl, rfl⟩⟩, rfl, fun i hi => absurd hi (Nat.not_lt_zero i), ⟨rfl, .inl ⟨rfl, rfl⟩⟩⟩
theorem PlayRet.one {X : Nat → Prop} {w w' : World} {er : Int} {r : RepD} {e : Ending} (h : PlayRet X w w' er r e) : Below w.heap.size w w' ∧ ∃ ea ec va vc ers, e = .returned (.tuple #[repV (.slice ea (repOf er r).evs.length ec) (.slice va (repOf er r).words.length vc) (repOf er r), .int .i64 er]) ∧ RepAt X w.heap.size w' (.slice ea (repOf er r).evs.length ec) (.slice va (repOf er r).words.length vc) ers (repOf er r) := by
  obtain ⟨ea, en, ec, va, vn, vc, rp, rfl, hb, hr⟩ := h
  refine ⟨hb, ea, ec, va, vc, ?_⟩
  rcases hr with ⟨h0, rfl, rfl, rfl, rfl, rfl, rfl, rfl⟩ | ⟨h0, rfl, rfl, rfl, ers, hrep⟩
  · have e0 : repOf er r = ⟨[], [], c0, 0, 0⟩ := if_neg h0
    rw [e0]; exact ⟨[], rfl, nil_rep _ _ _⟩
  · have e0 : repOf er rp = rp := if_pos h0
    rw [e0]; exact ⟨ers, rfl, hrep⟩
theorem RefAny.one {X : Nat → Prop} {w w' : World} {er : Int} {r : RepD} {e : Ending} (h : RefAny X w w' er r true e) : Below w.heap.size w w' ∧ ∃ ea ec va vc ers, e = .returned (.tuple #[repV (.slice ea (repOf er r).evs.length ec) (.slice va (repOf er r).words.length vc) (repOf er r), .int .i64 er]) ∧ RepAt X w.heap.size w' (.slice ea (repOf er r).evs.length ec) (.slice none 0 0) ers { repOf er r with words := [] } ∧ SlAt w' va (repOf er r).words.length 1 (u64G (repOf er r).words) := by
  obtain ⟨hb, ea, en, ec, va, vn, vc, rp, lv, rfl, hr⟩ := h
  refine ⟨hb, ea, ec, va, vc, ?_⟩
  rcases hr with ⟨h0, rfl, rfl, rfl, rfl, rfl, rfl, rfl⟩ | ⟨h0, rfl, rfl, rfl, ers, hrep, hsl, _⟩
  · have e0 : repOf er r = ⟨[], [], c0, 0, 0⟩ := if_neg h0
    rw [e0]; exact ⟨[], rfl, nil_rep _ _ _, SlAt.nil _ _ _ _⟩
  · have e0 : repOf er rp = rp := if_pos h0
    rw [e0]; exact ⟨ers, rfl, hrep, hsl⟩
end
section

/- Objects whose operations have one step, in the reference's play: plain numbers. -/
open Go.RowKit
structure Tape0 (t : TapeP) : Prop where
  got : t.got = []
  at_ : t.at_ = 0
  fresh : t.fresh = true
  halt : t.halt = false
  err : t.err = 0
  val : t.val = 0
  list : t.list = []
  key : t.key = []
theorem tape00 {h : RHand} (p : Nat) (hg : h.got = []) : Tape0 (h.tape p) := ⟨hg, rfl, rfl, rfl, rfl, rfl, rfl, rfl⟩
theorem accP_new {t : TapeP} (h : Tape0 t) (kd a : Int) (x y : Nat) (r : RWD) : accP kd a x y t r = ((memAcc r.mem kd a x y).2, { t with got := t.got ++ [(memAcc r.mem kd a x y).2], ticks := t.ticks ++ [(r.now : Int)], at_ := t.at_ + 1, fresh := false }, { r with mem := (memAcc r.mem kd a x y).1 }) := by
  unfold accP
  rw [if_neg (by rw [h.halt]; exact Bool.false_ne_true), if_neg (by rw [h.at_, h.got]; exact Nat.lt_irrefl 0), if_pos h.fresh]
theorem accP_priv (kd a : Int) (x y : Nat) (t : TapeP) (r : RWD) : (accP kd a x y t r).2.1.priv = t.priv := by
  unfold accP
  split
  · rfl
  · split
    · rfl
    · split <;> rfl
def valP (z : Nat × TapeP × RWD) : TapeP × RWD := ({ z.2.1 with val := z.1 }, z.2.2)
structure OneDo (ref : CallD → Option Int) (act : CallD → WD → WD × (Int × Nat)) (Ln : Nat) (dO : CallD → TapeP → RWD → TapeP × RWD) : Prop where
  refuse : ∀ c t r e, ref c = some e → Tape0 t → dO c t r = ({ t with err := e }, r)
  go : ∀ c t r wd, ref c = none → Tape0 t → r.mem = wd.mem → wd.mem.ws.length = Ln → (dO c t r).2 = { r with mem := (act c wd).1.mem } ∧ (dO c t r).1.halt = false ∧ (dO c t r).1.err = (act c wd).2.1 ∧ (dO c t r).1.val = (act c wd).2.2 ∧ (dO c t r).1.list = [] ∧ (dO c t r).1.key = []
  keep : ∀ c wd, (act c wd).1.inv = wd.inv ∧ (act c wd).1.marks = wd.marks ∧ (act c wd).1.now = wd.now ∧ (act c wd).1.traces = wd.traces
  len : ∀ c wd, (act c wd).1.mem.ws.length = wd.mem.ws.length
def lateM (_ : CallD) (p : Nat) (_ : RHand) (r : RWD) : List Int := r.marks.getD p []
def oneSim (ref : CallD → Option Int) (act : CallD → WD → WD × (Int × Nat)) : RefSim (onceSys ref act) where
  Rel := fun _ _ _ c h σ => σ = (c, ((0 : Int), 0)) ∧ h.got = [] ∧ ref c = none
  Own := fun _ _ _ => True
theorem one_ok {ref : CallD → Option Int} {act : CallD → WD → WD × (Int × Nat)} {Ln : Nat} {dO : CallD → TapeP → RWD → TapeP × RWD} (D : OneDo ref act Ln dO) (n : Nat) (calls : List CallD) : RefOk (onceSys ref act) (oneSim ref act) n dO lateM calls (fun st => st.wd.mem.ws.length = Ln) where
  refuse := by
    intro st c p h e r hG hob hp hown hs hrw hgot htk
    have hr : ref c = some e := by
      cases hx : ref c with
      | none => have h9 : (match ref c with | some e => Mc.refuse e | none => .run (c, ((0 : Int), 0))) = (.refuse e : Mc (CallD × (Int × Nat))) := hs; rw [hx] at h9; cases h9
      | some e' => have h9 : (match ref c with | some e => Mc.refuse e | none => .run (c, ((0 : Int), 0))) = (.refuse e : Mc (CallD × (Int × Nat))) := hs; rw [hx] at h9; cases h9; rfl
    exact ⟨_, D.refuse c _ r e hr (tape00 p hgot), rfl, rfl, rfl, rfl, rfl, trivial⟩
  start := by
    intro st c p h σ r hG hob hth hp hown hs hrw hgot htk hinv
    cases hx : ref c with
    | some e' => have h9 : (match ref c with | some e => Mc.refuse e | none => .run (c, ((0 : Int), 0))) = (.run σ : Mc (CallD × (Int × Nat))) := hs; rw [hx] at h9; cases h9
    | none => have h9 : (match ref c with | some e => Mc.refuse e | none => .run (c, ((0 : Int), 0))) = (.run σ : Mc (CallD × (Int × Nat))) := hs; rw [hx] at h9; cases h9; exact ⟨rfl, hgot, hx⟩
  step := by
    intro st c p h σ r wd k evs0 hG hf hc hp hinv hown hrel hrw hob
    obtain ⟨rfl, hgot, hr⟩ := hrel
    obtain ⟨k1, k2, k3, k4⟩ := D.keep c wd
    obtain ⟨d1, d2, d3, d4, d5, d6⟩ := D.go c (h.tape p) r wd hr (tape00 p hgot) hrw.mem (by rw [hf.mem]; exact hG)
    refine ⟨?_, k1, by show (act c wd).1.marks.length = _; rw [k2], by rw [d2]; rfl, fun _ => ⟨?_, ?_, trivial⟩, fun e => by rw [d2] at e; cases e⟩
    · rw [d1]
      exact ⟨rfl, hrw.now.trans k3.symm, hrw.mlen, fun p hp => by show r.marks.getD p [] = (act c wd).1.marks.getD p []; rw [k2]; exact hrw.marks p hp, fun a => by show traceP a r = (act c wd).1.traces a; rw [k4]; exact hrw.tr a⟩
    · rw [d3, d4, d5]; rfl
    · rw [d6, d1]
      show rkey _ p [] = keyOf (act c wd).1 p []
      unfold rkey keyOf tickKey
      rw [if_pos rfl, if_pos rfl, k2, k3]
      show (if r.marks.getD p [] = [] then [2 * (r.now : Int)] else r.marks.getD p []) = _
      rw [hrw.marks p hp, hrw.now]
  ownOther := fun _ _ _ _ _ _ _ _ => trivial
  relOther := fun _ _ _ _ _ _ _ _ _ _ _ _ _ _ _ _ h _ => h
  relTick := fun _ _ _ _ _ _ h => h
  relBegin := fun _ _ _ _ _ _ _ h => h
  late := by
    intro st c p h σ r hG hh hinv hrel hrw hp
    exact hrw.marks p hp
theorem one_len {ref : CallD → Option Int} {act : CallD → WD → WD × (Int × Nat)} {Ln : Nat} {dO : CallD → TapeP → RWD → TapeP × RWD} (D : OneDo ref act Ln dO) {calls : List CallD} (hthr : ∀ c, c < calls.length → 0 ≤ (calls.getD c d0).thread ∧ (calls.getD c d0).thread < 16) (o : Unit) (ws : List Nat) (hws : ws.length = Ln) (picks : List Int) : (picksD (onceSys ref act) calls (play0 (onceSys ref act) o ws calls) picks).wd.mem.ws.length = Ln :=
  (picks_ind (S := onceSys ref act) (J := fun st => st.wd.mem.ws.length = Ln) (fun o wd p x => (D.keep _ _).2.2.1) hthr (fun st st' _ _ hi ht => by
    cases ht with
    | idle => exact hi
    | refuse q i er hq hN hh hs => exact hi
    | step q i k s evs0 wd0 hq hN hf =>
      show (act s.1 wd0).1.mem.ws.length = Ln
      rw [D.len, hf.mem]; exact hi) picks (play0_good (S := onceSys ref act) calls o ws) hws).2
theorem Runs.valP {t : TapeP} {r : RWD} (kd a : Int) (x y : Nat) : Runs t r (valP (accP kd a x y t r)).1 (valP (accP kd a x y t r)).2 := by
  have h := Runs.acc kd a x y t r
  exact ⟨h.ws, h.now, h.all, h.got, h.thread, h.inv⟩
theorem Runs.errP (t : TapeP) (r : RWD) (e : Int) : Runs t r { t with err := e } r := ⟨rfl, rfl, Nat.le_refl _, Nat.le_refl _, rfl, rfl⟩
theorem memRead_len (m : MemD) (a : Int) : (memRead m a).1.ws.length = m.ws.length := by unfold memRead MemD.fault; split <;> rfl
theorem memAdd_len (m : MemD) (a : Int) (x : Nat) : (memAdd m a x).1.ws.length = m.ws.length := by unfold memAdd MemD.fault; split <;> simp
end
section

/- The reference's Do at each kind of object. -/
open Go.RowKit
theorem do_boxes (w : World) (kd sP sQ th kn : Int) (xa xb xc : Nat) : ∃ wb, wb = (w.alloc (.cells #[.int .i64 kd, .int .i64 sP, .int .i64 sQ] 39)).alloc (.cells #[.int .i64 th, .int .i64 0, .int .i64 kn, .int .u64 (xa : Int), .int .u64 (xb : Int), .int .u64 (xc : Int)] 48) ∧ Below w.heap.size w wb ∧
    wb.heap[w.heap.size]? = some (.cells #[.int .i64 kd, .int .i64 sP, .int .i64 sQ] 39 (0, 0)) ∧ wb.heap[w.heap.size + 1]? = some (.cells #[.int .i64 th, .int .i64 0, .int .i64 kn, .int .u64 (xa : Int), .int .u64 (xb : Int), .int .u64 (xc : Int)] 48 (0, 0)) := by
  refine ⟨_, rfl, Gr.alloc (Gr.new _ _) _, ?_, ?_⟩
  · rw [Below.heap_alloc _ _ _ (by simp)]; exact heap_alloc_new _ _
  · have := heap_alloc_new (w.alloc (.cells #[.int .i64 kd, .int .i64 sP, .int .i64 sQ] 39)) (.cells #[.int .i64 th, .int .i64 0, .int .i64 kn, .int .u64 (xa : Int), .int .u64 (xb : Int), .int .u64 (xc : Int)] 48 (0, 0))
    simp only [World.size_alloc] at this
    exact this
set_option maxHeartbeats 4000000 in
theorem do_adder {B : RBase} {w : World} {t : TapeP} {r : RWD} (P : World → Prop) (n : Nat) (sP sQ th kn : Int) (xa xb xc : Nat) (h : RAt B w t r) (FC : ∀ u, RAt B u t r → Calls Tryz.prog 81 #[.pointer (some ⟨B.I.tb, B.I.pre.length, none⟩), .int .i64 0, .agg #[.int .i64 th, .int .i64 0, .int .i64 kn, .int .u64 (xa : Int), .int .u64 (xb : Int), .int .u64 (xc : Int)]] u fun e u' => e = .returned (.tuple #[]) ∧ P u') :
    Calls Tryz.prog 70 #[.pointer (some ⟨B.I.tb, B.I.pre.length, none⟩), .int .i64 (n : Int), .int .i64 0, .agg #[.int .i64 3, .int .i64 sP, .int .i64 sQ], .agg #[.int .i64 th, .int .i64 0, .int .i64 kn, .int .u64 (xa : Int), .int .u64 (xb : Int), .int .u64 (xc : Int)]] w fun e u' => e = .returned (.tuple #[]) ∧ P u' := by
  obtain ⟨wb, hwb, hg, hS, hC⟩ := do_boxes w 3 sP sQ th kn xa xb xc
  have HC := Lib.hid (FC wb (h.grown hg)); have Hwb := Lib.hid hwb
  clear FC h hg hwb
  have s0 : wb.cell? ⟨w.heap.size, 0, none⟩ = some (.int .i64 3) := by rw [cell_blk hS]; rfl
  have s1 : wb.cell? ⟨w.heap.size, 1, none⟩ = some (.int .i64 sP) := by rw [cell_blk hS]; rfl
  have s2 : wb.cell? ⟨w.heap.size, 2, none⟩ = some (.int .i64 sQ) := by rw [cell_blk hS]; rfl
  have y0 : wb.cell? ⟨w.heap.size + 1, 0, none⟩ = some (.int .i64 th) := by rw [cell_blk hC]; rfl
  have y1 : wb.cell? ⟨w.heap.size + 1, 1, none⟩ = some (.int .i64 0) := by rw [cell_blk hC]; rfl
  have y2 : wb.cell? ⟨w.heap.size + 1, 2, none⟩ = some (.int .i64 kn) := by rw [cell_blk hC]; rfl
  have y3 : wb.cell? ⟨w.heap.size + 1, 3, none⟩ = some (.int .u64 (xa : Int)) := by rw [cell_blk hC]; rfl
  have y4 : wb.cell? ⟨w.heap.size + 1, 4, none⟩ = some (.int .u64 (xb : Int)) := by rw [cell_blk hC]; rfl
  have y5 : wb.cell? ⟨w.heap.size + 1, 5, none⟩ = some (.int .u64 (xc : Int)) := by rw [cell_blk hC]; rfl
  clear hS hC
  go_enter Tryz.func70, Tryz.ntmps70
  go_upto_region 1 with fail
  rw [← Hwb.out]
  go_wp2_with (go_at_call 81; refine HC.out.mono ?_; rintro e w2 ⟨rfl, h2⟩)
  (first | go_end0 | ((try simp only [Exit.inBlock, Exit.then]); refine bodyPost_ret (results_none rfl _ _ _) rfl ?_))
  exact ⟨rfl, h2⟩
end
section

/- The key of an operation that has not responded: its mark: roundelayplain.Late, but for a max register. -/
open Go.RowKit
set_option maxHeartbeats 4000000 in
theorem late_marks (kd P Q : Int) (n : Nat) (hk : kd ≠ 4) : LateC kd P Q n (fun _ p _ r => r.marks.getD p []) := by
  intro B u c t r h hok hob hp hinv hgot htk hml hA
  obtain ⟨wb, hwb, hg, hS, hC⟩ := do_boxes u kd P Q c.thread c.kind c.a c.b c.c
  have hA2 := hA.grown hg
  obtain ⟨G, K, L, h1, h2⟩ := id hA2
  obtain ⟨PV, LV, KV, ht, _⟩ := h1.tape
  obtain ⟨ms, hM, hmn, hms⟩ := h1.marks.blk
  have hnM : B.I.nM = n := by rw [← hml]; exact h1.marks.len.symm
  have hpm : t.thread < B.I.nM := by rw [hnM]; exact hp
  have hfin : RAtL B wb t r (ms.getD t.thread undef) (r.marks.getD t.thread []) := ⟨G, K, L, h1, h2, hms _ hpm⟩
  obtain ⟨wa, cap, _, hW, _⟩ := ht.mem.blk
  have d0 : wb.cell? ⟨B.I.tb, B.I.pre.length, none⟩ = some (.pointer (some ⟨B.I.bW, 0, none⟩)) := ht.cell0
  have d1 := hA2.cThread
  have d7 : wb.cell? ⟨B.I.bW, 7, none⟩ = some (.slice (some ⟨B.I.bM, 0, none⟩) B.I.nM B.I.nM) := by
    have hW' : wb.heap[B.I.bW]? = _ := hW
    rw [cell_blk hW']; rfl
  have dm : wb.cell? ⟨B.I.bM, t.thread, none⟩ = some (ms.getD t.thread undef) := by
    rw [cell_blk hM]
    simp [List.getD_eq_getElem?_getD, show t.thread < ms.length by omega]
  obtain ⟨mv, hmv⟩ : ∃ mv, mv = ms.getD t.thread undef := ⟨_, rfl⟩
  rw [← hmv] at dm hfin
  obtain ⟨p, hpp⟩ : ∃ p, p = t.thread := ⟨_, rfl⟩
  rw [← hpp] at d1 dm hpm
  have s0 : wb.cell? ⟨u.heap.size, 0, none⟩ = some (.int .i64 kd) := by rw [cell_blk hS]; rfl
  have l1 : (p : Int) < (B.I.nM : Int) := by omega
  have l2 : ¬ (p : Int) < 0 := by omega
  have lk : (kd == 4) = false := by simpa using hk
  have D0 := grown_cell d0; have D1 := grown_cell d1; have D7 := grown_cell d7; have DM := grown_cell dm
  have HF := Lib.hid hfin; have Hwb := Lib.hid hwb
  clear hA hA2 h1 h2 ht hM hms hW hfin hmv hpp hS hC hg hwb d0 d1 d7 dm hinv hgot htk hml hnM hmn hp hok
  suffices main : Calls Tryz.prog 58 #[.pointer (some ⟨B.I.tb, B.I.pre.length, none⟩), .int .i64 (n : Int), .int .i64 0, specV kd P Q, callW c] u fun e u' => e = .returned mv ∧ RAtL B u' t r mv (r.marks.getD t.thread []) by
    refine Calls.mono main ?_
    rintro e u' ⟨h1, h2⟩
    exact ⟨mv, t, h1, h2, rfl, rfl, rfl, rfl⟩
  unfold specV callW
  rw [hob]
  clear hob
  go_enter Tryz.func58, Tryz.ntmps58
  go_upto_region 1 with fail
  rw [← Hwb.out]
  go_upto_region 3 with fail
  ((with_reducible refine wp_region_grown_lit (by kernel_rfl) (by kernel_rfl) ?_); (repeat ((with_reducible refine wpQuiet_step (fun K hK => ?_)); go_simp; first | ((with_reducible refine hK _ ?_); clear hK K) | ((with_reducible apply Exists.intro); (with_reducible refine ⟨fun _ => ?_, hK _ ?_⟩); (fail); clear hK K))); (with_reducible refine wpQuiet_nil ?_); intro _ hw'; obtain ⟨nq, hw''⟩ := hw'; subst hw'')
  have hb := nq.below
  have HG := Lib.hid (HF.out.grown hb)
  clear hb
  go_wp2
  go_ret
  exact ⟨rfl, HG.out⟩
end
end Go.Proofs.YteffgpcjfnjlkaaGreat
