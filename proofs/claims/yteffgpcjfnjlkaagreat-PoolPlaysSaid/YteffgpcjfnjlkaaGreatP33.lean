/- Two reports that say the same are alike: roundelayplain.Same. -/
import Derived.Test.YteffgpcjfnjlkaaGreatP32
import Derived.Test.YteffgpcjfnjlkaaGreatP23
import Derived.Test.YteffgpcjfnjlkaaGreatP05
import Derived.BigQuiet
import Derived.Deep.Cut
import Derived.Test.YteffgpcjfnjlkaaGreatP16
import Derived.Test.YteffgpcjfnjlkaaGreatP22
set_option maxRecDepth 100000
set_option linter.unusedVariables false
set_option linter.unusedSimpArgs false
set_option linter.unnecessarySimpa false
namespace Go.Proofs.YteffgpcjfnjlkaaGreat
section
open Go.RowKit
set_option maxHeartbeats 8000000 in
theorem rsame_any {X Y : Nat → Prop} {B B' : Nat} (w : World) (ea ea2 va va2 : Option Addr) (en ec ec2 vn vc vc2 : Nat) (ers ers2 : List (Value × Value)) (rp : RepD) (hrep : RepAt X B w (.slice ea en ec) (.slice va vn vc) ers rp) (hrep2 : RepAt Y B' w (.slice ea2 en ec2) (.slice none 0 0) ers2 { rp with words := [] }) (hsw2 : SlAt w va2 vn 1 (u64G rp.words))
  (hen : en = rp.evs.length) (hvn : vn = rp.words.length) (hlen : rp.evs.length < 1000000) (hwl : rp.words.length < 1000000) :
  Calls Tryz.prog 15 #[repV (.slice ea en ec) (.slice va vn vc) rp, repV (.slice ea2 en ec2) (.slice va2 vn vc2) rp] w fun e w' => e = .returned (.bool true) ∧ Below w.heap.size w w' := by
 obtain ⟨wa, hwa⟩ : ∃ wa, wa = (w.alloc (.cells #[.slice ea en ec, .slice va vn vc, .int .i64 (rp.c.read : Int), .int .i64 (rp.c.write : Int), .int .i64 (rp.c.swap : Int), .int .i64 (rp.c.add : Int), .int .i64 (rp.c.fault : Int), .int .i64 (rp.ticks : Int), .int .i64 (rp.idle : Int)] 32)).alloc (.cells #[.slice ea2 en ec2, .slice va2 vn vc2, .int .i64 (rp.c.read : Int), .int .i64 (rp.c.write : Int), .int .i64 (rp.c.swap : Int), .int .i64 (rp.c.add : Int), .int .i64 (rp.c.fault : Int), .int .i64 (rp.ticks : Int), .int .i64 (rp.idle : Int)] 32) := ⟨_, rfl⟩
 have hga : Below w.heap.size w wa := by rw [hwa]; exact Gr.alloc (Gr.new _ _) _
 have hr1 : wa.heap[w.heap.size]? = some (.cells #[.slice ea en ec, .slice va vn vc, .int .i64 (rp.c.read : Int), .int .i64 (rp.c.write : Int), .int .i64 (rp.c.swap : Int), .int .i64 (rp.c.add : Int), .int .i64 (rp.c.fault : Int), .int .i64 (rp.ticks : Int), .int .i64 (rp.idle : Int)] 32 (0, 0)) := by rw [hwa, Below.heap_alloc _ _ _ (by simp)]; exact heap_alloc_new _ _
 have hr2 : wa.heap[w.heap.size + 1]? = some (.cells #[.slice ea2 en ec2, .slice va2 vn vc2, .int .i64 (rp.c.read : Int), .int .i64 (rp.c.write : Int), .int .i64 (rp.c.swap : Int), .int .i64 (rp.c.add : Int), .int .i64 (rp.c.fault : Int), .int .i64 (rp.ticks : Int), .int .i64 (rp.idle : Int)] 32 (0, 0)) := by
  rw [hwa]
  have := heap_alloc_new (w.alloc (.cells #[.slice ea en ec, .slice va vn vc, .int .i64 (rp.c.read : Int), .int .i64 (rp.c.write : Int), .int .i64 (rp.c.swap : Int), .int .i64 (rp.c.add : Int), .int .i64 (rp.c.fault : Int), .int .i64 (rp.ticks : Int), .int .i64 (rp.idle : Int)] 32)) (.cells #[.slice ea2 en ec2, .slice va2 vn vc2, .int .i64 (rp.c.read : Int), .int .i64 (rp.c.write : Int), .int .i64 (rp.c.swap : Int), .int .i64 (rp.c.add : Int), .int .i64 (rp.c.fault : Int), .int .i64 (rp.ticks : Int), .int .i64 (rp.idle : Int)] 32 (0, 0))
  simp only [World.size_alloc] at this
  exact this
 have hs1 : w.heap.size < wa.heap.size := blk_lt hr1
 have hs2 : w.heap.size + 1 < wa.heap.size := blk_lt hr2
 have r0 : wa.cell? ⟨w.heap.size, 0, none⟩ = some (.slice ea en ec) := by rw [cell_blk hr1]; rfl
 have r1 : wa.cell? ⟨w.heap.size, 1, none⟩ = some (.slice va vn vc) := by rw [cell_blk hr1]; rfl
 have r2 : wa.cell? ⟨w.heap.size, 2, none⟩ = some (.int .i64 (rp.c.read : Int)) := by rw [cell_blk hr1]; rfl
 have r3 : wa.cell? ⟨w.heap.size, 3, none⟩ = some (.int .i64 (rp.c.write : Int)) := by rw [cell_blk hr1]; rfl
 have r4 : wa.cell? ⟨w.heap.size, 4, none⟩ = some (.int .i64 (rp.c.swap : Int)) := by rw [cell_blk hr1]; rfl
 have r5 : wa.cell? ⟨w.heap.size, 5, none⟩ = some (.int .i64 (rp.c.add : Int)) := by rw [cell_blk hr1]; rfl
 have r6 : wa.cell? ⟨w.heap.size, 6, none⟩ = some (.int .i64 (rp.c.fault : Int)) := by rw [cell_blk hr1]; rfl
 have r7 : wa.cell? ⟨w.heap.size, 7, none⟩ = some (.int .i64 (rp.ticks : Int)) := by rw [cell_blk hr1]; rfl
 have r8 : wa.cell? ⟨w.heap.size, 8, none⟩ = some (.int .i64 (rp.idle : Int)) := by rw [cell_blk hr1]; rfl
 have s0 : wa.cell? ⟨w.heap.size + 1, 0, none⟩ = some (.slice ea2 en ec2) := by rw [cell_blk hr2]; rfl
 have s1 : wa.cell? ⟨w.heap.size + 1, 1, none⟩ = some (.slice va2 vn vc2) := by rw [cell_blk hr2]; rfl
 have s2 : wa.cell? ⟨w.heap.size + 1, 2, none⟩ = some (.int .i64 (rp.c.read : Int)) := by rw [cell_blk hr2]; rfl
 have s3 : wa.cell? ⟨w.heap.size + 1, 3, none⟩ = some (.int .i64 (rp.c.write : Int)) := by rw [cell_blk hr2]; rfl
 have s4 : wa.cell? ⟨w.heap.size + 1, 4, none⟩ = some (.int .i64 (rp.c.swap : Int)) := by rw [cell_blk hr2]; rfl
 have s5 : wa.cell? ⟨w.heap.size + 1, 5, none⟩ = some (.int .i64 (rp.c.add : Int)) := by rw [cell_blk hr2]; rfl
 have s6 : wa.cell? ⟨w.heap.size + 1, 6, none⟩ = some (.int .i64 (rp.c.fault : Int)) := by rw [cell_blk hr2]; rfl
 have s7 : wa.cell? ⟨w.heap.size + 1, 7, none⟩ = some (.int .i64 (rp.ticks : Int)) := by rw [cell_blk hr2]; rfl
 have s8 : wa.cell? ⟨w.heap.size + 1, 8, none⟩ = some (.int .i64 (rp.idle : Int)) := by rw [cell_blk hr2]; rfl
 obtain ⟨a9, c9, e9, hsw, _⟩ := sl_of_row (g := u64G rp.words) hrep.words (by unfold maxLen; omega) (fun j hj => by simp [u64G, u64V, List.getD_eq_getElem?_getD, hj])
 simp only [Value.slice.injEq] at e9
 obtain ⟨rfl, rfl, rfl⟩ := e9
 have SE := Lib.hid (fun (u : World) (hu : Below wa.heap.size wa u) => same_eq rp.words va va2 vc vc2 u ((hsw.grown hga).grown hu) ((hsw2.grown hga).grown hu))
 have Hrep := Lib.hid (hrep.grown hga); have Hrep2 := Lib.hid (hrep2.grown hga); have Hga := Lib.hid hga; have Hwa := Lib.hid hwa; have Hen := Lib.hid hen
 have R0 := Lib.hid r0; have S0 := Lib.hid s0
 have henl : en ≤ 9223372036854775807 := by omega
 clear hrep hrep2 hga hwa hen hvn hr1 hr2 hsw hsw2
 unfold repV
 go_enter Tryz.func15, Tryz.ntmps15
 go_upto_region 1 with fail
 rw [← Hwa.out]
 go_wp2_with fail
 refine (SE.out _ (Gr.refl _)).mono ?_
 rintro e w2 ⟨rfl, hb2⟩
 have q0 := (hb2.cell hs1).trans r0
 have Hb2 := Lib.hid hb2
 have S0 := Lib.hid s0; have Q0 := Lib.hid r0
 clear r0 s0 r1 s1 r2 s2 r3 s3 r4 s4 r5 s5 r6 s6 r7 s7 r8 s8 hb2
 go_wp2
 go_loopw [45] (fun i wr => ∃ j : Nat, j ≤ en ∧ i = .int .i64 j ∧ Below wa.heap.size wa wr) (fun i _ => en - (intOf i).toNat)
 case atStart => exact ⟨0, Nat.zero_le _, rfl, Hb2.out⟩
 case round =>
  clear q0
  obtain ⟨j, hj, rfl, hb⟩ := hrel
  by_cases hlt : j < en
  ·obtain ⟨g, la, lc, ka, kc, rfl, hgl, e0, e1, e2, e3, e4, e5, e6, e7, hls, hks, _⟩ := Hrep.out.ev8 Hen.out hlt hb
   obtain ⟨g2, la2, lc2, ka2, kc2, rfl, hgl2, f0, f1, f2, f3, f4, f5, f6, f7, hls2, hks2, _⟩ := Hrep2.out.ev8 Hen.out hlt hb
   simp only at f0 f1 f2 f3 f4 f5 f6 f7 hls2 hks2
   obtain ⟨E, hE⟩ : ∃ E, E = evAt rp.evs j := ⟨_, rfl⟩
   rw [← hE] at e0 e1 e2 e3 e4 e5 e6 e7 f0 f1 f2 f3 f4 f5 f6 f7 hls hks hls2 hks2
   have EQ := (fun (u : World) (h : Below wr.heap.size wr u) => event_eq E la la2 ka ka2 lc lc2 kc kc2 u (hls.grown h) (hls2.grown h) (hks.grown h) (hks2.grown h))
   obtain ⟨c, iv, rs, st, ⟨er, vl, li⟩, ky⟩ := E
   unfold evV at EQ
   simp only at e0 e1 e2 e3 e4 e5 e6 e7 f0 f1 f2 f3 f4 f5 f6 f7 EQ
   obtain ⟨ln, hln⟩ : ∃ ln, ln = li.length := ⟨_, rfl⟩
   obtain ⟨kn, hkn⟩ : ∃ kn, kn = ky.length := ⟨_, rfl⟩
   rw [← hln] at e6 f6 EQ
   rw [← hkn] at e7 f7 EQ
   have q0 := (hb.cell hs1).trans Q0.out
   have s0 := (hb.cell hs2).trans S0.out
   have A0 := grown_cell q0; have B0 := grown_cell s0
   have E0 := grown_cell e0; have F0 := grown_cell f0
   have E1 := grown_cell e1; have F1 := grown_cell f1
   have E2 := grown_cell e2; have F2 := grown_cell f2
   have E3 := grown_cell e3; have F3 := grown_cell f3
   have E4 := grown_cell e4; have F4 := grown_cell f4
   have E5 := grown_cell e5; have F5 := grown_cell f5
   have E6 := grown_cell e6; have F6 := grown_cell f6
   have E7 := grown_cell e7; have F7 := grown_cell f7
   have HEQ := Lib.hid EQ; have Hb := Lib.hid hb
   have l1 : (j : Int) < (en : Int) := by omega
   clear EQ hls hks hls2 hks2 hE hln hkn hb q0 s0 e0 f0 e1 f1 e2 f2 e3 f3 e4 f4 e5 f5 e6 f6 e7 f7
   go_wp2_with fail
   ((with_reducible refine wp_region_grown_lit (by kernel_rfl) (by kernel_rfl) ?_); (repeat (first | go_big_quiet_skip | (go_big_quiet_want; go_big_quiet_op; first | go_big_quiet_on | ((with_reducible apply Exists.intro); (with_reducible refine ⟨fun _ => ?_, ?_⟩); ((go_at_call 36; first | exact quietG (HEQ.out _ (GrownOf.below _)) | exact quietGS (HEQ.out _ (GrownOf.below _)))); go_big_quiet_on)) | ((with_reducible refine wpQuiet_step (fun K hK => ?_)); go_simp; first | ((with_reducible refine hK _ ?_); clear hK K) | ((with_reducible apply Exists.intro); (with_reducible refine ⟨fun _ => ?_, hK _ ?_⟩); ((go_at_call 36; first | exact quietG (HEQ.out _ (GrownOf.below _)) | exact quietGS (HEQ.out _ (GrownOf.below _)))); clear hK K)))); (with_reducible refine wpQuiet_nil ?_); intro _ hw'; obtain ⟨nq, hw''⟩ := hw'; subst hw'')
   obtain ⟨w3, hw3⟩ : ∃ w3, w3 = nq.u := ⟨_, rfl⟩
   have hb3 := nq.below
   rw [← hw3] at hb3 ⊢
   have Hb3 := Lib.hid hb3
   clear A0 B0 E0 F0 E1 F1 E2 F2 E3 F3 E4 F4 E5 F5 E6 F6 E7 F7 hw3 nq hb3
   go_wp2
   go_roundw
   case rel => exact ⟨j + 1, by omega, by go_num, Gr.trans Hb.out Hb3.out⟩
   case measure => simp [intOf] <;> omega
  ·have l1 : ¬ (j : Int) < (en : Int) := by omega
   have Hb := Lib.hid hb
   clear hb
   go_wp2
   go_ret
   exact ⟨rfl, Gr.trans Hga.out Hb.out⟩
end
section

/- What a law on plays has in hand: the loom's report, the reference's, and that they are one. -/
open Go.RowKit
def repOf (er : Int) (r : RepD) : RepD := if er = 0 then r else ⟨[], [], c0, 0, 0⟩
theorem nil_rep (X : Nat → Prop) (B : Nat) (w : World) : RepAt X B w (.slice none 0 0) (.slice none 0 0) [] ⟨[], [], c0, 0, 0⟩ := ⟨⟨rfl, .inl ⟨rfl, rfl⟩⟩, rfl, fun i hi => absurd hi (Nat.not_lt_zero i), ⟨rfl, .inl ⟨rfl, rfl⟩⟩⟩
theorem PlayRet.one {X : Nat → Prop} {w w' : World} {er : Int} {r : RepD} {e : Ending} (h : PlayRet X w w' er r e) : Below w.heap.size w w' ∧ ∃ ea ec va vc ers, e = .returned (.tuple #[repV (.slice ea (repOf er r).evs.length ec) (.slice va (repOf er r).words.length vc) (repOf er r), .int .i64 er]) ∧ RepAt X w.heap.size w' (.slice ea (repOf er r).evs.length ec) (.slice va (repOf er r).words.length vc) ers (repOf er r) := by
 obtain ⟨ea, en, ec, va, vn, vc, rp, rfl, hb, hr⟩ := h
 refine ⟨hb, ea, ec, va, vc, ?_⟩
 rcases hr with ⟨h0, rfl, rfl, rfl, rfl, rfl, rfl, rfl⟩ | ⟨h0, rfl, rfl, rfl, ers, hrep⟩
 ·have e0 : repOf er r = ⟨[], [], c0, 0, 0⟩ := if_neg h0
  rw [e0]; exact ⟨[], rfl, nil_rep _ _ _⟩
 ·have e0 : repOf er rp = rp := if_pos h0
  rw [e0]; exact ⟨ers, rfl, hrep⟩
theorem RefAny.one {X : Nat → Prop} {w w' : World} {er : Int} {r : RepD} {e : Ending} (h : RefAny X w w' er r true e) : Below w.heap.size w w' ∧ ∃ ea ec va vc ers, e = .returned (.tuple #[repV (.slice ea (repOf er r).evs.length ec) (.slice va (repOf er r).words.length vc) (repOf er r), .int .i64 er]) ∧ RepAt X w.heap.size w' (.slice ea (repOf er r).evs.length ec) (.slice none 0 0) ers { repOf er r with words := [] } ∧ SlAt w' va (repOf er r).words.length 1 (u64G (repOf er r).words) := by
 obtain ⟨hb, ea, en, ec, va, vn, vc, rp, lv, rfl, hr⟩ := h
 refine ⟨hb, ea, ec, va, vc, ?_⟩
 rcases hr with ⟨h0, rfl, rfl, rfl, rfl, rfl, rfl, rfl⟩ | ⟨h0, rfl, rfl, rfl, ers, hrep, hsl, _⟩
 ·have e0 : repOf er r = ⟨[], [], c0, 0, 0⟩ := if_neg h0
  rw [e0]; exact ⟨[], rfl, nil_rep _ _ _, SlAt.nil _ _ _ _⟩
 ·have e0 : repOf er rp = rp := if_pos h0
  rw [e0]; exact ⟨ers, rfl, hrep, hsl⟩
end
end Go.Proofs.YteffgpcjfnjlkaaGreat
