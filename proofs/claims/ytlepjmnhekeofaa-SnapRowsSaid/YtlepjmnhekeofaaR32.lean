/- Layer 15: a scan's step: to collect. -/
import Derived.Test.YtlepjmnhekeofaaR31
set_option maxRecDepth 100000
set_option linter.unusedVariables false
set_option linter.unusedSimpArgs false
set_option linter.unnecessarySimpa false
namespace Go.Proofs.Ytlepjmnhekeofaa
open List renaming getElem_toArray → zq1, getElem_cons_zero → zq2, getElem_cons_succ → zq3, setIfInBounds_toArray → zq4, set_cons_zero → zq5, set_cons_succ → zq6
open Go.RowKit
def WFrom (w':World) (Mut:Nat->Prop) (I:WIds) (N:Nat) (wd':WD) (lv':Value):Prop:=
 ∃(w1:World) (S:Nat->Prop),WorldAt w1 Mut I N wd'/\Chg S w1 w'/\(∀ b,S b->Mut b/\¬ WSet I b)/\∀ g,lv'.ownBlock=some g->Mut g∨w1.heap.size<=g
section
variable {w' w'':World} {Mut:Nat->Prop} {I:WIds} {N:Nat} {wd':WD} {lv':Value}
theorem WFrom.toAt (h:WFrom w' Mut I N wd' lv'):WorldAt w' Mut I N wd':=by
 obtain⟨w1,S,h1,h2,h3,_⟩:=h
 exact h1.keep h2 (λb hb=>(h3 b hb).1) (λb hb=>(h3 b hb).2) (MutUp.refl _ _) (λb hb=>Nat.lt_of_lt_of_le (h1.low b hb) h2.size) h1.muts
theorem WFrom.up (h:WFrom w' Mut I N wd' lv') {Mut':Nat->Prop} (hm:∀ b,Mut' b->Mut b∨lv'.ownBlock=some b) (hl:∀ b,Mut' b->b<w'.heap.size) (hW:∀ b,WSet I b->Mut' b):WorldAt w' Mut' I N wd':=by
 obtain⟨w1,S,h1,h2,h3,h4⟩:=h
 refine h1.keep h2 (λb hb=>(h3 b hb).1) (λb hb=>(h3 b hb).2) (λb hb=>?_) hl hW
 rcases hm b hb with h|h
 ·exact .inl h
 ·exact h4 b h
theorem WFrom.go (h:WFrom w' Mut I N wd' lv') {S':Nat->Prop} (hc:Chg S' w' w'') (hS:∀ b,S' b->Mut b/\¬ WSet I b):WFrom w'' Mut I N wd' lv':=by
 obtain⟨w1,S,h1,h2,h3,h4⟩:=h
 exact⟨w1,λb=>S b∨S' b,h1,(h2.mono (λ_ _ h=>.inl h)).trans (hc.mono (λ_ _ h=>.inr h)),λb hb=>hb.elim (h3 b) (hS b),h4⟩
theorem WFrom.of (h:WorldAt w' Mut I N wd') (ho:∀ g,lv'.ownBlock=some g->Mut g):WFrom w' Mut I N wd' lv':=
 ⟨w',noB,h,Chg.refl _ _,λ_ h=>h.elim,λg hg=>.inl (ho g hg)⟩
end
def ScanTo (w w':World) (Mut:Nat->Prop) (I:WIds) (N:Nat) (wd':WD) (b bP:Nat) (lv:Value) (s':ScD) (e:Ending):Prop:=
 e=.returned (.bool (decide (s'.pc=3)))/\Chg (λk=>WSet I k∨k=b∨lv.ownBlock=some k) w w'/\∃ lv',WFrom w' Mut I N wd' lv'/\ScBlk w' b bP s' lv'/\w'.ownsRow 0 40 1 lv' s'.list.length (s'.list.map u64V)/\(∀ g,lv'.ownBlock=some g->(lv.ownBlock=some g∨w.heap.size<=g)/\g≠b/\g<w'.heap.size)/\(s'.pc=0->lv'=.slice none 0 0)
theorem held_any (n:Nat) (hn:n<=16) (w:World) (Mut:Nat->Prop) (I:WIds) (N:Nat) (wd:WD) (b bP:Nat) (s:ScD) (hw:WorldAt w Mut I N wd) (hbM:Mut b/\¬ WSet I b) (hb:ScBlk w b bP s (.slice none 0 0)) (hne:bP≠b) (hP:w.cell? ⟨bP,1,none⟩=some (.int .i64 (n:Int))) (hr9:s.rounds<=1000) (hnil:s.list=[]) (hT:wd.now<1000000000)
  (hlive:1<=s.rounds->∀ d f,scDif s.old s.now n 0 s.diff=(d,some f)->f<1000000/\wd.traces (f:Int)≠[]) :
  Calls Try.prog 171 #[.pointer (some ⟨b,0,none⟩),.pointer (some ⟨I.bW,0,none⟩)] w λe w'=>HeldTo w w' b bP (scHeld n wd s) e:=by
 by_cases hr:s.rounds=0
 ·obtain⟨mks,hwb,_,_⟩:=hw.blk
  refine(held_first w b bP I.bW s (.slice none 0 0) wd.now hb (by rw [cell_blk hwb];exact world_now) (λe=>hbM.2 (.inl e.symm)) hr).mono ?_
  rintro e u ⟨rfl,hc,hbu⟩
  refine⟨rfl,.slice none 0 0,?_⟩
  have e:scHeld n wd s={ s with at_:=0,rounds:=s.rounds+1,old:=s.now,last:=wd.now }:=by unfold scHeld;rw [if_pos (by omega)]
  rw [e]
  refine⟨?_,λ_=>rfl⟩
  refine⟨hbu,?_,hc.mono (λ_ _ e=>.inl e),λg hg=>by cases hg⟩
  show u.ownsRow 0 _ 1 _ s.list.length (s.list.map u64V)
  rw [hnil];exact World.ownsRow_nil _ _ _ _
 ·exact held_next n hn w Mut I N wd b bP s hw hbM hb hne hP (by omega) hr9 hnil hT (hlive (by omega))
set_option maxHeartbeats 8000000 in
theorem scan_collect (n k:Nat) (us:List Nat) (hn:n<=16) (w:World) (Mut:Nat->Prop) (I:WIds) (N:Nat) (wd:WD) (b bP:Nat) (s:ScD) (hw:WorldAt w Mut I N wd) (hbM:Mut b/\¬ WSet I b) (hb:ScBlk w b bP s (.slice none 0 0)) (hne:bP≠b) (hPW:¬ WSet I bP) (hP:w.heap[bP]?=some (.cells (snapL n k us).toArray 100 (0,0))) (hpc:s.pc=0) (hat:s.at_<n) (hr9:s.rounds<=999) (hnil:s.list=[]) (hT:wd.now<1000000000) (hcn:wd.mem.c.all+1<1000000000000)
  (hlive:s.at_+1=n->1<=s.rounds->∀ d f,scDif s.old (s.now.set s.at_ (taGot wd s.at_)) n 0 s.diff=(d,some f)->f<1000000/\wd.traces (f:Int)≠[]) :
  Calls Try.prog 170 #[.pointer (some ⟨b,0,none⟩),.pointer (some ⟨I.bW,0,none⟩)] w λe w'=>ScanTo w w' Mut I N (scWd wd s) b bP (.slice none 0 0) (scGo n wd s) e:=by
 obtain⟨s1,s2,s3⟩:=memSet_sub hw
 obtain⟨mks,hwb,_,_⟩:=hw.blk
 have x0:w.cell? ⟨I.bW,0,none⟩=some (.pointer (some ⟨I.bm,0,none⟩)):=by rw [cell_blk hwb];exact world_mem
 have y0:=hb.ptr
 have y1:=hb.pc
 rw [hpc] at y1
 obtain⟨a,ha⟩:∃ a,a=s.at_:=⟨_,rfl⟩
 have y2:w.cell? ⟨b,2,none⟩=some (.int .i64 (a:Int)):=by rw [ha];exact hb.at_
 have p0:w.cell? ⟨bP,0,none⟩=some (.int .i64 0):=by rw [cell_blk hP];rfl
 have nb:¬ MemSet I.bm I.bw b:=λh=>hbM.2 (s3 b h).1
 have nP:¬ MemSet I.bm I.bw bP:=λh=>hPW (s3 bP h).1
 have hbW:I.bW≠b:=λe=>hbM.2 (.inl e.symm)
 have Rd:=Lib.hid (λ(u:World) (h:Chg noB w u)=>read_any I.bm I.bw wd.mem (a:Int) u (hw.mem.chg h (λh=>h) (λ_ _ h=>h)) hcn)
 obtain⟨g,hg⟩:∃ g,g=taGot wd a:=⟨_,rfl⟩
 rw [show(memRead wd.mem (a:Int)).2=g from hg.symm] at Rd
 have hadr:scAddr s=a:=by unfold scAddr;rw [if_pos hpc,ha]
 have hwd':scWd wd s=taRead wd a:=by unfold scWd;rw [hadr]
 have hgo:scGo n wd s=if a+1=n then scHeld n wd { s with now:=s.now.set a g,at_:=a+1 } else { s with now:=s.now.set a g,at_:=a+1 }:=by
  unfold scGo scNext
  rw [if_pos hpc,hadr,<-hg,ha]
 have wa1:IntKind.i64.wrap ((a:Int)+1)=(a:Int)+1:=by rw [IntKind.wrap_i64];omega
 have wa2:IntKind.i64.wrap (a:Int)=(a:Int):=by rw [IntKind.wrap_i64];omega
 have l16:(a:Int)<16:=by omega
 have hblt:=hb.lt
 have hc0:Chg (MemSet I.bm I.bw) w w.drew:=(Chg.refl _ w).drew
 rw [hwd']
 have Hw:=Lib.hid hw;have Hb:=Lib.hid hb;have Nb:=Lib.hid nb;have NP:=Lib.hid nP;have S2:=Lib.hid s2;have HbM:=Lib.hid hbM;have Hne:=Lib.hid hne;have HP:=Lib.hid hP;have Hg:=Lib.hid hg;have Hgo:=Lib.hid hgo;have Ha:=Lib.hid ha;have HL:=Lib.hid hlive;have Hnil:=Lib.hid hnil;have Hpc:=Lib.hid hpc;have HPW:=Lib.hid hPW
 clear hw hb nb nP s1 s2 s3 hbM hne hP hg hgo hwd' hadr hwb hlive hnil hpc hPW ha hcn
 go_enter Try.func170,Try.ntmps170
 go_upto_region 3 with fail
 refine wp_region_L ((λu=>u.cell? ⟨I.bW,0,none⟩=some (.pointer (some ⟨I.bm,0,none⟩))/\u.cell? ⟨b,0,none⟩=some (.pointer (some ⟨bP,0,none⟩))/\u.cell? ⟨b,2,none⟩=some (.int .i64 (a:Int))/\u.cell? ⟨bP,0,none⟩=some (.int .i64 0))) 25 (by kernel_rfl) ?hS0L1 ?_
 case hS0L1=>
  (try dsimp only)
  (first|exact⟨x0,y0,y2,p0⟩|exact⟨z0,z1,z2,z3⟩)
 intro hS hcl
 refine wpAnyL_take (i:=0) (v:=?tv0L1) 26 rfl (by kernel_rfl) (by kernel_rfl) (by kernel_rfl) (by kernel_rfl) (by kernel_rfl) hcl (by first|exact λ_ _ _ h=>h|exact λ_ _ _ h=>HQp.out _ _ _ _ h) (Or.inl ⟨by rfl,?th0L1⟩) hS ?tr0L1
 (case th0L1=>(intro w hSw;(try dsimp only at hSw);go_simp;try with_reducible rfl))
 clear hcl;intro hcl
 (try simp only [Act.put,zq1,zq2,zq3,zq4,zq5,zq6])
 refine wpAnyL_take (i:=1) (v:=?tv1L1) 26 rfl (by kernel_rfl) (by kernel_rfl) (by kernel_rfl) (by kernel_rfl) (by kernel_rfl) hcl (by first|exact λ_ _ _ h=>h|exact λ_ _ _ h=>HQp.out _ _ _ _ h) (Or.inl ⟨by rfl,?th1L1⟩) hS ?tr1L1
 (case th1L1=>(intro w hSw;(try dsimp only at hSw);go_simp;try with_reducible rfl))
 clear hcl;intro hcl
 (try simp only [Act.put,zq1,zq2,zq3,zq4,zq5,zq6])
 refine wpAnyL_take (i:=2) (v:=?tv2L1) 26 rfl (by kernel_rfl) (by kernel_rfl) (by kernel_rfl) (by kernel_rfl) (by kernel_rfl) hcl (by first|exact λ_ _ _ h=>h|exact λ_ _ _ h=>HQp.out _ _ _ _ h) (Or.inl ⟨by rfl,?th2L1⟩) hS ?tr2L1
 (case th2L1=>(intro w hSw;(try dsimp only at hSw);go_simp;try with_reducible rfl))
 clear hcl;intro hcl
 (try simp only [Act.put,zq1,zq2,zq3,zq4,zq5,zq6])
 refine wpAnyL_take (i:=3) (v:=?tv3L1) 26 rfl (by kernel_rfl) (by kernel_rfl) (by kernel_rfl) (by kernel_rfl) (by kernel_rfl) hcl (by first|exact λ_ _ _ h=>h|exact λ_ _ _ h=>HQp.out _ _ _ _ h) (Or.inl ⟨by rfl,?th3L1⟩) hS ?tr3L1
 (case th3L1=>(intro w hSw;(try dsimp only at hSw);go_simp;try with_reducible rfl))
 clear hcl;intro hcl
 (try simp only [Act.put,zq1,zq2,zq3,zq4,zq5,zq6])
 refine wpAnyL_take (i:=4) (v:=?tv4L1) 26 rfl (by kernel_rfl) (by kernel_rfl) (by kernel_rfl) (by kernel_rfl) (by kernel_rfl) hcl (by first|exact λ_ _ _ h=>h|exact λ_ _ _ h=>HQp.out _ _ _ _ h) (Or.inl ⟨by rfl,?th4L1⟩) hS ?tr4L1
 (case th4L1=>(intro w hSw;(try dsimp only at hSw);go_simp;try with_reducible rfl))
 clear hcl;intro hcl
 (try simp only [Act.put,zq1,zq2,zq3,zq4,zq5,zq6])
 refine wpAnyL_take (i:=5) (v:=?tv5L1) 26 rfl (by kernel_rfl) (by kernel_rfl) (by kernel_rfl) (by kernel_rfl) (by kernel_rfl) hcl (by first|exact λ_ _ _ h=>h|exact λ_ _ _ h=>HQp.out _ _ _ _ h) (Or.inl ⟨by rfl,?th5L1⟩) hS ?tr5L1
 (case th5L1=>(intro w hSw;(try dsimp only at hSw);go_simp;try with_reducible rfl))
 clear hcl;intro hcl
 (try simp only [Act.put,zq1,zq2,zq3,zq4,zq5,zq6])
 refine wpAnyL_take (i:=6) (v:=?tv6L1) 26 rfl (by kernel_rfl) (by kernel_rfl) (by kernel_rfl) (by kernel_rfl) (by kernel_rfl) hcl (by first|exact λ_ _ _ h=>h|exact λ_ _ _ h=>HQp.out _ _ _ _ h) (Or.inl ⟨by rfl,?th6L1⟩) hS ?tr6L1
 (case th6L1=>(intro w hSw;(try dsimp only at hSw);go_simp;try with_reducible rfl))
 clear hcl;intro hcl
 (try simp only [Act.put,zq1,zq2,zq3,zq4,zq5,zq6])
 refine wpAnyL_take (i:=7) (v:=?tv7L1) 26 rfl (by kernel_rfl) (by kernel_rfl) (by kernel_rfl) (by kernel_rfl) (by kernel_rfl) hcl (by first|exact λ_ _ _ h=>h|exact λ_ _ _ h=>HQp.out _ _ _ _ h) (Or.inl ⟨by rfl,?th7L1⟩) hS ?tr7L1
 (case th7L1=>(intro w hSw;(try dsimp only at hSw);go_simp;try with_reducible rfl))
 clear hcl;intro hcl
 (try simp only [Act.put,zq1,zq2,zq3,zq4,zq5,zq6])
 refine wpAnyL_take (i:=8) (v:=?tv8L1) 26 rfl (by kernel_rfl) (by kernel_rfl) (by kernel_rfl) (by kernel_rfl) (by kernel_rfl) hcl (by first|exact λ_ _ _ h=>h|exact λ_ _ _ h=>HQp.out _ _ _ _ h) (Or.inl ⟨by rfl,?th8L1⟩) hS ?tr8L1
 (case th8L1=>(intro w hSw;(try dsimp only at hSw);go_simp;try with_reducible rfl))
 clear hcl;intro hcl
 (try simp only [Act.put,zq1,zq2,zq3,zq4,zq5,zq6])
 refine wpAnyL_take (i:=9) (v:=?tv9L1) 26 rfl (by kernel_rfl) (by kernel_rfl) (by kernel_rfl) (by kernel_rfl) (by kernel_rfl) hcl (by first|exact λ_ _ _ h=>h|exact λ_ _ _ h=>HQp.out _ _ _ _ h) (Or.inl ⟨by rfl,?th9L1⟩) hS ?tr9L1
 (case th9L1=>(intro w hSw;(try dsimp only at hSw);go_simp;try with_reducible rfl))
 clear hcl;intro hcl
 (try simp only [Act.put,zq1,zq2,zq3,zq4,zq5,zq6])
 refine wpAnyL_take (i:=10) (v:=?tv10L1) 26 rfl (by kernel_rfl) (by kernel_rfl) (by kernel_rfl) (by kernel_rfl) (by kernel_rfl) hcl (by first|exact λ_ _ _ h=>h|exact λ_ _ _ h=>HQp.out _ _ _ _ h) (Or.inl ⟨by rfl,?th10L1⟩) hS ?tr10L1
 (case th10L1=>(intro w hSw;(try dsimp only at hSw);go_simp;try with_reducible rfl))
 clear hcl;intro hcl
 (try simp only [Act.put,zq1,zq2,zq3,zq4,zq5,zq6])
 refine wpAnyL_take (i:=11) (v:=?tv11L1) 26 rfl (by kernel_rfl) (by kernel_rfl) (by kernel_rfl) (by kernel_rfl) (by kernel_rfl) hcl (by first|exact λ_ _ _ h=>h|exact λ_ _ _ h=>HQp.out _ _ _ _ h) (Or.inl ⟨by rfl,?th11L1⟩) hS ?tr11L1
 (case th11L1=>(intro w hSw;(try dsimp only at hSw);go_simp;try with_reducible rfl))
 clear hcl;intro hcl
 (try simp only [Act.put,zq1,zq2,zq3,zq4,zq5,zq6])
 refine wpAnyL_take (i:=12) (v:=?tv12L1) 26 rfl (by kernel_rfl) (by kernel_rfl) (by kernel_rfl) (by kernel_rfl) (by kernel_rfl) hcl (by first|exact λ_ _ _ h=>h|exact λ_ _ _ h=>HQp.out _ _ _ _ h) (Or.inl ⟨by rfl,?th12L1⟩) hS ?tr12L1
 (case th12L1=>(intro w hSw;(try dsimp only at hSw);go_simp;try with_reducible rfl))
 clear hcl;intro hcl
 (try simp only [Act.put,zq1,zq2,zq3,zq4,zq5,zq6])
 refine wpAnyL_take (i:=13) (v:=?tv13L1) 26 rfl (by kernel_rfl) (by kernel_rfl) (by kernel_rfl) (by kernel_rfl) (by kernel_rfl) hcl (by first|exact λ_ _ _ h=>h|exact λ_ _ _ h=>HQp.out _ _ _ _ h) (Or.inl ⟨by rfl,?th13L1⟩) hS ?tr13L1
 (case th13L1=>(intro w hSw;(try dsimp only at hSw);go_simp;try with_reducible rfl))
 clear hcl;intro hcl
 (try simp only [Act.put,zq1,zq2,zq3,zq4,zq5,zq6])
 refine wpAnyL_take (i:=14) (v:=?tv14L1) 26 rfl (by kernel_rfl) (by kernel_rfl) (by kernel_rfl) (by kernel_rfl) (by kernel_rfl) hcl (by first|exact λ_ _ _ h=>h|exact λ_ _ _ h=>HQp.out _ _ _ _ h) (Or.inl ⟨by rfl,?th14L1⟩) hS ?tr14L1
 (case th14L1=>(intro w hSw;(try dsimp only at hSw);go_simp;try with_reducible rfl))
 clear hcl;intro hcl
 (try simp only [Act.put,zq1,zq2,zq3,zq4,zq5,zq6])
 refine wpAnyL_take (i:=15) (v:=?tv15L1) 26 rfl (by kernel_rfl) (by kernel_rfl) (by kernel_rfl) (by kernel_rfl) (by kernel_rfl) hcl (by first|exact λ_ _ _ h=>h|exact λ_ _ _ h=>HQp.out _ _ _ _ h) (Or.inl ⟨by rfl,?th15L1⟩) hS ?tr15L1
 (case th15L1=>(intro w hSw;(try dsimp only at hSw);go_simp;try with_reducible rfl))
 clear hcl;intro hcl
 (try simp only [Act.put,zq1,zq2,zq3,zq4,zq5,zq6])
 refine wpAnyL_take (i:=16) (v:=?tv16L1) 26 rfl (by kernel_rfl) (by kernel_rfl) (by kernel_rfl) (by kernel_rfl) (by kernel_rfl) hcl (by first|exact λ_ _ _ h=>h|exact λ_ _ _ h=>HQp.out _ _ _ _ h) (Or.inl ⟨by rfl,?th16L1⟩) hS ?tr16L1
 (case th16L1=>(intro w hSw;(try dsimp only at hSw);go_simp;try with_reducible rfl))
 clear hcl;intro hcl
 (try simp only [Act.put,zq1,zq2,zq3,zq4,zq5,zq6])
 refine wpAnyL_take (i:=17) (v:=?tv17L1) 26 rfl (by kernel_rfl) (by kernel_rfl) (by kernel_rfl) (by kernel_rfl) (by kernel_rfl) hcl (by first|exact λ_ _ _ h=>h|exact λ_ _ _ h=>HQp.out _ _ _ _ h) (Or.inl ⟨by rfl,?th17L1⟩) hS ?tr17L1
 (case th17L1=>(intro w hSw;(try dsimp only at hSw);go_simp;try with_reducible rfl))
 clear hcl;intro hcl
 (try simp only [Act.put,zq1,zq2,zq3,zq4,zq5,zq6])
 refine wpAnyL_take (i:=18) (v:=?tv18L1) 26 rfl (by kernel_rfl) (by kernel_rfl) (by kernel_rfl) (by kernel_rfl) (by kernel_rfl) hcl (by first|exact λ_ _ _ h=>h|exact λ_ _ _ h=>HQp.out _ _ _ _ h) (Or.inl ⟨by rfl,?th18L1⟩) hS ?tr18L1
 (case th18L1=>(intro w hSw;(try dsimp only at hSw);go_simp;try with_reducible rfl))
 clear hcl;intro hcl
 (try simp only [Act.put,zq1,zq2,zq3,zq4,zq5,zq6])
 refine wpAnyL_take (i:=19) (v:=?tv19L1) 26 rfl (by kernel_rfl) (by kernel_rfl) (by kernel_rfl) (by kernel_rfl) (by kernel_rfl) hcl (by first|exact λ_ _ _ h=>h|exact λ_ _ _ h=>HQp.out _ _ _ _ h) (Or.inl ⟨by rfl,?th19L1⟩) hS ?tr19L1
 (case th19L1=>(intro w hSw;(try dsimp only at hSw);go_simp;try with_reducible rfl))
 clear hcl;intro hcl
 (try simp only [Act.put,zq1,zq2,zq3,zq4,zq5,zq6])
 refine wpAnyL_take (i:=20) (v:=?tv20L1) 26 rfl (by kernel_rfl) (by kernel_rfl) (by kernel_rfl) (by kernel_rfl) (by kernel_rfl) hcl (by first|exact λ_ _ _ h=>h|exact λ_ _ _ h=>HQp.out _ _ _ _ h) (Or.inl ⟨by rfl,?th20L1⟩) hS ?tr20L1
 (case th20L1=>(intro w hSw;(try dsimp only at hSw);go_simp;try with_reducible rfl))
 clear hcl;intro hcl
 (try simp only [Act.put,zq1,zq2,zq3,zq4,zq5,zq6])
 refine wpAnyL_take (i:=22) (v:=?tv21L1) 26 rfl (by kernel_rfl) (by kernel_rfl) (by kernel_rfl) (by kernel_rfl) (by kernel_rfl) hcl (by first|exact λ_ _ _ h=>h|exact λ_ _ _ h=>HQp.out _ _ _ _ h) (Or.inl ⟨by rfl,?th21L1⟩) hS ?tr21L1
 (case th21L1=>(intro w hSw;(try dsimp only at hSw);go_simp;try with_reducible rfl))
 clear hcl;intro hcl
 (try simp only [Act.put,zq1,zq2,zq3,zq4,zq5,zq6])
 refine wpAnyL_take (i:=23) (v:=?tv22L1) 26 rfl (by kernel_rfl) (by kernel_rfl) (by kernel_rfl) (by kernel_rfl) (by kernel_rfl) hcl (by first|exact λ_ _ _ h=>h|exact λ_ _ _ h=>HQp.out _ _ _ _ h) (Or.inl ⟨by rfl,?th22L1⟩) hS ?tr22L1
 (case th22L1=>(intro w hSw;(try dsimp only at hSw);go_simp;try with_reducible rfl))
 clear hcl;intro hcl
 (try simp only [Act.put,zq1,zq2,zq3,zq4,zq5,zq6])
 refine wpAnyL_one (i:=21) (by kernel_rfl) rfl hcl (λK' hK=>?_)
 have HK:=Lib.hid hK;clear hK
 ((rw [if_pos (by kernel_rfl)]);(try simp only [zq1,zq2,zq3]);go_big_op)
 (go_at_call 115;refine(Rd.out _ ?_).mono ?_;(exact(Chg.refl _ _).drew);rintro e w1 ⟨rfl,hm1,hc1⟩;have hc1':Chg (MemSet I.bm I.bw) w w1:=hc0.trans hc1;have z0:=box_keep hc1' S2.out x0;have hb1:=Hb.out.chg hc1' Nb.out;have z1:=box_keep hc1' Nb.out y0;have z2:=box_keep hc1' Nb.out y2;have z3:=box_keep hc1' NP.out p0;have z4:=hb1.now (t:=a) (by omega);have zf:=hb1.frozen (20+a);have zl:=hb1.lt)
 refine HK.out _ _ ?hS21L1 (λhcl=>?_)
 case hS21L1=>
  intro _
  (try dsimp only)
  (first|exact⟨x0,y0,y2,p0⟩|exact⟨z0,z1,z2,z3⟩)
 clear HK
 (try simp only [Act.put,zq1,zq2,zq3,zq4,zq5,zq6])
 refine wpAnyL_one (i:=24) (by kernel_rfl) rfl hcl (λK' hK=>?_)
 have HK:=Lib.hid hK;clear hK
 ((rw [if_pos (by kernel_rfl)]);(try simp only [zq1,zq2,zq3]);first|go_big_move|go_big_op)
 refine HK.out _ _ ?hS24L1 (λhcl=>?_)
 case hS24L1=>
  intro _
  (try dsimp only)
  (first|exact⟨x0,y0,y2,p0⟩|exact⟨z0,z1,z2,z3⟩)
 clear HK
 (try simp only [Act.put,zq1,zq2,zq3,zq4,zq5,zq6])
 refine wpAnyL_one (i:=25) (by kernel_rfl) rfl hcl (λK' hK=>?_)
 have HK:=Lib.hid hK;clear hK
 ((rw [if_pos (by kernel_rfl)]);(try simp only [zq1,zq2,zq3]);first|go_big_move|go_big_op)
 refine HK.out _ _ (λh=>by cases h.symm.trans (by kernel_rfl:_=true)) (λ_=>wpAnyL_done (by kernel_rfl) ?_ _)
 clear HK
 (try clear hS)
 obtain⟨hw1,hch1⟩:=Hw.out.mems hc1' hm1
 obtain⟨w2,hw2⟩:∃ w2,w2=w1.setCell ⟨b,20+a,none⟩ (.int .u64 (g:Int)):=⟨_,rfl⟩
 rw [<-hw2]
 have hb2:ScBlk w2 b bP { s with now:=s.now.set a g } (.slice none 0 0):=by rw [hw2];exact hb1.setNow (by omega) g
 have hc2:Chg (λk=>k=b) w1 w2:=by rw [hw2];exact(Chg.refl (λk=>k=b) w1).setCell (p:=⟨b,20+a,none⟩) (.inl rfl) _
 obtain⟨w3,hw3⟩:∃ w3,w3=w2.setCell ⟨b,2,none⟩ (.int .i64 ((a:Int)+1)):=⟨_,rfl⟩
 have hb3:ScBlk w3 b bP { s with now:=s.now.set a g,at_:=a+1 } (.slice none 0 0):=by rw [hw3];exact hb2.setAt (a+1)
 have hc3:Chg (λk=>k=b) w1 w3:=by rw [hw3];exact hc2.setCell (p:=⟨b,2,none⟩) (.inl rfl) _
 have hw3':=world_cell hw1 hc3 (λk hk=>by cases hk;exact HbM.out)
 have q2:w2.cell? ⟨b,2,none⟩=some (.int .i64 (a:Int)):=by rw [hb2.at_,Ha.out]
 have qf:=hb2.frozen 2
 have qlt:=hb2.lt
 have hP1:=(hc1'.block bP (blk_lt HP.out) NP.out).trans HP.out
 have hP3:=(hc3.block bP (blk_lt hP1) Hne.out).trans hP1
 have hcw3:Chg (λk=>WSet I k∨k=b) w w3:=(hch1.mono (λ_ _ h=>.inl h)).trans (hc3.mono (λ_ _ h=>.inr h))
 have Hb3:=Lib.hid hb3;have Hw3:=Lib.hid hw3;have Hw3':=Lib.hid hw3';have HP3:=Lib.hid hP3;have Hcw3:=Lib.hid hcw3
 clear hw1 hch1 hc1 hc1' hm1 hb1 z0 z1 z2 z3 z4 zf zl hw2 hb2 hc2 hw3 hb3 hc3 hw3' hP1 hP3 hcw3 x0 y0 y1 y2 p0 hc0
 go_upto_region 5 with fail
 rw [<-Hw3.out]
 clear q2 qf qlt
 have e0:=Hb3.out.ptr
 have e1:w3.cell? ⟨b,1,none⟩=some (.int .i64 0):=by rw [Hb3.out.pc];show some (Value.int .i64 (s.pc:Int))=_;rw [Hpc.out];rfl
 have e2:w3.cell? ⟨b,2,none⟩=some (.int .i64 ((a:Int)+1)):=Hb3.out.at_
 have eP:w3.cell? ⟨bP,1,none⟩=some (.int .i64 (n:Int)):=by rw [cell_blk HP3.out];rfl
 by_cases hl:a+1=n
 ·have l1:((a:Int)+1)=(n:Int):=by omega
  obtain⟨s1,hs1⟩:∃ s1,s1=({ s with now:=s.now.set a g,at_:=a+1 }:ScD):=⟨_,rfl⟩
  have HE:=Lib.hid (λ(u:World) (hu:Chg (λ_=>False) w3 u)=>held_any n hn u Mut I N (taRead wd a) b bP s1 (world_cell Hw3'.out hu (λ_ h=>h.elim)) HbM.out (by rw [hs1];exact Hb3.out.chg hu (λh=>h)) Hne.out (box_keep hu (λh=>h) eP) (by rw [hs1];show s.rounds<=1000;omega) (by rw [hs1];exact Hnil.out) hT (by
   rw [hs1]
   intro h1 d f hd
   have hd':scDif s.old (s.now.set s.at_ (taGot wd s.at_)) n 0 s.diff=(d,some f):=by rw [<-Ha.out,<-Hg.out];exact hd
   exact HL.out (by rw [<-Ha.out];exact hl) h1 d f hd'))
  have hgo:scGo n wd s=scHeld n (taRead wd a) s1:=by rw [Hgo.out,if_pos hl,hs1];rfl
  have Hgo2:=Lib.hid hgo
  have hx2:(w3.cell? ⟨b,2,none⟩)=some (.int .i64 (n:Int)):=by rw [e2,l1]
  clear hs1 hgo hl e2
  go_quiet (fail)
  have hcd:Chg (λ_=>False) w3 (w3.drewN nq):=(Chg.refl _ _).drewN nq
  obtain⟨w4,hw4⟩:∃ w4,w4=w3.drewN nq:=⟨_,rfl⟩
  rw [<-hw4] at hcd ⊢
  have H4:=Lib.hid (HE.out w4 hcd)
  have Hcd:=Lib.hid hcd
  clear hw4 hcd e0 e1 eP hx2
  go_wp2_with fail
  refine H4.out.mono ?_
  rintro e w5 ⟨rfl,lv5,hr5,hn5⟩
  have Hr5:=Lib.hid hr5
  have Hn5:=Lib.hid hn5
  obtain⟨s5,hs5⟩:∃ s5,s5=scHeld n (taRead wd a) s1:=⟨_,rfl⟩
  rw [<-hs5] at Hr5 Hn5
  have Hs5:=Lib.hid hs5
  obtain⟨pc,hpc5⟩:∃ pc,pc=s5.pc:=⟨_,rfl⟩
  have e1:w5.cell? ⟨b,1,none⟩=some (.int .i64 (pc:Int)):=by rw [hpc5];exact Hr5.out.blk.pc
  have F:=Lib.hid (show ScanTo w w5 Mut I N (taRead wd a) b bP (.slice none 0 0) (scGo n wd s) (.returned (.bool (decide (pc=3)))) from by
   rw [Hgo2.out,<-Hs5.out]
   have hc34:Chg (λk=>WSet I k∨k=b∨(Value.slice none 0 0).ownBlock=some k) w w4:=(Hcw3.out.mono (λk _ h=>h.elim .inl (λh=>.inr (.inl h)))).trans (Hcd.out.mono (λ_ _ h=>h.elim))
   refine⟨by rw [hpc5],hc34.trans (Hr5.out.chg.mono (λk _ h=>.inr h)),lv5,⟨w4,_,world_cell Hw3'.out Hcd.out (λ_ h=>h.elim),Hr5.out.chg,(λk hk=>by rcases hk with rfl|hk;exact HbM.out;cases hk),λg hg=>?_⟩,Hr5.out.blk,Hr5.out.row,λg hg=>?_,Hn5.out⟩
   ·obtain⟨o1,o2,o3⟩:=Hr5.out.own g hg
    exact o1.elim (λh=>by cases h) .inr
   obtain⟨o1,o2,o3⟩:=Hr5.out.own g hg
   exact⟨o1.elim .inl (λh=>.inr (Nat.le_trans hc34.size h)),o2,o3⟩)
  clear hr5 hs5 hn5
  by_cases h3:pc=3
  ·have t3:((pc:Int) == 3)=true:=by rw [beq_iff_eq];omega
   have F2:=Lib.hid F.out
   rw [decide_eq_true h3] at F2
   clear hpc5 h3
   go_wp2
   go_ret
   exact F2.out
  ·have t3:((pc:Int) == 3)=false:=by rw [beq_eq_false_iff_ne];omega
   have F2:=Lib.hid F.out
   rw [decide_eq_false h3] at F2
   clear hpc5 h3
   go_wp2
   go_ret
   exact F2.out
 ·have l1:¬ ((a:Int)+1)=(n:Int):=by omega
  have F:=Lib.hid (λ(u:World) (hu:Chg (λ_=>False) w3 u)=>show ScanTo w u Mut I N (taRead wd a) b bP (.slice none 0 0) (scGo n wd s) (.returned (.bool false)) from by
   rw [Hgo.out,if_neg hl]
   refine⟨?_,(Hcw3.out.mono (λk _ h=>h.elim .inl (λh=>.inr (.inl h)))).trans (hu.mono (λ_ _ h=>h.elim)),(.slice none 0 0),WFrom.of (world_cell Hw3'.out hu (λ_ h=>h.elim)) (λg hg=>by cases hg),Hb3.out.chg hu (λh=>h),?_,(λg hg=>by cases hg),λ_=>rfl⟩
   ·show Ending.returned (.bool false)=.returned (.bool (decide (s.pc=3)))
    rw [Hpc.out];rfl
   ·show u.ownsRow 0 _ 1 _ s.list.length (s.list.map u64V)
    rw [Hnil.out];exact World.ownsRow_nil _ _ _ _)
  clear hl
  go_quiet (fail)
  have d1:(w3.drewN nq).cell? ⟨b,1,none⟩=some (.int .i64 0):=e1
  clear e0 e1 e2 eP
  go_wp2
  go_ret
  exact F.out _ ((Chg.refl _ _).drewN nq)
end Go.Proofs.Ytlepjmnhekeofaa
