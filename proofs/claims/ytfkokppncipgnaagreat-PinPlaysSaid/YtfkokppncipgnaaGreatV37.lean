/- Layer 14: one that reads: to come, to leave. -/
import Derived.Test.YtfkokppncipgnaaGreatV36
import Derived.Deep.AppendLies
set_option maxRecDepth 100000
set_option linter.unusedVariables false
set_option linter.unusedSimpArgs false
set_option linter.unnecessarySimpa false
namespace Go.Proofs.YtfkokppncipgnaaGreat
open List renaming getElem_toArray → zq1, getElem_cons_zero → zq2, getElem_cons_succ → zq3, setIfInBounds_toArray → zq4, set_cons_zero → zq5, set_cons_succ → zq6
open Go.RowKit
def piRd (bP q k:Nat) (lv kv:Value):Array Value:=#[.pointer (some ⟨bP,0,none⟩),.int .i64 (q:Int),.int .i64 (k:Int),lv,kv]
def RdTo (w w':World) (Mut B:Nat->Prop) (I:WIds) (N:Nat) (wd:WD) (b:Nat) (cells:Array Value) (done:Bool) (e:Ending):Prop:=
 e=.returned (.bool done)/\Chg (λj=>WSet I j∨j=b) w w'/\WorldAt w' Mut I N wd/\w'.heap[b]?=some (.cells cells 254 (0,0))
theorem world_cell {w w':World} {Mut:Nat->Prop} {I:WIds} {N:Nat} {wd:WD} {S:Nat->Prop} (h:WorldAt w Mut I N wd) (hc:Chg S w w') (h1:∀ b,S b->Mut b/\¬ WSet I b):WorldAt w' Mut I N wd:=
 h.keep hc (λb hb=>(h1 b hb).1) (λb hb=>(h1 b hb).2) (MutUp.refl _ _) (λb hb=>Nat.lt_of_lt_of_le (h.low b hb) hc.size) h.muts
set_option maxHeartbeats 8000000 in
theorem rd_come (w:World) (Mut B:Nat->Prop) (I:WIds) (N:Nat) (wd:WD) (n k bP bC b q:Nat) (lv kv:Value) (o:PinO) (hw:WorldAt w Mut I N wd) (hP:PinAt w bP bC n k o) (hbk:w.heap[b]?=some (.cells (piRd bP q 0 lv kv) 254 (0,0))) (hb:B b) (hB:∀ b,B b->Mut b/\¬ WSet I b) (hcn:wd.mem.c.all+1<1000000000000)
  (hne:bP≠b) (hWP:¬ WSet I bP/\¬ WSet I bC) :
  Calls Tryz.prog 211 #[.pointer (some ⟨b,0,none⟩),.pointer (some ⟨I.bW,0,none⟩)] w λe w'=>∃ kv',RdTo w w' Mut B I N (doAdd wd 0 1) b (piRd bP (adGot wd 0 1 / 4294967296) 1 lv kv') false e/\Lst w' Mut kv' (tickKey wd):=by
 obtain⟨s1,s2,s3⟩:=memSet_sub hw
 obtain⟨mks,hwb,_,_⟩:=hw.blk
 have hblt:=blk_lt hbk
 have nbW:¬ WSet I b:=(hB b hb).2
 have nb:¬ MemSet I.bm I.bw b:=λh=>nbW (s3 b h).1
 have nP:¬ MemSet I.bm I.bw bP:=λh=>hWP.1 (s3 bP h).1
 have hbW:I.bW≠b:=λe=>nbW (.inl e.symm)
 have hgl:adGot wd 0 1<18446744073709551616:=memAdd_val hw.mem 0 1
 obtain⟨r,hr⟩:∃ r,r=adGot wd 0 1:=⟨_,rfl⟩
 rw [<-hr] at hgl ⊢
 obtain⟨q',hq'⟩:∃ q',q'=r / 4294967296:=⟨_,rfl⟩
 rw [<-hq']
 have y0:w.cell? ⟨b,0,none⟩=some (.pointer (some ⟨bP,0,none⟩)):=by rw [cell_blk hbk];rfl
 have y2:w.cell? ⟨b,2,none⟩=some (.int .i64 0):=by rw [cell_blk hbk];rfl
 have yf:=frozen_blk hbk 2
 obtain⟨wa,hwa⟩:∃ wa,wa=w.setCell ⟨b,2,none⟩ (.int .i64 1):=⟨_,rfl⟩
 have hca:Chg (λj=>j=b) w wa:=by rw [hwa];exact(Chg.refl (λj=>j=b) w).setCell (by exact .inl rfl) _
 have hba:wa.heap[b]?=some (.cells (piRd bP q 1 lv kv) 254 (0,0)):=by rw [hwa,blk_set hbk];rfl
 have hwA:=world_cell hw hca (λj hj=>by cases hj;exact hB b hb)
 have a0:wa.cell? ⟨I.bW,0,none⟩=some (.pointer (some ⟨I.bm,0,none⟩)):=(hca.cell (blk_lt hwb) hbW).trans (by rw [cell_blk hwb];exact world_mem)
 have a1:wa.cell? ⟨b,0,none⟩=some (.pointer (some ⟨bP,0,none⟩)):=by rw [cell_blk hba];rfl
 have a2:wa.cell? ⟨bP,0,none⟩=some (.int .i64 0):=(hca.cell (blk_lt hP.blk) hne).trans (by rw [cell_blk hP.blk];rfl)
 have hbla:=blk_lt hba
 have Ad:=Lib.hid (λ(u:World) (h:Chg noB wa u)=>add_any I.bm I.bw wd.mem 0 1 u (hwA.mem.chg h (λh=>h) (λ_ _ h=>h)) hcn)
 rw [show(memAdd wd.mem 0 1).2=r from hr.symm] at Ad
 have w0:IntKind.u64.wrap ((r:Int) / 2^32)=(q':Int):=by rw [hq',IntKind.wrap_u64];omega
 have w1':IntKind.u64.wrap ((r:Int) / 4294967296)=(q':Int):=by rw [hq',IntKind.wrap_u64];omega
 have w2':IntKind.i64.wrap (q':Int)=(q':Int):=by rw [hq',IntKind.wrap_i64];omega
 have w3':(r:Int) / 4294967296=(q':Int):=by omega
 have w4':(r:Int) / 2^32=(q':Int):=by omega
 have w5':IntKind.u64.wrap (q':Int)=(q':Int):=by rw [IntKind.wrap_u64];omega
 have HwA:=Lib.hid hwA;have Hca:=Lib.hid hca;have Hba:=Lib.hid hba;have Hwa:=Lib.hid hwa;have Nb:=Lib.hid nb;have NP:=Lib.hid nP;have S2:=Lib.hid s2;have HB:=Lib.hid hB;have Hb:=Lib.hid hb;have NbW:=Lib.hid nbW;have Hr:=Lib.hid hr
 clear hw hP hbk hwb s1 s2 s3 nb nP hB hb hr hq' hwa hca hwA hba hcn hWP hgl nbW hne
 go_enter Tryz.func211,Tryz.ntmps211
 go_upto_region 2 with fail
 rw [<-Hwa.out]
 have d2:wa.cell? ⟨b,2,none⟩=some (.int .i64 1):=by rw [cell_blk Hba.out];rfl
 go_upto_region 6 with fail
 refine wp_region_L ((λu=>u.cell? ⟨I.bW,0,none⟩=some (.pointer (some ⟨I.bm,0,none⟩))/\u.cell? ⟨b,0,none⟩=some (.pointer (some ⟨bP,0,none⟩))/\u.cell? ⟨bP,0,none⟩=some (.int .i64 0))) 17 (by kernel_rfl) ?hS0L1 ?_
 case hS0L1=>
  (try dsimp only)
  (first|exact⟨a0,a1,a2⟩|exact⟨z0,z1,z2⟩)
 intro hS hcl
 refine wpAnyL_take (i:=0) (v:=?tv0L1) 18 rfl (by kernel_rfl) (by kernel_rfl) (by kernel_rfl) (by kernel_rfl) (by kernel_rfl) hcl (by first|exact λ_ _ _ h=>h|exact λ_ _ _ h=>HQp.out _ _ _ _ h) (Or.inl ⟨by rfl,?th0L1⟩) hS ?tr0L1
 (case th0L1=>(intro w hSw;(try dsimp only at hSw);go_simp;try with_reducible rfl))
 clear hcl;intro hcl
 (try simp only [Act.put,zq1,zq2,zq3,zq4,zq5,zq6])
 refine wpAnyL_take (i:=1) (v:=?tv1L1) 18 rfl (by kernel_rfl) (by kernel_rfl) (by kernel_rfl) (by kernel_rfl) (by kernel_rfl) hcl (by first|exact λ_ _ _ h=>h|exact λ_ _ _ h=>HQp.out _ _ _ _ h) (Or.inl ⟨by rfl,?th1L1⟩) hS ?tr1L1
 (case th1L1=>(intro w hSw;(try dsimp only at hSw);go_simp;try with_reducible rfl))
 clear hcl;intro hcl
 (try simp only [Act.put,zq1,zq2,zq3,zq4,zq5,zq6])
 refine wpAnyL_take (i:=2) (v:=?tv2L1) 18 rfl (by kernel_rfl) (by kernel_rfl) (by kernel_rfl) (by kernel_rfl) (by kernel_rfl) hcl (by first|exact λ_ _ _ h=>h|exact λ_ _ _ h=>HQp.out _ _ _ _ h) (Or.inl ⟨by rfl,?th2L1⟩) hS ?tr2L1
 (case th2L1=>(intro w hSw;(try dsimp only at hSw);go_simp;try with_reducible rfl))
 clear hcl;intro hcl
 (try simp only [Act.put,zq1,zq2,zq3,zq4,zq5,zq6])
 refine wpAnyL_take (i:=3) (v:=?tv3L1) 18 rfl (by kernel_rfl) (by kernel_rfl) (by kernel_rfl) (by kernel_rfl) (by kernel_rfl) hcl (by first|exact λ_ _ _ h=>h|exact λ_ _ _ h=>HQp.out _ _ _ _ h) (Or.inl ⟨by rfl,?th3L1⟩) hS ?tr3L1
 (case th3L1=>(intro w hSw;(try dsimp only at hSw);go_simp;try with_reducible rfl))
 clear hcl;intro hcl
 (try simp only [Act.put,zq1,zq2,zq3,zq4,zq5,zq6])
 refine wpAnyL_take (i:=4) (v:=?tv4L1) 18 rfl (by kernel_rfl) (by kernel_rfl) (by kernel_rfl) (by kernel_rfl) (by kernel_rfl) hcl (by first|exact λ_ _ _ h=>h|exact λ_ _ _ h=>HQp.out _ _ _ _ h) (Or.inl ⟨by rfl,?th4L1⟩) hS ?tr4L1
 (case th4L1=>(intro w hSw;(try dsimp only at hSw);go_simp;try with_reducible rfl))
 clear hcl;intro hcl
 (try simp only [Act.put,zq1,zq2,zq3,zq4,zq5,zq6])
 refine wpAnyL_take (i:=5) (v:=?tv5L1) 18 rfl (by kernel_rfl) (by kernel_rfl) (by kernel_rfl) (by kernel_rfl) (by kernel_rfl) hcl (by first|exact λ_ _ _ h=>h|exact λ_ _ _ h=>HQp.out _ _ _ _ h) (Or.inl ⟨by rfl,?th5L1⟩) hS ?tr5L1
 (case th5L1=>(intro w hSw;(try dsimp only at hSw);go_simp;try with_reducible rfl))
 clear hcl;intro hcl
 (try simp only [Act.put,zq1,zq2,zq3,zq4,zq5,zq6])
 refine wpAnyL_take (i:=6) (v:=?tv6L1) 18 rfl (by kernel_rfl) (by kernel_rfl) (by kernel_rfl) (by kernel_rfl) (by kernel_rfl) hcl (by first|exact λ_ _ _ h=>h|exact λ_ _ _ h=>HQp.out _ _ _ _ h) (Or.inl ⟨by rfl,?th6L1⟩) hS ?tr6L1
 (case th6L1=>(intro w hSw;(try dsimp only at hSw);go_simp;try with_reducible rfl))
 clear hcl;intro hcl
 (try simp only [Act.put,zq1,zq2,zq3,zq4,zq5,zq6])
 refine wpAnyL_take (i:=7) (v:=?tv7L1) 18 rfl (by kernel_rfl) (by kernel_rfl) (by kernel_rfl) (by kernel_rfl) (by kernel_rfl) hcl (by first|exact λ_ _ _ h=>h|exact λ_ _ _ h=>HQp.out _ _ _ _ h) (Or.inl ⟨by rfl,?th7L1⟩) hS ?tr7L1
 (case th7L1=>(intro w hSw;(try dsimp only at hSw);go_simp;try with_reducible rfl))
 clear hcl;intro hcl
 (try simp only [Act.put,zq1,zq2,zq3,zq4,zq5,zq6])
 refine wpAnyL_take (i:=8) (v:=?tv8L1) 18 rfl (by kernel_rfl) (by kernel_rfl) (by kernel_rfl) (by kernel_rfl) (by kernel_rfl) hcl (by first|exact λ_ _ _ h=>h|exact λ_ _ _ h=>HQp.out _ _ _ _ h) (Or.inl ⟨by rfl,?th8L1⟩) hS ?tr8L1
 (case th8L1=>(intro w hSw;(try dsimp only at hSw);go_simp;try with_reducible rfl))
 clear hcl;intro hcl
 (try simp only [Act.put,zq1,zq2,zq3,zq4,zq5,zq6])
 refine wpAnyL_take (i:=9) (v:=?tv9L1) 18 rfl (by kernel_rfl) (by kernel_rfl) (by kernel_rfl) (by kernel_rfl) (by kernel_rfl) hcl (by first|exact λ_ _ _ h=>h|exact λ_ _ _ h=>HQp.out _ _ _ _ h) (Or.inl ⟨by rfl,?th9L1⟩) hS ?tr9L1
 (case th9L1=>(intro w hSw;(try dsimp only at hSw);go_simp;try with_reducible rfl))
 clear hcl;intro hcl
 (try simp only [Act.put,zq1,zq2,zq3,zq4,zq5,zq6])
 refine wpAnyL_take (i:=10) (v:=?tv10L1) 18 rfl (by kernel_rfl) (by kernel_rfl) (by kernel_rfl) (by kernel_rfl) (by kernel_rfl) hcl (by first|exact λ_ _ _ h=>h|exact λ_ _ _ h=>HQp.out _ _ _ _ h) (Or.inl ⟨by rfl,?th10L1⟩) hS ?tr10L1
 (case th10L1=>(intro w hSw;(try dsimp only at hSw);go_simp;try with_reducible rfl))
 clear hcl;intro hcl
 (try simp only [Act.put,zq1,zq2,zq3,zq4,zq5,zq6])
 refine wpAnyL_take (i:=11) (v:=?tv11L1) 18 rfl (by kernel_rfl) (by kernel_rfl) (by kernel_rfl) (by kernel_rfl) (by kernel_rfl) hcl (by first|exact λ_ _ _ h=>h|exact λ_ _ _ h=>HQp.out _ _ _ _ h) (Or.inl ⟨by rfl,?th11L1⟩) hS ?tr11L1
 (case th11L1=>(intro w hSw;(try dsimp only at hSw);go_simp;try with_reducible rfl))
 clear hcl;intro hcl
 (try simp only [Act.put,zq1,zq2,zq3,zq4,zq5,zq6])
 refine wpAnyL_one (i:=12) (by kernel_rfl) rfl hcl (λK' hK=>?_)
 have HK:=Lib.hid hK;clear hK
 ((rw [if_pos (by kernel_rfl)]);(try simp only [zq1,zq2,zq3]);go_big_op)
 (go_at_call 172;refine(Ad.out _ ?_).mono ?_;(exact(Chg.refl _ _).drew);rintro e w1 ⟨rfl,hm1,hc1⟩;have hc1':Chg (MemSet I.bm I.bw) wa w1:=((Chg.refl _ wa).drew).trans hc1;have z0:=box_keep hc1' S2.out a0;have z1:=box_keep hc1' Nb.out a1;have z2:=box_keep hc1' NP.out a2;have hbk1:=(hc1'.block b hbla Nb.out).trans Hba.out;have zq:w1.cell? ⟨b,1,none⟩=some (.int .i64 (q:Int)):=(by rw [cell_blk hbk1];rfl);have zf:=frozen_blk hbk1 1)
 refine HK.out _ _ ?hS12L1 (λhcl=>?_)
 case hS12L1=>
  intro _
  (try dsimp only)
  (first|exact⟨a0,a1,a2⟩|exact⟨z0,z1,z2⟩)
 clear HK
 (try simp only [Act.put,zq1,zq2,zq3,zq4,zq5,zq6])
 refine wpAnyL_one (i:=13) (by kernel_rfl) rfl hcl (λK' hK=>?_)
 have HK:=Lib.hid hK;clear hK
 ((rw [if_pos (by kernel_rfl)]);(try simp only [zq1,zq2,zq3]);first|go_big_move|go_big_op)
 refine HK.out _ _ ?hS13L1 (λhcl=>?_)
 case hS13L1=>
  intro _
  (try dsimp only)
  (first|exact⟨a0,a1,a2⟩|exact⟨z0,z1,z2⟩)
 clear HK
 (try simp only [Act.put,zq1,zq2,zq3,zq4,zq5,zq6])
 refine wpAnyL_one (i:=14) (by kernel_rfl) rfl hcl (λK' hK=>?_)
 have HK:=Lib.hid hK;clear hK
 ((rw [if_pos (by kernel_rfl)]);(try simp only [zq1,zq2,zq3]);first|go_big_move|go_big_op)
 refine HK.out _ _ ?hS14L1 (λhcl=>?_)
 case hS14L1=>
  intro _
  (try dsimp only)
  (first|exact⟨a0,a1,a2⟩|exact⟨z0,z1,z2⟩)
 clear HK
 (try simp only [Act.put,zq1,zq2,zq3,zq4,zq5,zq6])
 refine wpAnyL_one (i:=15) (by kernel_rfl) rfl hcl (λK' hK=>?_)
 have HK:=Lib.hid hK;clear hK
 ((rw [if_pos (by kernel_rfl)]);(try simp only [zq1,zq2,zq3]);first|go_big_move|go_big_op)
 refine HK.out _ _ ?hS15L1 (λhcl=>?_)
 case hS15L1=>
  intro _
  (try dsimp only)
  (first|exact⟨a0,a1,a2⟩|exact⟨z0,z1,z2⟩)
 clear HK
 (try simp only [Act.put,zq1,zq2,zq3,zq4,zq5,zq6])
 refine wpAnyL_one (i:=16) (by kernel_rfl) rfl hcl (λK' hK=>?_)
 have HK:=Lib.hid hK;clear hK
 ((rw [if_pos (by kernel_rfl)]);(try simp only [zq1,zq2,zq3]);first|go_big_move|go_big_op)
 refine HK.out _ _ ?hS16L1 (λhcl=>?_)
 case hS16L1=>
  intro _
  (try dsimp only)
  (first|exact⟨a0,a1,a2⟩|exact⟨z0,z1,z2⟩)
 clear HK
 (try simp only [Act.put,zq1,zq2,zq3,zq4,zq5,zq6])
 refine wpAnyL_one (i:=17) (by kernel_rfl) rfl hcl (λK' hK=>?_)
 have HK:=Lib.hid hK;clear hK
 ((rw [if_pos (by kernel_rfl)]);(try simp only [zq1,zq2,zq3]);first|go_big_move|go_big_op)
 refine HK.out _ _ (λh=>by cases h.symm.trans (by kernel_rfl:_=true)) (λ_=>wpAnyL_done (by kernel_rfl) ?_ _)
 clear HK
 (try clear hS)
 obtain⟨hw1,hch1⟩:=HwA.out.mems hc1' hm1
 obtain⟨w2,hw2⟩:∃ w2,w2=w1.setCell ⟨b,1,none⟩ (.int .i64 (q':Int)):=⟨_,rfl⟩
 rw [<-hw2]
 have hc2:Chg (λj=>j=b) w1 w2:=by rw [hw2];exact(Chg.refl (λj=>j=b) w1).setCell (by exact .inl rfl) _
 have hb2:w2.heap[b]?=some (.cells (piRd bP q' 1 lv kv) 254 (0,0)):=by rw [hw2,blk_set hbk1];rfl
 have hw2':=world_cell hw1 hc2 (λj hj=>by cases hj;exact⟨(HB.out b Hb.out).1,NbW.out⟩)
 have TK:=Lib.hid (tick_any w2 Mut I N _ hw2')
 have hall:Chg (λj=>WSet I j∨j=b) w w2:=((Hca.out.mono (λj _ h=>.inr h)).trans (hch1.mono (λj _ h=>.inl h))).trans (hc2.mono (λj _ h=>.inr h))
 have Hb2:=Lib.hid hb2;have Hw2:=Lib.hid hw2';have Hall:=Lib.hid hall
 have e0:w2.cell? ⟨b,4,none⟩=some kv:=by rw [cell_blk hb2];rfl
 have lb2:=blk_lt hb2
 clear hw1 hch1 hc1 hc1' hm1 hw2 hc2 hb2 hw2' hall z0 z1 z2 zq zf hbk1 a0 a1 a2 d2 y0 y2 yf
 go_wp2_with fail
 refine TK.out.mono ?_
 rintro e w3 ⟨rfl,hl3,hb3⟩
 have hbk3:=(hb3.block b lb2).trans Hb2.out
 have e3:w3.cell? ⟨b,4,none⟩=some kv:=by rw [cell_blk hbk3];rfl
 have f3:=frozen_blk hbk3 4
 have hw3:=world_cell (S:=noB) Hw2.out (Chg.of_below hb3) (λ_ h=>h.elim)
 obtain⟨w4,hw4⟩:∃ w4,w4=w3.setCell ⟨b,4,none⟩ (.slice (some ⟨w2.heap.size,0,none⟩) 1 1):=⟨_,rfl⟩
 have hc4:Chg (λj=>j=b) w3 w4:=by rw [hw4];exact(Chg.refl (λj=>j=b) w3).setCell (by exact .inl rfl) _
 have hb4:w4.heap[b]?=some (.cells (piRd bP q' 1 lv (.slice (some ⟨w2.heap.size,0,none⟩) 1 1)) 254 (0,0)):=by rw [hw4,blk_set hbk3];rfl
 have hw4':=world_cell hw3 hc4 (λj hj=>by cases hj;exact⟨(HB.out b Hb.out).1,NbW.out⟩)
 have hl4:=hl3.keep hc4 (λj hj=>by cases hj;exact(HB.out b Hb.out).1) (MutUp.refl _ _)
 have F:=Lib.hid (show RdTo w w4 Mut B I N (doAdd wd 0 1) b (piRd bP q' 1 lv (.slice (some ⟨w2.heap.size,0,none⟩) 1 1)) false (.returned (.bool false))/\Lst w4 Mut (.slice (some ⟨w2.heap.size,0,none⟩) 1 1) (tickKey wd) from
  ⟨⟨rfl,(Hall.out.trans (Chg.of_below hb3)).trans (hc4.mono (λj _ h=>.inr h)),hw4',hb4⟩,hl4⟩)
 have Hw4:=Lib.hid hw4
 clear hl3 hb3 hbk3 hw3 hw4 hc4 hb4 hw4' hl4
 go_wp2
 rw [<-Hw4.out]
 go_ret
 exact⟨_,F.out⟩
end Go.Proofs.YtfkokppncipgnaaGreat
