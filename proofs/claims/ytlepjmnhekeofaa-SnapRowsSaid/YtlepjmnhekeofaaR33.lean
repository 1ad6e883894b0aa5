/- Layer 15: a scan's step: to read a value, to borrow one. -/
import Derived.Test.YtlepjmnhekeofaaR32
set_option maxRecDepth 100000
set_option linter.unusedVariables false
set_option linter.unusedSimpArgs false
set_option linter.unnecessarySimpa false
namespace Go.Proofs.Ytlepjmnhekeofaa
open List renaming getElem_toArray → zq1, getElem_cons_zero → zq2, getElem_cons_succ → zq3, setIfInBounds_toArray → zq4, set_cons_zero → zq5, set_cons_succ → zq6
open Go.RowKit
set_option maxHeartbeats 8000000 in
theorem scan_value (n k:Nat) (us:List Nat) (hn:n<=16) (w:World) (Mut:Nat->Prop) (I:WIds) (N:Nat) (wd:WD) (b bP:Nat) (s:ScD) (lv:Value) (hw:WorldAt w Mut I N wd) (hbM:Mut b/\¬ WSet I b) (hlM:∀ g,lv.ownBlock=some g->Mut g/\¬ WSet I g/\g≠bP/\g≠b) (hb:ScBlk w b bP s lv) (hrow:w.ownsRow 0 40 1 lv s.list.length (s.list.map u64V)) (hne:bP≠b) (hPW:¬ WSet I bP) (hP:w.heap[bP]?=some (.cells (snapL n k us).toArray 100 (0,0))) (hpc:s.pc=1) (hat:s.at_<n) (hla:s.list.length=s.at_) (hT:wd.now<1000000000) (hcn:wd.mem.c.all+1<1000000000000) (hr:s.now.getD s.at_ 0<1000000) :
  Calls Try.prog 170 #[.pointer (some ⟨b,0,none⟩),.pointer (some ⟨I.bW,0,none⟩)] w λe w'=>ScanTo w w' Mut I N (scWd wd s) b bP lv (scGo n wd s) e:=by
 obtain⟨s1,s2,s3⟩:=memSet_sub hw
 obtain⟨mks,hwb,_,_⟩:=hw.blk
 have x0:w.cell? ⟨I.bW,0,none⟩=some (.pointer (some ⟨I.bm,0,none⟩)):=by rw [cell_blk hwb];exact world_mem
 have y1:=hb.pc
 rw [hpc] at y1
 obtain⟨a,ha⟩:∃ a,a=s.at_:=⟨_,rfl⟩
 have y2:w.cell? ⟨b,2,none⟩=some (.int .i64 (a:Int)):=by rw [ha];exact hb.at_
 obtain⟨r,hrr⟩:∃ r,r=s.now.getD a 0:=⟨_,rfl⟩
 have hr1:r<1000000:=by rw [hrr,ha];exact hr
 have y3:w.cell? ⟨b,20+a,none⟩=some (.int .u64 (r:Int)):=by rw [hrr];exact hb.now (by omega)
 obtain⟨la,lc,rfl⟩:∃ la lc,lv=.slice la a lc:=by obtain⟨p,q,e⟩:=row_form hrow;exact⟨p,q,by rw [e,hla,ha]⟩
 have y4:=hb.list
 have nb:¬ MemSet I.bm I.bw b:=λh=>hbM.2 (s3 b h).1
 have nP:¬ MemSet I.bm I.bw bP:=λh=>hPW (s3 bP h).1
 have nR:∀ g,(Value.slice la a lc).ownBlock=some g->¬ MemSet I.bm I.bw g:=λg hg h=>(hlM g hg).2.1 (s3 g h).1
 have nRW:∀ g,(Value.slice la a lc).ownBlock=some g->g≠I.bW:=λg hg e=>(hlM g hg).2.1 (.inl e)
 have hbW:I.bW≠b:=λe=>hbM.2 (.inl e.symm)
 have hadr:scAddr s=r:=by unfold scAddr;rw [if_neg (by omega),if_pos hpc,hrr,ha]
 have Rd:=Lib.hid (λ(u:World) (h:Chg noB w u)=>read_any I.bm I.bw wd.mem (r:Int) u (hw.mem.chg h (λh=>h) (λ_ _ h=>h)) hcn)
 obtain⟨g,hg⟩:∃ g,g=taGot wd r:=⟨_,rfl⟩
 rw [show(memRead wd.mem (r:Int)).2=g from hg.symm] at Rd
 have hwd':scWd wd s=taRead wd r:=by unfold scWd;rw [hadr]
 have hgo:scGo n wd s=scPass n n { s with list:=s.list++[g],at_:=a+1 }:=by
  unfold scGo scNext
  rw [if_neg (by omega),if_pos hpc,hadr,<-hg,ha]
 have Hrr:=Lib.hid hrr
 clear hrr hr
 have wa1:IntKind.i64.wrap ((a:Int)+1)=(a:Int)+1:=by rw [IntKind.wrap_i64];omega
 have wr0:IntKind.i64.wrap (r:Int)=(r:Int):=by rw [IntKind.wrap_i64];omega
 have l16:(a:Int)<16:=by omega
 have hblt:=hb.lt
 have hc0:Chg (MemSet I.bm I.bw) w w.drew:=(Chg.refl _ w).drew
 obtain⟨xs,hxs⟩:∃ xs,xs=s.list.map u64V:=⟨_,rfl⟩
 rw [hla,<-ha,<-hxs] at hrow
 obtain⟨k0,hk0,hu0,hu1,hu2⟩:=info_parts u64_info'
 rw [hwd']
 have ha16:a<=16:=by omega
 have Hw:=Lib.hid hw;have Hb:=Lib.hid hb;have Nb:=Lib.hid nb;have NP:=Lib.hid nP;have S2:=Lib.hid s2;have HbM:=Lib.hid hbM;have Hne:=Lib.hid hne;have HP:=Lib.hid hP;have Hg:=Lib.hid hg;have Hgo:=Lib.hid hgo;have Ha:=Lib.hid ha;have Hpc:=Lib.hid hpc;have HPW:=Lib.hid hPW;have Hrow:=Lib.hid hrow;have NR:=Lib.hid nR;have NRW:=Lib.hid nRW;have HlM:=Lib.hid hlM;have Hxs:=Lib.hid hxs;have Hla:=Lib.hid hla;have HbW:=Lib.hid hbW;have Hat:=Lib.hid hat
 clear hw hb nb nP s1 s2 s3 hbM hne hP hg hgo hwd' hadr hwb hpc hPW ha hcn hrow nR nRW hlM hxs hla hbW hat
 go_enter Try.func170,Try.ntmps170
 go_upto_region 8 with fail
 refine wp_region_L ((λu=>u.cell? ⟨I.bW,0,none⟩=some (.pointer (some ⟨I.bm,0,none⟩))/\u.cell? ⟨b,2,none⟩=some (.int .i64 (a:Int))/\u.cell? ⟨b,20+a,none⟩=some (.int .u64 (r:Int))/\u.cell? ⟨b,54,none⟩=some (.slice la a lc))) 24 (by kernel_rfl) ?hS0L1 ?_
 case hS0L1=>
  (try dsimp only)
  (first|exact⟨x0,y2,y3,y4⟩|exact⟨z0,z2,z3,z4⟩|exact⟨t0,t2,t3,t4⟩|exact⟨(((Gr.new w6 _)).cell lW6).trans z0,(((Gr.new w6 _)).cell lb6).trans z2,(((Gr.new w6 _)).cell lb6).trans z3,(((Gr.new w6 _)).cell lb6).trans z4⟩)
 intro hS hcl
 refine wpAnyL_take (i:=0) (v:=?tv0L1) 25 rfl (by kernel_rfl) (by kernel_rfl) (by kernel_rfl) (by kernel_rfl) (by kernel_rfl) hcl (by first|exact λ_ _ _ h=>h|exact λ_ _ _ h=>HQp.out _ _ _ _ h) (Or.inl ⟨by rfl,?th0L1⟩) hS ?tr0L1
 (case th0L1=>(intro w hSw;(try dsimp only at hSw);go_simp;try with_reducible rfl))
 clear hcl;intro hcl
 (try simp only [Act.put,zq1,zq2,zq3,zq4,zq5,zq6])
 refine wpAnyL_take (i:=1) (v:=?tv1L1) 25 rfl (by kernel_rfl) (by kernel_rfl) (by kernel_rfl) (by kernel_rfl) (by kernel_rfl) hcl (by first|exact λ_ _ _ h=>h|exact λ_ _ _ h=>HQp.out _ _ _ _ h) (Or.inl ⟨by rfl,?th1L1⟩) hS ?tr1L1
 (case th1L1=>(intro w hSw;(try dsimp only at hSw);go_simp;try with_reducible rfl))
 clear hcl;intro hcl
 (try simp only [Act.put,zq1,zq2,zq3,zq4,zq5,zq6])
 refine wpAnyL_take (i:=2) (v:=?tv2L1) 25 rfl (by kernel_rfl) (by kernel_rfl) (by kernel_rfl) (by kernel_rfl) (by kernel_rfl) hcl (by first|exact λ_ _ _ h=>h|exact λ_ _ _ h=>HQp.out _ _ _ _ h) (Or.inl ⟨by rfl,?th2L1⟩) hS ?tr2L1
 (case th2L1=>(intro w hSw;(try dsimp only at hSw);go_simp;try with_reducible rfl))
 clear hcl;intro hcl
 (try simp only [Act.put,zq1,zq2,zq3,zq4,zq5,zq6])
 refine wpAnyL_take (i:=3) (v:=?tv3L1) 25 rfl (by kernel_rfl) (by kernel_rfl) (by kernel_rfl) (by kernel_rfl) (by kernel_rfl) hcl (by first|exact λ_ _ _ h=>h|exact λ_ _ _ h=>HQp.out _ _ _ _ h) (Or.inl ⟨by rfl,?th3L1⟩) hS ?tr3L1
 (case th3L1=>(intro w hSw;(try dsimp only at hSw);go_simp;try with_reducible rfl))
 clear hcl;intro hcl
 (try simp only [Act.put,zq1,zq2,zq3,zq4,zq5,zq6])
 refine wpAnyL_take (i:=4) (v:=?tv4L1) 25 rfl (by kernel_rfl) (by kernel_rfl) (by kernel_rfl) (by kernel_rfl) (by kernel_rfl) hcl (by first|exact λ_ _ _ h=>h|exact λ_ _ _ h=>HQp.out _ _ _ _ h) (Or.inl ⟨by rfl,?th4L1⟩) hS ?tr4L1
 (case th4L1=>(intro w hSw;(try dsimp only at hSw);go_simp;try with_reducible rfl))
 clear hcl;intro hcl
 (try simp only [Act.put,zq1,zq2,zq3,zq4,zq5,zq6])
 refine wpAnyL_take (i:=5) (v:=?tv5L1) 25 rfl (by kernel_rfl) (by kernel_rfl) (by kernel_rfl) (by kernel_rfl) (by kernel_rfl) hcl (by first|exact λ_ _ _ h=>h|exact λ_ _ _ h=>HQp.out _ _ _ _ h) (Or.inl ⟨by rfl,?th5L1⟩) hS ?tr5L1
 (case th5L1=>(intro w hSw;(try dsimp only at hSw);go_simp;try with_reducible rfl))
 clear hcl;intro hcl
 (try simp only [Act.put,zq1,zq2,zq3,zq4,zq5,zq6])
 refine wpAnyL_take (i:=6) (v:=?tv6L1) 25 rfl (by kernel_rfl) (by kernel_rfl) (by kernel_rfl) (by kernel_rfl) (by kernel_rfl) hcl (by first|exact λ_ _ _ h=>h|exact λ_ _ _ h=>HQp.out _ _ _ _ h) (Or.inl ⟨by rfl,?th6L1⟩) hS ?tr6L1
 (case th6L1=>(intro w hSw;(try dsimp only at hSw);go_simp;try with_reducible rfl))
 clear hcl;intro hcl
 (try simp only [Act.put,zq1,zq2,zq3,zq4,zq5,zq6])
 refine wpAnyL_take (i:=7) (v:=?tv7L1) 25 rfl (by kernel_rfl) (by kernel_rfl) (by kernel_rfl) (by kernel_rfl) (by kernel_rfl) hcl (by first|exact λ_ _ _ h=>h|exact λ_ _ _ h=>HQp.out _ _ _ _ h) (Or.inl ⟨by rfl,?th7L1⟩) hS ?tr7L1
 (case th7L1=>(intro w hSw;(try dsimp only at hSw);go_simp;try with_reducible rfl))
 clear hcl;intro hcl
 (try simp only [Act.put,zq1,zq2,zq3,zq4,zq5,zq6])
 refine wpAnyL_take (i:=8) (v:=?tv8L1) 25 rfl (by kernel_rfl) (by kernel_rfl) (by kernel_rfl) (by kernel_rfl) (by kernel_rfl) hcl (by first|exact λ_ _ _ h=>h|exact λ_ _ _ h=>HQp.out _ _ _ _ h) (Or.inl ⟨by rfl,?th8L1⟩) hS ?tr8L1
 (case th8L1=>(intro w hSw;(try dsimp only at hSw);go_simp;try with_reducible rfl))
 clear hcl;intro hcl
 (try simp only [Act.put,zq1,zq2,zq3,zq4,zq5,zq6])
 refine wpAnyL_take (i:=9) (v:=?tv9L1) 25 rfl (by kernel_rfl) (by kernel_rfl) (by kernel_rfl) (by kernel_rfl) (by kernel_rfl) hcl (by first|exact λ_ _ _ h=>h|exact λ_ _ _ h=>HQp.out _ _ _ _ h) (Or.inl ⟨by rfl,?th9L1⟩) hS ?tr9L1
 (case th9L1=>(intro w hSw;(try dsimp only at hSw);go_simp;try with_reducible rfl))
 clear hcl;intro hcl
 (try simp only [Act.put,zq1,zq2,zq3,zq4,zq5,zq6])
 refine wpAnyL_take (i:=10) (v:=?tv10L1) 25 rfl (by kernel_rfl) (by kernel_rfl) (by kernel_rfl) (by kernel_rfl) (by kernel_rfl) hcl (by first|exact λ_ _ _ h=>h|exact λ_ _ _ h=>HQp.out _ _ _ _ h) (Or.inl ⟨by rfl,?th10L1⟩) hS ?tr10L1
 (case th10L1=>(intro w hSw;(try dsimp only at hSw);go_simp;try with_reducible rfl))
 clear hcl;intro hcl
 (try simp only [Act.put,zq1,zq2,zq3,zq4,zq5,zq6])
 refine wpAnyL_take (i:=11) (v:=?tv11L1) 25 rfl (by kernel_rfl) (by kernel_rfl) (by kernel_rfl) (by kernel_rfl) (by kernel_rfl) hcl (by first|exact λ_ _ _ h=>h|exact λ_ _ _ h=>HQp.out _ _ _ _ h) (Or.inl ⟨by rfl,?th11L1⟩) hS ?tr11L1
 (case th11L1=>(intro w hSw;(try dsimp only at hSw);go_simp;try with_reducible rfl))
 clear hcl;intro hcl
 (try simp only [Act.put,zq1,zq2,zq3,zq4,zq5,zq6])
 refine wpAnyL_take (i:=12) (v:=?tv12L1) 25 rfl (by kernel_rfl) (by kernel_rfl) (by kernel_rfl) (by kernel_rfl) (by kernel_rfl) hcl (by first|exact λ_ _ _ h=>h|exact λ_ _ _ h=>HQp.out _ _ _ _ h) (Or.inl ⟨by rfl,?th12L1⟩) hS ?tr12L1
 (case th12L1=>(intro w hSw;(try dsimp only at hSw);go_simp;try with_reducible rfl))
 clear hcl;intro hcl
 (try simp only [Act.put,zq1,zq2,zq3,zq4,zq5,zq6])
 refine wpAnyL_take (i:=13) (v:=?tv13L1) 25 rfl (by kernel_rfl) (by kernel_rfl) (by kernel_rfl) (by kernel_rfl) (by kernel_rfl) hcl (by first|exact λ_ _ _ h=>h|exact λ_ _ _ h=>HQp.out _ _ _ _ h) (Or.inl ⟨by rfl,?th13L1⟩) hS ?tr13L1
 (case th13L1=>(intro w hSw;(try dsimp only at hSw);go_simp;try with_reducible rfl))
 clear hcl;intro hcl
 (try simp only [Act.put,zq1,zq2,zq3,zq4,zq5,zq6])
 refine wpAnyL_take (i:=14) (v:=?tv14L1) 25 rfl (by kernel_rfl) (by kernel_rfl) (by kernel_rfl) (by kernel_rfl) (by kernel_rfl) hcl (by first|exact λ_ _ _ h=>h|exact λ_ _ _ h=>HQp.out _ _ _ _ h) (Or.inl ⟨by rfl,?th14L1⟩) hS ?tr14L1
 (case th14L1=>(intro w hSw;(try dsimp only at hSw);go_simp;try with_reducible rfl))
 clear hcl;intro hcl
 (try simp only [Act.put,zq1,zq2,zq3,zq4,zq5,zq6])
 refine wpAnyL_take (i:=15) (v:=?tv15L1) 25 rfl (by kernel_rfl) (by kernel_rfl) (by kernel_rfl) (by kernel_rfl) (by kernel_rfl) hcl (by first|exact λ_ _ _ h=>h|exact λ_ _ _ h=>HQp.out _ _ _ _ h) (Or.inl ⟨by rfl,?th15L1⟩) hS ?tr15L1
 (case th15L1=>(intro w hSw;(try dsimp only at hSw);go_simp;try with_reducible rfl))
 clear hcl;intro hcl
 (try simp only [Act.put,zq1,zq2,zq3,zq4,zq5,zq6])
 refine wpAnyL_take (i:=16) (v:=?tv16L1) 25 rfl (by kernel_rfl) (by kernel_rfl) (by kernel_rfl) (by kernel_rfl) (by kernel_rfl) hcl (by first|exact λ_ _ _ h=>h|exact λ_ _ _ h=>HQp.out _ _ _ _ h) (Or.inl ⟨by rfl,?th16L1⟩) hS ?tr16L1
 (case th16L1=>(intro w hSw;(try dsimp only at hSw);go_simp;try with_reducible rfl))
 clear hcl;intro hcl
 (try simp only [Act.put,zq1,zq2,zq3,zq4,zq5,zq6])
 refine wpAnyL_take (i:=17) (v:=?tv17L1) 25 rfl (by kernel_rfl) (by kernel_rfl) (by kernel_rfl) (by kernel_rfl) (by kernel_rfl) hcl (by first|exact λ_ _ _ h=>h|exact λ_ _ _ h=>HQp.out _ _ _ _ h) (Or.inl ⟨by rfl,?th17L1⟩) hS ?tr17L1
 (case th17L1=>(intro w hSw;(try dsimp only at hSw);go_simp;try with_reducible rfl))
 clear hcl;intro hcl
 (try simp only [Act.put,zq1,zq2,zq3,zq4,zq5,zq6])
 refine wpAnyL_take (i:=18) (v:=?tv18L1) 25 rfl (by kernel_rfl) (by kernel_rfl) (by kernel_rfl) (by kernel_rfl) (by kernel_rfl) hcl (by first|exact λ_ _ _ h=>h|exact λ_ _ _ h=>HQp.out _ _ _ _ h) (Or.inl ⟨by rfl,?th18L1⟩) hS ?tr18L1
 (case th18L1=>(intro w hSw;(try dsimp only at hSw);go_simp;try with_reducible rfl))
 clear hcl;intro hcl
 (try simp only [Act.put,zq1,zq2,zq3,zq4,zq5,zq6])
 refine wpAnyL_one (i:=19) (by kernel_rfl) rfl hcl (λK' hK=>?_)
 have HK:=Lib.hid hK;clear hK
 ((rw [if_pos (by kernel_rfl)]);(try simp only [zq1,zq2,zq3]);go_big_op)
 (first|(go_at_call 115;refine(Rd.out _ ?_).mono ?_;(exact(Chg.refl _ _).drew);rintro e w6 ⟨rfl,hm1,hc1⟩;have hc1':Chg (MemSet I.bm I.bw) w w6:=hc0.trans hc1;have z0:=box_keep hc1' S2.out x0;have hb6:=Hb.out.chg hc1' Nb.out;have z2:=box_keep hc1' Nb.out y2;have z3:=box_keep hc1' Nb.out y3;have z4:=box_keep hc1' Nb.out y4;have hr6:=row_chg Hrow.out hc1' NR.out;have lb6:=hb6.lt;have lW6:I.bW<w6.heap.size:=World.block_lt_of_cell? _ _ z0)|(refine step_append_lies _ (by rfl) _ _ _ (by rfl) 0 40 k0 _ 1 8 Try.underlying28 hk0 hu0 hu1 hu2 rfl (by omega) _ _ _ (by rfl) (hr6.alloc _) ⟨w6.heap.size,0,none⟩ 1 1 [.int .u64 (g:Int)] (by rfl) (by rfl) (World.news_of_block (cs:=#[.int .u64 (g:Int)]) (t:=40) (fr:=(0,0)) (heap_alloc_new w6 _)) (by simp [Value.oneCell']) (by omega) (by unfold maxLen;(try dsimp only);omega) (by(try dsimp only);omega) (by simp) (w6.heap.size+1) (by simp) ?_;intro g8 cp8 w8 hown8 hgrow8 hat8 hlt8;have hbk8:=(hgrow8.block _ (by simp;omega) (λe=>(HlM.out _ e.symm).2.2.2 rfl)).trans ((((Gr.new w6 _)).block _ lb6).trans hb6.blk);have hb8:ScBlk w8 b bP s (.slice la a lc):=⟨hbk8,hb6.l1,hb6.l2,hb6.l3⟩;have t0:=((hgrow8.cell_far _ (by simp;omega) (λe=>NRW.out _ e.symm rfl)).trans ((((Gr.new w6 _)).cell lW6).trans z0));have t2:w8.cell? ⟨b,2,none⟩=some (.int .i64 (a:Int)):=(by rw [hb8.at_,Ha.out]);have t3:w8.cell? ⟨b,20+a,none⟩=some (.int .u64 (r:Int)):=(by rw [Hrr.out];exact hb8.now (by omega));have t4:=hb8.list;have tf:=hb8.frozen 54;have tl:=hb8.lt))
 refine HK.out _ _ ?hS19L1 (λhcl=>?_)
 case hS19L1=>
  intro _
  (try dsimp only)
  (first|exact⟨x0,y2,y3,y4⟩|exact⟨z0,z2,z3,z4⟩|exact⟨t0,t2,t3,t4⟩|exact⟨(((Gr.new w6 _)).cell lW6).trans z0,(((Gr.new w6 _)).cell lb6).trans z2,(((Gr.new w6 _)).cell lb6).trans z3,(((Gr.new w6 _)).cell lb6).trans z4⟩)
 clear HK
 (try simp only [Act.put,zq1,zq2,zq3,zq4,zq5,zq6])
 refine wpAnyL_one (i:=20) (by kernel_rfl) rfl hcl (λK' hK=>?_)
 have HK:=Lib.hid hK;clear hK
 ((rw [if_pos (by kernel_rfl)]);(try simp only [zq1,zq2,zq3]);first|go_big_move|go_big_op)
 refine HK.out _ _ ?hS20L1 (λhcl=>?_)
 case hS20L1=>
  intro _
  (try dsimp only)
  (first|exact⟨x0,y2,y3,y4⟩|exact⟨z0,z2,z3,z4⟩|exact⟨t0,t2,t3,t4⟩|exact⟨(((Gr.new w6 _)).cell lW6).trans z0,(((Gr.new w6 _)).cell lb6).trans z2,(((Gr.new w6 _)).cell lb6).trans z3,(((Gr.new w6 _)).cell lb6).trans z4⟩)
 clear HK
 (try simp only [Act.put,zq1,zq2,zq3,zq4,zq5,zq6])
 refine wpAnyL_one (i:=21) (by kernel_rfl) rfl hcl (λK' hK=>?_)
 have HK:=Lib.hid hK;clear hK
 (first|(go_at_call 115;refine(Rd.out _ ?_).mono ?_;(exact(Chg.refl _ _).drew);rintro e w6 ⟨rfl,hm1,hc1⟩;have hc1':Chg (MemSet I.bm I.bw) w w6:=hc0.trans hc1;have z0:=box_keep hc1' S2.out x0;have hb6:=Hb.out.chg hc1' Nb.out;have z2:=box_keep hc1' Nb.out y2;have z3:=box_keep hc1' Nb.out y3;have z4:=box_keep hc1' Nb.out y4;have hr6:=row_chg Hrow.out hc1' NR.out;have lb6:=hb6.lt;have lW6:I.bW<w6.heap.size:=World.block_lt_of_cell? _ _ z0)|(refine step_append_lies _ (by rfl) _ _ _ (by rfl) 0 40 k0 _ 1 8 Try.underlying28 hk0 hu0 hu1 hu2 rfl (by omega) _ _ _ (by rfl) (hr6.alloc _) ⟨w6.heap.size,0,none⟩ 1 1 [.int .u64 (g:Int)] (by rfl) (by rfl) (World.news_of_block (cs:=#[.int .u64 (g:Int)]) (t:=40) (fr:=(0,0)) (heap_alloc_new w6 _)) (by simp [Value.oneCell']) (by omega) (by unfold maxLen;(try dsimp only);omega) (by(try dsimp only);omega) (by simp) (w6.heap.size+1) (by simp) ?_;intro g8 cp8 w8 hown8 hgrow8 hat8 hlt8;have hbk8:=(hgrow8.block _ (by simp;omega) (λe=>(HlM.out _ e.symm).2.2.2 rfl)).trans ((((Gr.new w6 _)).block _ lb6).trans hb6.blk);have hb8:ScBlk w8 b bP s (.slice la a lc):=⟨hbk8,hb6.l1,hb6.l2,hb6.l3⟩;have t0:=((hgrow8.cell_far _ (by simp;omega) (λe=>NRW.out _ e.symm rfl)).trans ((((Gr.new w6 _)).cell lW6).trans z0));have t2:w8.cell? ⟨b,2,none⟩=some (.int .i64 (a:Int)):=(by rw [hb8.at_,Ha.out]);have t3:w8.cell? ⟨b,20+a,none⟩=some (.int .u64 (r:Int)):=(by rw [Hrr.out];exact hb8.now (by omega));have t4:=hb8.list;have tf:=hb8.frozen 54;have tl:=hb8.lt))
 refine HK.out _ _ ?hS21L1 (λhcl=>?_)
 case hS21L1=>
  intro _
  (try dsimp only)
  (first|exact⟨x0,y2,y3,y4⟩|exact⟨z0,z2,z3,z4⟩|exact⟨t0,t2,t3,t4⟩|exact⟨(((Gr.new w6 _)).cell lW6).trans z0,(((Gr.new w6 _)).cell lb6).trans z2,(((Gr.new w6 _)).cell lb6).trans z3,(((Gr.new w6 _)).cell lb6).trans z4⟩)
 clear HK
 (try simp only [Act.put,zq1,zq2,zq3,zq4,zq5,zq6])
 refine wpAnyL_one (i:=22) (by kernel_rfl) rfl hcl (λK' hK=>?_)
 have HK:=Lib.hid hK;clear hK
 ((rw [if_pos (by kernel_rfl)]);(try simp only [zq1,zq2,zq3]);first|go_big_move|go_big_op)
 refine HK.out _ _ ?hS22L1 (λhcl=>?_)
 case hS22L1=>
  intro _
  (try dsimp only)
  (first|exact⟨x0,y2,y3,y4⟩|exact⟨z0,z2,z3,z4⟩|exact⟨t0,t2,t3,t4⟩|exact⟨(((Gr.new w6 _)).cell lW6).trans z0,(((Gr.new w6 _)).cell lb6).trans z2,(((Gr.new w6 _)).cell lb6).trans z3,(((Gr.new w6 _)).cell lb6).trans z4⟩)
 clear HK
 (try simp only [Act.put,zq1,zq2,zq3,zq4,zq5,zq6])
 refine wpAnyL_one (i:=23) (by kernel_rfl) rfl hcl (λK' hK=>?_)
 have HK:=Lib.hid hK;clear hK
 ((rw [if_pos (by kernel_rfl)]);(try simp only [zq1,zq2,zq3]);first|go_big_move|go_big_op)
 refine HK.out _ _ ?hS23L1 (λhcl=>?_)
 case hS23L1=>
  intro _
  (try dsimp only)
  (first|exact⟨x0,y2,y3,y4⟩|exact⟨z0,z2,z3,z4⟩|exact⟨t0,t2,t3,t4⟩|exact⟨(((Gr.new w6 _)).cell lW6).trans z0,(((Gr.new w6 _)).cell lb6).trans z2,(((Gr.new w6 _)).cell lb6).trans z3,(((Gr.new w6 _)).cell lb6).trans z4⟩)
 clear HK
 (try simp only [Act.put,zq1,zq2,zq3,zq4,zq5,zq6])
 refine wpAnyL_one (i:=24) (by kernel_rfl) rfl hcl (λK' hK=>?_)
 have HK:=Lib.hid hK;clear hK
 ((rw [if_pos (by kernel_rfl)]);(try simp only [zq1,zq2,zq3]);first|go_big_move|go_big_op)
 refine HK.out _ _ (λh=>by cases h.symm.trans (by kernel_rfl:_=true)) (λ_=>wpAnyL_done (by kernel_rfl) ?_ _)
 clear HK
 (try clear hS)
 obtain⟨hw1,hch1⟩:=Hw.out.mems hc1' hm1
 obtain⟨w10,hw10⟩:∃ w10,w10=(w8.setCell ⟨b,54,none⟩ (.slice (some ⟨g8,0,none⟩) (a+1) cp8)).setCell ⟨b,2,none⟩ (.int .i64 ((a:Int)+1)):=⟨_,rfl⟩
 have hb9:ScBlk (w8.setCell ⟨b,54,none⟩ (.slice (some ⟨g8,0,none⟩) (a+1) cp8)) b bP { s with list:=s.list++[g] } (.slice (some ⟨g8,0,none⟩) (a+1) cp8):=hb8.setList (s.list++[g]) (.slice (some ⟨g8,0,none⟩) (a+1) cp8)
 have q2:(w8.setCell ⟨b,54,none⟩ (.slice (some ⟨g8,0,none⟩) (a+1) cp8)).cell? ⟨b,2,none⟩=some (.int .i64 (a:Int)):=by rw [hb9.at_,Ha.out]
 have qf:=hb9.frozen 2
 have qlt:=hb9.lt
 have hb10:ScBlk w10 b bP { s with list:=s.list++[g],at_:=a+1 } (.slice (some ⟨g8,0,none⟩) (a+1) cp8):=by rw [hw10];exact hb9.setAt (a+1)
 have hc10:Chg (λk=>k=b) w8 w10:=by rw [hw10];exact((Chg.refl (λk=>k=b) w8).setCell (p:=⟨b,54,none⟩) (.inl rfl) _).setCell (p:=⟨b,2,none⟩) (.inl rfl) _
 have hgb:g8≠b:=by
  rcases hat8 with h|h
  ·exact(HlM.out g8 h).2.2.2
  ·omega
 have hr10:=row_chg hown8 hc10 (λg hg e=>hgb (by cases hg;exact e))
 have hg6:Chg (λg=>(Value.slice la a lc).ownBlock=some g) w6 w8:=((Chg.refl _ w6).alloc _).grown hgrow8 (λg hg=>.inl hg)
 have hc610:Chg (λg=>(Value.slice la a lc).ownBlock=some g∨g=b) w6 w10:=(hg6.mono (λg _ h=>.inl h)).trans (hc10.mono (λg _ h=>.inr h))
 have hw10':=world_cell hw1 hc610 (λk hk=>by
  rcases hk with hk|hk
  ·exact⟨(HlM.out k hk).1,(HlM.out k hk).2.1⟩
  ·rw [hk];exact HbM.out)
 have hall:Chg (λk=>WSet I k∨k=b∨(Value.slice la a lc).ownBlock=some k) w w10:=(hch1.mono (λ_ _ h=>.inl h)).trans (hc610.mono (λ_ _ h=>.inr (h.elim .inr .inl)))
 have hown10:∀ g',(Value.slice (some ⟨g8,0,none⟩) (a+1) cp8).ownBlock=some g'->((Value.slice la a lc).ownBlock=some g'∨w.heap.size<=g')/\g'≠b/\g'<w10.heap.size:=λg' hg'=>by
  cases hg'
  refine⟨?_,hgb,Nat.lt_of_lt_of_le hlt8 hc10.size⟩
  rcases hat8 with h|h
  ·exact .inl h
  ·right;show w.heap.size<=g8;have:=hc1'.size;omega
 have hrow10:w10.ownsRow 0 40 1 (.slice (some ⟨g8,0,none⟩) (a+1) cp8) (s.list++[g]).length ((s.list++[g]).map u64V):=by
  have e1:(s.list++[g]).length=a+1:=by rw [List.length_append,Hla.out,<-Ha.out];rfl
  have e2:(s.list++[g]).map u64V=xs++[.int .u64 (g:Int)]:=by rw [List.map_append,<-Hxs.out];rfl
  rw [e1,e2];exact hr10
 have hP10:w10.heap[bP]?=some (.cells (snapL n k us).toArray 100 (0,0)):=by
  refine(hc610.block bP ?_ (λh=>?_)).trans ((hc1'.block bP (blk_lt HP.out) NP.out).trans HP.out)
  ·exact Nat.lt_of_lt_of_le (blk_lt HP.out) hc1'.size
  ·rcases h with h|h
   ·exact(HlM.out _ h).2.2.1 rfl
   ·exact Hne.out h
 have Hb10:=Lib.hid hb10;have Hw10:=Lib.hid hw10;have Hw10':=Lib.hid hw10';have Hall:=Lib.hid hall;have Hown10:=Lib.hid hown10;have Hrow10:=Lib.hid hrow10;have HP10:=Lib.hid hP10;have Hw6:=Lib.hid hw1;have Hc610:=Lib.hid hc610;have Hg8:=Lib.hid (show(Value.slice la a lc).ownBlock=some g8∨w6.heap.size<=g8 from hat8.elim .inl (λh=>.inr (by omega)))
 clear hw1 hch1 hc1 hc1' hm1 hb6 z0 z2 z3 z4 hr6 lb6 lW6 hown8 hgrow8 hat8 hlt8 hbk8 hb8 t0 t2 t3 t4 tf tl hw10 hb9 hb10 hc10 hgb hr10 hg6 hc610 hw10' hall hown10 hrow10 hP10 x0 y1 y2 y3 y4 hc0 hblt
 go_upto_region 10 with fail
 rw [<-Hw10.out]
 clear q2 qf qlt
 have PS:=Lib.hid (sc_pass_w n hn w10 b bP { s with list:=s.list++[g],at_:=a+1 } (.slice (some ⟨g8,0,none⟩) (a+1) cp8) ⟨Hb10.out,Hrow10.out,Chg.refl _ _,λg hg=>⟨.inl hg,(Hown10.out g hg).2⟩⟩ Hne.out (by rw [cell_blk HP10.out];rfl) (λe=>by
  have e':g8=bP:=by cases e;rfl
  rcases(Hown10.out g8 rfl).1 with h|h
  ·exact(HlM.out g8 h).2.2.1 e'
  ·have:=blk_lt HP.out;omega) (by show a+1<=n;have:=Hat.out;have:=Ha.out;omega) (by show(s.list++[g]).length<=16;rw [List.length_append,Hla.out];have:=Hat.out;show s.at_+1<=16;omega) (by show(s.list++[g]).length=a+1;rw [List.length_append,Hla.out,<-Ha.out];rfl))
 go_wp2_with fail
 refine PS.out.mono ?_
 rintro e w11 ⟨rfl,lv',hr⟩
 obtain⟨s5,hs5⟩:∃ s5,s5=scGo n wd s:=⟨_,rfl⟩
 rw [<-Hgo.out,<-hs5] at hr
 obtain⟨pc,hpc5⟩:∃ pc,pc=s5.pc:=⟨_,rfl⟩
 have e1:w11.cell? ⟨b,1,none⟩=some (.int .i64 (pc:Int)):=by rw [hpc5];exact hr.blk.pc
 have hp0:s5.pc≠0:=by
  rw [hs5,Hgo.out];exact scPass_pc0 (by show s.pc≠0;have:=Hpc.out;omega)
 have F:=Lib.hid (show ScanTo w w11 Mut I N (taRead wd r) b bP (.slice la a lc) s5 (.returned (.bool (decide (pc=3)))) from by
  have hlN:∀ g',(Value.slice (some ⟨g8,0,none⟩) (a+1) cp8).ownBlock=some g'->Mut g'/\¬ WSet I g'∨w.heap.size<=g':=λg' hg'=>(Hown10.out g' hg').1.elim (λh=>.inl ⟨(HlM.out g' h).1,(HlM.out g' h).2.1⟩) .inr
  refine⟨by rw [hpc5],?_,lv',?_,hr.blk,hr.row,λg' hg'=>?_,λe=>absurd e hp0⟩
  ·have h9:Chg (λk=>(WSet I k∨k=b∨(Value.slice la a lc).ownBlock=some k)∨w.heap.size<=k) w w11:=(Hall.out.mono (λ_ _ h=>.inl h)).trans (hr.chg.mono (λk _ h=>h.elim (λh=>.inl (.inr (.inl h))) (λh=>((Hown10.out k h).1).elim (λh=>.inl (.inr (.inr h))) .inr)))
   exact h9.mono (λk hk h=>h.elim id (λh=>absurd h (by omega)))
  ·have h9:Chg (λk=>((Value.slice la a lc).ownBlock=some k∨k=b)∨w6.heap.size<=k) w6 w11:=(Hc610.out.mono (λ_ _ h=>.inl h)).trans (hr.chg.mono (λk _ h=>by
    rcases h with h|h
    ·exact .inl (.inr h)
    ·cases h
     exact Hg8.out.elim (λh=>.inl (.inl h)) .inr))
   refine⟨w6,_,Hw6.out,h9.mono (λk hk h=>h.elim id (λh=>absurd h (by omega))),λk hk=>?_,λg' hg'=>?_⟩
   ·rcases hk with hk|hk
    ·exact⟨(HlM.out k hk).1,(HlM.out k hk).2.1⟩
    ·rw [hk];exact HbM.out
   ·rcases(hr.own g' hg').1 with h|h
    ·cases h
     exact Hg8.out.elim (λh=>.inl (HlM.out _ h).1) .inr
    ·exact .inr (Nat.le_trans Hc610.out.size h)
  ·obtain⟨o1,o2,o3⟩:=hr.own g' hg'
   refine⟨?_,o2,o3⟩
   rcases o1 with h|h
   ·exact(Hown10.out g' h).1
   ·right;have:=Hall.out.size;omega)
 have Hgo2:=Lib.hid hs5
 clear hr hs5 hp0
 by_cases h3:pc=3
 ·have t3:((pc:Int) == 3)=true:=by rw [beq_iff_eq];omega
  have F2:=Lib.hid F.out
  rw [decide_eq_true h3,Hgo2.out] at F2
  clear hpc5 h3
  go_wp2
  go_ret
  exact F2.out
 ·have t3:((pc:Int) == 3)=false:=by rw [beq_eq_false_iff_ne];omega
  have F2:=Lib.hid F.out
  rw [decide_eq_false h3,Hgo2.out] at F2
  clear hpc5 h3
  go_wp2
  go_ret
  exact F2.out
set_option maxHeartbeats 8000000 in
theorem scan_borrow (n k:Nat) (us:List Nat) (hn:n<=16) (w:World) (Mut:Nat->Prop) (I:WIds) (N:Nat) (wd:WD) (b bP:Nat) (s:ScD) (lv:Value) (hw:WorldAt w Mut I N wd) (hbM:Mut b/\¬ WSet I b) (hlM:∀ g,lv.ownBlock=some g->Mut g/\¬ WSet I g/\g≠bP/\g≠b) (hb:ScBlk w b bP s lv) (hrow:w.ownsRow 0 40 1 lv s.list.length (s.list.map u64V)) (hne:bP≠b) (hPW:¬ WSet I bP) (hP:w.heap[bP]?=some (.cells (snapL n k us).toArray 100 (0,0))) (hpc:s.pc=2) (hat:s.at_<n) (hla:s.list.length=s.at_) (hT:wd.now<1000000000) (hcn:wd.mem.c.all+1<1000000000000) (hf:s.from_<1000000) :
  Calls Try.prog 170 #[.pointer (some ⟨b,0,none⟩),.pointer (some ⟨I.bW,0,none⟩)] w λe w'=>ScanTo w w' Mut I N (scWd wd s) b bP lv (scGo n wd s) e:=by
 obtain⟨s1,s2,s3⟩:=memSet_sub hw
 obtain⟨mks,hwb,_,_⟩:=hw.blk
 have x0:w.cell? ⟨I.bW,0,none⟩=some (.pointer (some ⟨I.bm,0,none⟩)):=by rw [cell_blk hwb];exact world_mem
 have y1:=hb.pc
 rw [hpc] at y1
 obtain⟨a,ha⟩:∃ a,a=s.at_:=⟨_,rfl⟩
 have y2:w.cell? ⟨b,2,none⟩=some (.int .i64 (a:Int)):=by rw [ha];exact hb.at_
 obtain⟨f,hff⟩:∃ f,f=s.from_:=⟨_,rfl⟩
 obtain⟨r,hrr⟩:∃ r,r=f+1+a:=⟨_,rfl⟩
 have hf1:f<1000000:=by rw [hff];exact hf
 have hr1:r<2000000:=by omega
 have y3:w.cell? ⟨b,53,none⟩=some (.int .u64 (f:Int)):=by rw [hff];exact hb.from_
 obtain⟨la,lc,rfl⟩:∃ la lc,lv=.slice la a lc:=by obtain⟨p,q,e⟩:=row_form hrow;exact⟨p,q,by rw [e,hla,ha]⟩
 have y4:=hb.list
 have nb:¬ MemSet I.bm I.bw b:=λh=>hbM.2 (s3 b h).1
 have nP:¬ MemSet I.bm I.bw bP:=λh=>hPW (s3 bP h).1
 have nR:∀ g,(Value.slice la a lc).ownBlock=some g->¬ MemSet I.bm I.bw g:=λg hg h=>(hlM g hg).2.1 (s3 g h).1
 have nRW:∀ g,(Value.slice la a lc).ownBlock=some g->g≠I.bW:=λg hg e=>(hlM g hg).2.1 (.inl e)
 have hbW:I.bW≠b:=λe=>hbM.2 (.inl e.symm)
 have hadr:scAddr s=r:=by unfold scAddr;rw [if_neg (by omega),if_neg (by omega),hrr,hff,ha]
 have Rd:=Lib.hid (λ(u:World) (h:Chg noB w u)=>read_any I.bm I.bw wd.mem (r:Int) u (hw.mem.chg h (λh=>h) (λ_ _ h=>h)) hcn)
 obtain⟨g,hg⟩:∃ g,g=taGot wd r:=⟨_,rfl⟩
 rw [show(memRead wd.mem (r:Int)).2=g from hg.symm] at Rd
 have hwd':scWd wd s=taRead wd r:=by unfold scWd;rw [hadr]
 have hgo:scGo n wd s={ s with list:=s.list++[g],at_:=a+1,pc:=if a+1=n then 3 else s.pc }:=by
  unfold scGo scNext
  rw [if_neg (by omega),if_neg (by omega),hadr,<-hg,ha]
 have Hff:=Lib.hid hff
 have wf0:IntKind.i64.wrap (f:Int)=(f:Int):=by rw [IntKind.wrap_i64];omega
 have wf1:IntKind.i64.wrap ((f:Int)+1)=(f:Int)+1:=by rw [IntKind.wrap_i64];omega
 have wf2:IntKind.i64.wrap ((f:Int)+1+(a:Int))=(r:Int):=by rw [IntKind.wrap_i64];omega
 clear hff hf hrr
 have wa1:IntKind.i64.wrap ((a:Int)+1)=(a:Int)+1:=by rw [IntKind.wrap_i64];omega
 have wr0:IntKind.i64.wrap (r:Int)=(r:Int):=by rw [IntKind.wrap_i64];omega
 have l16:(a:Int)<16:=by omega
 have hblt:=hb.lt
 have hc0:Chg (MemSet I.bm I.bw) w w.drew:=(Chg.refl _ w).drew
 obtain⟨xs,hxs⟩:∃ xs,xs=s.list.map u64V:=⟨_,rfl⟩
 rw [hla,<-ha,<-hxs] at hrow
 obtain⟨k0,hk0,hu0,hu1,hu2⟩:=info_parts u64_info'
 rw [hwd']
 have ha16:a<=16:=by omega
 have Hw:=Lib.hid hw;have Hb:=Lib.hid hb;have Nb:=Lib.hid nb;have NP:=Lib.hid nP;have S2:=Lib.hid s2;have HbM:=Lib.hid hbM;have Hne:=Lib.hid hne;have HP:=Lib.hid hP;have Hg:=Lib.hid hg;have Hgo:=Lib.hid hgo;have Ha:=Lib.hid ha;have Hpc:=Lib.hid hpc;have HPW:=Lib.hid hPW;have Hrow:=Lib.hid hrow;have NR:=Lib.hid nR;have NRW:=Lib.hid nRW;have HlM:=Lib.hid hlM;have Hxs:=Lib.hid hxs;have Hla:=Lib.hid hla;have HbW:=Lib.hid hbW;have Hat:=Lib.hid hat
 clear hw hb nb nP s1 s2 s3 hbM hne hP hg hgo hwd' hadr hwb hpc hPW ha hcn hrow nR nRW hlM hxs hla hbW hat
 go_enter Try.func170,Try.ntmps170
 go_upto_region 12 with fail
 refine wp_region_L ((λu=>u.cell? ⟨I.bW,0,none⟩=some (.pointer (some ⟨I.bm,0,none⟩))/\u.cell? ⟨b,2,none⟩=some (.int .i64 (a:Int))/\u.cell? ⟨b,53,none⟩=some (.int .u64 (f:Int))/\u.cell? ⟨b,54,none⟩=some (.slice la a lc))) 25 (by kernel_rfl) ?hS0L2 ?_
 case hS0L2=>
  (try dsimp only)
  (first|exact⟨x0,y2,y3,y4⟩|exact⟨z0,z2,z3,z4⟩|exact⟨t0,t2,t3,t4⟩|exact⟨(((Gr.new w6 _)).cell lW6).trans z0,(((Gr.new w6 _)).cell lb6).trans z2,(((Gr.new w6 _)).cell lb6).trans z3,(((Gr.new w6 _)).cell lb6).trans z4⟩)
 intro hS hcl
 refine wpAnyL_take (i:=0) (v:=?tv0L2) 26 rfl (by kernel_rfl) (by kernel_rfl) (by kernel_rfl) (by kernel_rfl) (by kernel_rfl) hcl (by first|exact λ_ _ _ h=>h|exact λ_ _ _ h=>HQp.out _ _ _ _ h) (Or.inl ⟨by rfl,?th0L2⟩) hS ?tr0L2
 (case th0L2=>(intro w hSw;(try dsimp only at hSw);go_simp;try with_reducible rfl))
 clear hcl;intro hcl
 (try simp only [Act.put,zq1,zq2,zq3,zq4,zq5,zq6])
 refine wpAnyL_take (i:=1) (v:=?tv1L2) 26 rfl (by kernel_rfl) (by kernel_rfl) (by kernel_rfl) (by kernel_rfl) (by kernel_rfl) hcl (by first|exact λ_ _ _ h=>h|exact λ_ _ _ h=>HQp.out _ _ _ _ h) (Or.inl ⟨by rfl,?th1L2⟩) hS ?tr1L2
 (case th1L2=>(intro w hSw;(try dsimp only at hSw);go_simp;try with_reducible rfl))
 clear hcl;intro hcl
 (try simp only [Act.put,zq1,zq2,zq3,zq4,zq5,zq6])
 refine wpAnyL_take (i:=2) (v:=?tv2L2) 26 rfl (by kernel_rfl) (by kernel_rfl) (by kernel_rfl) (by kernel_rfl) (by kernel_rfl) hcl (by first|exact λ_ _ _ h=>h|exact λ_ _ _ h=>HQp.out _ _ _ _ h) (Or.inl ⟨by rfl,?th2L2⟩) hS ?tr2L2
 (case th2L2=>(intro w hSw;(try dsimp only at hSw);go_simp;try with_reducible rfl))
 clear hcl;intro hcl
 (try simp only [Act.put,zq1,zq2,zq3,zq4,zq5,zq6])
 refine wpAnyL_take (i:=3) (v:=?tv3L2) 26 rfl (by kernel_rfl) (by kernel_rfl) (by kernel_rfl) (by kernel_rfl) (by kernel_rfl) hcl (by first|exact λ_ _ _ h=>h|exact λ_ _ _ h=>HQp.out _ _ _ _ h) (Or.inl ⟨by rfl,?th3L2⟩) hS ?tr3L2
 (case th3L2=>(intro w hSw;(try dsimp only at hSw);go_simp;try with_reducible rfl))
 clear hcl;intro hcl
 (try simp only [Act.put,zq1,zq2,zq3,zq4,zq5,zq6])
 refine wpAnyL_take (i:=4) (v:=?tv4L2) 26 rfl (by kernel_rfl) (by kernel_rfl) (by kernel_rfl) (by kernel_rfl) (by kernel_rfl) hcl (by first|exact λ_ _ _ h=>h|exact λ_ _ _ h=>HQp.out _ _ _ _ h) (Or.inl ⟨by rfl,?th4L2⟩) hS ?tr4L2
 (case th4L2=>(intro w hSw;(try dsimp only at hSw);go_simp;try with_reducible rfl))
 clear hcl;intro hcl
 (try simp only [Act.put,zq1,zq2,zq3,zq4,zq5,zq6])
 refine wpAnyL_take (i:=5) (v:=?tv5L2) 26 rfl (by kernel_rfl) (by kernel_rfl) (by kernel_rfl) (by kernel_rfl) (by kernel_rfl) hcl (by first|exact λ_ _ _ h=>h|exact λ_ _ _ h=>HQp.out _ _ _ _ h) (Or.inl ⟨by rfl,?th5L2⟩) hS ?tr5L2
 (case th5L2=>(intro w hSw;(try dsimp only at hSw);go_simp;try with_reducible rfl))
 clear hcl;intro hcl
 (try simp only [Act.put,zq1,zq2,zq3,zq4,zq5,zq6])
 refine wpAnyL_take (i:=6) (v:=?tv6L2) 26 rfl (by kernel_rfl) (by kernel_rfl) (by kernel_rfl) (by kernel_rfl) (by kernel_rfl) hcl (by first|exact λ_ _ _ h=>h|exact λ_ _ _ h=>HQp.out _ _ _ _ h) (Or.inl ⟨by rfl,?th6L2⟩) hS ?tr6L2
 (case th6L2=>(intro w hSw;(try dsimp only at hSw);go_simp;try with_reducible rfl))
 clear hcl;intro hcl
 (try simp only [Act.put,zq1,zq2,zq3,zq4,zq5,zq6])
 refine wpAnyL_take (i:=7) (v:=?tv7L2) 26 rfl (by kernel_rfl) (by kernel_rfl) (by kernel_rfl) (by kernel_rfl) (by kernel_rfl) hcl (by first|exact λ_ _ _ h=>h|exact λ_ _ _ h=>HQp.out _ _ _ _ h) (Or.inl ⟨by rfl,?th7L2⟩) hS ?tr7L2
 (case th7L2=>(intro w hSw;(try dsimp only at hSw);go_simp;try with_reducible rfl))
 clear hcl;intro hcl
 (try simp only [Act.put,zq1,zq2,zq3,zq4,zq5,zq6])
 refine wpAnyL_take (i:=8) (v:=?tv8L2) 26 rfl (by kernel_rfl) (by kernel_rfl) (by kernel_rfl) (by kernel_rfl) (by kernel_rfl) hcl (by first|exact λ_ _ _ h=>h|exact λ_ _ _ h=>HQp.out _ _ _ _ h) (Or.inl ⟨by rfl,?th8L2⟩) hS ?tr8L2
 (case th8L2=>(intro w hSw;(try dsimp only at hSw);go_simp;try with_reducible rfl))
 clear hcl;intro hcl
 (try simp only [Act.put,zq1,zq2,zq3,zq4,zq5,zq6])
 refine wpAnyL_take (i:=9) (v:=?tv9L2) 26 rfl (by kernel_rfl) (by kernel_rfl) (by kernel_rfl) (by kernel_rfl) (by kernel_rfl) hcl (by first|exact λ_ _ _ h=>h|exact λ_ _ _ h=>HQp.out _ _ _ _ h) (Or.inl ⟨by rfl,?th9L2⟩) hS ?tr9L2
 (case th9L2=>(intro w hSw;(try dsimp only at hSw);go_simp;try with_reducible rfl))
 clear hcl;intro hcl
 (try simp only [Act.put,zq1,zq2,zq3,zq4,zq5,zq6])
 refine wpAnyL_take (i:=10) (v:=?tv10L2) 26 rfl (by kernel_rfl) (by kernel_rfl) (by kernel_rfl) (by kernel_rfl) (by kernel_rfl) hcl (by first|exact λ_ _ _ h=>h|exact λ_ _ _ h=>HQp.out _ _ _ _ h) (Or.inl ⟨by rfl,?th10L2⟩) hS ?tr10L2
 (case th10L2=>(intro w hSw;(try dsimp only at hSw);go_simp;try with_reducible rfl))
 clear hcl;intro hcl
 (try simp only [Act.put,zq1,zq2,zq3,zq4,zq5,zq6])
 refine wpAnyL_take (i:=11) (v:=?tv11L2) 26 rfl (by kernel_rfl) (by kernel_rfl) (by kernel_rfl) (by kernel_rfl) (by kernel_rfl) hcl (by first|exact λ_ _ _ h=>h|exact λ_ _ _ h=>HQp.out _ _ _ _ h) (Or.inl ⟨by rfl,?th11L2⟩) hS ?tr11L2
 (case th11L2=>(intro w hSw;(try dsimp only at hSw);go_simp;try with_reducible rfl))
 clear hcl;intro hcl
 (try simp only [Act.put,zq1,zq2,zq3,zq4,zq5,zq6])
 refine wpAnyL_take (i:=12) (v:=?tv12L2) 26 rfl (by kernel_rfl) (by kernel_rfl) (by kernel_rfl) (by kernel_rfl) (by kernel_rfl) hcl (by first|exact λ_ _ _ h=>h|exact λ_ _ _ h=>HQp.out _ _ _ _ h) (Or.inl ⟨by rfl,?th12L2⟩) hS ?tr12L2
 (case th12L2=>(intro w hSw;(try dsimp only at hSw);go_simp;try with_reducible rfl))
 clear hcl;intro hcl
 (try simp only [Act.put,zq1,zq2,zq3,zq4,zq5,zq6])
 refine wpAnyL_take (i:=13) (v:=?tv13L2) 26 rfl (by kernel_rfl) (by kernel_rfl) (by kernel_rfl) (by kernel_rfl) (by kernel_rfl) hcl (by first|exact λ_ _ _ h=>h|exact λ_ _ _ h=>HQp.out _ _ _ _ h) (Or.inl ⟨by rfl,?th13L2⟩) hS ?tr13L2
 (case th13L2=>(intro w hSw;(try dsimp only at hSw);go_simp;try with_reducible rfl))
 clear hcl;intro hcl
 (try simp only [Act.put,zq1,zq2,zq3,zq4,zq5,zq6])
 refine wpAnyL_take (i:=14) (v:=?tv14L2) 26 rfl (by kernel_rfl) (by kernel_rfl) (by kernel_rfl) (by kernel_rfl) (by kernel_rfl) hcl (by first|exact λ_ _ _ h=>h|exact λ_ _ _ h=>HQp.out _ _ _ _ h) (Or.inl ⟨by rfl,?th14L2⟩) hS ?tr14L2
 (case th14L2=>(intro w hSw;(try dsimp only at hSw);go_simp;try with_reducible rfl))
 clear hcl;intro hcl
 (try simp only [Act.put,zq1,zq2,zq3,zq4,zq5,zq6])
 refine wpAnyL_take (i:=15) (v:=?tv15L2) 26 rfl (by kernel_rfl) (by kernel_rfl) (by kernel_rfl) (by kernel_rfl) (by kernel_rfl) hcl (by first|exact λ_ _ _ h=>h|exact λ_ _ _ h=>HQp.out _ _ _ _ h) (Or.inl ⟨by rfl,?th15L2⟩) hS ?tr15L2
 (case th15L2=>(intro w hSw;(try dsimp only at hSw);go_simp;try with_reducible rfl))
 clear hcl;intro hcl
 (try simp only [Act.put,zq1,zq2,zq3,zq4,zq5,zq6])
 refine wpAnyL_take (i:=16) (v:=?tv16L2) 26 rfl (by kernel_rfl) (by kernel_rfl) (by kernel_rfl) (by kernel_rfl) (by kernel_rfl) hcl (by first|exact λ_ _ _ h=>h|exact λ_ _ _ h=>HQp.out _ _ _ _ h) (Or.inl ⟨by rfl,?th16L2⟩) hS ?tr16L2
 (case th16L2=>(intro w hSw;(try dsimp only at hSw);go_simp;try with_reducible rfl))
 clear hcl;intro hcl
 (try simp only [Act.put,zq1,zq2,zq3,zq4,zq5,zq6])
 refine wpAnyL_take (i:=17) (v:=?tv17L2) 26 rfl (by kernel_rfl) (by kernel_rfl) (by kernel_rfl) (by kernel_rfl) (by kernel_rfl) hcl (by first|exact λ_ _ _ h=>h|exact λ_ _ _ h=>HQp.out _ _ _ _ h) (Or.inl ⟨by rfl,?th17L2⟩) hS ?tr17L2
 (case th17L2=>(intro w hSw;(try dsimp only at hSw);go_simp;try with_reducible rfl))
 clear hcl;intro hcl
 (try simp only [Act.put,zq1,zq2,zq3,zq4,zq5,zq6])
 refine wpAnyL_take (i:=18) (v:=?tv18L2) 26 rfl (by kernel_rfl) (by kernel_rfl) (by kernel_rfl) (by kernel_rfl) (by kernel_rfl) hcl (by first|exact λ_ _ _ h=>h|exact λ_ _ _ h=>HQp.out _ _ _ _ h) (Or.inl ⟨by rfl,?th18L2⟩) hS ?tr18L2
 (case th18L2=>(intro w hSw;(try dsimp only at hSw);go_simp;try with_reducible rfl))
 clear hcl;intro hcl
 (try simp only [Act.put,zq1,zq2,zq3,zq4,zq5,zq6])
 refine wpAnyL_take (i:=19) (v:=?tv19L2) 26 rfl (by kernel_rfl) (by kernel_rfl) (by kernel_rfl) (by kernel_rfl) (by kernel_rfl) hcl (by first|exact λ_ _ _ h=>h|exact λ_ _ _ h=>HQp.out _ _ _ _ h) (Or.inl ⟨by rfl,?th19L2⟩) hS ?tr19L2
 (case th19L2=>(intro w hSw;(try dsimp only at hSw);go_simp;try with_reducible rfl))
 clear hcl;intro hcl
 (try simp only [Act.put,zq1,zq2,zq3,zq4,zq5,zq6])
 refine wpAnyL_one (i:=20) (by kernel_rfl) rfl hcl (λK' hK=>?_)
 have HK:=Lib.hid hK;clear hK
 ((rw [if_pos (by kernel_rfl)]);(try simp only [zq1,zq2,zq3]);go_big_op)
 (first|(go_at_call 115;refine(Rd.out _ ?_).mono ?_;(exact(Chg.refl _ _).drew);rintro e w6 ⟨rfl,hm1,hc1⟩;have hc1':Chg (MemSet I.bm I.bw) w w6:=hc0.trans hc1;have z0:=box_keep hc1' S2.out x0;have hb6:=Hb.out.chg hc1' Nb.out;have z2:=box_keep hc1' Nb.out y2;have z3:=box_keep hc1' Nb.out y3;have z4:=box_keep hc1' Nb.out y4;have hr6:=row_chg Hrow.out hc1' NR.out;have lb6:=hb6.lt;have lW6:I.bW<w6.heap.size:=World.block_lt_of_cell? _ _ z0)|(refine step_append_lies _ (by rfl) _ _ _ (by rfl) 0 40 k0 _ 1 8 Try.underlying28 hk0 hu0 hu1 hu2 rfl (by omega) _ _ _ (by rfl) (hr6.alloc _) ⟨w6.heap.size,0,none⟩ 1 1 [.int .u64 (g:Int)] (by rfl) (by rfl) (World.news_of_block (cs:=#[.int .u64 (g:Int)]) (t:=40) (fr:=(0,0)) (heap_alloc_new w6 _)) (by simp [Value.oneCell']) (by omega) (by unfold maxLen;(try dsimp only);omega) (by(try dsimp only);omega) (by simp) (w6.heap.size+1) (by simp) ?_;intro g8 cp8 w8 hown8 hgrow8 hat8 hlt8;have hbk8:=(hgrow8.block _ (by simp;omega) (λe=>(HlM.out _ e.symm).2.2.2 rfl)).trans ((((Gr.new w6 _)).block _ lb6).trans hb6.blk);have hb8:ScBlk w8 b bP s (.slice la a lc):=⟨hbk8,hb6.l1,hb6.l2,hb6.l3⟩;have t0:=((hgrow8.cell_far _ (by simp;omega) (λe=>NRW.out _ e.symm rfl)).trans ((((Gr.new w6 _)).cell lW6).trans z0));have t2:w8.cell? ⟨b,2,none⟩=some (.int .i64 (a:Int)):=(by rw [hb8.at_,Ha.out]);have t3:w8.cell? ⟨b,53,none⟩=some (.int .u64 (f:Int)):=(by rw [Hff.out];exact hb8.from_);have t4:=hb8.list;have tf:=hb8.frozen 54;have tl:=hb8.lt))
 refine HK.out _ _ ?hS20L2 (λhcl=>?_)
 case hS20L2=>
  intro _
  (try dsimp only)
  (first|exact⟨x0,y2,y3,y4⟩|exact⟨z0,z2,z3,z4⟩|exact⟨t0,t2,t3,t4⟩|exact⟨(((Gr.new w6 _)).cell lW6).trans z0,(((Gr.new w6 _)).cell lb6).trans z2,(((Gr.new w6 _)).cell lb6).trans z3,(((Gr.new w6 _)).cell lb6).trans z4⟩)
 clear HK
 (try simp only [Act.put,zq1,zq2,zq3,zq4,zq5,zq6])
 refine wpAnyL_one (i:=21) (by kernel_rfl) rfl hcl (λK' hK=>?_)
 have HK:=Lib.hid hK;clear hK
 ((rw [if_pos (by kernel_rfl)]);(try simp only [zq1,zq2,zq3]);first|go_big_move|go_big_op)
 refine HK.out _ _ ?hS21L2 (λhcl=>?_)
 case hS21L2=>
  intro _
  (try dsimp only)
  (first|exact⟨x0,y2,y3,y4⟩|exact⟨z0,z2,z3,z4⟩|exact⟨t0,t2,t3,t4⟩|exact⟨(((Gr.new w6 _)).cell lW6).trans z0,(((Gr.new w6 _)).cell lb6).trans z2,(((Gr.new w6 _)).cell lb6).trans z3,(((Gr.new w6 _)).cell lb6).trans z4⟩)
 clear HK
 (try simp only [Act.put,zq1,zq2,zq3,zq4,zq5,zq6])
 refine wpAnyL_one (i:=22) (by kernel_rfl) rfl hcl (λK' hK=>?_)
 have HK:=Lib.hid hK;clear hK
 (first|(go_at_call 115;refine(Rd.out _ ?_).mono ?_;(exact(Chg.refl _ _).drew);rintro e w6 ⟨rfl,hm1,hc1⟩;have hc1':Chg (MemSet I.bm I.bw) w w6:=hc0.trans hc1;have z0:=box_keep hc1' S2.out x0;have hb6:=Hb.out.chg hc1' Nb.out;have z2:=box_keep hc1' Nb.out y2;have z3:=box_keep hc1' Nb.out y3;have z4:=box_keep hc1' Nb.out y4;have hr6:=row_chg Hrow.out hc1' NR.out;have lb6:=hb6.lt;have lW6:I.bW<w6.heap.size:=World.block_lt_of_cell? _ _ z0)|(refine step_append_lies _ (by rfl) _ _ _ (by rfl) 0 40 k0 _ 1 8 Try.underlying28 hk0 hu0 hu1 hu2 rfl (by omega) _ _ _ (by rfl) (hr6.alloc _) ⟨w6.heap.size,0,none⟩ 1 1 [.int .u64 (g:Int)] (by rfl) (by rfl) (World.news_of_block (cs:=#[.int .u64 (g:Int)]) (t:=40) (fr:=(0,0)) (heap_alloc_new w6 _)) (by simp [Value.oneCell']) (by omega) (by unfold maxLen;(try dsimp only);omega) (by(try dsimp only);omega) (by simp) (w6.heap.size+1) (by simp) ?_;intro g8 cp8 w8 hown8 hgrow8 hat8 hlt8;have hbk8:=(hgrow8.block _ (by simp;omega) (λe=>(HlM.out _ e.symm).2.2.2 rfl)).trans ((((Gr.new w6 _)).block _ lb6).trans hb6.blk);have hb8:ScBlk w8 b bP s (.slice la a lc):=⟨hbk8,hb6.l1,hb6.l2,hb6.l3⟩;have t0:=((hgrow8.cell_far _ (by simp;omega) (λe=>NRW.out _ e.symm rfl)).trans ((((Gr.new w6 _)).cell lW6).trans z0));have t2:w8.cell? ⟨b,2,none⟩=some (.int .i64 (a:Int)):=(by rw [hb8.at_,Ha.out]);have t3:w8.cell? ⟨b,53,none⟩=some (.int .u64 (f:Int)):=(by rw [Hff.out];exact hb8.from_);have t4:=hb8.list;have tf:=hb8.frozen 54;have tl:=hb8.lt))
 refine HK.out _ _ ?hS22L2 (λhcl=>?_)
 case hS22L2=>
  intro _
  (try dsimp only)
  (first|exact⟨x0,y2,y3,y4⟩|exact⟨z0,z2,z3,z4⟩|exact⟨t0,t2,t3,t4⟩|exact⟨(((Gr.new w6 _)).cell lW6).trans z0,(((Gr.new w6 _)).cell lb6).trans z2,(((Gr.new w6 _)).cell lb6).trans z3,(((Gr.new w6 _)).cell lb6).trans z4⟩)
 clear HK
 (try simp only [Act.put,zq1,zq2,zq3,zq4,zq5,zq6])
 refine wpAnyL_one (i:=23) (by kernel_rfl) rfl hcl (λK' hK=>?_)
 have HK:=Lib.hid hK;clear hK
 ((rw [if_pos (by kernel_rfl)]);(try simp only [zq1,zq2,zq3]);first|go_big_move|go_big_op)
 refine HK.out _ _ ?hS23L2 (λhcl=>?_)
 case hS23L2=>
  intro _
  (try dsimp only)
  (first|exact⟨x0,y2,y3,y4⟩|exact⟨z0,z2,z3,z4⟩|exact⟨t0,t2,t3,t4⟩|exact⟨(((Gr.new w6 _)).cell lW6).trans z0,(((Gr.new w6 _)).cell lb6).trans z2,(((Gr.new w6 _)).cell lb6).trans z3,(((Gr.new w6 _)).cell lb6).trans z4⟩)
 clear HK
 (try simp only [Act.put,zq1,zq2,zq3,zq4,zq5,zq6])
 refine wpAnyL_one (i:=24) (by kernel_rfl) rfl hcl (λK' hK=>?_)
 have HK:=Lib.hid hK;clear hK
 ((rw [if_pos (by kernel_rfl)]);(try simp only [zq1,zq2,zq3]);first|go_big_move|go_big_op)
 refine HK.out _ _ ?hS24L2 (λhcl=>?_)
 case hS24L2=>
  intro _
  (try dsimp only)
  (first|exact⟨x0,y2,y3,y4⟩|exact⟨z0,z2,z3,z4⟩|exact⟨t0,t2,t3,t4⟩|exact⟨(((Gr.new w6 _)).cell lW6).trans z0,(((Gr.new w6 _)).cell lb6).trans z2,(((Gr.new w6 _)).cell lb6).trans z3,(((Gr.new w6 _)).cell lb6).trans z4⟩)
 clear HK
 (try simp only [Act.put,zq1,zq2,zq3,zq4,zq5,zq6])
 refine wpAnyL_one (i:=25) (by kernel_rfl) rfl hcl (λK' hK=>?_)
 have HK:=Lib.hid hK;clear hK
 ((rw [if_pos (by kernel_rfl)]);(try simp only [zq1,zq2,zq3]);first|go_big_move|go_big_op)
 refine HK.out _ _ (λh=>by cases h.symm.trans (by kernel_rfl:_=true)) (λ_=>wpAnyL_done (by kernel_rfl) ?_ _)
 clear HK
 (try clear hS)
 obtain⟨hw1,hch1⟩:=Hw.out.mems hc1' hm1
 obtain⟨w10,hw10⟩:∃ w10,w10=(w8.setCell ⟨b,54,none⟩ (.slice (some ⟨g8,0,none⟩) (a+1) cp8)).setCell ⟨b,2,none⟩ (.int .i64 ((a:Int)+1)):=⟨_,rfl⟩
 have hb9:ScBlk (w8.setCell ⟨b,54,none⟩ (.slice (some ⟨g8,0,none⟩) (a+1) cp8)) b bP { s with list:=s.list++[g] } (.slice (some ⟨g8,0,none⟩) (a+1) cp8):=hb8.setList (s.list++[g]) (.slice (some ⟨g8,0,none⟩) (a+1) cp8)
 have q2:(w8.setCell ⟨b,54,none⟩ (.slice (some ⟨g8,0,none⟩) (a+1) cp8)).cell? ⟨b,2,none⟩=some (.int .i64 (a:Int)):=by rw [hb9.at_,Ha.out]
 have qf:=hb9.frozen 2
 have qlt:=hb9.lt
 have hb10:ScBlk w10 b bP { s with list:=s.list++[g],at_:=a+1 } (.slice (some ⟨g8,0,none⟩) (a+1) cp8):=by rw [hw10];exact hb9.setAt (a+1)
 have hc10:Chg (λk=>k=b) w8 w10:=by rw [hw10];exact((Chg.refl (λk=>k=b) w8).setCell (p:=⟨b,54,none⟩) (.inl rfl) _).setCell (p:=⟨b,2,none⟩) (.inl rfl) _
 have hgb:g8≠b:=by
  rcases hat8 with h|h
  ·exact(HlM.out g8 h).2.2.2
  ·omega
 have hr10:=row_chg hown8 hc10 (λg hg e=>hgb (by cases hg;exact e))
 have hg6:Chg (λg=>(Value.slice la a lc).ownBlock=some g) w6 w8:=((Chg.refl _ w6).alloc _).grown hgrow8 (λg hg=>.inl hg)
 have hc610:Chg (λg=>(Value.slice la a lc).ownBlock=some g∨g=b) w6 w10:=(hg6.mono (λg _ h=>.inl h)).trans (hc10.mono (λg _ h=>.inr h))
 have hw10':=world_cell hw1 hc610 (λk hk=>by
  rcases hk with hk|hk
  ·exact⟨(HlM.out k hk).1,(HlM.out k hk).2.1⟩
  ·rw [hk];exact HbM.out)
 have hall:Chg (λk=>WSet I k∨k=b∨(Value.slice la a lc).ownBlock=some k) w w10:=(hch1.mono (λ_ _ h=>.inl h)).trans (hc610.mono (λ_ _ h=>.inr (h.elim .inr .inl)))
 have hown10:∀ g',(Value.slice (some ⟨g8,0,none⟩) (a+1) cp8).ownBlock=some g'->((Value.slice la a lc).ownBlock=some g'∨w.heap.size<=g')/\g'≠b/\g'<w10.heap.size:=λg' hg'=>by
  cases hg'
  refine⟨?_,hgb,Nat.lt_of_lt_of_le hlt8 hc10.size⟩
  rcases hat8 with h|h
  ·exact .inl h
  ·right;show w.heap.size<=g8;have:=hc1'.size;omega
 have hrow10:w10.ownsRow 0 40 1 (.slice (some ⟨g8,0,none⟩) (a+1) cp8) (s.list++[g]).length ((s.list++[g]).map u64V):=by
  have e1:(s.list++[g]).length=a+1:=by rw [List.length_append,Hla.out,<-Ha.out];rfl
  have e2:(s.list++[g]).map u64V=xs++[.int .u64 (g:Int)]:=by rw [List.map_append,<-Hxs.out];rfl
  rw [e1,e2];exact hr10
 have hP10:w10.heap[bP]?=some (.cells (snapL n k us).toArray 100 (0,0)):=by
  refine(hc610.block bP ?_ (λh=>?_)).trans ((hc1'.block bP (blk_lt HP.out) NP.out).trans HP.out)
  ·exact Nat.lt_of_lt_of_le (blk_lt HP.out) hc1'.size
  ·rcases h with h|h
   ·exact(HlM.out _ h).2.2.1 rfl
   ·exact Hne.out h
 have Hb10:=Lib.hid hb10;have Hw10:=Lib.hid hw10;have Hw10':=Lib.hid hw10';have Hall:=Lib.hid hall;have Hown10:=Lib.hid hown10;have Hrow10:=Lib.hid hrow10;have HP10:=Lib.hid hP10;have Hw6:=Lib.hid hw1;have Hc610:=Lib.hid hc610;have Hg8:=Lib.hid (show(Value.slice la a lc).ownBlock=some g8∨w6.heap.size<=g8 from hat8.elim .inl (λh=>.inr (by omega)))
 clear hw1 hch1 hc1 hc1' hm1 hb6 z0 z2 z3 z4 hr6 lb6 lW6 hown8 hgrow8 hat8 hlt8 hbk8 hb8 t0 t2 t3 t4 tf tl hw10 hb9 hb10 hc10 hgb hr10 hg6 hc610 hw10' hall hown10 hrow10 hP10 x0 y1 y2 y3 y4 hc0 hblt
 go_upto_region 14 with fail
 rw [<-Hw10.out]
 clear q2 qf qlt
 have e0:=Hb10.out.ptr
 have e1:w10.cell? ⟨b,1,none⟩=some (.int .i64 2):=by rw [Hb10.out.pc];show some (Value.int .i64 (s.pc:Int))=_;rw [Hpc.out];rfl
 have e2:w10.cell? ⟨b,2,none⟩=some (.int .i64 ((a:Int)+1)):=Hb10.out.at_
 have eP:w10.cell? ⟨bP,1,none⟩=some (.int .i64 (n:Int)):=by rw [cell_blk HP10.out];rfl
 have HF10:=Lib.hid (show WFrom w10 Mut I N (taRead wd r) (.slice (some ⟨g8,0,none⟩) (a+1) cp8) from⟨w6,_,Hw6.out,Hc610.out,(λk hk=>by
  rcases hk with hk|hk
  ·exact⟨(HlM.out k hk).1,(HlM.out k hk).2.1⟩
  ·rw [hk];exact HbM.out),(λg' hg'=>by cases hg';exact Hg8.out.elim (λh=>.inl (HlM.out _ h).1) .inr)⟩)
 by_cases hl:a+1=n
 ·have l1:((a:Int)+1)=(n:Int):=by omega
  have F:=Lib.hid (λ(u:World) (hu:Chg (λ_=>False) w10 u)=>show ScanTo w (u.setCell ⟨b,1,none⟩ (.int .i64 3)) Mut I N (taRead wd r) b bP (.slice la a lc) (scGo n wd s) (.returned (.bool true)) from by
   rw [Hgo.out,if_pos hl]
   have hc1:Chg (λk=>k=b) u (u.setCell ⟨b,1,none⟩ (.int .i64 3)):=(Chg.refl (λk=>k=b) u).setCell (p:=⟨b,1,none⟩) (.inl rfl) _
   refine⟨rfl,(Hall.out.trans (hu.mono (λ_ _ h=>h.elim))).trans (hc1.mono (λ_ _ h=>.inr (.inl h))),.slice (some ⟨g8,0,none⟩) (a+1) cp8,((HF10.out.go hu (λ_ h=>h.elim)).go hc1 (λk hk=>by rw [hk];exact HbM.out)),(Hb10.out.chg hu (λh=>h)).setPc 3,row_chg (row_chg Hrow10.out hu (λ_ _ h=>h)) hc1 (λg' hg' e=>(Hown10.out g' hg').2.1 e),λg' hg'=>?_,λe=>by cases e⟩
   obtain⟨o1,o2,o3⟩:=Hown10.out g' hg'
   exact⟨o1,o2,Nat.lt_of_lt_of_le o3 (Nat.le_trans hu.size hc1.size)⟩)
  have hx2:(w10.cell? ⟨b,2,none⟩)=some (.int .i64 (n:Int)):=by rw [e2,l1]
  have f1:=Hb10.out.frozen 1
  have flt:=Hb10.out.lt
  clear hl e2
  go_quiet (fail)
  have d1:(w10.drewN nq).cell? ⟨b,1,none⟩=some (.int .i64 2):=e1
  have df:(w10.drewN nq).frozen? ⟨b,1,none⟩=false:=f1
  have dl:b<(w10.drewN nq).heap.size:=flt
  have hcd:Chg (λ_=>False) w10 (w10.drewN nq):=(Chg.refl _ _).drewN nq
  obtain⟨w4,hw4⟩:∃ w4,w4=w10.drewN nq:=⟨_,rfl⟩
  rw [<-hw4] at d1 df dl hcd ⊢
  have F4:=Lib.hid (F.out w4 hcd)
  clear hw4 hcd e0 e1 eP hx2 f1 flt
  go_wp2
  go_ret
  exact F4.out
 ·have l1:¬ ((a:Int)+1)=(n:Int):=by omega
  have F:=Lib.hid (λ(u:World) (hu:Chg (λ_=>False) w10 u)=>show ScanTo w u Mut I N (taRead wd r) b bP (.slice la a lc) (scGo n wd s) (.returned (.bool false)) from by
   rw [Hgo.out,if_neg hl]
   refine⟨?_,Hall.out.trans (hu.mono (λ_ _ h=>h.elim)),.slice (some ⟨g8,0,none⟩) (a+1) cp8,HF10.out.go hu (λ_ h=>h.elim),Hb10.out.chg hu (λh=>h),row_chg Hrow10.out hu (λ_ _ h=>h),λg' hg'=>?_,λe=>by exfalso;have:=Hpc.out;have e':s.pc=0:=e;omega⟩
   ·show Ending.returned (.bool false)=.returned (.bool (decide (s.pc=3)))
    rw [Hpc.out];rfl
   ·obtain⟨o1,o2,o3⟩:=Hown10.out g' hg'
    exact⟨o1,o2,Nat.lt_of_lt_of_le o3 hu.size⟩)
  clear hl
  go_quiet (fail)
  have d1:(w10.drewN nq).cell? ⟨b,1,none⟩=some (.int .i64 2):=e1
  clear e0 e1 e2 eP
  go_wp2
  go_ret
  exact F.out _ ((Chg.refl _ _).drewN nq)
end Go.Proofs.Ytlepjmnhekeofaa
