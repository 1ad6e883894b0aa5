/- Layer 6's reference: an access that is made now: (*Tape).access. -/
import Derived.Test.YtfkokppncipgnaaGreatV05
import Derived.Test.YtfkokppncipgnaaGreatV02
import Derived.Deep.RegionHeld3
import Derived.Deep.AppendLies
import Derived.Test.YtfkokppncipgnaaGreatV01
import Derived.Deep.CutRange
set_option maxRecDepth 100000
set_option linter.unusedVariables false
set_option linter.unusedSimpArgs false
set_option linter.unnecessarySimpa false
namespace Go.Proofs.YtfkokppncipgnaaGreat
open List renaming getElem_toArray → zq1, getElem_cons_zero → zq2, getElem_cons_succ → zq3, setIfInBounds_toArray → zq4, set_cons_zero → zq5, set_cons_succ → zq6
open Go.RowKit
theorem access_info:(Tryz.prog.info? 212).map (λi=>(i.zero,i.size,i.bytes))=some (some (.agg #[.int .i64 0,.int .i64 0,.int .i64 0,.int .i64 0,.int .u64 0,.int .u64 0]),6,48):=by kernel_rfl
theorem memAcc_all {m:MemD} {kind a:Int} {x y:Nat}:(memAcc m kind a x y).1.c.all=m.c.all+1:=by
 unfold memAcc memRead memWrite memSwap memAdd MemD.fault CountsD.all
 repeat' split
 all_goals (simp only;omega)
theorem memAcc_len {m:MemD} {kind a:Int} {x y:Nat}:(memAcc m kind a x y).1.ws.length=m.ws.length:=by
 unfold memAcc memRead memWrite memSwap memAdd MemD.fault
 repeat' split
 all_goals simp
theorem memOut_f {m:MemD} {a:Int} (h:memOut m a=true):a<0∨(0<=a/\(m.ws.length:Int)<=a):=by
 have:=outOf h
 omega
variable {I:TIds} {G K L:Value} {t:TapeD} {m:MemD} {now:Nat} {w:World}
theorem TapeAt.tick (h:TapeAt w I G K L t m now):TapeAt w I G K L t m now:=h
theorem TapeAt.grown {w':World} (h:TapeAt w I G K L t m now) (hb:Below w.heap.size w w'):TapeAt w' I G K L t m now/\TapeTo w w' I G K L G K L:=
 ⟨h.chg (S:=λ_=>False) (Chg.of_below hb) (λ_ _ h=>h),⟨Chg.of_below hb,KeepB.refl _ _,KeepB.refl _ _,KeepB.refl _ _⟩⟩
set_option maxHeartbeats 8000000 in
theorem access_new (I:TIds) (G K L:Value) (t:TapeD) (m:MemD) (now:Nat) (kind a:Int) (x y:Nat) (w:World) (h:TapeAt w I G K L t m now) (hh:t.halt=false) (hf:t.fresh=true) (hat:t.at_=t.got.length)
  (hx:x<18446744073709551616) (hy:y<18446744073709551616) (hcnt:m.c.all+1<1000000000000) (hgl:t.got.length+1<=100000000) (hkl:t.ticks.length+1<=100000000) :
  Calls Tryz.prog 116 #[.pointer (some ⟨I.tb,I.pre.length,none⟩),.int .i64 kind,.int .i64 a,.int .u64 (x:Int),.int .u64 (y:Int)] w λe w'=>e=.returned (.int .u64 ((memAcc m kind a x y).2:Int))/\TapeOut w w' I G K L (AccD t (memAcc m kind a x y).2 now) (memAcc m kind a x y).1 now:=by
 obtain⟨i0,hi,hz0,hz1,hz2⟩:=info_parts access_info
 obtain⟨j0,hj0,hy0,hy1,hy2⟩:=info_parts uint64_info0
 obtain⟨k0,hk0,hu0,hu1,hu2⟩:=info_parts int_info0
 have T0:=Lib.hid h
 obtain⟨v,hv⟩:∃ v,v=(memAcc m kind a x y).2:=⟨_,rfl⟩
 obtain⟨m1,hm1⟩:∃ m1,m1=(memAcc m kind a x y).1:=⟨_,rfl⟩
 have hall:m1.c.all=m.c.all+1:=by rw [hm1];exact memAcc_all
 have hl1:m1.ws.length=m.ws.length:=by rw [hm1];exact memAcc_len
 rw [<-hv,<-hm1]
 have Hall:=Lib.hid hall;have Hl1:=Lib.hid hl1;have Hm1:=Lib.hid hm1;have Hv:=Lib.hid hv
 clear hall hl1 hm1 hv
 have Hat1:=Lib.hid (show t.at_+1<=100000000 by omega)
 obtain⟨ga,gc,rfl⟩:=row_form h.got
 obtain⟨ka,kc,rfl⟩:=row_form h.ticks
 have c3:w.cell? ⟨I.tb,I.pre.length+3,none⟩=some (.slice ga t.got.length gc):=h.cell (i:=3) (by omega)
 have c5:w.cell? ⟨I.tb,I.pre.length+5,none⟩=some (.int .i64 (t.got.length:Int)):=by rw [h.cell (i:=5) (by omega),<-hat];rfl
 have c7:w.cell? ⟨I.tb,I.pre.length+7,none⟩=some (.bool false):=by rw [h.cell (i:=7) (by omega),<-hh];rfl
 have C3:=grown_cell c3;have C5:=grown_cell c5
 clear c3 c5 h
 go_enter Tryz.func116,Tryz.ntmps116
 go_wp2_with fail
 ((with_reducible refine wp_region_grown_lit (by kernel_rfl) (by kernel_rfl) ?_);(repeat ((with_reducible refine wpQuiet_step (λK hK=>?_));go_simp;((with_reducible refine hK _ ?_);clear hK K)));(with_reducible refine wpQuiet_nil ?_);intro _ hw';obtain⟨nq,hw''⟩:=hw';subst hw'')
 obtain⟨w0,hw0⟩:∃ w0,w0=nq.u:=⟨_,rfl⟩
 have hb0:=nq.below
 rw [<-hw0] at hb0 ⊢
 obtain⟨h0,hto0⟩:=T0.out.grown hb0
 clear C3 C5 hw0 nq c7 hb0
 have c6:w0.cell? ⟨I.tb,I.pre.length+6,none⟩=some (.bool true):=by rw [h0.cell (i:=6) (by omega),<-hf];rfl
 have f6:w0.frozen? ⟨I.tb,I.pre.length+6,none⟩=false:=frozen_blk h0.blk _
 obtain⟨w1,hw1⟩:∃ w1,w1=w0.setCell ⟨I.tb,I.pre.length+6,none⟩ (.bool false):=⟨_,rfl⟩
 obtain⟨h1,hto1⟩:=h0.put (i:=6) (by omega) (.bool false) (t':={ t with fresh:=false }) rfl rfl rfl
 rw [<-hw1] at h1 hto1
 have Hto1:=Lib.hid (hto0.trans hto1)
 have Hw1:=Lib.hid hw1
 clear hto0 hto1 h0 hw1
 go_upto_region 10 with fail
 rw [<-Hw1.out]
 clear c6 f6 Hw1
 obtain⟨wa,cap,hcap,hb,hsl,hwb⟩:=h1.mem.wld
 have hlen:=h1.mem.len
 have H1:=Lib.hid h1
 have d0:w1.cell? ⟨I.tb,I.pre.length,none⟩=some (.pointer (some ⟨I.bW,0,none⟩)):=h1.cell0
 have e0:w1.cell? ⟨I.bW,0,none⟩=some (.slice wa m.ws.length cap):=by rw [cell_blk hb];simp [rmemCells]
 have Ac:=Lib.hid (racc_any I.bW 93 [.int .i64 (now:Int),I.mks,I.trs,L] I.bw m kind a x y w1 h1.mem hx hy hcnt)
 rw [<-Hv.out,<-Hm1.out] at Ac
 have Hsl:=Lib.hid hsl
 clear hb hcap hwb h1 hsl
 cases ho:memOut m a with
 | true=>
  rcases memOut_f ho with l0|⟨l0,l1⟩
  ·clear ho
   go_upto_region 17 with(go_at_call 131;refine Ac.out.mono ?_;rintro e w5 ⟨rfl,hm2,hc2⟩)
   obtain⟨h5,hto5⟩:=H1.out.acc hm2 hc2 (by have:=Hall.out;omega)
   have Hto5:=Lib.hid (Hto1.out.trans hto5)
   clear hm2 hc2 hto5 Hto1 Ac d0 e0
   have H5:=Lib.hid h5
   have s0:w5.cell? ⟨I.tb,I.pre.length+3,none⟩=some (.slice ga t.got.length gc):=h5.cell (i:=3) (by omega)
   have Hgot:=Lib.hid h5.got
   clear h5
   go_wp2_with (at_builtin;refine wpList_append_lies _ rfl _ _ 28 rfl 0 46 j0 (.int .u64 0) 1 8 Tryz.underlying28 hj0 hy0 hy1 hy2 rfl (by decide) _ _ _ rfl (Hgot.out.alloc _) ⟨w5.heap.size,0,none⟩ 1 1 [.int .u64 (v:Int)] rfl rfl ?c1t1 ?c2t1 (by decide) ?c3t1 ?c4t1 ?c5t1 (w5.heap.size+1) ?c6t1 ?_)
   case c2t1=>simp [Value.oneCell']
   case c3t1=>unfold maxLen;omega
   case c4t1=>omega
   intro g6 cp6 w6 hown6 hgrow6 hat6 _
   have hc6:Chg (λk=>(Value.slice ga t.got.length gc).ownBlock=some k) w5 w6:=((Chg.refl _ w5).alloc _).grown hgrow6 (λq hq=>.inl hq)
   have hk6:KeepB w5 (.slice ga t.got.length gc) (.slice (some ⟨g6,0,none⟩) (t.got.length+1) cp6):=λb hb=>by
    cases hb
    rcases hat6 with h9|h9
    ·exact .inl h9
    ·exact .inr (by show _<=g6;omega)
   obtain⟨w7,hw7⟩:∃ w7,w7=w6.setCell ⟨I.tb,I.pre.length+3,none⟩ (.slice (some ⟨g6,0,none⟩) (t.got.length+1) cp6):=⟨_,rfl⟩
   obtain⟨h7,hto7⟩:=H5.out.gotten hc6 hk6 hown6 hgl hw7
   have hb6:=(hc6.block _ (blk_lt H5.out.blk) (λe=>row_ne H5.out.got H5.out.blk H5.out.typ.1 e)).trans H5.out.blk
   have s3:w6.cell? ⟨I.tb,I.pre.length+3,none⟩=some (.slice ga t.got.length gc):=by rw [cell_blk hb6];exact mid_get (i:=3) (by exact(by decide:3<13))
   have f3:w6.frozen? ⟨I.tb,I.pre.length+3,none⟩=false:=frozen_blk hb6 _
   have Hto7:=Lib.hid (Hto5.out.trans hto7);have H7:=Lib.hid h7;have Hw7:=Lib.hid hw7
   clear hc6 hk6 hown6 hgrow6 hat6 hto7 hb6 s0 Hgot Hto5 H5 hw7
   go_upto_region 18 with fail
   rw [<-Hw7.out]
   clear s3 f3 Hw7
   obtain⟨wa7,cap7,_,hb7,_,_⟩:=h7.mem.wld
   have x0:w7.cell? ⟨I.tb,I.pre.length,none⟩=some (.pointer (some ⟨I.bW,0,none⟩)):=h7.cell0
   have x4:w7.cell? ⟨I.tb,I.pre.length+4,none⟩=some (.slice ka t.ticks.length kc):=h7.cell (i:=4) (by omega)
   have xn:w7.cell? ⟨I.bW,6,none⟩=some (.int .i64 (now:Int)):=by rw [cell_blk hb7];rfl
   have Hk7:=Lib.hid h7.ticks
   have la:=blk_lt h7.blk
   have lb:=blk_lt hb7
   have na:(Value.slice ka t.ticks.length kc).ownBlock≠some I.tb:=row_ne h7.ticks h7.blk h7.typ.2.1
   have nb:(Value.slice ka t.ticks.length kc).ownBlock≠some I.bW:=row_ne h7.ticks hb7 (by decide)
   clear hb7 h7 hi hz0 hz1 hz2 hj0 hy0 hy1 hy2 hlen hx hy hh hf hat hcnt hgl
   refine wp_region_L ((λu=>u.cell? ⟨I.tb,I.pre.length,none⟩=some (.pointer (some ⟨I.bW,0,none⟩))/\u.cell? ⟨I.tb,I.pre.length+4,none⟩=some (.slice ka t.ticks.length kc)/\u.cell? ⟨I.bW,6,none⟩=some (.int .i64 (now:Int)))) 16 (by kernel_rfl) ?hS0L1 ?_
   case hS0L1=>
    (exact⟨x0,x4,xn⟩)
   intro hS hcl
   refine wpAnyL_take (i:=0) (v:=?tv0L1) 17 rfl (by kernel_rfl) (by kernel_rfl) (by kernel_rfl) (by kernel_rfl) (by kernel_rfl) hcl (by exact λ_ _ _ h=>h) (Or.inl ⟨by rfl,?th0L1⟩) hS ?tr0L1
   (case th0L1=>(intro w hSw;go_simp;with_reducible rfl))
   clear hcl;intro hcl
   (simp only [Act.put,zq1,zq2,zq3,zq4,zq5,zq6])
   refine wpAnyL_take (i:=1) (v:=?tv1L1) 17 rfl (by kernel_rfl) (by kernel_rfl) (by kernel_rfl) (by kernel_rfl) (by kernel_rfl) hcl (by exact λ_ _ _ h=>h) (Or.inl ⟨by rfl,?th1L1⟩) hS ?tr1L1
   (case th1L1=>(intro w hSw;go_simp;with_reducible rfl))
   clear hcl;intro hcl
   (simp only [Act.put,zq1,zq2,zq3,zq4,zq5,zq6])
   refine wpAnyL_take (i:=2) (v:=?tv2L1) 17 rfl (by kernel_rfl) (by kernel_rfl) (by kernel_rfl) (by kernel_rfl) (by kernel_rfl) hcl (by exact λ_ _ _ h=>h) (Or.inl ⟨by rfl,?th2L1⟩) hS ?tr2L1
   (case th2L1=>(intro w hSw;go_simp;with_reducible rfl))
   clear hcl;intro hcl
   (simp only [Act.put,zq1,zq2,zq3,zq4,zq5,zq6])
   refine wpAnyL_take (i:=3) (v:=?tv3L1) 17 rfl (by kernel_rfl) (by kernel_rfl) (by kernel_rfl) (by kernel_rfl) (by kernel_rfl) hcl (by exact λ_ _ _ h=>h) (Or.inl ⟨by rfl,?th3L1⟩) hS ?tr3L1
   (case th3L1=>(intro w hSw;go_simp;with_reducible rfl))
   clear hcl;intro hcl
   (simp only [Act.put,zq1,zq2,zq3,zq4,zq5,zq6])
   refine wpAnyL_take (i:=4) (v:=?tv4L1) 17 rfl (by kernel_rfl) (by kernel_rfl) (by kernel_rfl) (by kernel_rfl) (by kernel_rfl) hcl (by exact λ_ _ _ h=>h) (Or.inl ⟨by rfl,?th4L1⟩) hS ?tr4L1
   (case th4L1=>(intro w hSw;go_simp;with_reducible rfl))
   clear hcl;intro hcl
   (simp only [Act.put,zq1,zq2,zq3,zq4,zq5,zq6])
   refine wpAnyL_take (i:=5) (v:=?tv5L1) 17 rfl (by kernel_rfl) (by kernel_rfl) (by kernel_rfl) (by kernel_rfl) (by kernel_rfl) hcl (by exact λ_ _ _ h=>h) (Or.inl ⟨by rfl,?th5L1⟩) hS ?tr5L1
   (case th5L1=>(intro w hSw;go_simp;with_reducible rfl))
   clear hcl;intro hcl
   (simp only [Act.put,zq1,zq2,zq3,zq4,zq5,zq6])
   refine wpAnyL_take (i:=6) (v:=?tv6L1) 17 rfl (by kernel_rfl) (by kernel_rfl) (by kernel_rfl) (by kernel_rfl) (by kernel_rfl) hcl (by exact λ_ _ _ h=>h) (Or.inl ⟨by rfl,?th6L1⟩) hS ?tr6L1
   (case th6L1=>(intro w hSw;go_simp;with_reducible rfl))
   clear hcl;intro hcl
   (simp only [Act.put,zq1,zq2,zq3,zq4,zq5,zq6])
   refine wpAnyL_take (i:=7) (v:=?tv7L1) 17 rfl (by kernel_rfl) (by kernel_rfl) (by kernel_rfl) (by kernel_rfl) (by kernel_rfl) hcl (by exact λ_ _ _ h=>h) (Or.inl ⟨by rfl,?th7L1⟩) hS ?tr7L1
   (case th7L1=>(intro w hSw;go_simp;with_reducible rfl))
   clear hcl;intro hcl
   (simp only [Act.put,zq1,zq2,zq3,zq4,zq5,zq6])
   refine wpAnyL_take (i:=8) (v:=?tv8L1) 17 rfl (by kernel_rfl) (by kernel_rfl) (by kernel_rfl) (by kernel_rfl) (by kernel_rfl) hcl (by exact λ_ _ _ h=>h) (Or.inl ⟨by rfl,?th8L1⟩) hS ?tr8L1
   (case th8L1=>(intro w hSw;go_simp;with_reducible rfl))
   clear hcl;intro hcl
   (simp only [Act.put,zq1,zq2,zq3,zq4,zq5,zq6])
   refine wpAnyL_take (i:=9) (v:=?tv9L1) 17 rfl (by kernel_rfl) (by kernel_rfl) (by kernel_rfl) (by kernel_rfl) (by kernel_rfl) hcl (by exact λ_ _ _ h=>h) (Or.inl ⟨by rfl,?th9L1⟩) hS ?tr9L1
   (case th9L1=>(intro w hSw;go_simp;with_reducible rfl))
   clear hcl;intro hcl
   (simp only [Act.put,zq1,zq2,zq3,zq4,zq5,zq6])
   refine wpAnyL_take (i:=10) (v:=?tv10L1) 17 rfl (by kernel_rfl) (by kernel_rfl) (by kernel_rfl) (by kernel_rfl) (by kernel_rfl) hcl (by exact λ_ _ _ h=>h) (Or.inl ⟨by rfl,?th10L1⟩) hS ?tr10L1
   (case th10L1=>(intro w hSw;go_simp;with_reducible rfl))
   clear hcl;intro hcl
   (simp only [Act.put,zq1,zq2,zq3,zq4,zq5,zq6])
   refine wpAnyL_take (i:=11) (v:=?tv11L1) 17 rfl (by kernel_rfl) (by kernel_rfl) (by kernel_rfl) (by kernel_rfl) (by kernel_rfl) hcl (by exact λ_ _ _ h=>h) (Or.inl ⟨by rfl,?th11L1⟩) hS ?tr11L1
   (case th11L1=>(intro w hSw;go_simp;with_reducible rfl))
   clear hcl;intro hcl
   (simp only [Act.put,zq1,zq2,zq3,zq4,zq5,zq6])
   refine wpAnyL_one (i:=12) (by kernel_rfl) rfl hcl (λK' hK=>?_)
   have HK:=Lib.hid hK;clear hK
   ((rw [if_pos (by kernel_rfl)]);(simp only [zq1,zq2,zq3]);go_big_op)
   refine HK.out _ _ ?hS12L1 (λhcl=>?_)
   case hS12L1=>
    intro _
    (exact⟨(((Gr.new w7 _).drew).cell la).trans x0,(((Gr.new w7 _).drew).cell la).trans x4,(((Gr.new w7 _).drew).cell lb).trans xn⟩)
   clear HK
   refine wpAnyL_one (i:=13) (by kernel_rfl) rfl hcl (λK' hK=>?_)
   have HK:=Lib.hid hK;clear hK
   ((refine step_append_lies _ (by rfl) _ _ _ (by rfl) 0 3 k0 _ 1 8 Tryz.underlying24 hk0 hu0 hu1 hu2 rfl (by omega) _ _ _ (by rfl) ((Hk7.out.alloc _).drew) ⟨w7.heap.size,0,none⟩ 1 1 [.int .i64 (now:Int)] (by rfl) (by rfl) (World.news_of_block (cs:=#[.int .i64 (now:Int)]) (t:=3) (fr:=(0,0)) (heap_alloc_new w7 _)) (by simp [Value.oneCell']) (by omega) (by unfold maxLen;(dsimp only);omega) (by(dsimp only);omega) (by simp) (w7.heap.size+1) (by simp) ?_;intro g8 cp8 w8 hown8 hgrow8 hat8 hlt8;have z0:=((hgrow8.cell_far _ (by simp;omega) (Ne.symm na)).trans ((((Gr.new w7 _).drew).cell la).trans x0));have z4:=((hgrow8.cell_far _ (by simp;omega) (Ne.symm na)).trans ((((Gr.new w7 _).drew).cell la).trans x4));have zn:=((hgrow8.cell_far _ (by simp;omega) (Ne.symm nb)).trans ((((Gr.new w7 _).drew).cell lb).trans xn));have zf:w8.frozen? ⟨I.tb,I.pre.length+4,none⟩=false:=frozen_blk ((hgrow8.block _ (by simp;omega) (Ne.symm na)).trans ((((Gr.new w7 _).drew).block _ la).trans H7.out.blk)) _))
   refine HK.out _ _ ?hS13L1 (λhcl=>?_)
   case hS13L1=>
    intro _
    (exact⟨z0,z4,zn⟩)
   clear HK
   (simp only [Act.put,zq1,zq2,zq3,zq4,zq5,zq6])
   refine wpAnyL_one (i:=14) (by kernel_rfl) rfl hcl (λK' hK=>?_)
   have HK:=Lib.hid hK;clear hK
   ((rw [if_pos (by kernel_rfl)]);(simp only [zq1,zq2,zq3]);go_big_op)
   refine HK.out _ _ ?hS14L1 (λhcl=>?_)
   case hS14L1=>
    intro _
    (exact⟨z0,z4,zn⟩)
   clear HK
   refine wpAnyL_one (i:=15) (by kernel_rfl) rfl hcl (λK' hK=>?_)
   have HK:=Lib.hid hK;clear hK
   ((rw [if_pos (by kernel_rfl)]);(simp only [zq1,zq2,zq3]);go_big_op)
   refine HK.out _ _ ?hS15L1 (λhcl=>?_)
   case hS15L1=>
    intro _
    (exact⟨z0,z4,zn⟩)
   clear HK
   refine wpAnyL_one (i:=16) (by kernel_rfl) rfl hcl (λK' hK=>?_)
   have HK:=Lib.hid hK;clear hK
   ((rw [if_pos (by kernel_rfl)]);(simp only [zq1,zq2,zq3]);go_big_op)
   refine HK.out _ _ (λh=>by cases h.symm.trans (by kernel_rfl:_=true)) (λ_=>wpAnyL_done (by kernel_rfl) ?_ _)
   clear HK
   (clear hS)
   have hc8:Chg (λk=>(Value.slice ka t.ticks.length kc).ownBlock=some k) w7 w8:=(((Chg.refl _ w7).alloc _).drew).grown hgrow8 (λq hq=>.inl hq)
   have hk8:KeepB w7 (.slice ka t.ticks.length kc) (.slice (some ⟨g8,0,none⟩) (t.ticks.length+1) cp8):=λb hb=>by
    cases hb
    rcases hat8 with h9|h9
    ·exact .inl h9
    ·exact .inr (by show _<=g8;omega)
   obtain⟨w9,hw9⟩:∃ w9,w9=w8.setCell ⟨I.tb,I.pre.length+4,none⟩ (.slice (some ⟨g8,0,none⟩) (t.ticks.length+1) cp8):=⟨_,rfl⟩
   obtain⟨h9,hto9⟩:=H7.out.ticked hc8 hk8 hown8 hkl hw9
   have Hto9:=Lib.hid (Hto7.out.trans hto9)
   have y5:w9.cell? ⟨I.tb,I.pre.length+5,none⟩=some (.int .i64 (t.at_:Int)):=h9.cell (i:=5) (by omega)
   have yf:w9.frozen? ⟨I.tb,I.pre.length+5,none⟩=false:=frozen_blk h9.blk _
   have Fin:=Lib.hid (h9.put (i:=5) (by omega) (.int .i64 ((t.at_+1:Nat):Int)) (t':=AccD t v now) rfl rfl rfl)
   have hwr:wrap64 ((t.at_:Int)+1)=((t.at_+1:Nat):Int):=by have:=Hat1.out;unfold wrap64;omega
   rw [<-hw9]
   clear hc8 hk8 hown8 hgrow8 hat8 hto9 Hto7 H7 Hk7 x0 x4 xn z0 z4 zn zf hw9 h9 T0 H1 Hsl
   go_wp2
   (rw [hwr])
   go_ret
   exact⟨rfl,_,_,_,Fin.out.1,Hto9.out.trans Fin.out.2⟩
  ·clear ho
   go_upto_region 17 with(go_at_call 131;refine Ac.out.mono ?_;rintro e w5 ⟨rfl,hm2,hc2⟩)
   obtain⟨h5,hto5⟩:=H1.out.acc hm2 hc2 (by have:=Hall.out;omega)
   have Hto5:=Lib.hid (Hto1.out.trans hto5)
   clear hm2 hc2 hto5 Hto1 Ac d0 e0
   have H5:=Lib.hid h5
   have s0:w5.cell? ⟨I.tb,I.pre.length+3,none⟩=some (.slice ga t.got.length gc):=h5.cell (i:=3) (by omega)
   have Hgot:=Lib.hid h5.got
   clear h5
   go_wp2_with (at_builtin;refine wpList_append_lies _ rfl _ _ 28 rfl 0 46 j0 (.int .u64 0) 1 8 Tryz.underlying28 hj0 hy0 hy1 hy2 rfl (by decide) _ _ _ rfl (Hgot.out.alloc _) ⟨w5.heap.size,0,none⟩ 1 1 [.int .u64 (v:Int)] rfl rfl ?c1t2 ?c2t2 (by decide) ?c3t2 ?c4t2 ?c5t2 (w5.heap.size+1) ?c6t2 ?_)
   case c2t2=>simp [Value.oneCell']
   case c3t2=>unfold maxLen;omega
   case c4t2=>omega
   intro g6 cp6 w6 hown6 hgrow6 hat6 _
   have hc6:Chg (λk=>(Value.slice ga t.got.length gc).ownBlock=some k) w5 w6:=((Chg.refl _ w5).alloc _).grown hgrow6 (λq hq=>.inl hq)
   have hk6:KeepB w5 (.slice ga t.got.length gc) (.slice (some ⟨g6,0,none⟩) (t.got.length+1) cp6):=λb hb=>by
    cases hb
    rcases hat6 with h9|h9
    ·exact .inl h9
    ·exact .inr (by show _<=g6;omega)
   obtain⟨w7,hw7⟩:∃ w7,w7=w6.setCell ⟨I.tb,I.pre.length+3,none⟩ (.slice (some ⟨g6,0,none⟩) (t.got.length+1) cp6):=⟨_,rfl⟩
   obtain⟨h7,hto7⟩:=H5.out.gotten hc6 hk6 hown6 hgl hw7
   have hb6:=(hc6.block _ (blk_lt H5.out.blk) (λe=>row_ne H5.out.got H5.out.blk H5.out.typ.1 e)).trans H5.out.blk
   have s3:w6.cell? ⟨I.tb,I.pre.length+3,none⟩=some (.slice ga t.got.length gc):=by rw [cell_blk hb6];exact mid_get (i:=3) (by exact(by decide:3<13))
   have f3:w6.frozen? ⟨I.tb,I.pre.length+3,none⟩=false:=frozen_blk hb6 _
   have Hto7:=Lib.hid (Hto5.out.trans hto7);have H7:=Lib.hid h7;have Hw7:=Lib.hid hw7
   clear hc6 hk6 hown6 hgrow6 hat6 hto7 hb6 s0 Hgot Hto5 H5 hw7
   go_upto_region 18 with fail
   rw [<-Hw7.out]
   clear s3 f3 Hw7
   obtain⟨wa7,cap7,_,hb7,_,_⟩:=h7.mem.wld
   have x0:w7.cell? ⟨I.tb,I.pre.length,none⟩=some (.pointer (some ⟨I.bW,0,none⟩)):=h7.cell0
   have x4:w7.cell? ⟨I.tb,I.pre.length+4,none⟩=some (.slice ka t.ticks.length kc):=h7.cell (i:=4) (by omega)
   have xn:w7.cell? ⟨I.bW,6,none⟩=some (.int .i64 (now:Int)):=by rw [cell_blk hb7];rfl
   have Hk7:=Lib.hid h7.ticks
   have la:=blk_lt h7.blk
   have lb:=blk_lt hb7
   have na:(Value.slice ka t.ticks.length kc).ownBlock≠some I.tb:=row_ne h7.ticks h7.blk h7.typ.2.1
   have nb:(Value.slice ka t.ticks.length kc).ownBlock≠some I.bW:=row_ne h7.ticks hb7 (by decide)
   clear hb7 h7 hi hz0 hz1 hz2 hj0 hy0 hy1 hy2 hlen hx hy hh hf hat hcnt hgl
   refine wp_region_L ((λu=>u.cell? ⟨I.tb,I.pre.length,none⟩=some (.pointer (some ⟨I.bW,0,none⟩))/\u.cell? ⟨I.tb,I.pre.length+4,none⟩=some (.slice ka t.ticks.length kc)/\u.cell? ⟨I.bW,6,none⟩=some (.int .i64 (now:Int)))) 16 (by kernel_rfl) ?hS0L2 ?_
   case hS0L2=>
    (exact⟨x0,x4,xn⟩)
   intro hS hcl
   refine wpAnyL_take (i:=0) (v:=?tv0L2) 17 rfl (by kernel_rfl) (by kernel_rfl) (by kernel_rfl) (by kernel_rfl) (by kernel_rfl) hcl (by exact λ_ _ _ h=>h) (Or.inl ⟨by rfl,?th0L2⟩) hS ?tr0L2
   (case th0L2=>(intro w hSw;go_simp;with_reducible rfl))
   clear hcl;intro hcl
   (simp only [Act.put,zq1,zq2,zq3,zq4,zq5,zq6])
   refine wpAnyL_take (i:=1) (v:=?tv1L2) 17 rfl (by kernel_rfl) (by kernel_rfl) (by kernel_rfl) (by kernel_rfl) (by kernel_rfl) hcl (by exact λ_ _ _ h=>h) (Or.inl ⟨by rfl,?th1L2⟩) hS ?tr1L2
   (case th1L2=>(intro w hSw;go_simp;with_reducible rfl))
   clear hcl;intro hcl
   (simp only [Act.put,zq1,zq2,zq3,zq4,zq5,zq6])
   refine wpAnyL_take (i:=2) (v:=?tv2L2) 17 rfl (by kernel_rfl) (by kernel_rfl) (by kernel_rfl) (by kernel_rfl) (by kernel_rfl) hcl (by exact λ_ _ _ h=>h) (Or.inl ⟨by rfl,?th2L2⟩) hS ?tr2L2
   (case th2L2=>(intro w hSw;go_simp;with_reducible rfl))
   clear hcl;intro hcl
   (simp only [Act.put,zq1,zq2,zq3,zq4,zq5,zq6])
   refine wpAnyL_take (i:=3) (v:=?tv3L2) 17 rfl (by kernel_rfl) (by kernel_rfl) (by kernel_rfl) (by kernel_rfl) (by kernel_rfl) hcl (by exact λ_ _ _ h=>h) (Or.inl ⟨by rfl,?th3L2⟩) hS ?tr3L2
   (case th3L2=>(intro w hSw;go_simp;with_reducible rfl))
   clear hcl;intro hcl
   (simp only [Act.put,zq1,zq2,zq3,zq4,zq5,zq6])
   refine wpAnyL_take (i:=4) (v:=?tv4L2) 17 rfl (by kernel_rfl) (by kernel_rfl) (by kernel_rfl) (by kernel_rfl) (by kernel_rfl) hcl (by exact λ_ _ _ h=>h) (Or.inl ⟨by rfl,?th4L2⟩) hS ?tr4L2
   (case th4L2=>(intro w hSw;go_simp;with_reducible rfl))
   clear hcl;intro hcl
   (simp only [Act.put,zq1,zq2,zq3,zq4,zq5,zq6])
   refine wpAnyL_take (i:=5) (v:=?tv5L2) 17 rfl (by kernel_rfl) (by kernel_rfl) (by kernel_rfl) (by kernel_rfl) (by kernel_rfl) hcl (by exact λ_ _ _ h=>h) (Or.inl ⟨by rfl,?th5L2⟩) hS ?tr5L2
   (case th5L2=>(intro w hSw;go_simp;with_reducible rfl))
   clear hcl;intro hcl
   (simp only [Act.put,zq1,zq2,zq3,zq4,zq5,zq6])
   refine wpAnyL_take (i:=6) (v:=?tv6L2) 17 rfl (by kernel_rfl) (by kernel_rfl) (by kernel_rfl) (by kernel_rfl) (by kernel_rfl) hcl (by exact λ_ _ _ h=>h) (Or.inl ⟨by rfl,?th6L2⟩) hS ?tr6L2
   (case th6L2=>(intro w hSw;go_simp;with_reducible rfl))
   clear hcl;intro hcl
   (simp only [Act.put,zq1,zq2,zq3,zq4,zq5,zq6])
   refine wpAnyL_take (i:=7) (v:=?tv7L2) 17 rfl (by kernel_rfl) (by kernel_rfl) (by kernel_rfl) (by kernel_rfl) (by kernel_rfl) hcl (by exact λ_ _ _ h=>h) (Or.inl ⟨by rfl,?th7L2⟩) hS ?tr7L2
   (case th7L2=>(intro w hSw;go_simp;with_reducible rfl))
   clear hcl;intro hcl
   (simp only [Act.put,zq1,zq2,zq3,zq4,zq5,zq6])
   refine wpAnyL_take (i:=8) (v:=?tv8L2) 17 rfl (by kernel_rfl) (by kernel_rfl) (by kernel_rfl) (by kernel_rfl) (by kernel_rfl) hcl (by exact λ_ _ _ h=>h) (Or.inl ⟨by rfl,?th8L2⟩) hS ?tr8L2
   (case th8L2=>(intro w hSw;go_simp;with_reducible rfl))
   clear hcl;intro hcl
   (simp only [Act.put,zq1,zq2,zq3,zq4,zq5,zq6])
   refine wpAnyL_take (i:=9) (v:=?tv9L2) 17 rfl (by kernel_rfl) (by kernel_rfl) (by kernel_rfl) (by kernel_rfl) (by kernel_rfl) hcl (by exact λ_ _ _ h=>h) (Or.inl ⟨by rfl,?th9L2⟩) hS ?tr9L2
   (case th9L2=>(intro w hSw;go_simp;with_reducible rfl))
   clear hcl;intro hcl
   (simp only [Act.put,zq1,zq2,zq3,zq4,zq5,zq6])
   refine wpAnyL_take (i:=10) (v:=?tv10L2) 17 rfl (by kernel_rfl) (by kernel_rfl) (by kernel_rfl) (by kernel_rfl) (by kernel_rfl) hcl (by exact λ_ _ _ h=>h) (Or.inl ⟨by rfl,?th10L2⟩) hS ?tr10L2
   (case th10L2=>(intro w hSw;go_simp;with_reducible rfl))
   clear hcl;intro hcl
   (simp only [Act.put,zq1,zq2,zq3,zq4,zq5,zq6])
   refine wpAnyL_take (i:=11) (v:=?tv11L2) 17 rfl (by kernel_rfl) (by kernel_rfl) (by kernel_rfl) (by kernel_rfl) (by kernel_rfl) hcl (by exact λ_ _ _ h=>h) (Or.inl ⟨by rfl,?th11L2⟩) hS ?tr11L2
   (case th11L2=>(intro w hSw;go_simp;with_reducible rfl))
   clear hcl;intro hcl
   (simp only [Act.put,zq1,zq2,zq3,zq4,zq5,zq6])
   refine wpAnyL_one (i:=12) (by kernel_rfl) rfl hcl (λK' hK=>?_)
   have HK:=Lib.hid hK;clear hK
   ((rw [if_pos (by kernel_rfl)]);(simp only [zq1,zq2,zq3]);go_big_op)
   refine HK.out _ _ ?hS12L2 (λhcl=>?_)
   case hS12L2=>
    intro _
    (exact⟨(((Gr.new w7 _).drew).cell la).trans x0,(((Gr.new w7 _).drew).cell la).trans x4,(((Gr.new w7 _).drew).cell lb).trans xn⟩)
   clear HK
   refine wpAnyL_one (i:=13) (by kernel_rfl) rfl hcl (λK' hK=>?_)
   have HK:=Lib.hid hK;clear hK
   ((refine step_append_lies _ (by rfl) _ _ _ (by rfl) 0 3 k0 _ 1 8 Tryz.underlying24 hk0 hu0 hu1 hu2 rfl (by omega) _ _ _ (by rfl) ((Hk7.out.alloc _).drew) ⟨w7.heap.size,0,none⟩ 1 1 [.int .i64 (now:Int)] (by rfl) (by rfl) (World.news_of_block (cs:=#[.int .i64 (now:Int)]) (t:=3) (fr:=(0,0)) (heap_alloc_new w7 _)) (by simp [Value.oneCell']) (by omega) (by unfold maxLen;(dsimp only);omega) (by(dsimp only);omega) (by simp) (w7.heap.size+1) (by simp) ?_;intro g8 cp8 w8 hown8 hgrow8 hat8 hlt8;have z0:=((hgrow8.cell_far _ (by simp;omega) (Ne.symm na)).trans ((((Gr.new w7 _).drew).cell la).trans x0));have z4:=((hgrow8.cell_far _ (by simp;omega) (Ne.symm na)).trans ((((Gr.new w7 _).drew).cell la).trans x4));have zn:=((hgrow8.cell_far _ (by simp;omega) (Ne.symm nb)).trans ((((Gr.new w7 _).drew).cell lb).trans xn));have zf:w8.frozen? ⟨I.tb,I.pre.length+4,none⟩=false:=frozen_blk ((hgrow8.block _ (by simp;omega) (Ne.symm na)).trans ((((Gr.new w7 _).drew).block _ la).trans H7.out.blk)) _))
   refine HK.out _ _ ?hS13L2 (λhcl=>?_)
   case hS13L2=>
    intro _
    (exact⟨z0,z4,zn⟩)
   clear HK
   (simp only [Act.put,zq1,zq2,zq3,zq4,zq5,zq6])
   refine wpAnyL_one (i:=14) (by kernel_rfl) rfl hcl (λK' hK=>?_)
   have HK:=Lib.hid hK;clear hK
   ((rw [if_pos (by kernel_rfl)]);(simp only [zq1,zq2,zq3]);go_big_op)
   refine HK.out _ _ ?hS14L2 (λhcl=>?_)
   case hS14L2=>
    intro _
    (exact⟨z0,z4,zn⟩)
   clear HK
   refine wpAnyL_one (i:=15) (by kernel_rfl) rfl hcl (λK' hK=>?_)
   have HK:=Lib.hid hK;clear hK
   ((rw [if_pos (by kernel_rfl)]);(simp only [zq1,zq2,zq3]);go_big_op)
   refine HK.out _ _ ?hS15L2 (λhcl=>?_)
   case hS15L2=>
    intro _
    (exact⟨z0,z4,zn⟩)
   clear HK
   refine wpAnyL_one (i:=16) (by kernel_rfl) rfl hcl (λK' hK=>?_)
   have HK:=Lib.hid hK;clear hK
   ((rw [if_pos (by kernel_rfl)]);(simp only [zq1,zq2,zq3]);go_big_op)
   refine HK.out _ _ (λh=>by cases h.symm.trans (by kernel_rfl:_=true)) (λ_=>wpAnyL_done (by kernel_rfl) ?_ _)
   clear HK
   (clear hS)
   have hc8:Chg (λk=>(Value.slice ka t.ticks.length kc).ownBlock=some k) w7 w8:=(((Chg.refl _ w7).alloc _).drew).grown hgrow8 (λq hq=>.inl hq)
   have hk8:KeepB w7 (.slice ka t.ticks.length kc) (.slice (some ⟨g8,0,none⟩) (t.ticks.length+1) cp8):=λb hb=>by
    cases hb
    rcases hat8 with h9|h9
    ·exact .inl h9
    ·exact .inr (by show _<=g8;omega)
   obtain⟨w9,hw9⟩:∃ w9,w9=w8.setCell ⟨I.tb,I.pre.length+4,none⟩ (.slice (some ⟨g8,0,none⟩) (t.ticks.length+1) cp8):=⟨_,rfl⟩
   obtain⟨h9,hto9⟩:=H7.out.ticked hc8 hk8 hown8 hkl hw9
   have Hto9:=Lib.hid (Hto7.out.trans hto9)
   have y5:w9.cell? ⟨I.tb,I.pre.length+5,none⟩=some (.int .i64 (t.at_:Int)):=h9.cell (i:=5) (by omega)
   have yf:w9.frozen? ⟨I.tb,I.pre.length+5,none⟩=false:=frozen_blk h9.blk _
   have Fin:=Lib.hid (h9.put (i:=5) (by omega) (.int .i64 ((t.at_+1:Nat):Int)) (t':=AccD t v now) rfl rfl rfl)
   have hwr:wrap64 ((t.at_:Int)+1)=((t.at_+1:Nat):Int):=by have:=Hat1.out;unfold wrap64;omega
   rw [<-hw9]
   clear hc8 hk8 hown8 hgrow8 hat8 hto9 Hto7 H7 Hk7 x0 x4 xn z0 z4 zn zf hw9 h9 T0 H1 Hsl
   go_wp2
   (rw [hwr])
   go_ret
   exact⟨rfl,_,_,_,Fin.out.1,Hto9.out.trans Fin.out.2⟩
 | false=>
  obtain⟨j,rfl,ht,hj⟩:=memOut_in ho
  obtain⟨bq,oq,rfl,hel⟩:=Hsl.out.elem (Gr.refl _) hj
  have l0:(0:Int)<=(j:Int):=by omega
  have l1:(j:Int)<(m.ws.length:Int):=by omega
  obtain⟨o,hoo⟩:∃ o,o=m.ws.getD j 0:=⟨_,rfl⟩
  have eq:w1.cell? ⟨bq,oq+j,none⟩=some (.int .u64 (o:Int)):=by have h9:=hel 0 (by omega);rw [Nat.mul_one,Nat.add_zero] at h9;rw [h9,hoo];rfl
  clear ho hel hoo ht
  go_upto_region 16 with(go_at_call 131;refine Ac.out.mono ?_;rintro e w2 ⟨rfl,hm2,hc2⟩)
  obtain⟨h2,hto2⟩:=H1.out.acc hm2 hc2 (by have:=Hall.out;omega)
  have Hto2:=Lib.hid (Hto1.out.trans hto2)
  clear hm2 hc2 hto2 Hto1 Ac d0 e0 eq
  obtain⟨wa2,cap2,_,hb2,hsl2,hwq2⟩:=h2.mem.wld
  have hj2:j<m1.ws.length:=by have:=Hl1.out;omega
  have l2:(j:Int)<(m1.ws.length:Int):=by omega
  obtain⟨bz,oz,rfl,hel⟩:=hsl2.elem (Gr.refl _) hj2
  obtain⟨z,hz⟩:∃ z,z=m1.ws.getD j 0:=⟨_,rfl⟩
  have xq:w2.cell? ⟨bz,oz+j,none⟩=some (.int .u64 (z:Int)):=by have h9:=hel 0 (by omega);rw [Nat.mul_one,Nat.add_zero] at h9;rw [h9,hz];rfl
  obtain⟨ln,lxs,hln,hlog⟩:=h2.log
  obtain⟨la2,lc2,rfl⟩:=row_form hlog
  have hln2:ln+1<=m1.c.all:=by
   obtain⟨n9,xs9,h9,hr9⟩:=H1.out.log
   obtain⟨a9,c9,e9⟩:=row_form hr9
   simp only [Value.slice.injEq] at e9
   have:=Hall.out
   omega
  have x0:w2.cell? ⟨I.tb,I.pre.length,none⟩=some (.pointer (some ⟨I.bW,0,none⟩)):=h2.cell0
  have x1:w2.cell? ⟨I.tb,I.pre.length+1,none⟩=some (.int .i64 t.thread):=h2.cell (i:=1) (by omega)
  have xw:w2.cell? ⟨I.bW,0,none⟩=some (.slice (some ⟨bz,oz,none⟩) m1.ws.length cap2):=by rw [cell_blk hb2];rfl
  have xn:w2.cell? ⟨I.bW,6,none⟩=some (.int .i64 (now:Int)):=by rw [cell_blk hb2];rfl
  have xl:w2.cell? ⟨I.bW,9,none⟩=some (.slice la2 ln lc2):=by rw [cell_blk hb2];rfl
  have Hlog:=Lib.hid hlog
  have la:=blk_lt h2.blk
  have lb:=blk_lt hb2
  have lq:bz<w2.heap.size:=World.block_lt_of_cell? _ _ xq
  have na:(Value.slice la2 ln lc2).ownBlock≠some I.tb:=row_ne hlog h2.blk h2.typ.2.2.1
  have nb:(Value.slice la2 ln lc2).ownBlock≠some I.bW:=row_ne hlog hb2 (by decide)
  have nq:(Value.slice la2 ln lc2).ownBlock≠some bz:=(h2.sep bz (hwq2 bz oz rfl (by omega)).2).2.2.2
  have hlnb:ln<=1000000000000:=by have:=Hall.out;omega
  have H2:=Lib.hid h2;have Hb2:=Lib.hid hb2;have Hln:=Lib.hid hln2
  clear hb2 hsl2 hel hz hlog h2 hln hln2 hwq2
  refine wp_region_L ((λu=>u.cell? ⟨I.tb,I.pre.length,none⟩=some (.pointer (some ⟨I.bW,0,none⟩))/\u.cell? ⟨I.tb,I.pre.length+1,none⟩=some (.int .i64 t.thread)/\u.cell? ⟨I.bW,0,none⟩=some (.slice (some ⟨bz,oz,none⟩) m1.ws.length cap2)/\u.cell? ⟨I.bW,6,none⟩=some (.int .i64 (now:Int))/\u.cell? ⟨I.bW,9,none⟩=some (.slice la2 ln lc2)/\u.cell? ⟨bz,oz+j,none⟩=some (.int .u64 (z:Int)))) 41 (by kernel_rfl) ?hS0L3 ?_
  case hS0L3=>
   (exact⟨x0,x1,xw,xn,xl,xq⟩)
  intro hS hcl
  refine wpAnyL_take (i:=0) (v:=?tv0L3) 42 rfl (by kernel_rfl) (by kernel_rfl) (by kernel_rfl) (by kernel_rfl) (by kernel_rfl) hcl (by exact λ_ _ _ h=>h) (Or.inl ⟨by rfl,?th0L3⟩) hS ?tr0L3
  (case th0L3=>(intro w hSw;go_simp;with_reducible rfl))
  clear hcl;intro hcl
  (simp only [Act.put,zq1,zq2,zq3,zq4,zq5,zq6])
  refine wpAnyL_take (i:=1) (v:=?tv1L3) 42 rfl (by kernel_rfl) (by kernel_rfl) (by kernel_rfl) (by kernel_rfl) (by kernel_rfl) hcl (by exact λ_ _ _ h=>h) (Or.inl ⟨by rfl,?th1L3⟩) hS ?tr1L3
  (case th1L3=>(intro w hSw;go_simp;with_reducible rfl))
  clear hcl;intro hcl
  (simp only [Act.put,zq1,zq2,zq3,zq4,zq5,zq6])
  refine wpAnyL_take (i:=2) (v:=?tv2L3) 42 rfl (by kernel_rfl) (by kernel_rfl) (by kernel_rfl) (by kernel_rfl) (by kernel_rfl) hcl (by exact λ_ _ _ h=>h) (Or.inl ⟨by rfl,?th2L3⟩) hS ?tr2L3
  (case th2L3=>(intro w hSw;go_simp;with_reducible rfl))
  clear hcl;intro hcl
  (simp only [Act.put,zq1,zq2,zq3,zq4,zq5,zq6])
  refine wpAnyL_take (i:=3) (v:=?tv3L3) 42 rfl (by kernel_rfl) (by kernel_rfl) (by kernel_rfl) (by kernel_rfl) (by kernel_rfl) hcl (by exact λ_ _ _ h=>h) (Or.inl ⟨by rfl,?th3L3⟩) hS ?tr3L3
  (case th3L3=>(intro w hSw;go_simp;with_reducible rfl))
  clear hcl;intro hcl
  (simp only [Act.put,zq1,zq2,zq3,zq4,zq5,zq6])
  refine wpAnyL_take (i:=4) (v:=?tv4L3) 42 rfl (by kernel_rfl) (by kernel_rfl) (by kernel_rfl) (by kernel_rfl) (by kernel_rfl) hcl (by exact λ_ _ _ h=>h) (Or.inl ⟨by rfl,?th4L3⟩) hS ?tr4L3
  (case th4L3=>(intro w hSw;go_simp;with_reducible rfl))
  clear hcl;intro hcl
  (simp only [Act.put,zq1,zq2,zq3,zq4,zq5,zq6])
  refine wpAnyL_take (i:=5) (v:=?tv5L3) 42 rfl (by kernel_rfl) (by kernel_rfl) (by kernel_rfl) (by kernel_rfl) (by kernel_rfl) hcl (by exact λ_ _ _ h=>h) (Or.inl ⟨by rfl,?th5L3⟩) hS ?tr5L3
  (case th5L3=>(intro w hSw;go_simp;with_reducible rfl))
  clear hcl;intro hcl
  (simp only [Act.put,zq1,zq2,zq3,zq4,zq5,zq6])
  refine wpAnyL_take (i:=6) (v:=?tv6L3) 42 rfl (by kernel_rfl) (by kernel_rfl) (by kernel_rfl) (by kernel_rfl) (by kernel_rfl) hcl (by exact λ_ _ _ h=>h) (Or.inl ⟨by rfl,?th6L3⟩) hS ?tr6L3
  (case th6L3=>(intro w hSw;go_simp;with_reducible rfl))
  clear hcl;intro hcl
  (simp only [Act.put,zq1,zq2,zq3,zq4,zq5,zq6])
  refine wpAnyL_take (i:=7) (v:=?tv7L3) 42 rfl (by kernel_rfl) (by kernel_rfl) (by kernel_rfl) (by kernel_rfl) (by kernel_rfl) hcl (by exact λ_ _ _ h=>h) (Or.inl ⟨by rfl,?th7L3⟩) hS ?tr7L3
  (case th7L3=>(intro w hSw;go_simp;with_reducible rfl))
  clear hcl;intro hcl
  (simp only [Act.put,zq1,zq2,zq3,zq4,zq5,zq6])
  refine wpAnyL_take (i:=8) (v:=?tv8L3) 42 rfl (by kernel_rfl) (by kernel_rfl) (by kernel_rfl) (by kernel_rfl) (by kernel_rfl) hcl (by exact λ_ _ _ h=>h) (Or.inl ⟨by rfl,?th8L3⟩) hS ?tr8L3
  (case th8L3=>(intro w hSw;go_simp;with_reducible rfl))
  clear hcl;intro hcl
  (simp only [Act.put,zq1,zq2,zq3,zq4,zq5,zq6])
  refine wpAnyL_take (i:=9) (v:=?tv9L3) 42 rfl (by kernel_rfl) (by kernel_rfl) (by kernel_rfl) (by kernel_rfl) (by kernel_rfl) hcl (by exact λ_ _ _ h=>h) (Or.inl ⟨by rfl,?th9L3⟩) hS ?tr9L3
  (case th9L3=>(intro w hSw;go_simp;with_reducible rfl))
  clear hcl;intro hcl
  (simp only [Act.put,zq1,zq2,zq3,zq4,zq5,zq6])
  refine wpAnyL_take (i:=10) (v:=?tv10L3) 42 rfl (by kernel_rfl) (by kernel_rfl) (by kernel_rfl) (by kernel_rfl) (by kernel_rfl) hcl (by exact λ_ _ _ h=>h) (Or.inl ⟨by rfl,?th10L3⟩) hS ?tr10L3
  (case th10L3=>(intro w hSw;go_simp;with_reducible rfl))
  clear hcl;intro hcl
  (simp only [Act.put,zq1,zq2,zq3,zq4,zq5,zq6])
  refine wpAnyL_take (i:=11) (v:=?tv11L3) 42 rfl (by kernel_rfl) (by kernel_rfl) (by kernel_rfl) (by kernel_rfl) (by kernel_rfl) hcl (by exact λ_ _ _ h=>h) (Or.inl ⟨by rfl,?th11L3⟩) hS ?tr11L3
  (case th11L3=>(intro w hSw;go_simp;with_reducible rfl))
  clear hcl;intro hcl
  (simp only [Act.put,zq1,zq2,zq3,zq4,zq5,zq6])
  refine wpAnyL_take (i:=12) (v:=?tv12L3) 42 rfl (by kernel_rfl) (by kernel_rfl) (by kernel_rfl) (by kernel_rfl) (by kernel_rfl) hcl (by exact λ_ _ _ h=>h) (Or.inl ⟨by rfl,?th12L3⟩) hS ?tr12L3
  (case th12L3=>(intro w hSw;go_simp;with_reducible rfl))
  clear hcl;intro hcl
  (simp only [Act.put,zq1,zq2,zq3,zq4,zq5,zq6])
  refine wpAnyL_take (i:=13) (v:=?tv13L3) 42 rfl (by kernel_rfl) (by kernel_rfl) (by kernel_rfl) (by kernel_rfl) (by kernel_rfl) hcl (by exact λ_ _ _ h=>h) (Or.inl ⟨by rfl,?th13L3⟩) hS ?tr13L3
  (case th13L3=>(intro w hSw;go_simp;with_reducible rfl))
  clear hcl;intro hcl
  (simp only [Act.put,zq1,zq2,zq3,zq4,zq5,zq6])
  refine wpAnyL_take (i:=14) (v:=?tv14L3) 42 rfl (by kernel_rfl) (by kernel_rfl) (by kernel_rfl) (by kernel_rfl) (by kernel_rfl) hcl (by exact λ_ _ _ h=>h) (Or.inl ⟨by rfl,?th14L3⟩) hS ?tr14L3
  (case th14L3=>(intro w hSw;go_simp;with_reducible rfl))
  clear hcl;intro hcl
  (simp only [Act.put,zq1,zq2,zq3,zq4,zq5,zq6])
  refine wpAnyL_take (i:=15) (v:=?tv15L3) 42 rfl (by kernel_rfl) (by kernel_rfl) (by kernel_rfl) (by kernel_rfl) (by kernel_rfl) hcl (by exact λ_ _ _ h=>h) (Or.inl ⟨by rfl,?th15L3⟩) hS ?tr15L3
  (case th15L3=>(intro w hSw;go_simp;with_reducible rfl))
  clear hcl;intro hcl
  (simp only [Act.put,zq1,zq2,zq3,zq4,zq5,zq6])
  refine wpAnyL_take (i:=16) (v:=?tv16L3) 42 rfl (by kernel_rfl) (by kernel_rfl) (by kernel_rfl) (by kernel_rfl) (by kernel_rfl) hcl (by exact λ_ _ _ h=>h) (Or.inl ⟨by rfl,?th16L3⟩) hS ?tr16L3
  (case th16L3=>(intro w hSw;go_simp;with_reducible rfl))
  clear hcl;intro hcl
  (simp only [Act.put,zq1,zq2,zq3,zq4,zq5,zq6])
  refine wpAnyL_take (i:=17) (v:=?tv17L3) 42 rfl (by kernel_rfl) (by kernel_rfl) (by kernel_rfl) (by kernel_rfl) (by kernel_rfl) hcl (by exact λ_ _ _ h=>h) (Or.inl ⟨by rfl,?th17L3⟩) hS ?tr17L3
  (case th17L3=>(intro w hSw;go_simp;with_reducible rfl))
  clear hcl;intro hcl
  (simp only [Act.put,zq1,zq2,zq3,zq4,zq5,zq6])
  refine wpAnyL_take (i:=18) (v:=?tv18L3) 42 rfl (by kernel_rfl) (by kernel_rfl) (by kernel_rfl) (by kernel_rfl) (by kernel_rfl) hcl (by exact λ_ _ _ h=>h) (Or.inl ⟨by rfl,?th18L3⟩) hS ?tr18L3
  (case th18L3=>(intro w hSw;go_simp;with_reducible rfl))
  clear hcl;intro hcl
  (simp only [Act.put,zq1,zq2,zq3,zq4,zq5,zq6])
  refine wpAnyL_take (i:=19) (v:=?tv19L3) 42 rfl (by kernel_rfl) (by kernel_rfl) (by kernel_rfl) (by kernel_rfl) (by kernel_rfl) hcl (by exact λ_ _ _ h=>h) (Or.inl ⟨by rfl,?th19L3⟩) hS ?tr19L3
  (case th19L3=>(intro w hSw;go_simp;with_reducible rfl))
  clear hcl;intro hcl
  (simp only [Act.put,zq1,zq2,zq3,zq4,zq5,zq6])
  refine wpAnyL_take (i:=20) (v:=?tv20L3) 42 rfl (by kernel_rfl) (by kernel_rfl) (by kernel_rfl) (by kernel_rfl) (by kernel_rfl) hcl (by exact λ_ _ _ h=>h) (Or.inl ⟨by rfl,?th20L3⟩) hS ?tr20L3
  (case th20L3=>(intro w hSw;go_simp;with_reducible rfl))
  clear hcl;intro hcl
  (simp only [Act.put,zq1,zq2,zq3,zq4,zq5,zq6])
  refine wpAnyL_take (i:=21) (v:=?tv21L3) 42 rfl (by kernel_rfl) (by kernel_rfl) (by kernel_rfl) (by kernel_rfl) (by kernel_rfl) hcl (by exact λ_ _ _ h=>h) (Or.inl ⟨by rfl,?th21L3⟩) hS ?tr21L3
  (case th21L3=>(intro w hSw;go_simp;with_reducible rfl))
  clear hcl;intro hcl
  (simp only [Act.put,zq1,zq2,zq3,zq4,zq5,zq6])
  refine wpAnyL_take (i:=22) (v:=?tv22L3) 42 rfl (by kernel_rfl) (by kernel_rfl) (by kernel_rfl) (by kernel_rfl) (by kernel_rfl) hcl (by exact λ_ _ _ h=>h) (Or.inl ⟨by rfl,?th22L3⟩) hS ?tr22L3
  (case th22L3=>(intro w hSw;go_simp;with_reducible rfl))
  clear hcl;intro hcl
  (simp only [Act.put,zq1,zq2,zq3,zq4,zq5,zq6])
  refine wpAnyL_take (i:=23) (v:=?tv23L3) 42 rfl (by kernel_rfl) (by kernel_rfl) (by kernel_rfl) (by kernel_rfl) (by kernel_rfl) hcl (by exact λ_ _ _ h=>h) (Or.inl ⟨by rfl,?th23L3⟩) hS ?tr23L3
  (case th23L3=>(intro w hSw;go_simp;with_reducible rfl))
  clear hcl;intro hcl
  (simp only [Act.put,zq1,zq2,zq3,zq4,zq5,zq6])
  refine wpAnyL_take (i:=24) (v:=?tv24L3) 42 rfl (by kernel_rfl) (by kernel_rfl) (by kernel_rfl) (by kernel_rfl) (by kernel_rfl) hcl (by exact λ_ _ _ h=>h) (Or.inl ⟨by rfl,?th24L3⟩) hS ?tr24L3
  (case th24L3=>(intro w hSw;go_simp;with_reducible rfl))
  clear hcl;intro hcl
  (simp only [Act.put,zq1,zq2,zq3,zq4,zq5,zq6])
  refine wpAnyL_take (i:=25) (v:=?tv25L3) 42 rfl (by kernel_rfl) (by kernel_rfl) (by kernel_rfl) (by kernel_rfl) (by kernel_rfl) hcl (by exact λ_ _ _ h=>h) (Or.inl ⟨by rfl,?th25L3⟩) hS ?tr25L3
  (case th25L3=>(intro w hSw;go_simp;with_reducible rfl))
  clear hcl;intro hcl
  (simp only [Act.put,zq1,zq2,zq3,zq4,zq5,zq6])
  refine wpAnyL_take (i:=26) (v:=?tv26L3) 42 rfl (by kernel_rfl) (by kernel_rfl) (by kernel_rfl) (by kernel_rfl) (by kernel_rfl) hcl (by exact λ_ _ _ h=>h) (Or.inl ⟨by rfl,?th26L3⟩) hS ?tr26L3
  (case th26L3=>(intro w hSw;go_simp;with_reducible rfl))
  clear hcl;intro hcl
  (simp only [Act.put,zq1,zq2,zq3,zq4,zq5,zq6])
  refine wpAnyL_take (i:=27) (v:=?tv27L3) 42 rfl (by kernel_rfl) (by kernel_rfl) (by kernel_rfl) (by kernel_rfl) (by kernel_rfl) hcl (by exact λ_ _ _ h=>h) (Or.inl ⟨by rfl,?th27L3⟩) hS ?tr27L3
  (case th27L3=>(intro w hSw;go_simp;with_reducible rfl))
  clear hcl;intro hcl
  (simp only [Act.put,zq1,zq2,zq3,zq4,zq5,zq6])
  refine wpAnyL_take (i:=28) (v:=?tv28L3) 42 rfl (by kernel_rfl) (by kernel_rfl) (by kernel_rfl) (by kernel_rfl) (by kernel_rfl) hcl (by exact λ_ _ _ h=>h) (Or.inl ⟨by rfl,?th28L3⟩) hS ?tr28L3
  (case th28L3=>(intro w hSw;go_simp;with_reducible rfl))
  clear hcl;intro hcl
  (simp only [Act.put,zq1,zq2,zq3,zq4,zq5,zq6])
  refine wpAnyL_take (i:=29) (v:=?tv29L3) 42 rfl (by kernel_rfl) (by kernel_rfl) (by kernel_rfl) (by kernel_rfl) (by kernel_rfl) hcl (by exact λ_ _ _ h=>h) (Or.inl ⟨by rfl,?th29L3⟩) hS ?tr29L3
  (case th29L3=>(intro w hSw;go_simp;with_reducible rfl))
  clear hcl;intro hcl
  (simp only [Act.put,zq1,zq2,zq3,zq4,zq5,zq6])
  refine wpAnyL_take (i:=30) (v:=?tv30L3) 42 rfl (by kernel_rfl) (by kernel_rfl) (by kernel_rfl) (by kernel_rfl) (by kernel_rfl) hcl (by exact λ_ _ _ h=>h) (Or.inl ⟨by rfl,?th30L3⟩) hS ?tr30L3
  (case th30L3=>(intro w hSw;go_simp;with_reducible rfl))
  clear hcl;intro hcl
  (simp only [Act.put,zq1,zq2,zq3,zq4,zq5,zq6])
  refine wpAnyL_take (i:=31) (v:=?tv31L3) 42 rfl (by kernel_rfl) (by kernel_rfl) (by kernel_rfl) (by kernel_rfl) (by kernel_rfl) hcl (by exact λ_ _ _ h=>h) (Or.inl ⟨by rfl,?th31L3⟩) hS ?tr31L3
  (case th31L3=>(intro w hSw;go_simp;with_reducible rfl))
  clear hcl;intro hcl
  (simp only [Act.put,zq1,zq2,zq3,zq4,zq5,zq6])
  refine wpAnyL_take (i:=32) (v:=?tv32L3) 42 rfl (by kernel_rfl) (by kernel_rfl) (by kernel_rfl) (by kernel_rfl) (by kernel_rfl) hcl (by exact λ_ _ _ h=>h) (Or.inl ⟨by rfl,?th32L3⟩) hS ?tr32L3
  (case th32L3=>(intro w hSw;go_simp;with_reducible rfl))
  clear hcl;intro hcl
  (simp only [Act.put,zq1,zq2,zq3,zq4,zq5,zq6])
  refine wpAnyL_take (i:=33) (v:=?tv33L3) 42 rfl (by kernel_rfl) (by kernel_rfl) (by kernel_rfl) (by kernel_rfl) (by kernel_rfl) hcl (by exact λ_ _ _ h=>h) (Or.inl ⟨by rfl,?th33L3⟩) hS ?tr33L3
  (case th33L3=>(intro w hSw;go_simp;with_reducible rfl))
  clear hcl;intro hcl
  (simp only [Act.put,zq1,zq2,zq3,zq4,zq5,zq6])
  refine wpAnyL_take (i:=34) (v:=?tv34L3) 42 rfl (by kernel_rfl) (by kernel_rfl) (by kernel_rfl) (by kernel_rfl) (by kernel_rfl) hcl (by exact λ_ _ _ h=>h) (Or.inl ⟨by rfl,?th34L3⟩) hS ?tr34L3
  (case th34L3=>(intro w hSw;go_simp;with_reducible rfl))
  clear hcl;intro hcl
  (simp only [Act.put,zq1,zq2,zq3,zq4,zq5,zq6])
  refine wpAnyL_take (i:=35) (v:=?tv35L3) 42 rfl (by kernel_rfl) (by kernel_rfl) (by kernel_rfl) (by kernel_rfl) (by kernel_rfl) hcl (by exact λ_ _ _ h=>h) (Or.inl ⟨by rfl,?th35L3⟩) hS ?tr35L3
  (case th35L3=>(intro w hSw;go_simp;with_reducible rfl))
  clear hcl;intro hcl
  (simp only [Act.put,zq1,zq2,zq3,zq4,zq5,zq6])
  refine wpAnyL_take (i:=36) (v:=?tv36L3) 42 rfl (by kernel_rfl) (by kernel_rfl) (by kernel_rfl) (by kernel_rfl) (by kernel_rfl) hcl (by exact λ_ _ _ h=>h) (Or.inl ⟨by rfl,?th36L3⟩) hS ?tr36L3
  (case th36L3=>(intro w hSw;go_simp;with_reducible rfl))
  clear hcl;intro hcl
  (simp only [Act.put,zq1,zq2,zq3,zq4,zq5,zq6])
  refine wpAnyL_one (i:=37) (by kernel_rfl) rfl hcl (λK' hK=>?_)
  have HK:=Lib.hid hK;clear hK
  ((rw [if_pos (by kernel_rfl)]);(simp only [zq1,zq2,zq3]);go_big_op)
  refine HK.out _ _ ?hS37L3 (λhcl=>?_)
  case hS37L3=>
   intro _
   (exact⟨(((Gr.new w2 _).drew).cell la).trans x0,(((Gr.new w2 _).drew).cell la).trans x1,(((Gr.new w2 _).drew).cell lb).trans xw,(((Gr.new w2 _).drew).cell lb).trans xn,(((Gr.new w2 _).drew).cell lb).trans xl,(((Gr.new w2 _).drew).cell lq).trans xq⟩)
  clear HK
  refine wpAnyL_one (i:=38) (by kernel_rfl) rfl hcl (λK' hK=>?_)
  have HK:=Lib.hid hK;clear hK
  ((refine step_append_lies _ (by rfl) _ _ _ (by rfl) 0 212 i0 _ 6 48 Tryz.underlying59 hi hz0 hz1 hz2 rfl (by omega) _ _ _ (by rfl) ((Hlog.out.alloc _).drew) ⟨w2.heap.size,0,none⟩ 1 1 [.int .i64 (now:Int),.int .i64 t.thread,.int .i64 kind,.int .i64 (j:Int),.int .u64 (o:Int),.int .u64 (z:Int)] (by rfl) (by rfl) (World.news_of_block (cs:=#[.int .i64 (now:Int),.int .i64 t.thread,.int .i64 kind,.int .i64 (j:Int),.int .u64 (o:Int),.int .u64 (z:Int)]) (t:=212) (fr:=(0,0)) (heap_alloc_new w2 _)) (by simp [Value.oneCell']) (by omega) (by unfold maxLen;omega) (by skip;omega) (by simp) (w2.heap.size+1) (by simp) ?_;intro g3 cp3 w3 hown3 hgrow3 hat3 hlt3;have z0:=((hgrow3.cell_far _ (by simp;omega) (Ne.symm na)).trans ((((Gr.new w2 _).drew).cell la).trans x0));have z1:=((hgrow3.cell_far _ (by simp;omega) (Ne.symm na)).trans ((((Gr.new w2 _).drew).cell la).trans x1));have zw:=((hgrow3.cell_far _ (by simp;omega) (Ne.symm nb)).trans ((((Gr.new w2 _).drew).cell lb).trans xw));have zn:=((hgrow3.cell_far _ (by simp;omega) (Ne.symm nb)).trans ((((Gr.new w2 _).drew).cell lb).trans xn));have zl:=((hgrow3.cell_far _ (by simp;omega) (Ne.symm nb)).trans ((((Gr.new w2 _).drew).cell lb).trans xl));have zq:=((hgrow3.cell_far _ (by simp;omega) (Ne.symm nq)).trans ((((Gr.new w2 _).drew).cell lq).trans xq));have zf:w3.frozen? ⟨I.bW,9,none⟩=false:=frozen_blk ((hgrow3.block _ (by simp;omega) (Ne.symm nb)).trans ((((Gr.new w2 _).drew).block _ lb).trans Hb2.out)) _))
  refine HK.out _ _ ?hS38L3 (λhcl=>?_)
  case hS38L3=>
   intro _
   (exact⟨z0,z1,zw,zn,zl,zq⟩)
  clear HK
  (simp only [Act.put,zq1,zq2,zq3,zq4,zq5,zq6])
  refine wpAnyL_one (i:=39) (by kernel_rfl) rfl hcl (λK' hK=>?_)
  have HK:=Lib.hid hK;clear hK
  ((rw [if_pos (by kernel_rfl)]);(simp only [zq1,zq2,zq3]);go_big_op)
  refine HK.out _ _ ?hS39L3 (λhcl=>?_)
  case hS39L3=>
   intro _
   (exact⟨z0,z1,zw,zn,zl,zq⟩)
  clear HK
  refine wpAnyL_one (i:=40) (by kernel_rfl) rfl hcl (λK' hK=>?_)
  have HK:=Lib.hid hK;clear hK
  ((rw [if_pos (by kernel_rfl)]);(simp only [zq1,zq2,zq3]);go_big_op)
  refine HK.out _ _ ?hS40L3 (λhcl=>?_)
  case hS40L3=>
   intro _
   (exact⟨z0,z1,zw,zn,zl,zq⟩)
  clear HK
  refine wpAnyL_one (i:=41) (by kernel_rfl) rfl hcl (λK' hK=>?_)
  have HK:=Lib.hid hK;clear hK
  ((rw [if_pos (by kernel_rfl)]);(simp only [zq1,zq2,zq3]);go_big_op)
  refine HK.out _ _ (λh=>by cases h.symm.trans (by kernel_rfl:_=true)) (λ_=>wpAnyL_done (by kernel_rfl) ?_ _)
  clear HK
  (clear hS)
  have hc3:Chg (λk=>(Value.slice la2 ln lc2).ownBlock=some k) w2 w3:=(((Chg.refl _ w2).alloc _).drew).grown hgrow3 (λq hq=>.inl hq)
  have hk3:KeepB w2 (.slice la2 ln lc2) (.slice (some ⟨g3,0,none⟩) (ln+1) cp3):=λb hb=>by
   cases hb
   rcases hat3 with h9|h9
   ·exact .inl h9
   ·exact .inr (by show _<=g3;omega)
  obtain⟨w5,hw5⟩:∃ w5,w5=w3.setCell ⟨I.bW,9,none⟩ (.slice (some ⟨g3,0,none⟩) (ln+1) cp3):=⟨_,rfl⟩
  obtain⟨h5,hto5⟩:=H2.out.logged hc3 hk3 hown3 Hln.out hw5
  have Hto5:=Lib.hid (Hto2.out.trans hto5)
  rw [<-hw5]
  clear hc3 hk3 hown3 hgrow3 hat3 hto5 Hto2 H2 Hlog x0 x1 xw xn xl xq z0 z1 zw zn zl zq zf hw5 Hb2 na nb la lb
  have H5:=Lib.hid h5
  have s0:w5.cell? ⟨I.tb,I.pre.length+3,none⟩=some (.slice ga t.got.length gc):=h5.cell (i:=3) (by omega)
  have Hgot:=Lib.hid h5.got
  clear h5
  go_wp2_with (at_builtin;refine wpList_append_lies _ rfl _ _ 28 rfl 0 46 j0 (.int .u64 0) 1 8 Tryz.underlying28 hj0 hy0 hy1 hy2 rfl (by decide) _ _ _ rfl (Hgot.out.alloc _) ⟨w5.heap.size,0,none⟩ 1 1 [.int .u64 (v:Int)] rfl rfl ?c1t3 ?c2t3 (by decide) ?c3t3 ?c4t3 ?c5t3 (w5.heap.size+1) ?c6t3 ?_)
  case c2t3=>simp [Value.oneCell']
  case c3t3=>unfold maxLen;omega
  case c4t3=>omega
  intro g6 cp6 w6 hown6 hgrow6 hat6 _
  have hc6:Chg (λk=>(Value.slice ga t.got.length gc).ownBlock=some k) w5 w6:=((Chg.refl _ w5).alloc _).grown hgrow6 (λq hq=>.inl hq)
  have hk6:KeepB w5 (.slice ga t.got.length gc) (.slice (some ⟨g6,0,none⟩) (t.got.length+1) cp6):=λb hb=>by
   cases hb
   rcases hat6 with h9|h9
   ·exact .inl h9
   ·exact .inr (by show _<=g6;omega)
  obtain⟨w7,hw7⟩:∃ w7,w7=w6.setCell ⟨I.tb,I.pre.length+3,none⟩ (.slice (some ⟨g6,0,none⟩) (t.got.length+1) cp6):=⟨_,rfl⟩
  obtain⟨h7,hto7⟩:=H5.out.gotten hc6 hk6 hown6 hgl hw7
  have hb6:=(hc6.block _ (blk_lt H5.out.blk) (λe=>row_ne H5.out.got H5.out.blk H5.out.typ.1 e)).trans H5.out.blk
  have s3:w6.cell? ⟨I.tb,I.pre.length+3,none⟩=some (.slice ga t.got.length gc):=by rw [cell_blk hb6];exact mid_get (i:=3) (by exact(by decide:3<13))
  have f3:w6.frozen? ⟨I.tb,I.pre.length+3,none⟩=false:=frozen_blk hb6 _
  have Hto7:=Lib.hid (Hto5.out.trans hto7);have H7:=Lib.hid h7;have Hw7:=Lib.hid hw7
  clear hc6 hk6 hown6 hgrow6 hat6 hto7 hb6 s0 Hgot Hto5 H5 hw7
  go_upto_region 18 with fail
  rw [<-Hw7.out]
  clear s3 f3 Hw7
  obtain⟨wa7,cap7,_,hb7,_,_⟩:=h7.mem.wld
  have x0:w7.cell? ⟨I.tb,I.pre.length,none⟩=some (.pointer (some ⟨I.bW,0,none⟩)):=h7.cell0
  have x4:w7.cell? ⟨I.tb,I.pre.length+4,none⟩=some (.slice ka t.ticks.length kc):=h7.cell (i:=4) (by omega)
  have xn:w7.cell? ⟨I.bW,6,none⟩=some (.int .i64 (now:Int)):=by rw [cell_blk hb7];rfl
  have Hk7:=Lib.hid h7.ticks
  have la:=blk_lt h7.blk
  have lb:=blk_lt hb7
  have na:(Value.slice ka t.ticks.length kc).ownBlock≠some I.tb:=row_ne h7.ticks h7.blk h7.typ.2.1
  have nb:(Value.slice ka t.ticks.length kc).ownBlock≠some I.bW:=row_ne h7.ticks hb7 (by decide)
  clear hb7 h7 hi hz0 hz1 hz2 hj0 hy0 hy1 hy2 hlen hx hy hh hf hat hcnt hgl
  refine wp_region_L ((λu=>u.cell? ⟨I.tb,I.pre.length,none⟩=some (.pointer (some ⟨I.bW,0,none⟩))/\u.cell? ⟨I.tb,I.pre.length+4,none⟩=some (.slice ka t.ticks.length kc)/\u.cell? ⟨I.bW,6,none⟩=some (.int .i64 (now:Int)))) 16 (by kernel_rfl) ?hS0L4 ?_
  case hS0L4=>
   (exact⟨x0,x4,xn⟩)
  intro hS hcl
  refine wpAnyL_take (i:=0) (v:=?tv0L4) 17 rfl (by kernel_rfl) (by kernel_rfl) (by kernel_rfl) (by kernel_rfl) (by kernel_rfl) hcl (by exact λ_ _ _ h=>h) (Or.inl ⟨by rfl,?th0L4⟩) hS ?tr0L4
  (case th0L4=>(intro w hSw;go_simp;with_reducible rfl))
  clear hcl;intro hcl
  (simp only [Act.put,zq1,zq2,zq3,zq4,zq5,zq6])
  refine wpAnyL_take (i:=1) (v:=?tv1L4) 17 rfl (by kernel_rfl) (by kernel_rfl) (by kernel_rfl) (by kernel_rfl) (by kernel_rfl) hcl (by exact λ_ _ _ h=>h) (Or.inl ⟨by rfl,?th1L4⟩) hS ?tr1L4
  (case th1L4=>(intro w hSw;go_simp;with_reducible rfl))
  clear hcl;intro hcl
  (simp only [Act.put,zq1,zq2,zq3,zq4,zq5,zq6])
  refine wpAnyL_take (i:=2) (v:=?tv2L4) 17 rfl (by kernel_rfl) (by kernel_rfl) (by kernel_rfl) (by kernel_rfl) (by kernel_rfl) hcl (by exact λ_ _ _ h=>h) (Or.inl ⟨by rfl,?th2L4⟩) hS ?tr2L4
  (case th2L4=>(intro w hSw;go_simp;with_reducible rfl))
  clear hcl;intro hcl
  (simp only [Act.put,zq1,zq2,zq3,zq4,zq5,zq6])
  refine wpAnyL_take (i:=3) (v:=?tv3L4) 17 rfl (by kernel_rfl) (by kernel_rfl) (by kernel_rfl) (by kernel_rfl) (by kernel_rfl) hcl (by exact λ_ _ _ h=>h) (Or.inl ⟨by rfl,?th3L4⟩) hS ?tr3L4
  (case th3L4=>(intro w hSw;go_simp;with_reducible rfl))
  clear hcl;intro hcl
  (simp only [Act.put,zq1,zq2,zq3,zq4,zq5,zq6])
  refine wpAnyL_take (i:=4) (v:=?tv4L4) 17 rfl (by kernel_rfl) (by kernel_rfl) (by kernel_rfl) (by kernel_rfl) (by kernel_rfl) hcl (by exact λ_ _ _ h=>h) (Or.inl ⟨by rfl,?th4L4⟩) hS ?tr4L4
  (case th4L4=>(intro w hSw;go_simp;with_reducible rfl))
  clear hcl;intro hcl
  (simp only [Act.put,zq1,zq2,zq3,zq4,zq5,zq6])
  refine wpAnyL_take (i:=5) (v:=?tv5L4) 17 rfl (by kernel_rfl) (by kernel_rfl) (by kernel_rfl) (by kernel_rfl) (by kernel_rfl) hcl (by exact λ_ _ _ h=>h) (Or.inl ⟨by rfl,?th5L4⟩) hS ?tr5L4
  (case th5L4=>(intro w hSw;go_simp;with_reducible rfl))
  clear hcl;intro hcl
  (simp only [Act.put,zq1,zq2,zq3,zq4,zq5,zq6])
  refine wpAnyL_take (i:=6) (v:=?tv6L4) 17 rfl (by kernel_rfl) (by kernel_rfl) (by kernel_rfl) (by kernel_rfl) (by kernel_rfl) hcl (by exact λ_ _ _ h=>h) (Or.inl ⟨by rfl,?th6L4⟩) hS ?tr6L4
  (case th6L4=>(intro w hSw;go_simp;with_reducible rfl))
  clear hcl;intro hcl
  (simp only [Act.put,zq1,zq2,zq3,zq4,zq5,zq6])
  refine wpAnyL_take (i:=7) (v:=?tv7L4) 17 rfl (by kernel_rfl) (by kernel_rfl) (by kernel_rfl) (by kernel_rfl) (by kernel_rfl) hcl (by exact λ_ _ _ h=>h) (Or.inl ⟨by rfl,?th7L4⟩) hS ?tr7L4
  (case th7L4=>(intro w hSw;go_simp;with_reducible rfl))
  clear hcl;intro hcl
  (simp only [Act.put,zq1,zq2,zq3,zq4,zq5,zq6])
  refine wpAnyL_take (i:=8) (v:=?tv8L4) 17 rfl (by kernel_rfl) (by kernel_rfl) (by kernel_rfl) (by kernel_rfl) (by kernel_rfl) hcl (by exact λ_ _ _ h=>h) (Or.inl ⟨by rfl,?th8L4⟩) hS ?tr8L4
  (case th8L4=>(intro w hSw;go_simp;with_reducible rfl))
  clear hcl;intro hcl
  (simp only [Act.put,zq1,zq2,zq3,zq4,zq5,zq6])
  refine wpAnyL_take (i:=9) (v:=?tv9L4) 17 rfl (by kernel_rfl) (by kernel_rfl) (by kernel_rfl) (by kernel_rfl) (by kernel_rfl) hcl (by exact λ_ _ _ h=>h) (Or.inl ⟨by rfl,?th9L4⟩) hS ?tr9L4
  (case th9L4=>(intro w hSw;go_simp;with_reducible rfl))
  clear hcl;intro hcl
  (simp only [Act.put,zq1,zq2,zq3,zq4,zq5,zq6])
  refine wpAnyL_take (i:=10) (v:=?tv10L4) 17 rfl (by kernel_rfl) (by kernel_rfl) (by kernel_rfl) (by kernel_rfl) (by kernel_rfl) hcl (by exact λ_ _ _ h=>h) (Or.inl ⟨by rfl,?th10L4⟩) hS ?tr10L4
  (case th10L4=>(intro w hSw;go_simp;with_reducible rfl))
  clear hcl;intro hcl
  (simp only [Act.put,zq1,zq2,zq3,zq4,zq5,zq6])
  refine wpAnyL_take (i:=11) (v:=?tv11L4) 17 rfl (by kernel_rfl) (by kernel_rfl) (by kernel_rfl) (by kernel_rfl) (by kernel_rfl) hcl (by exact λ_ _ _ h=>h) (Or.inl ⟨by rfl,?th11L4⟩) hS ?tr11L4
  (case th11L4=>(intro w hSw;go_simp;with_reducible rfl))
  clear hcl;intro hcl
  (simp only [Act.put,zq1,zq2,zq3,zq4,zq5,zq6])
  refine wpAnyL_one (i:=12) (by kernel_rfl) rfl hcl (λK' hK=>?_)
  have HK:=Lib.hid hK;clear hK
  ((rw [if_pos (by kernel_rfl)]);(simp only [zq1,zq2,zq3]);go_big_op)
  refine HK.out _ _ ?hS12L4 (λhcl=>?_)
  case hS12L4=>
   intro _
   (exact⟨(((Gr.new w7 _).drew).cell la).trans x0,(((Gr.new w7 _).drew).cell la).trans x4,(((Gr.new w7 _).drew).cell lb).trans xn⟩)
  clear HK
  refine wpAnyL_one (i:=13) (by kernel_rfl) rfl hcl (λK' hK=>?_)
  have HK:=Lib.hid hK;clear hK
  ((refine step_append_lies _ (by rfl) _ _ _ (by rfl) 0 3 k0 _ 1 8 Tryz.underlying24 hk0 hu0 hu1 hu2 rfl (by omega) _ _ _ (by rfl) ((Hk7.out.alloc _).drew) ⟨w7.heap.size,0,none⟩ 1 1 [.int .i64 (now:Int)] (by rfl) (by rfl) (World.news_of_block (cs:=#[.int .i64 (now:Int)]) (t:=3) (fr:=(0,0)) (heap_alloc_new w7 _)) (by simp [Value.oneCell']) (by omega) (by unfold maxLen;(dsimp only);omega) (by(dsimp only);omega) (by simp) (w7.heap.size+1) (by simp) ?_;intro g8 cp8 w8 hown8 hgrow8 hat8 hlt8;have z0:=((hgrow8.cell_far _ (by simp;omega) (Ne.symm na)).trans ((((Gr.new w7 _).drew).cell la).trans x0));have z4:=((hgrow8.cell_far _ (by simp;omega) (Ne.symm na)).trans ((((Gr.new w7 _).drew).cell la).trans x4));have zn:=((hgrow8.cell_far _ (by simp;omega) (Ne.symm nb)).trans ((((Gr.new w7 _).drew).cell lb).trans xn));have zf:w8.frozen? ⟨I.tb,I.pre.length+4,none⟩=false:=frozen_blk ((hgrow8.block _ (by simp;omega) (Ne.symm na)).trans ((((Gr.new w7 _).drew).block _ la).trans H7.out.blk)) _))
  refine HK.out _ _ ?hS13L4 (λhcl=>?_)
  case hS13L4=>
   intro _
   (exact⟨z0,z4,zn⟩)
  clear HK
  (simp only [Act.put,zq1,zq2,zq3,zq4,zq5,zq6])
  refine wpAnyL_one (i:=14) (by kernel_rfl) rfl hcl (λK' hK=>?_)
  have HK:=Lib.hid hK;clear hK
  ((rw [if_pos (by kernel_rfl)]);(simp only [zq1,zq2,zq3]);go_big_op)
  refine HK.out _ _ ?hS14L4 (λhcl=>?_)
  case hS14L4=>
   intro _
   (exact⟨z0,z4,zn⟩)
  clear HK
  refine wpAnyL_one (i:=15) (by kernel_rfl) rfl hcl (λK' hK=>?_)
  have HK:=Lib.hid hK;clear hK
  ((rw [if_pos (by kernel_rfl)]);(simp only [zq1,zq2,zq3]);go_big_op)
  refine HK.out _ _ ?hS15L4 (λhcl=>?_)
  case hS15L4=>
   intro _
   (exact⟨z0,z4,zn⟩)
  clear HK
  refine wpAnyL_one (i:=16) (by kernel_rfl) rfl hcl (λK' hK=>?_)
  have HK:=Lib.hid hK;clear hK
  ((rw [if_pos (by kernel_rfl)]);(simp only [zq1,zq2,zq3]);go_big_op)
  refine HK.out _ _ (λh=>by cases h.symm.trans (by kernel_rfl:_=true)) (λ_=>wpAnyL_done (by kernel_rfl) ?_ _)
  clear HK
  (clear hS)
  have hc8:Chg (λk=>(Value.slice ka t.ticks.length kc).ownBlock=some k) w7 w8:=(((Chg.refl _ w7).alloc _).drew).grown hgrow8 (λq hq=>.inl hq)
  have hk8:KeepB w7 (.slice ka t.ticks.length kc) (.slice (some ⟨g8,0,none⟩) (t.ticks.length+1) cp8):=λb hb=>by
   cases hb
   rcases hat8 with h9|h9
   ·exact .inl h9
   ·exact .inr (by show _<=g8;omega)
  obtain⟨w9,hw9⟩:∃ w9,w9=w8.setCell ⟨I.tb,I.pre.length+4,none⟩ (.slice (some ⟨g8,0,none⟩) (t.ticks.length+1) cp8):=⟨_,rfl⟩
  obtain⟨h9,hto9⟩:=H7.out.ticked hc8 hk8 hown8 hkl hw9
  have Hto9:=Lib.hid (Hto7.out.trans hto9)
  have y5:w9.cell? ⟨I.tb,I.pre.length+5,none⟩=some (.int .i64 (t.at_:Int)):=h9.cell (i:=5) (by omega)
  have yf:w9.frozen? ⟨I.tb,I.pre.length+5,none⟩=false:=frozen_blk h9.blk _
  have Fin:=Lib.hid (h9.put (i:=5) (by omega) (.int .i64 ((t.at_+1:Nat):Int)) (t':=AccD t v now) rfl rfl rfl)
  have hwr:wrap64 ((t.at_:Int)+1)=((t.at_+1:Nat):Int):=by have:=Hat1.out;unfold wrap64;omega
  rw [<-hw9]
  clear hc8 hk8 hown8 hgrow8 hat8 hto9 Hto7 H7 Hk7 x0 x4 xn z0 z4 zn zf hw9 h9 T0 H1 Hsl
  go_wp2
  (rw [hwr])
  go_ret
  exact⟨rfl,_,_,_,Fin.out.1,Hto9.out.trans Fin.out.2⟩
end Go.Proofs.YtfkokppncipgnaaGreat
