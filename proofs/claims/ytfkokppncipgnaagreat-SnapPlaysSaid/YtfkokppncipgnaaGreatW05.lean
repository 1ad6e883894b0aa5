/- Layer 6's reference: an access that is made now: (*Tape).access. -/
import Derived.Test.YtfkokppncipgnaaGreatW04
import Derived.Test.YtfkokppncipgnaaGreatW02
import Derived.Deep.RegionHeld3
import Derived.Deep.AppendLies
import Derived.Test.YtfkokppncipgnaaGreatW01
import Derived.Deep.CutRange
set_option maxRecDepth 100000
set_option linter.unusedVariables false
set_option linter.unusedSimpArgs false
set_option linter.unnecessarySimpa false
namespace Go.Proofs.YtfkokppncipgnaaGreat
open List renaming getElem_toArray → zq1, getElem_cons_zero → zq2, getElem_cons_succ → zq3, setIfInBounds_toArray → zq4, set_cons_zero → zq5, set_cons_succ → zq6
open Go.RowKit
theorem UU:(Tryz.prog.info? 212).map (λi=>(i.zero,i.size,i.bytes))=some (some (.agg #[.int .i64 0,.int .i64 0,.int .i64 0,.int .i64 0,.int .u64 0,.int .u64 0]),6,48):=by kernel_rfl
theorem LY {m:dR} {kind a:Int} {x y:Nat}:(bA m kind a x y).1.c.all=m.c.all+1:=by
 unfold bA bL fJ vF yA dR.fault eO.all
 repeat' split
 all_goals (simp only;omega)
theorem MK {m:dR} {kind a:Int} {x y:Nat}:(bA m kind a x y).1.ws.length=m.ws.length:=by
 unfold bA bL fJ vF yA dR.fault
 repeat' split
 all_goals simp
theorem Fs {m:dR} {a:Int} (h:gI m a=true):a<0∨(0<=a/\(m.ws.length:Int)<=a):=by
 have:=YY h
 omega
variable {I:wM} {G K L:Value} {t:iZ} {m:dR} {now:Nat} {w:World}
theorem dE.tick (h:dE w I G K L t m now):dE w I G K L t m now:=h
theorem dE.grown {w':World} (h:dE w I G K L t m now) (hb:Below w.heap.size w w'):dE w' I G K L t m now/\jF w w' I G K L G K L:=
 ⟨h.chg (S:=λ_=>False) (Chg.of_below hb) (λ_ _ h=>h),⟨Chg.of_below hb,dY.refl _ _,dY.refl _ _,dY.refl _ _⟩⟩
set_option maxHeartbeats 8000000 in
theorem XN (I:wM) (G K L:Value) (t:iZ) (m:dR) (now:Nat) (kind a:Int) (x y:Nat) (w:World) (h:dE w I G K L t m now) (hh:t.halt=false) (hf:t.fresh=true) (hat:t.at_=t.got.length)
  (hx:x<18446744073709551616) (hy:y<18446744073709551616) (hcnt:m.c.all+1<1000000000000) (hgl:t.got.length+1<=100000000) (hkl:t.ticks.length+1<=100000000) :
  Calls Tryz.prog 116 #[.pointer (some ⟨I.tb,I.pre.length,none⟩),.int .i64 kind,.int .i64 a,.int .u64 (x:Int),.int .u64 (y:Int)] w λe w'=>e=.returned (.int .u64 ((bA m kind a x y).2:Int))/\CZ w w' I G K L (Ny t (bA m kind a x y).2 now) (bA m kind a x y).1 now:=by
 obtain⟨i0,hi,hz0,hz1,hz2⟩:=info_parts UU
 obtain⟨j0,hj0,hy0,hy1,hy2⟩:=info_parts iR
 obtain⟨k0,hk0,hu0,hu1,hu2⟩:=info_parts EW
 have T0:=Lib.hid h
 obtain⟨v,hv⟩:∃ v,v=(bA m kind a x y).2:=⟨_,rfl⟩
 obtain⟨m1,hm1⟩:∃ m1,m1=(bA m kind a x y).1:=⟨_,rfl⟩
 have hall:m1.c.all=m.c.all+1:=by rw [hm1];exact LY
 have hl1:m1.ws.length=m.ws.length:=by rw [hm1];exact MK
 rw [<-hv,<-hm1]
 have Hall:=Lib.hid hall;have Hl1:=Lib.hid hl1;have Hm1:=Lib.hid hm1;have Hv:=Lib.hid hv
 clear hall hl1 hm1 hv
 have Hat1:=Lib.hid (show t.at_+1<=100000000 by omega)
 obtain⟨ga,gc,rfl⟩:=dX h.got
 obtain⟨ka,kc,rfl⟩:=dX h.ticks
 have c3:w.cell? ⟨I.tb,I.pre.length+3,none⟩=some (.slice ga t.got.length gc):=h.cell (i:=3) (by omega)
 have c5:w.cell? ⟨I.tb,I.pre.length+5,none⟩=some (.int .i64 (t.got.length:Int)):=by rw [h.cell (i:=5) (by omega),<-hat];rfl
 have c7:w.cell? ⟨I.tb,I.pre.length+7,none⟩=some (.bool false):=by rw [h.cell (i:=7) (by omega),<-hh];rfl
 have C3:=aT c3;have C5:=aT c5
 clear c3 c5 h
 go_enter Tryz.func116,Tryz.ntmps116
 go_wp2_with fail
 ((with_reducible refine bN (by kernel_rfl) (by kernel_rfl) ?_);(repeat ((with_reducible refine wpQuiet_step (λK hK=>?_));go_simp;((with_reducible refine hK _ ?_);clear hK K)));(with_reducible refine wpQuiet_nil ?_);intro _ hw';obtain⟨nq,hw''⟩:=hw';subst hw'')
 obtain⟨w0,hw0⟩:∃ w0,w0=nq.u:=⟨_,rfl⟩
 have hb0:=nq.below
 rw [<-hw0] at hb0 ⊢
 obtain⟨h0,UL⟩:=T0.out.grown hb0
 clear C3 C5 hw0 nq c7 hb0
 have c6:w0.cell? ⟨I.tb,I.pre.length+6,none⟩=some (.bool true):=by rw [h0.cell (i:=6) (by omega),<-hf];rfl
 have f6:w0.frozen? ⟨I.tb,I.pre.length+6,none⟩=false:=aB h0.blk _
 obtain⟨w1,hw1⟩:∃ w1,w1=w0.setCell ⟨I.tb,I.pre.length+6,none⟩ (.bool false):=⟨_,rfl⟩
 obtain⟨h1,PH⟩:=h0.put (i:=6) (by omega) (.bool false) (t':={ t with fresh:=false }) rfl rfl rfl
 rw [<-hw1] at h1 PH
 have Hto1:=Lib.hid (UL.trans PH)
 have Hw1:=Lib.hid hw1
 clear UL PH h0 hw1
 go_upto_region 10 with fail
 rw [<-Hw1.out]
 clear c6 f6 Hw1
 obtain⟨wa,cap,hcap,hb,hsl,hwb⟩:=h1.mem.wld
 have hlen:=h1.mem.len
 have H1:=Lib.hid h1
 have d0:w1.cell? ⟨I.tb,I.pre.length,none⟩=some (.pointer (some ⟨I.bW,0,none⟩)):=h1.cell0
 have e0:w1.cell? ⟨I.bW,0,none⟩=some (.slice wa m.ws.length cap):=by rw [aA hb];simp [eQ]
 have Ac:=Lib.hid (Iq I.bW 93 [.int .i64 (now:Int),I.mks,I.trs,L] I.bw m kind a x y w1 h1.mem hx hy hcnt)
 rw [<-Hv.out,<-Hm1.out] at Ac
 have Hsl:=Lib.hid hsl
 clear hb hcap hwb h1 hsl
 cases ho:gI m a with
 | true=>
  rcases Fs ho with l0|⟨l0,l1⟩
  ·clear ho
   go_upto_region 17 with(go_at_call 131;refine Ac.out.mono ?_;rintro e w5 ⟨rfl,hm2,hc2⟩)
   obtain⟨h5,OW⟩:=H1.out.acc hm2 hc2 (by have:=Hall.out;omega)
   have Hto5:=Lib.hid (Hto1.out.trans OW)
   clear hm2 hc2 OW Hto1 Ac d0 e0
   have H5:=Lib.hid h5
   have s0:w5.cell? ⟨I.tb,I.pre.length+3,none⟩=some (.slice ga t.got.length gc):=h5.cell (i:=3) (by omega)
   have Hgot:=Lib.hid h5.got
   clear h5
   go_wp2_with (at_builtin;refine wpList_append_lies _ rfl _ _ 28 rfl 0 46 j0 (.int .u64 0) 1 8 Tryz.underlying28 hj0 hy0 hy1 hy2 rfl (by decide) _ _ _ rfl (Hgot.out.alloc _) ⟨w5.heap.size,0,none⟩ 1 1 [.int .u64 (v:Int)] rfl rfl ?c1t1 ?c2t1 (by decide) ?c3t1 ?c4t1 ?c5t1 (w5.heap.size+1) ?c6t1 ?_)
   case c2t1=>simp [Value.oneCell']
   case c3t1=>unfold maxLen;omega
   case c4t1=>omega
   intro g6 Pk w6 hown6 yO MW _
   have hc6:Chg (λk=>(Value.slice ga t.got.length gc).ownBlock=some k) w5 w6:=((Chg.refl _ w5).alloc _).grown yO (λq hq=>.inl hq)
   have Pj:dY w5 (.slice ga t.got.length gc) (.slice (some ⟨g6,0,none⟩) (t.got.length+1) Pk):=λb hb=>by
    cases hb
    rcases MW with h9|h9
    ·exact .inl h9
    ·exact .inr (by show _<=g6;omega)
   obtain⟨w7,hw7⟩:∃ w7,w7=w6.setCell ⟨I.tb,I.pre.length+3,none⟩ (.slice (some ⟨g6,0,none⟩) (t.got.length+1) Pk):=⟨_,rfl⟩
   obtain⟨h7,WB⟩:=H5.out.gotten hc6 Pj hown6 hgl hw7
   have hb6:=(hc6.block _ (aC H5.out.blk) (λe=>dJ H5.out.got H5.out.blk H5.out.typ.1 e)).trans H5.out.blk
   have s3:w6.cell? ⟨I.tb,I.pre.length+3,none⟩=some (.slice ga t.got.length gc):=by rw [aA hb6];exact fG (i:=3) (by exact(by decide:3<13))
   have f3:w6.frozen? ⟨I.tb,I.pre.length+3,none⟩=false:=aB hb6 _
   have Hto7:=Lib.hid (Hto5.out.trans WB);have H7:=Lib.hid h7;have Hw7:=Lib.hid hw7
   clear hc6 Pj hown6 yO MW WB hb6 s0 Hgot Hto5 H5 hw7
   go_upto_region 18 with fail
   rw [<-Hw7.out]
   clear s3 f3 Hw7
   obtain⟨wa7,Yn,_,MO,_,_⟩:=h7.mem.wld
   have x0:w7.cell? ⟨I.tb,I.pre.length,none⟩=some (.pointer (some ⟨I.bW,0,none⟩)):=h7.cell0
   have x4:w7.cell? ⟨I.tb,I.pre.length+4,none⟩=some (.slice ka t.ticks.length kc):=h7.cell (i:=4) (by omega)
   have xn:w7.cell? ⟨I.bW,6,none⟩=some (.int .i64 (now:Int)):=by rw [aA MO];rfl
   have Hk7:=Lib.hid h7.ticks
   have la:=aC h7.blk
   have lb:=aC MO
   have na:(Value.slice ka t.ticks.length kc).ownBlock≠some I.tb:=dJ h7.ticks h7.blk h7.typ.2.1
   have nb:(Value.slice ka t.ticks.length kc).ownBlock≠some I.bW:=dJ h7.ticks MO (by decide)
   clear MO h7 hi hz0 hz1 hz2 hj0 hy0 hy1 hy2 hlen hx hy hh hf hat hcnt hgl
   refine bU ((λu=>u.cell? ⟨I.tb,I.pre.length,none⟩=some (.pointer (some ⟨I.bW,0,none⟩))/\u.cell? ⟨I.tb,I.pre.length+4,none⟩=some (.slice ka t.ticks.length kc)/\u.cell? ⟨I.bW,6,none⟩=some (.int .i64 (now:Int)))) 16 (by kernel_rfl) ?hS0L1 ?_
   case hS0L1=>
    (exact⟨x0,x4,xn⟩)
   intro hS hcl
   refine wL (i:=0) 17 rfl hcl hS ?_
   clear hcl;intro hcl
   (simp only [Act.put,zs])
   refine wL (i:=1) 17 rfl hcl hS ?_
   clear hcl;intro hcl
   (simp only [Act.put,zs])
   refine wL (i:=2) 17 rfl hcl hS ?_
   clear hcl;intro hcl
   (simp only [Act.put,zs])
   refine wL (i:=3) 17 rfl hcl hS ?_
   clear hcl;intro hcl
   (simp only [Act.put,zs])
   refine wL (i:=4) 17 rfl hcl hS ?_
   clear hcl;intro hcl
   (simp only [Act.put,zs])
   refine wL (i:=5) 17 rfl hcl hS ?_
   clear hcl;intro hcl
   (simp only [Act.put,zs])
   refine wL (i:=6) 17 rfl hcl hS ?_
   clear hcl;intro hcl
   (simp only [Act.put,zs])
   refine wL (i:=7) 17 rfl hcl hS ?_
   clear hcl;intro hcl
   (simp only [Act.put,zs])
   refine wL (i:=8) 17 rfl hcl hS ?_
   clear hcl;intro hcl
   (simp only [Act.put,zs])
   refine wL (i:=9) 17 rfl hcl hS ?_
   clear hcl;intro hcl
   (simp only [Act.put,zs])
   refine wL (i:=10) 17 rfl hcl hS ?_
   clear hcl;intro hcl
   (simp only [Act.put,zs])
   refine wL (i:=11) 17 rfl hcl hS ?_
   clear hcl;intro hcl
   (simp only [Act.put,zs])
   refine aL (i:=12) (by kernel_rfl) rfl hcl (λK' hK=>?_)
   have HK:=Lib.hid hK;clear hK
   ((rw [if_pos (by kernel_rfl)]);(simp only [zq1,zq2,zq3]);go_big_op)
   refine HK.out _ _ ?hS12L1 (λhcl=>?_)
   case hS12L1=>
    intro _
    (exact⟨(((Gr.new w7 _).drew).cell la).trans x0,(((Gr.new w7 _).drew).cell la).trans x4,(((Gr.new w7 _).drew).cell lb).trans xn⟩)
   clear HK
   refine aL (i:=13) (by kernel_rfl) rfl hcl (λK' hK=>?_)
   have HK:=Lib.hid hK;clear hK
   ((refine step_append_lies _ (by rfl) _ _ _ (by rfl) 0 3 k0 _ 1 8 Tryz.underlying24 hk0 hu0 hu1 hu2 rfl (by omega) _ _ _ (by rfl) ((Hk7.out.alloc _).drew) ⟨w7.heap.size,0,none⟩ 1 1 [.int .i64 (now:Int)] (by rfl) (by rfl) (World.news_of_block (cs:=#[.int .i64 (now:Int)]) (t:=3) (fr:=(0,0)) (heap_alloc_new w7 _)) (by simp [Value.oneCell']) (by omega) (by unfold maxLen;(dsimp only);omega) (by(dsimp only);omega) (by simp) (w7.heap.size+1) (by simp) ?_;intro g8 xL w8 kQ dU vI KF;have z0:=((dU.cell_far _ (by simp;omega) (Ne.symm na)).trans ((((Gr.new w7 _).drew).cell la).trans x0));have z4:=((dU.cell_far _ (by simp;omega) (Ne.symm na)).trans ((((Gr.new w7 _).drew).cell la).trans x4));have zn:=((dU.cell_far _ (by simp;omega) (Ne.symm nb)).trans ((((Gr.new w7 _).drew).cell lb).trans xn));have zf:w8.frozen? ⟨I.tb,I.pre.length+4,none⟩=false:=aB ((dU.block _ (by simp;omega) (Ne.symm na)).trans ((((Gr.new w7 _).drew).block _ la).trans H7.out.blk)) _))
   refine HK.out _ _ ?hS13L1 (λhcl=>?_)
   case hS13L1=>
    intro _
    (exact⟨z0,z4,zn⟩)
   clear HK
   (simp only [Act.put,zs])
   refine aL (i:=14) (by kernel_rfl) rfl hcl (λK' hK=>?_)
   have HK:=Lib.hid hK;clear hK
   ((rw [if_pos (by kernel_rfl)]);(simp only [zq1,zq2,zq3]);go_big_op)
   refine HK.out _ _ ?hS14L1 (λhcl=>?_)
   case hS14L1=>
    intro _
    (exact⟨z0,z4,zn⟩)
   clear HK
   refine aL (i:=15) (by kernel_rfl) rfl hcl (λK' hK=>?_)
   have HK:=Lib.hid hK;clear hK
   ((rw [if_pos (by kernel_rfl)]);(simp only [zq1,zq2,zq3]);go_big_op)
   refine HK.out _ _ ?hS15L1 (λhcl=>?_)
   case hS15L1=>
    intro _
    (exact⟨z0,z4,zn⟩)
   clear HK
   refine aL (i:=16) (by kernel_rfl) rfl hcl (λK' hK=>?_)
   have HK:=Lib.hid hK;clear hK
   ((rw [if_pos (by kernel_rfl)]);(simp only [zq1,zq2,zq3]);go_big_op)
   refine HK.out _ _ (λh=>by cases h.symm.trans (by kernel_rfl:_=true)) (λ_=>bV (by kernel_rfl) ?_ _)
   clear HK
   (clear hS)
   have hc8:Chg (λk=>(Value.slice ka t.ticks.length kc).ownBlock=some k) w7 w8:=(((Chg.refl _ w7).alloc _).drew).grown dU (λq hq=>.inl hq)
   have EU:dY w7 (.slice ka t.ticks.length kc) (.slice (some ⟨g8,0,none⟩) (t.ticks.length+1) xL):=λb hb=>by
    cases hb
    rcases vI with h9|h9
    ·exact .inl h9
    ·exact .inr (by show _<=g8;omega)
   obtain⟨w9,TA⟩:∃ w9,w9=w8.setCell ⟨I.tb,I.pre.length+4,none⟩ (.slice (some ⟨g8,0,none⟩) (t.ticks.length+1) xL):=⟨_,rfl⟩
   obtain⟨h9,VH⟩:=H7.out.ticked hc8 EU kQ hkl TA
   have Hto9:=Lib.hid (Hto7.out.trans VH)
   have y5:w9.cell? ⟨I.tb,I.pre.length+5,none⟩=some (.int .i64 (t.at_:Int)):=h9.cell (i:=5) (by omega)
   have yf:w9.frozen? ⟨I.tb,I.pre.length+5,none⟩=false:=aB h9.blk _
   have Fin:=Lib.hid (h9.put (i:=5) (by omega) (.int .i64 ((t.at_+1:Nat):Int)) (t':=Ny t v now) rfl rfl rfl)
   have hwr:wrap64 ((t.at_:Int)+1)=((t.at_+1:Nat):Int):=by have:=Hat1.out;unfold wrap64;omega
   rw [<-TA]
   clear hc8 EU kQ dU vI VH Hto7 H7 Hk7 x0 x4 xn z0 z4 zn zf TA h9 T0 H1 Hsl
   go_wp2
   (rw [hwr])
   go_ret
   exact⟨rfl,_,_,_,Fin.out.1,Hto9.out.trans Fin.out.2⟩
  ·clear ho
   go_upto_region 17 with(go_at_call 131;refine Ac.out.mono ?_;rintro e w5 ⟨rfl,hm2,hc2⟩)
   obtain⟨h5,OW⟩:=H1.out.acc hm2 hc2 (by have:=Hall.out;omega)
   have Hto5:=Lib.hid (Hto1.out.trans OW)
   clear hm2 hc2 OW Hto1 Ac d0 e0
   have H5:=Lib.hid h5
   have s0:w5.cell? ⟨I.tb,I.pre.length+3,none⟩=some (.slice ga t.got.length gc):=h5.cell (i:=3) (by omega)
   have Hgot:=Lib.hid h5.got
   clear h5
   go_wp2_with (at_builtin;refine wpList_append_lies _ rfl _ _ 28 rfl 0 46 j0 (.int .u64 0) 1 8 Tryz.underlying28 hj0 hy0 hy1 hy2 rfl (by decide) _ _ _ rfl (Hgot.out.alloc _) ⟨w5.heap.size,0,none⟩ 1 1 [.int .u64 (v:Int)] rfl rfl ?c1t2 ?c2t2 (by decide) ?c3t2 ?c4t2 ?c5t2 (w5.heap.size+1) ?c6t2 ?_)
   case c2t2=>simp [Value.oneCell']
   case c3t2=>unfold maxLen;omega
   case c4t2=>omega
   intro g6 Pk w6 hown6 yO MW _
   have hc6:Chg (λk=>(Value.slice ga t.got.length gc).ownBlock=some k) w5 w6:=((Chg.refl _ w5).alloc _).grown yO (λq hq=>.inl hq)
   have Pj:dY w5 (.slice ga t.got.length gc) (.slice (some ⟨g6,0,none⟩) (t.got.length+1) Pk):=λb hb=>by
    cases hb
    rcases MW with h9|h9
    ·exact .inl h9
    ·exact .inr (by show _<=g6;omega)
   obtain⟨w7,hw7⟩:∃ w7,w7=w6.setCell ⟨I.tb,I.pre.length+3,none⟩ (.slice (some ⟨g6,0,none⟩) (t.got.length+1) Pk):=⟨_,rfl⟩
   obtain⟨h7,WB⟩:=H5.out.gotten hc6 Pj hown6 hgl hw7
   have hb6:=(hc6.block _ (aC H5.out.blk) (λe=>dJ H5.out.got H5.out.blk H5.out.typ.1 e)).trans H5.out.blk
   have s3:w6.cell? ⟨I.tb,I.pre.length+3,none⟩=some (.slice ga t.got.length gc):=by rw [aA hb6];exact fG (i:=3) (by exact(by decide:3<13))
   have f3:w6.frozen? ⟨I.tb,I.pre.length+3,none⟩=false:=aB hb6 _
   have Hto7:=Lib.hid (Hto5.out.trans WB);have H7:=Lib.hid h7;have Hw7:=Lib.hid hw7
   clear hc6 Pj hown6 yO MW WB hb6 s0 Hgot Hto5 H5 hw7
   go_upto_region 18 with fail
   rw [<-Hw7.out]
   clear s3 f3 Hw7
   obtain⟨wa7,Yn,_,MO,_,_⟩:=h7.mem.wld
   have x0:w7.cell? ⟨I.tb,I.pre.length,none⟩=some (.pointer (some ⟨I.bW,0,none⟩)):=h7.cell0
   have x4:w7.cell? ⟨I.tb,I.pre.length+4,none⟩=some (.slice ka t.ticks.length kc):=h7.cell (i:=4) (by omega)
   have xn:w7.cell? ⟨I.bW,6,none⟩=some (.int .i64 (now:Int)):=by rw [aA MO];rfl
   have Hk7:=Lib.hid h7.ticks
   have la:=aC h7.blk
   have lb:=aC MO
   have na:(Value.slice ka t.ticks.length kc).ownBlock≠some I.tb:=dJ h7.ticks h7.blk h7.typ.2.1
   have nb:(Value.slice ka t.ticks.length kc).ownBlock≠some I.bW:=dJ h7.ticks MO (by decide)
   clear MO h7 hi hz0 hz1 hz2 hj0 hy0 hy1 hy2 hlen hx hy hh hf hat hcnt hgl
   refine bU ((λu=>u.cell? ⟨I.tb,I.pre.length,none⟩=some (.pointer (some ⟨I.bW,0,none⟩))/\u.cell? ⟨I.tb,I.pre.length+4,none⟩=some (.slice ka t.ticks.length kc)/\u.cell? ⟨I.bW,6,none⟩=some (.int .i64 (now:Int)))) 16 (by kernel_rfl) ?hS0L2 ?_
   case hS0L2=>
    (exact⟨x0,x4,xn⟩)
   intro hS hcl
   refine wL (i:=0) 17 rfl hcl hS ?_
   clear hcl;intro hcl
   (simp only [Act.put,zs])
   refine wL (i:=1) 17 rfl hcl hS ?_
   clear hcl;intro hcl
   (simp only [Act.put,zs])
   refine wL (i:=2) 17 rfl hcl hS ?_
   clear hcl;intro hcl
   (simp only [Act.put,zs])
   refine wL (i:=3) 17 rfl hcl hS ?_
   clear hcl;intro hcl
   (simp only [Act.put,zs])
   refine wL (i:=4) 17 rfl hcl hS ?_
   clear hcl;intro hcl
   (simp only [Act.put,zs])
   refine wL (i:=5) 17 rfl hcl hS ?_
   clear hcl;intro hcl
   (simp only [Act.put,zs])
   refine wL (i:=6) 17 rfl hcl hS ?_
   clear hcl;intro hcl
   (simp only [Act.put,zs])
   refine wL (i:=7) 17 rfl hcl hS ?_
   clear hcl;intro hcl
   (simp only [Act.put,zs])
   refine wL (i:=8) 17 rfl hcl hS ?_
   clear hcl;intro hcl
   (simp only [Act.put,zs])
   refine wL (i:=9) 17 rfl hcl hS ?_
   clear hcl;intro hcl
   (simp only [Act.put,zs])
   refine wL (i:=10) 17 rfl hcl hS ?_
   clear hcl;intro hcl
   (simp only [Act.put,zs])
   refine wL (i:=11) 17 rfl hcl hS ?_
   clear hcl;intro hcl
   (simp only [Act.put,zs])
   refine aL (i:=12) (by kernel_rfl) rfl hcl (λK' hK=>?_)
   have HK:=Lib.hid hK;clear hK
   ((rw [if_pos (by kernel_rfl)]);(simp only [zq1,zq2,zq3]);go_big_op)
   refine HK.out _ _ ?hS12L2 (λhcl=>?_)
   case hS12L2=>
    intro _
    (exact⟨(((Gr.new w7 _).drew).cell la).trans x0,(((Gr.new w7 _).drew).cell la).trans x4,(((Gr.new w7 _).drew).cell lb).trans xn⟩)
   clear HK
   refine aL (i:=13) (by kernel_rfl) rfl hcl (λK' hK=>?_)
   have HK:=Lib.hid hK;clear hK
   ((refine step_append_lies _ (by rfl) _ _ _ (by rfl) 0 3 k0 _ 1 8 Tryz.underlying24 hk0 hu0 hu1 hu2 rfl (by omega) _ _ _ (by rfl) ((Hk7.out.alloc _).drew) ⟨w7.heap.size,0,none⟩ 1 1 [.int .i64 (now:Int)] (by rfl) (by rfl) (World.news_of_block (cs:=#[.int .i64 (now:Int)]) (t:=3) (fr:=(0,0)) (heap_alloc_new w7 _)) (by simp [Value.oneCell']) (by omega) (by unfold maxLen;(dsimp only);omega) (by(dsimp only);omega) (by simp) (w7.heap.size+1) (by simp) ?_;intro g8 xL w8 kQ dU vI KF;have z0:=((dU.cell_far _ (by simp;omega) (Ne.symm na)).trans ((((Gr.new w7 _).drew).cell la).trans x0));have z4:=((dU.cell_far _ (by simp;omega) (Ne.symm na)).trans ((((Gr.new w7 _).drew).cell la).trans x4));have zn:=((dU.cell_far _ (by simp;omega) (Ne.symm nb)).trans ((((Gr.new w7 _).drew).cell lb).trans xn));have zf:w8.frozen? ⟨I.tb,I.pre.length+4,none⟩=false:=aB ((dU.block _ (by simp;omega) (Ne.symm na)).trans ((((Gr.new w7 _).drew).block _ la).trans H7.out.blk)) _))
   refine HK.out _ _ ?hS13L2 (λhcl=>?_)
   case hS13L2=>
    intro _
    (exact⟨z0,z4,zn⟩)
   clear HK
   (simp only [Act.put,zs])
   refine aL (i:=14) (by kernel_rfl) rfl hcl (λK' hK=>?_)
   have HK:=Lib.hid hK;clear hK
   ((rw [if_pos (by kernel_rfl)]);(simp only [zq1,zq2,zq3]);go_big_op)
   refine HK.out _ _ ?hS14L2 (λhcl=>?_)
   case hS14L2=>
    intro _
    (exact⟨z0,z4,zn⟩)
   clear HK
   refine aL (i:=15) (by kernel_rfl) rfl hcl (λK' hK=>?_)
   have HK:=Lib.hid hK;clear hK
   ((rw [if_pos (by kernel_rfl)]);(simp only [zq1,zq2,zq3]);go_big_op)
   refine HK.out _ _ ?hS15L2 (λhcl=>?_)
   case hS15L2=>
    intro _
    (exact⟨z0,z4,zn⟩)
   clear HK
   refine aL (i:=16) (by kernel_rfl) rfl hcl (λK' hK=>?_)
   have HK:=Lib.hid hK;clear hK
   ((rw [if_pos (by kernel_rfl)]);(simp only [zq1,zq2,zq3]);go_big_op)
   refine HK.out _ _ (λh=>by cases h.symm.trans (by kernel_rfl:_=true)) (λ_=>bV (by kernel_rfl) ?_ _)
   clear HK
   (clear hS)
   have hc8:Chg (λk=>(Value.slice ka t.ticks.length kc).ownBlock=some k) w7 w8:=(((Chg.refl _ w7).alloc _).drew).grown dU (λq hq=>.inl hq)
   have EU:dY w7 (.slice ka t.ticks.length kc) (.slice (some ⟨g8,0,none⟩) (t.ticks.length+1) xL):=λb hb=>by
    cases hb
    rcases vI with h9|h9
    ·exact .inl h9
    ·exact .inr (by show _<=g8;omega)
   obtain⟨w9,TA⟩:∃ w9,w9=w8.setCell ⟨I.tb,I.pre.length+4,none⟩ (.slice (some ⟨g8,0,none⟩) (t.ticks.length+1) xL):=⟨_,rfl⟩
   obtain⟨h9,VH⟩:=H7.out.ticked hc8 EU kQ hkl TA
   have Hto9:=Lib.hid (Hto7.out.trans VH)
   have y5:w9.cell? ⟨I.tb,I.pre.length+5,none⟩=some (.int .i64 (t.at_:Int)):=h9.cell (i:=5) (by omega)
   have yf:w9.frozen? ⟨I.tb,I.pre.length+5,none⟩=false:=aB h9.blk _
   have Fin:=Lib.hid (h9.put (i:=5) (by omega) (.int .i64 ((t.at_+1:Nat):Int)) (t':=Ny t v now) rfl rfl rfl)
   have hwr:wrap64 ((t.at_:Int)+1)=((t.at_+1:Nat):Int):=by have:=Hat1.out;unfold wrap64;omega
   rw [<-TA]
   clear hc8 EU kQ dU vI VH Hto7 H7 Hk7 x0 x4 xn z0 z4 zn zf TA h9 T0 H1 Hsl
   go_wp2
   (rw [hwr])
   go_ret
   exact⟨rfl,_,_,_,Fin.out.1,Hto9.out.trans Fin.out.2⟩
 | false=>
  obtain⟨j,rfl,ht,hj⟩:=zY ho
  obtain⟨bq,oq,rfl,hel⟩:=Hsl.out.elem (Gr.refl _) hj
  have l0:(0:Int)<=(j:Int):=by omega
  have l1:(j:Int)<(m.ws.length:Int):=by omega
  obtain⟨o,hoo⟩:∃ o,o=m.ws.getD j 0:=⟨_,rfl⟩
  have eq:w1.cell? ⟨bq,oq+j,none⟩=some (.int .u64 (o:Int)):=by have h9:=hel 0 (by omega);rw [Nat.mul_one,Nat.add_zero] at h9;rw [h9,hoo];rfl
  clear ho hel hoo ht
  go_upto_region 16 with(go_at_call 131;refine Ac.out.mono ?_;rintro e w2 ⟨rfl,hm2,hc2⟩)
  obtain⟨h2,Yi⟩:=H1.out.acc hm2 hc2 (by have:=Hall.out;omega)
  have Hto2:=Lib.hid (Hto1.out.trans Yi)
  clear hm2 hc2 Yi Hto1 Ac d0 e0 eq
  obtain⟨wa2,cap2,_,hb2,hsl2,Xa⟩:=h2.mem.wld
  have hj2:j<m1.ws.length:=by have:=Hl1.out;omega
  have l2:(j:Int)<(m1.ws.length:Int):=by omega
  obtain⟨bz,oz,rfl,hel⟩:=hsl2.elem (Gr.refl _) hj2
  obtain⟨z,hz⟩:∃ z,z=m1.ws.getD j 0:=⟨_,rfl⟩
  have xq:w2.cell? ⟨bz,oz+j,none⟩=some (.int .u64 (z:Int)):=by have h9:=hel 0 (by omega);rw [Nat.mul_one,Nat.add_zero] at h9;rw [h9,hz];rfl
  obtain⟨ln,lxs,hln,hlog⟩:=h2.log
  obtain⟨WK,XO,rfl⟩:=dX hlog
  have Cs:ln+1<=m1.c.all:=by
   obtain⟨n9,xs9,h9,Qj⟩:=H1.out.log
   obtain⟨a9,c9,e9⟩:=dX Qj
   simp only [Value.slice.injEq] at e9
   have:=Hall.out
   omega
  have x0:w2.cell? ⟨I.tb,I.pre.length,none⟩=some (.pointer (some ⟨I.bW,0,none⟩)):=h2.cell0
  have x1:w2.cell? ⟨I.tb,I.pre.length+1,none⟩=some (.int .i64 t.thread):=h2.cell (i:=1) (by omega)
  have xw:w2.cell? ⟨I.bW,0,none⟩=some (.slice (some ⟨bz,oz,none⟩) m1.ws.length cap2):=by rw [aA hb2];rfl
  have xn:w2.cell? ⟨I.bW,6,none⟩=some (.int .i64 (now:Int)):=by rw [aA hb2];rfl
  have xl:w2.cell? ⟨I.bW,9,none⟩=some (.slice WK ln XO):=by rw [aA hb2];rfl
  have Hlog:=Lib.hid hlog
  have la:=aC h2.blk
  have lb:=aC hb2
  have lq:bz<w2.heap.size:=World.block_lt_of_cell? _ _ xq
  have na:(Value.slice WK ln XO).ownBlock≠some I.tb:=dJ hlog h2.blk h2.typ.2.2.1
  have nb:(Value.slice WK ln XO).ownBlock≠some I.bW:=dJ hlog hb2 (by decide)
  have nq:(Value.slice WK ln XO).ownBlock≠some bz:=(h2.sep bz (Xa bz oz rfl (by omega)).2).2.2.2
  have hlnb:ln<=1000000000000:=by have:=Hall.out;omega
  have H2:=Lib.hid h2;have Hb2:=Lib.hid hb2;have Hln:=Lib.hid Cs
  clear hb2 hsl2 hel hz hlog h2 hln Cs Xa
  refine bU ((λu=>u.cell? ⟨I.tb,I.pre.length,none⟩=some (.pointer (some ⟨I.bW,0,none⟩))/\u.cell? ⟨I.tb,I.pre.length+1,none⟩=some (.int .i64 t.thread)/\u.cell? ⟨I.bW,0,none⟩=some (.slice (some ⟨bz,oz,none⟩) m1.ws.length cap2)/\u.cell? ⟨I.bW,6,none⟩=some (.int .i64 (now:Int))/\u.cell? ⟨I.bW,9,none⟩=some (.slice WK ln XO)/\u.cell? ⟨bz,oz+j,none⟩=some (.int .u64 (z:Int)))) 41 (by kernel_rfl) ?hS0L3 ?_
  case hS0L3=>
   (exact⟨x0,x1,xw,xn,xl,xq⟩)
  intro hS hcl
  refine wL (i:=0) 42 rfl hcl hS ?_
  clear hcl;intro hcl
  (simp only [Act.put,zs])
  refine wL (i:=1) 42 rfl hcl hS ?_
  clear hcl;intro hcl
  (simp only [Act.put,zs])
  refine wL (i:=2) 42 rfl hcl hS ?_
  clear hcl;intro hcl
  (simp only [Act.put,zs])
  refine wL (i:=3) 42 rfl hcl hS ?_
  clear hcl;intro hcl
  (simp only [Act.put,zs])
  refine wL (i:=4) 42 rfl hcl hS ?_
  clear hcl;intro hcl
  (simp only [Act.put,zs])
  refine wL (i:=5) 42 rfl hcl hS ?_
  clear hcl;intro hcl
  (simp only [Act.put,zs])
  refine wL (i:=6) 42 rfl hcl hS ?_
  clear hcl;intro hcl
  (simp only [Act.put,zs])
  refine wL (i:=7) 42 rfl hcl hS ?_
  clear hcl;intro hcl
  (simp only [Act.put,zs])
  refine wL (i:=8) 42 rfl hcl hS ?_
  clear hcl;intro hcl
  (simp only [Act.put,zs])
  refine wL (i:=9) 42 rfl hcl hS ?_
  clear hcl;intro hcl
  (simp only [Act.put,zs])
  refine wL (i:=10) 42 rfl hcl hS ?_
  clear hcl;intro hcl
  (simp only [Act.put,zs])
  refine wL (i:=11) 42 rfl hcl hS ?_
  clear hcl;intro hcl
  (simp only [Act.put,zs])
  refine wL (i:=12) 42 rfl hcl hS ?_
  clear hcl;intro hcl
  (simp only [Act.put,zs])
  refine wL (i:=13) 42 rfl hcl hS ?_
  clear hcl;intro hcl
  (simp only [Act.put,zs])
  refine wL (i:=14) 42 rfl hcl hS ?_
  clear hcl;intro hcl
  (simp only [Act.put,zs])
  refine wL (i:=15) 42 rfl hcl hS ?_
  clear hcl;intro hcl
  (simp only [Act.put,zs])
  refine wL (i:=16) 42 rfl hcl hS ?_
  clear hcl;intro hcl
  (simp only [Act.put,zs])
  refine wL (i:=17) 42 rfl hcl hS ?_
  clear hcl;intro hcl
  (simp only [Act.put,zs])
  refine wL (i:=18) 42 rfl hcl hS ?_
  clear hcl;intro hcl
  (simp only [Act.put,zs])
  refine wL (i:=19) 42 rfl hcl hS ?_
  clear hcl;intro hcl
  (simp only [Act.put,zs])
  refine wL (i:=20) 42 rfl hcl hS ?_
  clear hcl;intro hcl
  (simp only [Act.put,zs])
  refine wL (i:=21) 42 rfl hcl hS ?_
  clear hcl;intro hcl
  (simp only [Act.put,zs])
  refine wL (i:=22) 42 rfl hcl hS ?_
  clear hcl;intro hcl
  (simp only [Act.put,zs])
  refine wL (i:=23) 42 rfl hcl hS ?_
  clear hcl;intro hcl
  (simp only [Act.put,zs])
  refine wL (i:=24) 42 rfl hcl hS ?_
  clear hcl;intro hcl
  (simp only [Act.put,zs])
  refine wL (i:=25) 42 rfl hcl hS ?_
  clear hcl;intro hcl
  (simp only [Act.put,zs])
  refine wL (i:=26) 42 rfl hcl hS ?_
  clear hcl;intro hcl
  (simp only [Act.put,zs])
  refine wL (i:=27) 42 rfl hcl hS ?_
  clear hcl;intro hcl
  (simp only [Act.put,zs])
  refine wL (i:=28) 42 rfl hcl hS ?_
  clear hcl;intro hcl
  (simp only [Act.put,zs])
  refine wL (i:=29) 42 rfl hcl hS ?_
  clear hcl;intro hcl
  (simp only [Act.put,zs])
  refine wL (i:=30) 42 rfl hcl hS ?_
  clear hcl;intro hcl
  (simp only [Act.put,zs])
  refine wL (i:=31) 42 rfl hcl hS ?_
  clear hcl;intro hcl
  (simp only [Act.put,zs])
  refine wL (i:=32) 42 rfl hcl hS ?_
  clear hcl;intro hcl
  (simp only [Act.put,zs])
  refine wL (i:=33) 42 rfl hcl hS ?_
  clear hcl;intro hcl
  (simp only [Act.put,zs])
  refine wL (i:=34) 42 rfl hcl hS ?_
  clear hcl;intro hcl
  (simp only [Act.put,zs])
  refine wL (i:=35) 42 rfl hcl hS ?_
  clear hcl;intro hcl
  (simp only [Act.put,zs])
  refine wL (i:=36) 42 rfl hcl hS ?_
  clear hcl;intro hcl
  (simp only [Act.put,zs])
  refine aL (i:=37) (by kernel_rfl) rfl hcl (λK' hK=>?_)
  have HK:=Lib.hid hK;clear hK
  ((rw [if_pos (by kernel_rfl)]);(simp only [zq1,zq2,zq3]);go_big_op)
  refine HK.out _ _ ?hS37L3 (λhcl=>?_)
  case hS37L3=>
   intro _
   (exact⟨(((Gr.new w2 _).drew).cell la).trans x0,(((Gr.new w2 _).drew).cell la).trans x1,(((Gr.new w2 _).drew).cell lb).trans xw,(((Gr.new w2 _).drew).cell lb).trans xn,(((Gr.new w2 _).drew).cell lb).trans xl,(((Gr.new w2 _).drew).cell lq).trans xq⟩)
  clear HK
  refine aL (i:=38) (by kernel_rfl) rfl hcl (λK' hK=>?_)
  have HK:=Lib.hid hK;clear hK
  ((refine step_append_lies _ (by rfl) _ _ _ (by rfl) 0 212 i0 _ 6 48 Tryz.underlying59 hi hz0 hz1 hz2 rfl (by omega) _ _ _ (by rfl) ((Hlog.out.alloc _).drew) ⟨w2.heap.size,0,none⟩ 1 1 [.int .i64 (now:Int),.int .i64 t.thread,.int .i64 kind,.int .i64 (j:Int),.int .u64 (o:Int),.int .u64 (z:Int)] (by rfl) (by rfl) (World.news_of_block (cs:=#[.int .i64 (now:Int),.int .i64 t.thread,.int .i64 kind,.int .i64 (j:Int),.int .u64 (o:Int),.int .u64 (z:Int)]) (t:=212) (fr:=(0,0)) (heap_alloc_new w2 _)) (by simp [Value.oneCell']) (by omega) (by unfold maxLen;omega) (by skip;omega) (by simp) (w2.heap.size+1) (by simp) ?_;intro g3 cp3 w3 hown3 hgrow3 Zn hlt3;have z0:=((hgrow3.cell_far _ (by simp;omega) (Ne.symm na)).trans ((((Gr.new w2 _).drew).cell la).trans x0));have z1:=((hgrow3.cell_far _ (by simp;omega) (Ne.symm na)).trans ((((Gr.new w2 _).drew).cell la).trans x1));have zw:=((hgrow3.cell_far _ (by simp;omega) (Ne.symm nb)).trans ((((Gr.new w2 _).drew).cell lb).trans xw));have zn:=((hgrow3.cell_far _ (by simp;omega) (Ne.symm nb)).trans ((((Gr.new w2 _).drew).cell lb).trans xn));have zl:=((hgrow3.cell_far _ (by simp;omega) (Ne.symm nb)).trans ((((Gr.new w2 _).drew).cell lb).trans xl));have zq:=((hgrow3.cell_far _ (by simp;omega) (Ne.symm nq)).trans ((((Gr.new w2 _).drew).cell lq).trans xq));have zf:w3.frozen? ⟨I.bW,9,none⟩=false:=aB ((hgrow3.block _ (by simp;omega) (Ne.symm nb)).trans ((((Gr.new w2 _).drew).block _ lb).trans Hb2.out)) _))
  refine HK.out _ _ ?hS38L3 (λhcl=>?_)
  case hS38L3=>
   intro _
   (exact⟨z0,z1,zw,zn,zl,zq⟩)
  clear HK
  (simp only [Act.put,zs])
  refine aL (i:=39) (by kernel_rfl) rfl hcl (λK' hK=>?_)
  have HK:=Lib.hid hK;clear hK
  ((rw [if_pos (by kernel_rfl)]);(simp only [zq1,zq2,zq3]);go_big_op)
  refine HK.out _ _ ?hS39L3 (λhcl=>?_)
  case hS39L3=>
   intro _
   (exact⟨z0,z1,zw,zn,zl,zq⟩)
  clear HK
  refine aL (i:=40) (by kernel_rfl) rfl hcl (λK' hK=>?_)
  have HK:=Lib.hid hK;clear hK
  ((rw [if_pos (by kernel_rfl)]);(simp only [zq1,zq2,zq3]);go_big_op)
  refine HK.out _ _ ?hS40L3 (λhcl=>?_)
  case hS40L3=>
   intro _
   (exact⟨z0,z1,zw,zn,zl,zq⟩)
  clear HK
  refine aL (i:=41) (by kernel_rfl) rfl hcl (λK' hK=>?_)
  have HK:=Lib.hid hK;clear hK
  ((rw [if_pos (by kernel_rfl)]);(simp only [zq1,zq2,zq3]);go_big_op)
  refine HK.out _ _ (λh=>by cases h.symm.trans (by kernel_rfl:_=true)) (λ_=>bV (by kernel_rfl) ?_ _)
  clear HK
  (clear hS)
  have hc3:Chg (λk=>(Value.slice WK ln XO).ownBlock=some k) w2 w3:=(((Chg.refl _ w2).alloc _).drew).grown hgrow3 (λq hq=>.inl hq)
  have hk3:dY w2 (.slice WK ln XO) (.slice (some ⟨g3,0,none⟩) (ln+1) cp3):=λb hb=>by
   cases hb
   rcases Zn with h9|h9
   ·exact .inl h9
   ·exact .inr (by show _<=g3;omega)
  obtain⟨w5,ML⟩:∃ w5,w5=w3.setCell ⟨I.bW,9,none⟩ (.slice (some ⟨g3,0,none⟩) (ln+1) cp3):=⟨_,rfl⟩
  obtain⟨h5,OW⟩:=H2.out.logged hc3 hk3 hown3 Hln.out ML
  have Hto5:=Lib.hid (Hto2.out.trans OW)
  rw [<-ML]
  clear hc3 hk3 hown3 hgrow3 Zn OW Hto2 H2 Hlog x0 x1 xw xn xl xq z0 z1 zw zn zl zq zf ML Hb2 na nb la lb
  have H5:=Lib.hid h5
  have s0:w5.cell? ⟨I.tb,I.pre.length+3,none⟩=some (.slice ga t.got.length gc):=h5.cell (i:=3) (by omega)
  have Hgot:=Lib.hid h5.got
  clear h5
  go_wp2_with (at_builtin;refine wpList_append_lies _ rfl _ _ 28 rfl 0 46 j0 (.int .u64 0) 1 8 Tryz.underlying28 hj0 hy0 hy1 hy2 rfl (by decide) _ _ _ rfl (Hgot.out.alloc _) ⟨w5.heap.size,0,none⟩ 1 1 [.int .u64 (v:Int)] rfl rfl ?c1t3 ?c2t3 (by decide) ?c3t3 ?c4t3 ?c5t3 (w5.heap.size+1) ?c6t3 ?_)
  case c2t3=>simp [Value.oneCell']
  case c3t3=>unfold maxLen;omega
  case c4t3=>omega
  intro g6 Pk w6 hown6 yO MW _
  have hc6:Chg (λk=>(Value.slice ga t.got.length gc).ownBlock=some k) w5 w6:=((Chg.refl _ w5).alloc _).grown yO (λq hq=>.inl hq)
  have Pj:dY w5 (.slice ga t.got.length gc) (.slice (some ⟨g6,0,none⟩) (t.got.length+1) Pk):=λb hb=>by
   cases hb
   rcases MW with h9|h9
   ·exact .inl h9
   ·exact .inr (by show _<=g6;omega)
  obtain⟨w7,hw7⟩:∃ w7,w7=w6.setCell ⟨I.tb,I.pre.length+3,none⟩ (.slice (some ⟨g6,0,none⟩) (t.got.length+1) Pk):=⟨_,rfl⟩
  obtain⟨h7,WB⟩:=H5.out.gotten hc6 Pj hown6 hgl hw7
  have hb6:=(hc6.block _ (aC H5.out.blk) (λe=>dJ H5.out.got H5.out.blk H5.out.typ.1 e)).trans H5.out.blk
  have s3:w6.cell? ⟨I.tb,I.pre.length+3,none⟩=some (.slice ga t.got.length gc):=by rw [aA hb6];exact fG (i:=3) (by exact(by decide:3<13))
  have f3:w6.frozen? ⟨I.tb,I.pre.length+3,none⟩=false:=aB hb6 _
  have Hto7:=Lib.hid (Hto5.out.trans WB);have H7:=Lib.hid h7;have Hw7:=Lib.hid hw7
  clear hc6 Pj hown6 yO MW WB hb6 s0 Hgot Hto5 H5 hw7
  go_upto_region 18 with fail
  rw [<-Hw7.out]
  clear s3 f3 Hw7
  obtain⟨wa7,Yn,_,MO,_,_⟩:=h7.mem.wld
  have x0:w7.cell? ⟨I.tb,I.pre.length,none⟩=some (.pointer (some ⟨I.bW,0,none⟩)):=h7.cell0
  have x4:w7.cell? ⟨I.tb,I.pre.length+4,none⟩=some (.slice ka t.ticks.length kc):=h7.cell (i:=4) (by omega)
  have xn:w7.cell? ⟨I.bW,6,none⟩=some (.int .i64 (now:Int)):=by rw [aA MO];rfl
  have Hk7:=Lib.hid h7.ticks
  have la:=aC h7.blk
  have lb:=aC MO
  have na:(Value.slice ka t.ticks.length kc).ownBlock≠some I.tb:=dJ h7.ticks h7.blk h7.typ.2.1
  have nb:(Value.slice ka t.ticks.length kc).ownBlock≠some I.bW:=dJ h7.ticks MO (by decide)
  clear MO h7 hi hz0 hz1 hz2 hj0 hy0 hy1 hy2 hlen hx hy hh hf hat hcnt hgl
  refine bU ((λu=>u.cell? ⟨I.tb,I.pre.length,none⟩=some (.pointer (some ⟨I.bW,0,none⟩))/\u.cell? ⟨I.tb,I.pre.length+4,none⟩=some (.slice ka t.ticks.length kc)/\u.cell? ⟨I.bW,6,none⟩=some (.int .i64 (now:Int)))) 16 (by kernel_rfl) ?hS0L4 ?_
  case hS0L4=>
   (exact⟨x0,x4,xn⟩)
  intro hS hcl
  refine wL (i:=0) 17 rfl hcl hS ?_
  clear hcl;intro hcl
  (simp only [Act.put,zs])
  refine wL (i:=1) 17 rfl hcl hS ?_
  clear hcl;intro hcl
  (simp only [Act.put,zs])
  refine wL (i:=2) 17 rfl hcl hS ?_
  clear hcl;intro hcl
  (simp only [Act.put,zs])
  refine wL (i:=3) 17 rfl hcl hS ?_
  clear hcl;intro hcl
  (simp only [Act.put,zs])
  refine wL (i:=4) 17 rfl hcl hS ?_
  clear hcl;intro hcl
  (simp only [Act.put,zs])
  refine wL (i:=5) 17 rfl hcl hS ?_
  clear hcl;intro hcl
  (simp only [Act.put,zs])
  refine wL (i:=6) 17 rfl hcl hS ?_
  clear hcl;intro hcl
  (simp only [Act.put,zs])
  refine wL (i:=7) 17 rfl hcl hS ?_
  clear hcl;intro hcl
  (simp only [Act.put,zs])
  refine wL (i:=8) 17 rfl hcl hS ?_
  clear hcl;intro hcl
  (simp only [Act.put,zs])
  refine wL (i:=9) 17 rfl hcl hS ?_
  clear hcl;intro hcl
  (simp only [Act.put,zs])
  refine wL (i:=10) 17 rfl hcl hS ?_
  clear hcl;intro hcl
  (simp only [Act.put,zs])
  refine wL (i:=11) 17 rfl hcl hS ?_
  clear hcl;intro hcl
  (simp only [Act.put,zs])
  refine aL (i:=12) (by kernel_rfl) rfl hcl (λK' hK=>?_)
  have HK:=Lib.hid hK;clear hK
  ((rw [if_pos (by kernel_rfl)]);(simp only [zq1,zq2,zq3]);go_big_op)
  refine HK.out _ _ ?hS12L4 (λhcl=>?_)
  case hS12L4=>
   intro _
   (exact⟨(((Gr.new w7 _).drew).cell la).trans x0,(((Gr.new w7 _).drew).cell la).trans x4,(((Gr.new w7 _).drew).cell lb).trans xn⟩)
  clear HK
  refine aL (i:=13) (by kernel_rfl) rfl hcl (λK' hK=>?_)
  have HK:=Lib.hid hK;clear hK
  ((refine step_append_lies _ (by rfl) _ _ _ (by rfl) 0 3 k0 _ 1 8 Tryz.underlying24 hk0 hu0 hu1 hu2 rfl (by omega) _ _ _ (by rfl) ((Hk7.out.alloc _).drew) ⟨w7.heap.size,0,none⟩ 1 1 [.int .i64 (now:Int)] (by rfl) (by rfl) (World.news_of_block (cs:=#[.int .i64 (now:Int)]) (t:=3) (fr:=(0,0)) (heap_alloc_new w7 _)) (by simp [Value.oneCell']) (by omega) (by unfold maxLen;(dsimp only);omega) (by(dsimp only);omega) (by simp) (w7.heap.size+1) (by simp) ?_;intro g8 xL w8 kQ dU vI KF;have z0:=((dU.cell_far _ (by simp;omega) (Ne.symm na)).trans ((((Gr.new w7 _).drew).cell la).trans x0));have z4:=((dU.cell_far _ (by simp;omega) (Ne.symm na)).trans ((((Gr.new w7 _).drew).cell la).trans x4));have zn:=((dU.cell_far _ (by simp;omega) (Ne.symm nb)).trans ((((Gr.new w7 _).drew).cell lb).trans xn));have zf:w8.frozen? ⟨I.tb,I.pre.length+4,none⟩=false:=aB ((dU.block _ (by simp;omega) (Ne.symm na)).trans ((((Gr.new w7 _).drew).block _ la).trans H7.out.blk)) _))
  refine HK.out _ _ ?hS13L4 (λhcl=>?_)
  case hS13L4=>
   intro _
   (exact⟨z0,z4,zn⟩)
  clear HK
  (simp only [Act.put,zs])
  refine aL (i:=14) (by kernel_rfl) rfl hcl (λK' hK=>?_)
  have HK:=Lib.hid hK;clear hK
  ((rw [if_pos (by kernel_rfl)]);(simp only [zq1,zq2,zq3]);go_big_op)
  refine HK.out _ _ ?hS14L4 (λhcl=>?_)
  case hS14L4=>
   intro _
   (exact⟨z0,z4,zn⟩)
  clear HK
  refine aL (i:=15) (by kernel_rfl) rfl hcl (λK' hK=>?_)
  have HK:=Lib.hid hK;clear hK
  ((rw [if_pos (by kernel_rfl)]);(simp only [zq1,zq2,zq3]);go_big_op)
  refine HK.out _ _ ?hS15L4 (λhcl=>?_)
  case hS15L4=>
   intro _
   (exact⟨z0,z4,zn⟩)
  clear HK
  refine aL (i:=16) (by kernel_rfl) rfl hcl (λK' hK=>?_)
  have HK:=Lib.hid hK;clear hK
  ((rw [if_pos (by kernel_rfl)]);(simp only [zq1,zq2,zq3]);go_big_op)
  refine HK.out _ _ (λh=>by cases h.symm.trans (by kernel_rfl:_=true)) (λ_=>bV (by kernel_rfl) ?_ _)
  clear HK
  (clear hS)
  have hc8:Chg (λk=>(Value.slice ka t.ticks.length kc).ownBlock=some k) w7 w8:=(((Chg.refl _ w7).alloc _).drew).grown dU (λq hq=>.inl hq)
  have EU:dY w7 (.slice ka t.ticks.length kc) (.slice (some ⟨g8,0,none⟩) (t.ticks.length+1) xL):=λb hb=>by
   cases hb
   rcases vI with h9|h9
   ·exact .inl h9
   ·exact .inr (by show _<=g8;omega)
  obtain⟨w9,TA⟩:∃ w9,w9=w8.setCell ⟨I.tb,I.pre.length+4,none⟩ (.slice (some ⟨g8,0,none⟩) (t.ticks.length+1) xL):=⟨_,rfl⟩
  obtain⟨h9,VH⟩:=H7.out.ticked hc8 EU kQ hkl TA
  have Hto9:=Lib.hid (Hto7.out.trans VH)
  have y5:w9.cell? ⟨I.tb,I.pre.length+5,none⟩=some (.int .i64 (t.at_:Int)):=h9.cell (i:=5) (by omega)
  have yf:w9.frozen? ⟨I.tb,I.pre.length+5,none⟩=false:=aB h9.blk _
  have Fin:=Lib.hid (h9.put (i:=5) (by omega) (.int .i64 ((t.at_+1:Nat):Int)) (t':=Ny t v now) rfl rfl rfl)
  have hwr:wrap64 ((t.at_:Int)+1)=((t.at_+1:Nat):Int):=by have:=Hat1.out;unfold wrap64;omega
  rw [<-TA]
  clear hc8 EU kQ dU vI VH Hto7 H7 Hk7 x0 x4 xn z0 z4 zn zf TA h9 T0 H1 Hsl
  go_wp2
  (rw [hwr])
  go_ret
  exact⟨rfl,_,_,_,Fin.out.1,Hto9.out.trans Fin.out.2⟩
end Go.Proofs.YtfkokppncipgnaaGreat
