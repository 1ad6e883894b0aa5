/- Layer 16: a scan's step: to read a number. -/
import Derived.Test.YtifhldnmcdbpfaaU28
set_option maxRecDepth 100000
set_option linter.unusedVariables false
set_option linter.unusedSimpArgs false
set_option linter.unnecessarySimpa false
namespace Go.Proofs.Ytifhldnmcdbpfaa
open List renaming getElem_toArray → zq1, getElem_cons_zero → zq2, getElem_cons_succ → zq3, setIfInBounds_toArray → zq4, set_cons_zero → zq5, set_cons_succ → zq6
section
open Go.RowKit
set_option maxHeartbeats 8000000 in
theorem MO (m q:Nat) (w:World) (Mut:Nat->Prop) (I:eO) (NW:Nat) (b bP:Nat) (v:MuV) (s:MuD) (wd:WD) (hw:aT w Mut I NW wd) (hB:∀ j,MuB b v j->Mut j/\¬ bC I j) (h:MuAt w b bP v s) (hch:s.chosen=true) (x:Nat) (r:List Nat) (hrd:s.reads=x::r) (hx:x<=1000000) (hcn:wd.mem.c.all+1<1000000000000) (hl:s.reads.length+s.list.length<=1000) :
  Calls Try.prog 172 #[.pointer (some ⟨b,0,none⟩),.pointer (some ⟨I.bW,0,none⟩)] w λe w'=>jF w w' Mut I NW (jJ wd s) b bP v (bJ m q wd s) e:=by
 obtain⟨s1,s2,s3⟩:=lV hw
 obtain⟨mks,hwb,_,_⟩:=hw.blk
 have x0:w.cell? ⟨I.bW,0,none⟩=some (.pointer (some ⟨I.bm,0,none⟩)):=by rw [aA hwb];exact kN
 have y6:w.cell? ⟨b,6,none⟩=some (.bool true):=(h.get 6).trans (by rw [<-hch];rfl)
 obtain⟨na,nc,hnv⟩:=h.lst.form
 obtain⟨a,ha⟩:∃ a,a=s.list.length:=⟨_,rfl⟩
 rw [<-ha] at hnv
 have y7:w.cell? ⟨b,7,none⟩=some (.slice na a nc):=(h.get 7).trans (by rw [<-hnv];rfl)
 obtain⟨ra,rc,hrv,hrc,hsl⟩:=h.rds
 obtain⟨R,hR⟩:∃ R,R=s.reads.length:=⟨_,rfl⟩
 have hR1:R=r.length+1:=by rw [hR,hrd];rfl
 obtain⟨rg,ro,rfl,hrg,hcell⟩:=hsl.2 0 (by rw [<-hR];omega)
 have z9:w.cell? ⟨rg,ro,none⟩=some (.int .i64 (x:Int)):=by
  have h9:=hcell 0 (by omega)
  rw [Nat.mul_one,Nat.add_zero] at h9
  rw [h9,hrd];rfl
 rw [<-hR] at hrv hrc
 have y5:w.cell? ⟨b,5,none⟩=some (.slice (some ⟨rg,ro,none⟩) R rc):=(h.get 5).trans (by rw [<-hrv];rfl)
 have hrgB:MuB b v rg:=.inr (.inr (.inr (.inr (.inl (by rw [hrv];rfl)))))
 have nB:∀ j,MuB b v j->¬ bO I.bm I.bw j:=λj hj e=>(hB j hj).2 (s3 j e).1
 have nb:¬ bO I.bm I.bw b:=nB b (.inl rfl)
 have Rd:=Lib.hid (λ(u:World) (h:Chg noB w u)=>yQ I.bm I.bw wd.mem (x:Int) u (hw.mem.chg h (λh=>h) (λ_ _ h=>h)) hcn)
 obtain⟨g,hg⟩:∃ g,g=dP wd x:=⟨_,rfl⟩
 rw [show(dI wd.mem (x:Int)).2=g from hg.symm] at Rd
 have hadr:eQ s=x:=by unfold eQ;rw [if_pos hch,hrd];rfl
 have hwd':jJ wd s=dM wd x:=by unfold jJ;rw [hadr]
 have hgo:bJ m q wd s=gH { s with list:=s.list++[g],reads:=r }:=by
  unfold bJ qN
  rw [if_pos hch,hadr,<-hg,hrd];rfl
 have ha16:a<=1000:=by omega
 have hc0:Chg (bO I.bm I.bw) w w.drew:=(Chg.refl _ w).drew
 have nR:∀ g,(Value.slice na a nc).ownBlock=some g->MuB b v g:=λg e=>.inr (.inr (.inr (.inr (.inr (by rw [hnv];exact e)))))
 have nRb:∀ g,(Value.slice na a nc).ownBlock=some g->g≠b/\g≠rg:=λg e=>⟨λe9=>h.ty.2.2.1 (by rw [hnv,e,e9]),λe9=>(h.s2 g (by rw [hnv];exact e)).2 (by rw [hrv,e9];rfl)⟩
 obtain⟨xs,hxs⟩:∃ xs,xs=s.list.map cZ:=⟨_,rfl⟩
 have hrow:w.ownsRow 0 40 1 (.slice na a nc) a xs:=by have h9:=h.lst;rw [hnv] at h9;rw [ha,hxs];rw [ha] at h9;exact h9
 obtain⟨k0,hk0,hu0,hu1,hu2⟩:=info_parts nI
 have l1:(0:Int)<(R:Int):=by omega
 rw [hwd']
 have Hw:=Lib.hid hw;have Hb:=Lib.hid h;have NB:=Lib.hid nB;have Nb:=Lib.hid nb;have S2:=Lib.hid s2;have HB:=Lib.hid hB;have Hgo:=Lib.hid hgo;have Ha:=Lib.hid ha;have Hrow:=Lib.hid hrow;have NR:=Lib.hid nR;have NRb:=Lib.hid nRb;have Hxs:=Lib.hid hxs;have Hnv:=Lib.hid hnv;have Hch:=Lib.hid hch;have HrgB:=Lib.hid hrgB;have Hrv:=Lib.hid hrv;have Hrc:=Lib.hid hrc;have HRR:=Lib.hid hR;have HR1:=Lib.hid hR1;have Hrd:=Lib.hid hrd;have Hl:=Lib.hid hl
 clear hw h nB nb s1 s2 s3 hB hg hgo hwd' hadr hwb hch ha hcn hrow nR nRb hxs hnv hrgB hrv hrc hR hR1 hrd hsl hcell hrg hx hl
 go_enter Try.func172,Try.ntmps172
 go_upto_region 2 with fail
 refine fC ((λu=>u.cell? ⟨I.bW,0,none⟩=some (.pointer (some ⟨I.bm,0,none⟩))/\u.cell? ⟨b,7,none⟩=some (.slice na a nc)/\u.cell? ⟨b,5,none⟩=some (.slice (some ⟨rg,ro,none⟩) R rc)/\u.cell? ⟨rg,ro,none⟩=some (.int .i64 (x:Int)))) 20 (by kernel_rfl) ?hS0L1 ?_
 case hS0L1=>
  (try dsimp only)
  (first|exact⟨x0,y7,y5,z9⟩|exact⟨z0,z1,z2,z3⟩|exact⟨t0,t1,t2,t3⟩|exact⟨(((Gr.new w6 _)).cell lW6).trans z0,(((Gr.new w6 _)).cell lK).trans z1,(((Gr.new w6 _)).cell lK).trans z2,(((Gr.new w6 _)).cell lP6).trans z3⟩)
 intro hS hcl
 refine aD (i:=0) (v:=?tv0L1) 21 rfl (by kernel_rfl) (by kernel_rfl) (by kernel_rfl) (by kernel_rfl) (by kernel_rfl) hcl (by first|exact λ_ _ _ h=>h|exact λ_ _ _ h=>HQp.out _ _ _ _ h) (Or.inl ⟨by rfl,?th0L1⟩) hS ?tr0L1
 (case th0L1=>(intro w hSw;(try dsimp only at hSw);go_simp;try with_reducible rfl))
 clear hcl;intro hcl
 (try simp only [Act.put,zs])
 refine aD (i:=1) (v:=?tv1L1) 21 rfl (by kernel_rfl) (by kernel_rfl) (by kernel_rfl) (by kernel_rfl) (by kernel_rfl) hcl (by first|exact λ_ _ _ h=>h|exact λ_ _ _ h=>HQp.out _ _ _ _ h) (Or.inl ⟨by rfl,?th1L1⟩) hS ?tr1L1
 (case th1L1=>(intro w hSw;(try dsimp only at hSw);go_simp;try with_reducible rfl))
 clear hcl;intro hcl
 (try simp only [Act.put,zs])
 refine aD (i:=2) (v:=?tv2L1) 21 rfl (by kernel_rfl) (by kernel_rfl) (by kernel_rfl) (by kernel_rfl) (by kernel_rfl) hcl (by first|exact λ_ _ _ h=>h|exact λ_ _ _ h=>HQp.out _ _ _ _ h) (Or.inl ⟨by rfl,?th2L1⟩) hS ?tr2L1
 (case th2L1=>(intro w hSw;(try dsimp only at hSw);go_simp;try with_reducible rfl))
 clear hcl;intro hcl
 (try simp only [Act.put,zs])
 refine aD (i:=3) (v:=?tv3L1) 21 rfl (by kernel_rfl) (by kernel_rfl) (by kernel_rfl) (by kernel_rfl) (by kernel_rfl) hcl (by first|exact λ_ _ _ h=>h|exact λ_ _ _ h=>HQp.out _ _ _ _ h) (Or.inl ⟨by rfl,?th3L1⟩) hS ?tr3L1
 (case th3L1=>(intro w hSw;(try dsimp only at hSw);go_simp;try with_reducible rfl))
 clear hcl;intro hcl
 (try simp only [Act.put,zs])
 refine aD (i:=4) (v:=?tv4L1) 21 rfl (by kernel_rfl) (by kernel_rfl) (by kernel_rfl) (by kernel_rfl) (by kernel_rfl) hcl (by first|exact λ_ _ _ h=>h|exact λ_ _ _ h=>HQp.out _ _ _ _ h) (Or.inl ⟨by rfl,?th4L1⟩) hS ?tr4L1
 (case th4L1=>(intro w hSw;(try dsimp only at hSw);go_simp;try with_reducible rfl))
 clear hcl;intro hcl
 (try simp only [Act.put,zs])
 refine aD (i:=5) (v:=?tv5L1) 21 rfl (by kernel_rfl) (by kernel_rfl) (by kernel_rfl) (by kernel_rfl) (by kernel_rfl) hcl (by first|exact λ_ _ _ h=>h|exact λ_ _ _ h=>HQp.out _ _ _ _ h) (Or.inl ⟨by rfl,?th5L1⟩) hS ?tr5L1
 (case th5L1=>(intro w hSw;(try dsimp only at hSw);go_simp;try with_reducible rfl))
 clear hcl;intro hcl
 (try simp only [Act.put,zs])
 refine aD (i:=6) (v:=?tv6L1) 21 rfl (by kernel_rfl) (by kernel_rfl) (by kernel_rfl) (by kernel_rfl) (by kernel_rfl) hcl (by first|exact λ_ _ _ h=>h|exact λ_ _ _ h=>HQp.out _ _ _ _ h) (Or.inl ⟨by rfl,?th6L1⟩) hS ?tr6L1
 (case th6L1=>(intro w hSw;(try dsimp only at hSw);go_simp;try with_reducible rfl))
 clear hcl;intro hcl
 (try simp only [Act.put,zs])
 refine aD (i:=7) (v:=?tv7L1) 21 rfl (by kernel_rfl) (by kernel_rfl) (by kernel_rfl) (by kernel_rfl) (by kernel_rfl) hcl (by first|exact λ_ _ _ h=>h|exact λ_ _ _ h=>HQp.out _ _ _ _ h) (Or.inl ⟨by rfl,?th7L1⟩) hS ?tr7L1
 (case th7L1=>(intro w hSw;(try dsimp only at hSw);go_simp;try with_reducible rfl))
 clear hcl;intro hcl
 (try simp only [Act.put,zs])
 refine aD (i:=8) (v:=?tv8L1) 21 rfl (by kernel_rfl) (by kernel_rfl) (by kernel_rfl) (by kernel_rfl) (by kernel_rfl) hcl (by first|exact λ_ _ _ h=>h|exact λ_ _ _ h=>HQp.out _ _ _ _ h) (Or.inl ⟨by rfl,?th8L1⟩) hS ?tr8L1
 (case th8L1=>(intro w hSw;(try dsimp only at hSw);go_simp;try with_reducible rfl))
 clear hcl;intro hcl
 (try simp only [Act.put,zs])
 refine aD (i:=9) (v:=?tv9L1) 21 rfl (by kernel_rfl) (by kernel_rfl) (by kernel_rfl) (by kernel_rfl) (by kernel_rfl) hcl (by first|exact λ_ _ _ h=>h|exact λ_ _ _ h=>HQp.out _ _ _ _ h) (Or.inl ⟨by rfl,?th9L1⟩) hS ?tr9L1
 (case th9L1=>(intro w hSw;(try dsimp only at hSw);go_simp;try with_reducible rfl))
 clear hcl;intro hcl
 (try simp only [Act.put,zs])
 refine aD (i:=10) (v:=?tv10L1) 21 rfl (by kernel_rfl) (by kernel_rfl) (by kernel_rfl) (by kernel_rfl) (by kernel_rfl) hcl (by first|exact λ_ _ _ h=>h|exact λ_ _ _ h=>HQp.out _ _ _ _ h) (Or.inl ⟨by rfl,?th10L1⟩) hS ?tr10L1
 (case th10L1=>(intro w hSw;(try dsimp only at hSw);go_simp;try with_reducible rfl))
 clear hcl;intro hcl
 (try simp only [Act.put,zs])
 refine aD (i:=11) (v:=?tv11L1) 21 rfl (by kernel_rfl) (by kernel_rfl) (by kernel_rfl) (by kernel_rfl) (by kernel_rfl) hcl (by first|exact λ_ _ _ h=>h|exact λ_ _ _ h=>HQp.out _ _ _ _ h) (Or.inl ⟨by rfl,?th11L1⟩) hS ?tr11L1
 (case th11L1=>(intro w hSw;(try dsimp only at hSw);go_simp;try with_reducible rfl))
 clear hcl;intro hcl
 (try simp only [Act.put,zs])
 refine aD (i:=12) (v:=?tv12L1) 21 rfl (by kernel_rfl) (by kernel_rfl) (by kernel_rfl) (by kernel_rfl) (by kernel_rfl) hcl (by first|exact λ_ _ _ h=>h|exact λ_ _ _ h=>HQp.out _ _ _ _ h) (Or.inl ⟨by rfl,?th12L1⟩) hS ?tr12L1
 (case th12L1=>(intro w hSw;(try dsimp only at hSw);go_simp;try with_reducible rfl))
 clear hcl;intro hcl
 (try simp only [Act.put,zs])
 refine aM (i:=13) (by kernel_rfl) rfl hcl (λK' hK=>?_)
 have HK:=Lib.hid hK;clear hK
 ((rw [if_pos (by kernel_rfl)]);(try simp only [zq1,zq2,zq3]);first|go_big_move|go_big_op)
 refine HK.out _ _ ?hS13L1 (λhcl=>?_)
 case hS13L1=>
  intro _
  (try dsimp only)
  (first|exact⟨x0,y7,y5,z9⟩|exact⟨z0,z1,z2,z3⟩|exact⟨t0,t1,t2,t3⟩|exact⟨(((Gr.new w6 _)).cell lW6).trans z0,(((Gr.new w6 _)).cell lK).trans z1,(((Gr.new w6 _)).cell lK).trans z2,(((Gr.new w6 _)).cell lP6).trans z3⟩)
 clear HK
 (try simp only [Act.put,zs])
 refine aD (i:=14) (v:=?tv14L1) 21 rfl (by kernel_rfl) (by kernel_rfl) (by kernel_rfl) (by kernel_rfl) (by kernel_rfl) hcl (by first|exact λ_ _ _ h=>h|exact λ_ _ _ h=>HQp.out _ _ _ _ h) (Or.inl ⟨by rfl,?th14L1⟩) hS ?tr14L1
 (case th14L1=>(intro w hSw;(try dsimp only at hSw);go_simp;try with_reducible rfl))
 clear hcl;intro hcl
 (try simp only [Act.put,zs])
 refine aM (i:=15) (by kernel_rfl) rfl hcl (λK' hK=>?_)
 have HK:=Lib.hid hK;clear hK
 ((rw [if_pos (by kernel_rfl)]);(try simp only [zq1,zq2,zq3]);go_big_op)
 (first|(go_at_call 144;refine(Rd.out _ ?_).mono ?_;(exact(Chg.refl _ _).drew);rintro e w6 ⟨rfl,hm1,hc1⟩;have hc1':Chg (bO I.bm I.bw) w w6:=hc0.trans hc1;have z0:=aJ hc1' S2.out x0;have z1:=aJ hc1' Nb.out y7;have z2:=aJ hc1' Nb.out y5;have z3:=aJ hc1' (NB.out _ HrgB.out) z9;have hb6:=Hb.out.chg hc1' NB.out;have nU:=fJ Hrow.out hc1' (λg e=>NB.out g (NR.out g e));have lK:=hb6.lt;have lW6:I.bW<w6.heap.size:=World.block_lt_of_cell? _ _ z0;have lP6:rg<w6.heap.size:=World.block_lt_of_cell? _ _ z3)|(refine step_append_lies _ (by rfl) _ _ _ (by rfl) 0 40 k0 _ 1 8 Try.underlying28 hk0 hu0 hu1 hu2 rfl (by omega) _ _ _ (by rfl) (nU.alloc _) ⟨w6.heap.size,0,none⟩ 1 1 [.int .u64 (g:Int)] (by rfl) (by rfl) (World.news_of_block (cs:=#[.int .u64 (g:Int)]) (t:=40) (fr:=(0,0)) (heap_alloc_new w6 _)) (by simp [Value.oneCell']) (by omega) (by unfold maxLen;(try dsimp only);omega) (by(try dsimp only);omega) (by simp) (w6.heap.size+1) (by simp) ?_;intro g8 wB w8 oC jH vI BS;have hc8:Chg (λk=>(Value.slice na a nc).ownBlock=some k) w6 w8:=((Chg.refl _ w6).alloc _).grown jH (λg hg=>.inl hg);have t0:=aJ hc8 (λe=>(HB.out _ (NR.out _ e)).2 (.inl rfl)) z0;have t1:=aJ hc8 (λe=>(NRb.out _ e).1 rfl) z1;have t2:=aJ hc8 (λe=>(NRb.out _ e).1 rfl) z2;have t3:=aJ hc8 (λe=>(NRb.out _ e).2 rfl) z3;have tf:=aC ((hc8.block b lK (λe=>(NRb.out _ e).1 rfl)).trans hb6.blk) 7;have tl:b<w8.heap.size:=Nat.lt_of_lt_of_le lK hc8.size))
 refine HK.out _ _ ?hS15L1 (λhcl=>?_)
 case hS15L1=>
  intro _
  (try dsimp only)
  (first|exact⟨x0,y7,y5,z9⟩|exact⟨z0,z1,z2,z3⟩|exact⟨t0,t1,t2,t3⟩|exact⟨(((Gr.new w6 _)).cell lW6).trans z0,(((Gr.new w6 _)).cell lK).trans z1,(((Gr.new w6 _)).cell lK).trans z2,(((Gr.new w6 _)).cell lP6).trans z3⟩)
 clear HK
 (try simp only [Act.put,zs])
 refine aM (i:=16) (by kernel_rfl) rfl hcl (λK' hK=>?_)
 have HK:=Lib.hid hK;clear hK
 ((rw [if_pos (by kernel_rfl)]);(try simp only [zq1,zq2,zq3]);first|go_big_move|go_big_op)
 refine HK.out _ _ ?hS16L1 (λhcl=>?_)
 case hS16L1=>
  intro _
  (try dsimp only)
  (first|exact⟨x0,y7,y5,z9⟩|exact⟨z0,z1,z2,z3⟩|exact⟨t0,t1,t2,t3⟩|exact⟨(((Gr.new w6 _)).cell lW6).trans z0,(((Gr.new w6 _)).cell lK).trans z1,(((Gr.new w6 _)).cell lK).trans z2,(((Gr.new w6 _)).cell lP6).trans z3⟩)
 clear HK
 (try simp only [Act.put,zs])
 refine aM (i:=17) (by kernel_rfl) rfl hcl (λK' hK=>?_)
 have HK:=Lib.hid hK;clear hK
 (first|(go_at_call 144;refine(Rd.out _ ?_).mono ?_;(exact(Chg.refl _ _).drew);rintro e w6 ⟨rfl,hm1,hc1⟩;have hc1':Chg (bO I.bm I.bw) w w6:=hc0.trans hc1;have z0:=aJ hc1' S2.out x0;have z1:=aJ hc1' Nb.out y7;have z2:=aJ hc1' Nb.out y5;have z3:=aJ hc1' (NB.out _ HrgB.out) z9;have hb6:=Hb.out.chg hc1' NB.out;have nU:=fJ Hrow.out hc1' (λg e=>NB.out g (NR.out g e));have lK:=hb6.lt;have lW6:I.bW<w6.heap.size:=World.block_lt_of_cell? _ _ z0;have lP6:rg<w6.heap.size:=World.block_lt_of_cell? _ _ z3)|(refine step_append_lies _ (by rfl) _ _ _ (by rfl) 0 40 k0 _ 1 8 Try.underlying28 hk0 hu0 hu1 hu2 rfl (by omega) _ _ _ (by rfl) (nU.alloc _) ⟨w6.heap.size,0,none⟩ 1 1 [.int .u64 (g:Int)] (by rfl) (by rfl) (World.news_of_block (cs:=#[.int .u64 (g:Int)]) (t:=40) (fr:=(0,0)) (heap_alloc_new w6 _)) (by simp [Value.oneCell']) (by omega) (by unfold maxLen;(try dsimp only);omega) (by(try dsimp only);omega) (by simp) (w6.heap.size+1) (by simp) ?_;intro g8 wB w8 oC jH vI BS;have hc8:Chg (λk=>(Value.slice na a nc).ownBlock=some k) w6 w8:=((Chg.refl _ w6).alloc _).grown jH (λg hg=>.inl hg);have t0:=aJ hc8 (λe=>(HB.out _ (NR.out _ e)).2 (.inl rfl)) z0;have t1:=aJ hc8 (λe=>(NRb.out _ e).1 rfl) z1;have t2:=aJ hc8 (λe=>(NRb.out _ e).1 rfl) z2;have t3:=aJ hc8 (λe=>(NRb.out _ e).2 rfl) z3;have tf:=aC ((hc8.block b lK (λe=>(NRb.out _ e).1 rfl)).trans hb6.blk) 7;have tl:b<w8.heap.size:=Nat.lt_of_lt_of_le lK hc8.size))
 refine HK.out _ _ ?hS17L1 (λhcl=>?_)
 case hS17L1=>
  intro _
  (try dsimp only)
  (first|exact⟨x0,y7,y5,z9⟩|exact⟨z0,z1,z2,z3⟩|exact⟨t0,t1,t2,t3⟩|exact⟨(((Gr.new w6 _)).cell lW6).trans z0,(((Gr.new w6 _)).cell lK).trans z1,(((Gr.new w6 _)).cell lK).trans z2,(((Gr.new w6 _)).cell lP6).trans z3⟩)
 clear HK
 (try simp only [Act.put,zs])
 refine aM (i:=18) (by kernel_rfl) rfl hcl (λK' hK=>?_)
 have HK:=Lib.hid hK;clear hK
 ((rw [if_pos (by kernel_rfl)]);(try simp only [zq1,zq2,zq3]);first|go_big_move|go_big_op)
 refine HK.out _ _ ?hS18L1 (λhcl=>?_)
 case hS18L1=>
  intro _
  (try dsimp only)
  (first|exact⟨x0,y7,y5,z9⟩|exact⟨z0,z1,z2,z3⟩|exact⟨t0,t1,t2,t3⟩|exact⟨(((Gr.new w6 _)).cell lW6).trans z0,(((Gr.new w6 _)).cell lK).trans z1,(((Gr.new w6 _)).cell lK).trans z2,(((Gr.new w6 _)).cell lP6).trans z3⟩)
 clear HK
 (try simp only [Act.put,zs])
 refine aM (i:=19) (by kernel_rfl) rfl hcl (λK' hK=>?_)
 have HK:=Lib.hid hK;clear hK
 ((rw [if_pos (by kernel_rfl)]);(try simp only [zq1,zq2,zq3]);first|go_big_move|go_big_op)
 refine HK.out _ _ ?hS19L1 (λhcl=>?_)
 case hS19L1=>
  intro _
  (try dsimp only)
  (first|exact⟨x0,y7,y5,z9⟩|exact⟨z0,z1,z2,z3⟩|exact⟨t0,t1,t2,t3⟩|exact⟨(((Gr.new w6 _)).cell lW6).trans z0,(((Gr.new w6 _)).cell lK).trans z1,(((Gr.new w6 _)).cell lK).trans z2,(((Gr.new w6 _)).cell lP6).trans z3⟩)
 clear HK
 (try simp only [Act.put,zs])
 refine aM (i:=20) (by kernel_rfl) rfl hcl (λK' hK=>?_)
 have HK:=Lib.hid hK;clear hK
 ((rw [if_pos (by kernel_rfl)]);(try simp only [zq1,zq2,zq3]);first|go_big_move|go_big_op)
 refine HK.out _ _ (λh=>by cases h.symm.trans (by kernel_rfl:_=true)) (λ_=>fD (by kernel_rfl) ?_ _)
 clear HK
 (try clear hS)
 obtain⟨hw1,nV⟩:=Hw.out.mems hc1' hm1
 obtain⟨w9,kL⟩:∃ w9,w9=w8.setCell ⟨b,7,none⟩ (.slice (some ⟨g8,0,none⟩) (a+1) wB):=⟨_,rfl⟩
 have gW:gN w8 (.slice (some ⟨g8,0,none⟩) (a+1) wB) (s.list++[g]):=by
  have e1:(s.list++[g]).length=a+1:=by rw [List.length_append,<-Ha.out];rfl
  have e2:(s.list++[g]).map cZ=xs++[.int .u64 (g:Int)]:=by rw [List.map_append,<-Hxs.out];rfl
  show World.ownsRow _ 0 _ 1 _ (s.list++[g]).length ((s.list++[g]).map cZ)
  rw [e1,e2];exact oC
 obtain⟨A9,T9⟩:=hb6.addList (w1:=w8) (lv:=.slice (some ⟨g8,0,none⟩) (a+1) wB) (l:=s.list++[g]) (by rw [Hnv.out];exact hc8) gW (λj e=>by
  have e':g8=j:=Option.some.inj e
  rw [<-e',Hnv.out]
  exact vI.imp_right (λh9=>by omega))
 rw [<-kL] at A9 T9 ⊢
 have HA9:=Lib.hid A9;have HT9:=Lib.hid T9
 have FIN:=Lib.hid (λ(w':World) (v':MuV) (s':MuD) (hA:MuAt w' b bP v' s') (hto:gQ w6 w' b v v')=>(show jF w w' Mut I NW (dM wd x) b bP v s' (.returned (.bool (aS s'))) from
  ⟨rfl,v',hA,sM (S:=λk=>bC I k∨MuB b v k) (nV.mono (λ_ _ h=>.inl h)) hto.chg (λ_ _ h=>.inr h),λj hj=>(hto.own j hj).imp_right (λh9=>Nat.le_trans nV.size h9),⟨w6,MuB b v,hw1,hto.chg,HB.out,λg hg=>(hto.own g hg).imp_left (λh9=>(HB.out g h9).1)⟩⟩))
 clear hw1 nV hc1 hc1' hm1 hb6 z0 z1 z2 z3 nU lK lW6 lP6 oC jH vI BS hc8 t0 t1 t2 t3 tf tl kL gW A9 T9 x0 y7 y5 z9 y6 hc0
 have y5':w9.cell? ⟨b,5,none⟩=some (.slice (some ⟨rg,ro,none⟩) R rc):=(HA9.out.get 5).trans (by rw [<-Hrv.out];rfl)
 have f5:=HA9.out.frozen 5
 have l5:=HA9.out.lt
 have l4:(1:Int)<=(R:Int):=by omega
 have hMu:MuAt (w9.setCell ⟨b,5,none⟩ (.slice (if rc=1 then some ⟨rg,ro,none⟩ else some ⟨rg,ro+1,none⟩) (R - 1) (rc - 1))) b bP { v with lv:=.slice (some ⟨g8,0,none⟩) (a+1) wB,rv:=.slice (if rc=1 then some ⟨rg,ro,none⟩ else some ⟨rg,ro+1,none⟩) (R - 1) (rc - 1) } { s with list:=s.list++[g],reads:=r }/\gQ w9 (w9.setCell ⟨b,5,none⟩ (.slice (if rc=1 then some ⟨rg,ro,none⟩ else some ⟨rg,ro+1,none⟩) (R - 1) (rc - 1))) b { v with lv:=.slice (some ⟨g8,0,none⟩) (a+1) wB } { v with lv:=.slice (some ⟨g8,0,none⟩) (a+1) wB,rv:=.slice (if rc=1 then some ⟨rg,ro,none⟩ else some ⟨rg,ro+1,none⟩) (R - 1) (rc - 1) }:=by
  have hrl:r.length=R - 1:=by have:=HR1.out;omega
  have hcl:=Hrc.out
  obtain⟨a9,c9,e9,_,QJ⟩:=HA9.out.rds
  have e8:(Value.slice a9 s.reads.length c9)=.slice (some ⟨rg,ro,none⟩) s.reads.length rc:=by rw [<-HRR.out];rw [<-HRR.out] at e9;exact e9.symm.trans Hrv.out
  cases e8
  have RL:aW w9 (some ⟨rg,ro,none⟩) (x::r).length 1 (qB (x::r)):=by rw [<-Hrd.out];exact QJ
  have h9:=HA9.out.setReads (a:=if rc=1 then some ⟨rg,ro,none⟩ else some ⟨rg,ro+1,none⟩) (c:=rc - 1) (r:=r) Hch.out (by omega) (by
   split
   ·rename_i hc1
    have hr0:r=[]:=List.eq_nil_of_length_eq_zero (by omega)
    subst hr0
    exact aW.nil _ _ _ _
   ·exact uC RL) (λj e=>by
   show v.rv.ownBlock=some j
   rw [Hrv.out]
   split at e<;>exact e)
  rw [hrl] at h9
  exact h9
 have HMu:=Lib.hid hMu
 clear hMu
 go_upto_region 4 with fail
 obtain⟨RV,hRV⟩:∃ RV,RV=Value.slice (if rc=1 then some ⟨rg,ro,none⟩ else some ⟨rg,ro+1,none⟩) (R - 1) (rc - 1):=⟨_,rfl⟩
 rw [<-hRV] at HMu ⊢
 clear hRV
 obtain⟨w10,BC⟩:∃ w10,w10=w9.setCell ⟨b,5,none⟩ RV:=⟨_,rfl⟩
 rw [<-BC]
 rw [<-BC] at HMu
 have NG:=Lib.hid (tC w10 b bP _ _ HMu.out.1 Hch.out (by
  have h8:=Hl.out
  rw [Hrd.out] at h8
  simp only [List.length_cons] at h8
  show r.length+(s.list++[g]).length<=1000
  rw [List.length_append,List.length_singleton]
  omega))
 have HT10:=Lib.hid (HT9.out.trans HMu.out.2)
 clear BC y5' f5 l5 HMu HA9 HT9
 go_wp2_with fail
 refine NG.out.mono ?_
 rintro e w11 ⟨rfl,v5,hM5,yU⟩
 obtain⟨s5,hs5⟩:∃ s5,s5=bJ m q wd s:=⟨_,rfl⟩
 rw [<-Hgo.out,<-hs5] at hM5
 have F0:=FIN.out w11 v5 s5 hM5 (HT10.out.trans yU)
 have F':jF w w11 Mut I NW (dM wd x) b bP v (bJ m q wd s) (.returned (.bool (aS s5))):=by rw [<-hs5];exact F0
 clear F0
 have rE:s5.chosen=true:=by rw [hs5,Hgo.out];exact Hch.out
 have e6:w11.cell? ⟨b,6,none⟩=some (.bool s5.chosen):=hM5.get 6
 obtain⟨ra,rc,hrv,_,_⟩:=hM5.rds
 obtain⟨R,hR⟩:∃ R,R=s5.reads.length:=⟨_,rfl⟩
 rw [<-hR] at hrv
 have e5:w11.cell? ⟨b,5,none⟩=some (.slice ra R rc):=(hM5.get 5).trans (by rw [<-hrv];rfl)
 rw [rE] at e6
 by_cases hR0:R=0
 ·have e:aS s5=true:=by unfold aS;rw [rE,List.eq_nil_of_length_eq_zero (hR.symm.trans hR0)];rfl
  rw [e] at F'
  have F2:=Lib.hid F'
  clear F' hM5 yU hs5 hR hrv e rE
  subst hR0
  go_wp2
  go_ret
  exact F2.out
 ·have e:aS s5=false:=by
   unfold aS
   rw [rE,decide_eq_false (λe=>hR0 (by rw [hR,e];rfl))];rfl
  have l3:¬ (R:Int)=0:=by omega
  have l4:((R:Int) == 0)=false:=by simp;omega
  rw [e] at F'
  have F2:=Lib.hid F'
  clear F' hM5 yU hs5 hR hrv e rE hR0
  go_wp2
  go_ret
  exact F2.out
end
section
open Go.RowKit
structure nA (m q:Nat) (wd:WD) (s:MuD):Prop where
 val:s.chosen=true->∃ x r,s.reads=x::r/\x<=1000000/\s.reads.length+s.list.length<=1000
 col:s.chosen=false->s.now.length<m/\s.list=[]/\(s.now.length+1=m->(s.old=[]∨s.old.length=m)/\(∀ k,(s.now++[dP wd s.now.length]).getD k 0<=1000000)/\(s.old≠[]->∀ k,k<m->s.old.getD k 0≠(s.now++[dP wd s.now.length]).getD k 0->m<=(s.now++[dP wd s.now.length]).getD k 0/\(s.now++[dP wd s.now.length]).getD k 0<=1000000/\aX m q ((s.now++[dP wd s.now.length]).getD k 0)<16)/\(s.old≠[]->∀ d A,fU m q s.old (s.now++[dP wd s.now.length]) m 0 s.noted=(d,some A)->A<=1000000/\wd.traces (A:Int)≠[]))
theorem mu_step (n m q bU:Nat) (hm:1<=m) (dF:m<=16) (hq:1<=q) (dQ:q<=64) (w:World) (Mut:Nat->Prop) (I:eO) (NW:Nat) (b bP:Nat) (v:MuV) (s:MuD) (wd:WD) (hw:aT w Mut I NW wd) (hB:∀ j,MuB b v j->Mut j/\¬ bC I j) (h:MuAt w b bP v s) (hP:w.heap[bP]?=some (.cells (jM n m q bU) 89 (0,0))) (hbP:¬ MuB b v bP) (hPW:¬ bC I bP) (hcn:wd.mem.c.all+1<1000000000000) (hl:nA m q wd s) :
  Calls Try.prog 172 #[.pointer (some ⟨b,0,none⟩),.pointer (some ⟨I.bW,0,none⟩)] w λe w'=>jF w w' Mut I NW (jJ wd s) b bP v (bJ m q wd s) e:=by
 cases hc:s.chosen with
 | true=>
  obtain⟨x,r,h1,h2,h3⟩:=hl.val hc
  exact MO m q w Mut I NW b bP v s wd hw hB h hc x r h1 h2 hcn h3
 | false=>
  obtain⟨h1,h2,h3⟩:=hl.col hc
  exact CW n m q bU hm dF hq dQ w Mut I NW b bP v s wd hw hB h hP hbP hPW hc h1 hcn h2 h3
end
end Go.Proofs.Ytifhldnmcdbpfaa
