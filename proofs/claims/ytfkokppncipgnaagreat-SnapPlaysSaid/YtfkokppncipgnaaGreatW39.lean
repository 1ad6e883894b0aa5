/- Layer 15: a scan's step: to read a value, to borrow one. -/
import Derived.Test.YtfkokppncipgnaaGreatW38
set_option maxRecDepth 100000
set_option linter.unusedVariables false
set_option linter.unusedSimpArgs false
set_option linter.unnecessarySimpa false
namespace Go.Proofs.YtfkokppncipgnaaGreat
open List renaming getElem_toArray → zq1, getElem_cons_zero → zq2, getElem_cons_succ → zq3, setIfInBounds_toArray → zq4, set_cons_zero → zq5, set_cons_succ → zq6
section
open Go.RowKit
set_option maxHeartbeats 8000000 in
theorem WZ (n k:Nat) (us:List Nat) (hn:n<=16) (w:World) (Mut:Nat->Prop) (I:iM) (N:Nat) (wd:WD) (b bP:Nat) (s:ScD) (lv:Value) (hw:bJ w Mut I N wd) (hbM:Mut b/\¬ cK I b) (hlM:∀ g,lv.ownBlock=some g->Mut g/\¬ cK I g/\g≠bP/\g≠b) (hb:aR w b bP s lv) (hrow:w.ownsRow 0 46 1 lv s.list.length (s.list.map bI)) (hne:bP≠b) (hPW:¬ cK I bP) (hP:w.heap[bP]?=some (.cells (jB n k us).toArray 114 (0,0))) (hpc:s.pc=1) (hat:s.at_<n) (hla:s.list.length=s.at_) (hT:wd.now<1000000000) (hcn:wd.mem.c.all+1<1000000000000) (hr:s.now.getD s.at_ 0<1000000) :
  Calls Tryz.prog 217 #[.pointer (some ⟨b,0,none⟩),.pointer (some ⟨I.bW,0,none⟩)] w λe w'=>xS w w' Mut I N (vQ wd s) b bP lv (bE n wd s) e:=by
 obtain⟨s1,s2,s3⟩:=jZ hw
 obtain⟨mks,hwb,_,_⟩:=hw.blk
 have x0:w.cell? ⟨I.bW,0,none⟩=some (.pointer (some ⟨I.bm,0,none⟩)):=by rw [aA hwb];exact kE
 have y1:=hb.pc
 rw [hpc] at y1
 obtain⟨a,ha⟩:∃ a,a=s.at_:=⟨_,rfl⟩
 have y2:w.cell? ⟨b,2,none⟩=some (.int .i64 (a:Int)):=by rw [ha];exact hb.at_
 obtain⟨r,hrr⟩:∃ r,r=s.now.getD a 0:=⟨_,rfl⟩
 have hr1:r<1000000:=by rw [hrr,ha];exact hr
 have y3:w.cell? ⟨b,20+a,none⟩=some (.int .u64 (r:Int)):=by rw [hrr];exact hb.now (by omega)
 obtain⟨la,lc,rfl⟩:∃ la lc,lv=.slice la a lc:=by obtain⟨p,q,e⟩:=dX hrow;exact⟨p,q,by rw [e,hla,ha]⟩
 have y4:=hb.list
 have nb:¬ bY I.bm I.bw b:=λh=>hbM.2 (s3 b h).1
 have nP:¬ bY I.bm I.bw bP:=λh=>hPW (s3 bP h).1
 have nR:∀ g,(Value.slice la a lc).ownBlock=some g->¬ bY I.bm I.bw g:=λg hg h=>(hlM g hg).2.1 (s3 g h).1
 have nRW:∀ g,(Value.slice la a lc).ownBlock=some g->g≠I.bW:=λg hg e=>(hlM g hg).2.1 (.inl e)
 have hbW:I.bW≠b:=λe=>hbM.2 (.inl e.symm)
 have hadr:bK s=r:=by unfold bK;rw [if_neg (by omega),if_pos hpc,hrr,ha]
 have Rd:=Lib.hid (λ(u:World) (h:Chg noB w u)=>OO I.bm I.bw wd.mem (r:Int) u (hw.mem.chg h (λh=>h) (λ_ _ h=>h)) hcn)
 obtain⟨g,hg⟩:∃ g,g=dZ wd r:=⟨_,rfl⟩
 rw [show(bL wd.mem (r:Int)).2=g from hg.symm] at Rd
 have hwd':vQ wd s=eY wd r:=by unfold vQ;rw [hadr]
 have hgo:bE n wd s=dI n n { s with list:=s.list++[g],at_:=a+1 }:=by
  unfold bE jJ
  rw [if_neg (by omega),if_pos hpc,hadr,<-hg,ha]
 have Hrr:=Lib.hid hrr
 clear hrr hr
 have wa1:IntKind.i64.wrap ((a:Int)+1)=(a:Int)+1:=by rw [IntKind.wrap_i64];omega
 have wr0:IntKind.i64.wrap (r:Int)=(r:Int):=by rw [IntKind.wrap_i64];omega
 have l16:(a:Int)<16:=by omega
 have hblt:=hb.lt
 have hc0:Chg (bY I.bm I.bw) w w.drew:=(Chg.refl _ w).drew
 obtain⟨xs,hxs⟩:∃ xs,xs=s.list.map bI:=⟨_,rfl⟩
 rw [hla,<-ha,<-hxs] at hrow
 obtain⟨k0,hk0,hu0,hu1,hu2⟩:=info_parts xG
 rw [hwd']
 have ha16:a<=16:=by omega
 have Hw:=Lib.hid hw;have Hb:=Lib.hid hb;have Nb:=Lib.hid nb;have NP:=Lib.hid nP;have S2:=Lib.hid s2;have HbM:=Lib.hid hbM;have Hne:=Lib.hid hne;have HP:=Lib.hid hP;have Hg:=Lib.hid hg;have Hgo:=Lib.hid hgo;have Ha:=Lib.hid ha;have Hpc:=Lib.hid hpc;have HPW:=Lib.hid hPW;have Hrow:=Lib.hid hrow;have NR:=Lib.hid nR;have NRW:=Lib.hid nRW;have HlM:=Lib.hid hlM;have Hxs:=Lib.hid hxs;have Hla:=Lib.hid hla;have HbW:=Lib.hid hbW;have Hat:=Lib.hid hat
 clear hw hb nb nP s1 s2 s3 hbM hne hP hg hgo hwd' hadr hwb hpc hPW ha hcn hrow nR nRW hlM hxs hla hbW hat
 go_enter Tryz.func217,Tryz.ntmps217
 go_upto_region 8 with fail
 refine bU ((λu=>u.cell? ⟨I.bW,0,none⟩=some (.pointer (some ⟨I.bm,0,none⟩))/\u.cell? ⟨b,2,none⟩=some (.int .i64 (a:Int))/\u.cell? ⟨b,20+a,none⟩=some (.int .u64 (r:Int))/\u.cell? ⟨b,54,none⟩=some (.slice la a lc))) 24 (by kernel_rfl) ?hS0L1 ?_
 case hS0L1=>
  (exact⟨x0,y2,y3,y4⟩)
 intro hS hcl
 refine wL (i:=0) 25 rfl hcl hS ?_
 clear hcl;intro hcl
 (simp only [Act.put,zs])
 refine wL (i:=1) 25 rfl hcl hS ?_
 clear hcl;intro hcl
 (simp only [Act.put,zs])
 refine wL (i:=2) 25 rfl hcl hS ?_
 clear hcl;intro hcl
 (simp only [Act.put,zs])
 refine wL (i:=3) 25 rfl hcl hS ?_
 clear hcl;intro hcl
 (simp only [Act.put,zs])
 refine wL (i:=4) 25 rfl hcl hS ?_
 clear hcl;intro hcl
 (simp only [Act.put,zs])
 refine wL (i:=5) 25 rfl hcl hS ?_
 clear hcl;intro hcl
 (simp only [Act.put,zs])
 refine wL (i:=6) 25 rfl hcl hS ?_
 clear hcl;intro hcl
 (simp only [Act.put,zs])
 refine wL (i:=7) 25 rfl hcl hS ?_
 clear hcl;intro hcl
 (simp only [Act.put,zs])
 refine wL (i:=8) 25 rfl hcl hS ?_
 clear hcl;intro hcl
 (simp only [Act.put,zs])
 refine wL (i:=9) 25 rfl hcl hS ?_
 clear hcl;intro hcl
 (simp only [Act.put,zs])
 refine wL (i:=10) 25 rfl hcl hS ?_
 clear hcl;intro hcl
 (simp only [Act.put,zs])
 refine wL (i:=11) 25 rfl hcl hS ?_
 clear hcl;intro hcl
 (simp only [Act.put,zs])
 refine wL (i:=12) 25 rfl hcl hS ?_
 clear hcl;intro hcl
 (simp only [Act.put,zs])
 refine wL (i:=13) 25 rfl hcl hS ?_
 clear hcl;intro hcl
 (simp only [Act.put,zs])
 refine wL (i:=14) 25 rfl hcl hS ?_
 clear hcl;intro hcl
 (simp only [Act.put,zs])
 refine wL (i:=15) 25 rfl hcl hS ?_
 clear hcl;intro hcl
 (simp only [Act.put,zs])
 refine wL (i:=16) 25 rfl hcl hS ?_
 clear hcl;intro hcl
 (simp only [Act.put,zs])
 refine wL (i:=17) 25 rfl hcl hS ?_
 clear hcl;intro hcl
 (simp only [Act.put,zs])
 refine wL (i:=18) 25 rfl hcl hS ?_
 clear hcl;intro hcl
 (simp only [Act.put,zs])
 refine aL (i:=19) (by kernel_rfl) rfl hcl (λK' hK=>?_)
 have HK:=Lib.hid hK;clear hK
 ((rw [if_pos (by kernel_rfl)]);(simp only [zq1,zq2,zq3]);go_big_op)
 ((go_at_call 162;refine(Rd.out _ ?_).mono ?_;(exact(Chg.refl _ _).drew);rintro e w6 ⟨rfl,hm1,hc1⟩;have hc1':Chg (bY I.bm I.bw) w w6:=hc0.trans hc1;have z0:=aW hc1' S2.out x0;have hb6:=Hb.out.chg hc1' Nb.out;have z2:=aW hc1' Nb.out y2;have z3:=aW hc1' Nb.out y3;have z4:=aW hc1' Nb.out y4;have FV:=bB Hrow.out hc1' NR.out;have Fy:=hb6.lt;have lW6:I.bW<w6.heap.size:=World.block_lt_of_cell? _ _ z0))
 refine HK.out _ _ ?hS19L1 (λhcl=>?_)
 case hS19L1=>
  intro _
  (exact⟨z0,z2,z3,z4⟩)
 clear HK
 refine aL (i:=20) (by kernel_rfl) rfl hcl (λK' hK=>?_)
 have HK:=Lib.hid hK;clear hK
 ((rw [if_pos (by kernel_rfl)]);(simp only [zq1,zq2,zq3]);go_big_op)
 refine HK.out _ _ ?hS20L1 (λhcl=>?_)
 case hS20L1=>
  intro _
  (exact⟨(((Gr.new w6 _)).cell lW6).trans z0,(((Gr.new w6 _)).cell Fy).trans z2,(((Gr.new w6 _)).cell Fy).trans z3,(((Gr.new w6 _)).cell Fy).trans z4⟩)
 clear HK
 refine aL (i:=21) (by kernel_rfl) rfl hcl (λK' hK=>?_)
 have HK:=Lib.hid hK;clear hK
 ((refine step_append_lies _ (by rfl) _ _ _ (by rfl) 0 46 k0 _ 1 8 Tryz.underlying28 hk0 hu0 hu1 hu2 rfl (by omega) _ _ _ (by rfl) (FV.alloc _) ⟨w6.heap.size,0,none⟩ 1 1 [.int .u64 (g:Int)] (by rfl) (by rfl) (World.news_of_block (cs:=#[.int .u64 (g:Int)]) (t:=46) (fr:=(0,0)) (heap_alloc_new w6 _)) (by simp [Value.oneCell']) (by omega) (by unfold maxLen;omega) (by skip;omega) (by simp) (w6.heap.size+1) (by simp) ?_;intro g8 xL w8 kQ dU vI KF;have NZ:=(dU.block _ (by simp;omega) (λe=>(HlM.out _ e.symm).2.2.2 rfl)).trans ((((Gr.new w6 _)).block _ Fy).trans hb6.blk);have OH:aR w8 b bP s (.slice la a lc):=⟨NZ,hb6.l1,hb6.l2,hb6.l3⟩;have t0:=((dU.cell_far _ (by simp;omega) (λe=>NRW.out _ e.symm rfl)).trans ((((Gr.new w6 _)).cell lW6).trans z0));have t2:w8.cell? ⟨b,2,none⟩=some (.int .i64 (a:Int)):=(by rw [OH.at_,Ha.out]);have t3:w8.cell? ⟨b,20+a,none⟩=some (.int .u64 (r:Int)):=(by rw [Hrr.out];exact OH.now (by omega));have t4:=OH.list;have tf:=OH.frozen 54;have tl:=OH.lt))
 refine HK.out _ _ ?hS21L1 (λhcl=>?_)
 case hS21L1=>
  intro _
  (exact⟨t0,t2,t3,t4⟩)
 clear HK
 (simp only [Act.put,zs])
 refine aL (i:=22) (by kernel_rfl) rfl hcl (λK' hK=>?_)
 have HK:=Lib.hid hK;clear hK
 ((rw [if_pos (by kernel_rfl)]);(simp only [zq1,zq2,zq3]);go_big_op)
 refine HK.out _ _ ?hS22L1 (λhcl=>?_)
 case hS22L1=>
  intro _
  (exact⟨t0,t2,t3,t4⟩)
 clear HK
 refine aL (i:=23) (by kernel_rfl) rfl hcl (λK' hK=>?_)
 have HK:=Lib.hid hK;clear hK
 ((rw [if_pos (by kernel_rfl)]);(simp only [zq1,zq2,zq3]);go_big_op)
 refine HK.out _ _ ?hS23L1 (λhcl=>?_)
 case hS23L1=>
  intro _
  (exact⟨t0,t2,t3,t4⟩)
 clear HK
 refine aL (i:=24) (by kernel_rfl) rfl hcl (λK' hK=>?_)
 have HK:=Lib.hid hK;clear hK
 ((rw [if_pos (by kernel_rfl)]);(simp only [zq1,zq2,zq3]);go_big_op)
 refine HK.out _ _ (λh=>by cases h.symm.trans (by kernel_rfl:_=true)) (λ_=>bV (by kernel_rfl) ?_ _)
 clear HK
 (clear hS)
 obtain⟨hw1,wO⟩:=Hw.out.mems hc1' hm1
 obtain⟨w10,wS⟩:∃ w10,w10=(w8.setCell ⟨b,54,none⟩ (.slice (some ⟨g8,0,none⟩) (a+1) xL)).setCell ⟨b,2,none⟩ (.int .i64 ((a:Int)+1)):=⟨_,rfl⟩
 have uZ:aR (w8.setCell ⟨b,54,none⟩ (.slice (some ⟨g8,0,none⟩) (a+1) xL)) b bP { s with list:=s.list++[g] } (.slice (some ⟨g8,0,none⟩) (a+1) xL):=OH.setList (s.list++[g]) (.slice (some ⟨g8,0,none⟩) (a+1) xL)
 have q2:(w8.setCell ⟨b,54,none⟩ (.slice (some ⟨g8,0,none⟩) (a+1) xL)).cell? ⟨b,2,none⟩=some (.int .i64 (a:Int)):=by rw [uZ.at_,Ha.out]
 have qf:=uZ.frozen 2
 have qlt:=uZ.lt
 have RO:aR w10 b bP { s with list:=s.list++[g],at_:=a+1 } (.slice (some ⟨g8,0,none⟩) (a+1) xL):=by rw [wS];exact uZ.setAt (a+1)
 have EB:Chg (λk=>k=b) w8 w10:=by rw [wS];exact((Chg.refl (λk=>k=b) w8).setCell (p:=⟨b,54,none⟩) (.inl rfl) _).setCell (p:=⟨b,2,none⟩) (.inl rfl) _
 have hgb:g8≠b:=by
  rcases vI with h|h
  ·exact(HlM.out g8 h).2.2.2
  ·omega
 have UV:=bB kQ EB (λg hg e=>hgb (by cases hg;exact e))
 have Yf:Chg (λg=>(Value.slice la a lc).ownBlock=some g) w6 w8:=((Chg.refl _ w6).alloc _).grown dU (λg hg=>.inl hg)
 have yJ:Chg (λg=>(Value.slice la a lc).ownBlock=some g∨g=b) w6 w10:=(Yf.mono (λg _ h=>.inl h)).trans (EB.mono (λg _ h=>.inr h))
 have WH:=fT hw1 yJ (λk hk=>by
  rcases hk with hk|hk
  ·exact⟨(HlM.out k hk).1,(HlM.out k hk).2.1⟩
  ·rw [hk];exact HbM.out)
 have hall:Chg (λk=>cK I k∨k=b∨(Value.slice la a lc).ownBlock=some k) w w10:=(wO.mono (λ_ _ h=>.inl h)).trans (yJ.mono (λ_ _ h=>.inr (h.elim .inr .inl)))
 have MX:∀ g',(Value.slice (some ⟨g8,0,none⟩) (a+1) xL).ownBlock=some g'->((Value.slice la a lc).ownBlock=some g'∨w.heap.size<=g')/\g'≠b/\g'<w10.heap.size:=λg' hg'=>by
  cases hg'
  refine⟨?_,hgb,Nat.lt_of_lt_of_le KF EB.size⟩
  rcases vI with h|h
  ·exact .inl h
  ·right;show w.heap.size<=g8;have:=hc1'.size;omega
 have OE:w10.ownsRow 0 46 1 (.slice (some ⟨g8,0,none⟩) (a+1) xL) (s.list++[g]).length ((s.list++[g]).map bI):=by
  have e1:(s.list++[g]).length=a+1:=by rw [List.length_append,Hla.out,<-Ha.out];rfl
  have e2:(s.list++[g]).map bI=xs++[.int .u64 (g:Int)]:=by rw [List.map_append,<-Hxs.out];rfl
  rw [e1,e2];exact UV
 have hP10:w10.heap[bP]?=some (.cells (jB n k us).toArray 114 (0,0)):=by
  refine(yJ.block bP ?_ (λh=>?_)).trans ((hc1'.block bP (aC HP.out) NP.out).trans HP.out)
  ·exact Nat.lt_of_lt_of_le (aC HP.out) hc1'.size
  ·rcases h with h|h
   ·exact(HlM.out _ h).2.2.1 rfl
   ·exact Hne.out h
 have Hb10:=Lib.hid RO;have Hw10:=Lib.hid wS;have Hw10':=Lib.hid WH;have Hall:=Lib.hid hall;have Hown10:=Lib.hid MX;have Hrow10:=Lib.hid OE;have HP10:=Lib.hid hP10;have Hw6:=Lib.hid hw1;have Hc610:=Lib.hid yJ;have Hg8:=Lib.hid (show(Value.slice la a lc).ownBlock=some g8∨w6.heap.size<=g8 from vI.elim .inl (λh=>.inr (by omega)))
 clear hw1 wO hc1 hc1' hm1 hb6 z0 z2 z3 z4 FV Fy lW6 kQ dU vI KF NZ OH t0 t2 t3 t4 tf tl wS uZ RO EB hgb UV Yf yJ WH hall MX OE hP10 x0 y1 y2 y3 y4 hc0 hblt
 go_upto_region 10 with fail
 rw [<-Hw10.out]
 clear q2 qf qlt
 have PS:=Lib.hid (QE n hn w10 b bP { s with list:=s.list++[g],at_:=a+1 } (.slice (some ⟨g8,0,none⟩) (a+1) xL) ⟨Hb10.out,Hrow10.out,Chg.refl _ _,λg hg=>⟨.inl hg,(Hown10.out g hg).2⟩⟩ Hne.out (by rw [aA HP10.out];rfl) (λe=>by
  have e':g8=bP:=by cases e;rfl
  rcases(Hown10.out g8 rfl).1 with h|h
  ·exact(HlM.out g8 h).2.2.1 e'
  ·have:=aC HP.out;omega) (by show a+1<=n;have:=Hat.out;have:=Ha.out;omega) (by show(s.list++[g]).length<=16;rw [List.length_append,Hla.out];have:=Hat.out;show s.at_+1<=16;omega) (by show(s.list++[g]).length=a+1;rw [List.length_append,Hla.out,<-Ha.out];rfl))
 go_wp2_with fail
 refine PS.out.mono ?_
 rintro e w11 ⟨rfl,lv',hr⟩
 obtain⟨s5,hs5⟩:∃ s5,s5=bE n wd s:=⟨_,rfl⟩
 rw [<-Hgo.out,<-hs5] at hr
 obtain⟨pc,TH⟩:∃ pc,pc=s5.pc:=⟨_,rfl⟩
 have e1:w11.cell? ⟨b,1,none⟩=some (.int .i64 (pc:Int)):=by rw [TH];exact hr.blk.pc
 have hp0:s5.pc≠0:=by
  rw [hs5,Hgo.out];exact LQ (by show s.pc≠0;have:=Hpc.out;omega)
 have F:=Lib.hid (show xS w w11 Mut I N (eY wd r) b bP (.slice la a lc) s5 (.returned (.bool (decide (pc=3)))) from by
  have hlN:∀ g',(Value.slice (some ⟨g8,0,none⟩) (a+1) xL).ownBlock=some g'->Mut g'/\¬ cK I g'∨w.heap.size<=g':=λg' hg'=>(Hown10.out g' hg').1.elim (λh=>.inl ⟨(HlM.out g' h).1,(HlM.out g' h).2.1⟩) .inr
  refine⟨by rw [TH],?_,lv',?_,hr.blk,hr.row,λg' hg'=>?_,λe=>absurd e hp0⟩
  ·have h9:Chg (λk=>(cK I k∨k=b∨(Value.slice la a lc).ownBlock=some k)∨w.heap.size<=k) w w11:=(Hall.out.mono (λ_ _ h=>.inl h)).trans (hr.chg.mono (λk _ h=>h.elim (λh=>.inl (.inr (.inl h))) (λh=>((Hown10.out k h).1).elim (λh=>.inl (.inr (.inr h))) .inr)))
   exact h9.mono (λk hk h=>h.elim id (λh=>absurd h (by omega)))
  ·have h9:Chg (λk=>((Value.slice la a lc).ownBlock=some k∨k=b)∨w6.heap.size<=k) w6 w11:=(Hc610.out.mono (λ_ _ h=>.inl h)).trans (hr.chg.mono (λk _ h=>by
    rcases h with h|h
    ·exact .inl (.inr h)
    ·cases h
     exact Hg8.out.elim (λh=>.inl (.inl h)) .inr))
   refine⟨w6,_,Hw6.out,h9.mono (λk hk h=>h.elim id (λh=>absurd h (by omega))),λk hk=>?_,λg' hg'=>?_⟩
   ·rcases hk with hk|hk
    ·exact⟨(HlM.out k hk).1,(HlM.out k hk).2.1⟩
    ·rw [hk];exact HbM.out
   ·rcases(hr.own g' hg').1 with h|h
    ·cases h
     exact Hg8.out.elim (λh=>.inl (HlM.out _ h).1) .inr
    ·exact .inr (Nat.le_trans Hc610.out.size h)
  ·obtain⟨o1,o2,o3⟩:=hr.own g' hg'
   refine⟨?_,o2,o3⟩
   rcases o1 with h|h
   ·exact(Hown10.out g' h).1
   ·right;have:=Hall.out.size;omega)
 have Hgo2:=Lib.hid hs5
 clear hr hs5 hp0
 by_cases h3:pc=3
 ·have t3:((pc:Int) == 3)=true:=by rw [beq_iff_eq];omega
  have F2:=Lib.hid F.out
  rw [decide_eq_true h3,Hgo2.out] at F2
  clear TH h3
  go_wp2
  go_ret
  exact F2.out
 ·have t3:((pc:Int) == 3)=false:=by rw [beq_eq_false_iff_ne];omega
  have F2:=Lib.hid F.out
  rw [decide_eq_false h3,Hgo2.out] at F2
  clear TH h3
  go_wp2
  go_ret
  exact F2.out
set_option maxHeartbeats 8000000 in
theorem UA (n k:Nat) (us:List Nat) (hn:n<=16) (w:World) (Mut:Nat->Prop) (I:iM) (N:Nat) (wd:WD) (b bP:Nat) (s:ScD) (lv:Value) (hw:bJ w Mut I N wd) (hbM:Mut b/\¬ cK I b) (hlM:∀ g,lv.ownBlock=some g->Mut g/\¬ cK I g/\g≠bP/\g≠b) (hb:aR w b bP s lv) (hrow:w.ownsRow 0 46 1 lv s.list.length (s.list.map bI)) (hne:bP≠b) (hPW:¬ cK I bP) (hP:w.heap[bP]?=some (.cells (jB n k us).toArray 114 (0,0))) (hpc:s.pc=2) (hat:s.at_<n) (hla:s.list.length=s.at_) (hT:wd.now<1000000000) (hcn:wd.mem.c.all+1<1000000000000) (hf:s.from_<1000000) :
  Calls Tryz.prog 217 #[.pointer (some ⟨b,0,none⟩),.pointer (some ⟨I.bW,0,none⟩)] w λe w'=>xS w w' Mut I N (vQ wd s) b bP lv (bE n wd s) e:=by
 obtain⟨s1,s2,s3⟩:=jZ hw
 obtain⟨mks,hwb,_,_⟩:=hw.blk
 have x0:w.cell? ⟨I.bW,0,none⟩=some (.pointer (some ⟨I.bm,0,none⟩)):=by rw [aA hwb];exact kE
 have y1:=hb.pc
 rw [hpc] at y1
 obtain⟨a,ha⟩:∃ a,a=s.at_:=⟨_,rfl⟩
 have y2:w.cell? ⟨b,2,none⟩=some (.int .i64 (a:Int)):=by rw [ha];exact hb.at_
 obtain⟨f,hff⟩:∃ f,f=s.from_:=⟨_,rfl⟩
 obtain⟨r,hrr⟩:∃ r,r=f+1+a:=⟨_,rfl⟩
 have hf1:f<1000000:=by rw [hff];exact hf
 have hr1:r<2000000:=by omega
 have y3:w.cell? ⟨b,53,none⟩=some (.int .u64 (f:Int)):=by rw [hff];exact hb.from_
 obtain⟨la,lc,rfl⟩:∃ la lc,lv=.slice la a lc:=by obtain⟨p,q,e⟩:=dX hrow;exact⟨p,q,by rw [e,hla,ha]⟩
 have y4:=hb.list
 have nb:¬ bY I.bm I.bw b:=λh=>hbM.2 (s3 b h).1
 have nP:¬ bY I.bm I.bw bP:=λh=>hPW (s3 bP h).1
 have nR:∀ g,(Value.slice la a lc).ownBlock=some g->¬ bY I.bm I.bw g:=λg hg h=>(hlM g hg).2.1 (s3 g h).1
 have nRW:∀ g,(Value.slice la a lc).ownBlock=some g->g≠I.bW:=λg hg e=>(hlM g hg).2.1 (.inl e)
 have hbW:I.bW≠b:=λe=>hbM.2 (.inl e.symm)
 have hadr:bK s=r:=by unfold bK;rw [if_neg (by omega),if_neg (by omega),hrr,hff,ha]
 have Rd:=Lib.hid (λ(u:World) (h:Chg noB w u)=>OO I.bm I.bw wd.mem (r:Int) u (hw.mem.chg h (λh=>h) (λ_ _ h=>h)) hcn)
 obtain⟨g,hg⟩:∃ g,g=dZ wd r:=⟨_,rfl⟩
 rw [show(bL wd.mem (r:Int)).2=g from hg.symm] at Rd
 have hwd':vQ wd s=eY wd r:=by unfold vQ;rw [hadr]
 have hgo:bE n wd s={ s with list:=s.list++[g],at_:=a+1,pc:=if a+1=n then 3 else s.pc }:=by
  unfold bE jJ
  rw [if_neg (by omega),if_neg (by omega),hadr,<-hg,ha]
 have Hff:=Lib.hid hff
 have wf0:IntKind.i64.wrap (f:Int)=(f:Int):=by rw [IntKind.wrap_i64];omega
 have wf1:IntKind.i64.wrap ((f:Int)+1)=(f:Int)+1:=by rw [IntKind.wrap_i64];omega
 have wf2:IntKind.i64.wrap ((f:Int)+1+(a:Int))=(r:Int):=by rw [IntKind.wrap_i64];omega
 clear hff hf hrr
 have wa1:IntKind.i64.wrap ((a:Int)+1)=(a:Int)+1:=by rw [IntKind.wrap_i64];omega
 have wr0:IntKind.i64.wrap (r:Int)=(r:Int):=by rw [IntKind.wrap_i64];omega
 have l16:(a:Int)<16:=by omega
 have hblt:=hb.lt
 have hc0:Chg (bY I.bm I.bw) w w.drew:=(Chg.refl _ w).drew
 obtain⟨xs,hxs⟩:∃ xs,xs=s.list.map bI:=⟨_,rfl⟩
 rw [hla,<-ha,<-hxs] at hrow
 obtain⟨k0,hk0,hu0,hu1,hu2⟩:=info_parts xG
 rw [hwd']
 have ha16:a<=16:=by omega
 have Hw:=Lib.hid hw;have Hb:=Lib.hid hb;have Nb:=Lib.hid nb;have NP:=Lib.hid nP;have S2:=Lib.hid s2;have HbM:=Lib.hid hbM;have Hne:=Lib.hid hne;have HP:=Lib.hid hP;have Hg:=Lib.hid hg;have Hgo:=Lib.hid hgo;have Ha:=Lib.hid ha;have Hpc:=Lib.hid hpc;have HPW:=Lib.hid hPW;have Hrow:=Lib.hid hrow;have NR:=Lib.hid nR;have NRW:=Lib.hid nRW;have HlM:=Lib.hid hlM;have Hxs:=Lib.hid hxs;have Hla:=Lib.hid hla;have HbW:=Lib.hid hbW;have Hat:=Lib.hid hat
 clear hw hb nb nP s1 s2 s3 hbM hne hP hg hgo hwd' hadr hwb hpc hPW ha hcn hrow nR nRW hlM hxs hla hbW hat
 go_enter Tryz.func217,Tryz.ntmps217
 go_upto_region 12 with fail
 refine bU ((λu=>u.cell? ⟨I.bW,0,none⟩=some (.pointer (some ⟨I.bm,0,none⟩))/\u.cell? ⟨b,2,none⟩=some (.int .i64 (a:Int))/\u.cell? ⟨b,53,none⟩=some (.int .u64 (f:Int))/\u.cell? ⟨b,54,none⟩=some (.slice la a lc))) 25 (by kernel_rfl) ?hS0L2 ?_
 case hS0L2=>
  (exact⟨x0,y2,y3,y4⟩)
 intro hS hcl
 refine wL (i:=0) 26 rfl hcl hS ?_
 clear hcl;intro hcl
 (simp only [Act.put,zs])
 refine wL (i:=1) 26 rfl hcl hS ?_
 clear hcl;intro hcl
 (simp only [Act.put,zs])
 refine wL (i:=2) 26 rfl hcl hS ?_
 clear hcl;intro hcl
 (simp only [Act.put,zs])
 refine wL (i:=3) 26 rfl hcl hS ?_
 clear hcl;intro hcl
 (simp only [Act.put,zs])
 refine wL (i:=4) 26 rfl hcl hS ?_
 clear hcl;intro hcl
 (simp only [Act.put,zs])
 refine wL (i:=5) 26 rfl hcl hS ?_
 clear hcl;intro hcl
 (simp only [Act.put,zs])
 refine wL (i:=6) 26 rfl hcl hS ?_
 clear hcl;intro hcl
 (simp only [Act.put,zs])
 refine wL (i:=7) 26 rfl hcl hS ?_
 clear hcl;intro hcl
 (simp only [Act.put,zs])
 refine wL (i:=8) 26 rfl hcl hS ?_
 clear hcl;intro hcl
 (simp only [Act.put,zs])
 refine wL (i:=9) 26 rfl hcl hS ?_
 clear hcl;intro hcl
 (simp only [Act.put,zs])
 refine wL (i:=10) 26 rfl hcl hS ?_
 clear hcl;intro hcl
 (simp only [Act.put,zs])
 refine wL (i:=11) 26 rfl hcl hS ?_
 clear hcl;intro hcl
 (simp only [Act.put,zs])
 refine wL (i:=12) 26 rfl hcl hS ?_
 clear hcl;intro hcl
 (simp only [Act.put,zs])
 refine wL (i:=13) 26 rfl hcl hS ?_
 clear hcl;intro hcl
 (simp only [Act.put,zs])
 refine wL (i:=14) 26 rfl hcl hS ?_
 clear hcl;intro hcl
 (simp only [Act.put,zs])
 refine wL (i:=15) 26 rfl hcl hS ?_
 clear hcl;intro hcl
 (simp only [Act.put,zs])
 refine wL (i:=16) 26 rfl hcl hS ?_
 clear hcl;intro hcl
 (simp only [Act.put,zs])
 refine wL (i:=17) 26 rfl hcl hS ?_
 clear hcl;intro hcl
 (simp only [Act.put,zs])
 refine wL (i:=18) 26 rfl hcl hS ?_
 clear hcl;intro hcl
 (simp only [Act.put,zs])
 refine wL (i:=19) 26 rfl hcl hS ?_
 clear hcl;intro hcl
 (simp only [Act.put,zs])
 refine aL (i:=20) (by kernel_rfl) rfl hcl (λK' hK=>?_)
 have HK:=Lib.hid hK;clear hK
 ((rw [if_pos (by kernel_rfl)]);(simp only [zq1,zq2,zq3]);go_big_op)
 ((go_at_call 162;refine(Rd.out _ ?_).mono ?_;(exact(Chg.refl _ _).drew);rintro e w6 ⟨rfl,hm1,hc1⟩;have hc1':Chg (bY I.bm I.bw) w w6:=hc0.trans hc1;have z0:=aW hc1' S2.out x0;have hb6:=Hb.out.chg hc1' Nb.out;have z2:=aW hc1' Nb.out y2;have z3:=aW hc1' Nb.out y3;have z4:=aW hc1' Nb.out y4;have FV:=bB Hrow.out hc1' NR.out;have Fy:=hb6.lt;have lW6:I.bW<w6.heap.size:=World.block_lt_of_cell? _ _ z0))
 refine HK.out _ _ ?hS20L2 (λhcl=>?_)
 case hS20L2=>
  intro _
  (exact⟨z0,z2,z3,z4⟩)
 clear HK
 refine aL (i:=21) (by kernel_rfl) rfl hcl (λK' hK=>?_)
 have HK:=Lib.hid hK;clear hK
 ((rw [if_pos (by kernel_rfl)]);(simp only [zq1,zq2,zq3]);go_big_op)
 refine HK.out _ _ ?hS21L2 (λhcl=>?_)
 case hS21L2=>
  intro _
  (exact⟨(((Gr.new w6 _)).cell lW6).trans z0,(((Gr.new w6 _)).cell Fy).trans z2,(((Gr.new w6 _)).cell Fy).trans z3,(((Gr.new w6 _)).cell Fy).trans z4⟩)
 clear HK
 refine aL (i:=22) (by kernel_rfl) rfl hcl (λK' hK=>?_)
 have HK:=Lib.hid hK;clear hK
 ((refine step_append_lies _ (by rfl) _ _ _ (by rfl) 0 46 k0 _ 1 8 Tryz.underlying28 hk0 hu0 hu1 hu2 rfl (by omega) _ _ _ (by rfl) (FV.alloc _) ⟨w6.heap.size,0,none⟩ 1 1 [.int .u64 (g:Int)] (by rfl) (by rfl) (World.news_of_block (cs:=#[.int .u64 (g:Int)]) (t:=46) (fr:=(0,0)) (heap_alloc_new w6 _)) (by simp [Value.oneCell']) (by omega) (by unfold maxLen;omega) (by skip;omega) (by simp) (w6.heap.size+1) (by simp) ?_;intro g8 xL w8 kQ dU vI KF;have NZ:=(dU.block _ (by simp;omega) (λe=>(HlM.out _ e.symm).2.2.2 rfl)).trans ((((Gr.new w6 _)).block _ Fy).trans hb6.blk);have OH:aR w8 b bP s (.slice la a lc):=⟨NZ,hb6.l1,hb6.l2,hb6.l3⟩;have t0:=((dU.cell_far _ (by simp;omega) (λe=>NRW.out _ e.symm rfl)).trans ((((Gr.new w6 _)).cell lW6).trans z0));have t2:w8.cell? ⟨b,2,none⟩=some (.int .i64 (a:Int)):=(by rw [OH.at_,Ha.out]);have t3:w8.cell? ⟨b,53,none⟩=some (.int .u64 (f:Int)):=(by rw [Hff.out];exact OH.from_);have t4:=OH.list;have tf:=OH.frozen 54;have tl:=OH.lt))
 refine HK.out _ _ ?hS22L2 (λhcl=>?_)
 case hS22L2=>
  intro _
  (exact⟨t0,t2,t3,t4⟩)
 clear HK
 (simp only [Act.put,zs])
 refine aL (i:=23) (by kernel_rfl) rfl hcl (λK' hK=>?_)
 have HK:=Lib.hid hK;clear hK
 ((rw [if_pos (by kernel_rfl)]);(simp only [zq1,zq2,zq3]);go_big_op)
 refine HK.out _ _ ?hS23L2 (λhcl=>?_)
 case hS23L2=>
  intro _
  (exact⟨t0,t2,t3,t4⟩)
 clear HK
 refine aL (i:=24) (by kernel_rfl) rfl hcl (λK' hK=>?_)
 have HK:=Lib.hid hK;clear hK
 ((rw [if_pos (by kernel_rfl)]);(simp only [zq1,zq2,zq3]);go_big_op)
 refine HK.out _ _ ?hS24L2 (λhcl=>?_)
 case hS24L2=>
  intro _
  (exact⟨t0,t2,t3,t4⟩)
 clear HK
 refine aL (i:=25) (by kernel_rfl) rfl hcl (λK' hK=>?_)
 have HK:=Lib.hid hK;clear hK
 ((rw [if_pos (by kernel_rfl)]);(simp only [zq1,zq2,zq3]);go_big_op)
 refine HK.out _ _ (λh=>by cases h.symm.trans (by kernel_rfl:_=true)) (λ_=>bV (by kernel_rfl) ?_ _)
 clear HK
 (clear hS)
 obtain⟨hw1,wO⟩:=Hw.out.mems hc1' hm1
 obtain⟨w10,wS⟩:∃ w10,w10=(w8.setCell ⟨b,54,none⟩ (.slice (some ⟨g8,0,none⟩) (a+1) xL)).setCell ⟨b,2,none⟩ (.int .i64 ((a:Int)+1)):=⟨_,rfl⟩
 have uZ:aR (w8.setCell ⟨b,54,none⟩ (.slice (some ⟨g8,0,none⟩) (a+1) xL)) b bP { s with list:=s.list++[g] } (.slice (some ⟨g8,0,none⟩) (a+1) xL):=OH.setList (s.list++[g]) (.slice (some ⟨g8,0,none⟩) (a+1) xL)
 have q2:(w8.setCell ⟨b,54,none⟩ (.slice (some ⟨g8,0,none⟩) (a+1) xL)).cell? ⟨b,2,none⟩=some (.int .i64 (a:Int)):=by rw [uZ.at_,Ha.out]
 have qf:=uZ.frozen 2
 have qlt:=uZ.lt
 have RO:aR w10 b bP { s with list:=s.list++[g],at_:=a+1 } (.slice (some ⟨g8,0,none⟩) (a+1) xL):=by rw [wS];exact uZ.setAt (a+1)
 have EB:Chg (λk=>k=b) w8 w10:=by rw [wS];exact((Chg.refl (λk=>k=b) w8).setCell (p:=⟨b,54,none⟩) (.inl rfl) _).setCell (p:=⟨b,2,none⟩) (.inl rfl) _
 have hgb:g8≠b:=by
  rcases vI with h|h
  ·exact(HlM.out g8 h).2.2.2
  ·omega
 have UV:=bB kQ EB (λg hg e=>hgb (by cases hg;exact e))
 have Yf:Chg (λg=>(Value.slice la a lc).ownBlock=some g) w6 w8:=((Chg.refl _ w6).alloc _).grown dU (λg hg=>.inl hg)
 have yJ:Chg (λg=>(Value.slice la a lc).ownBlock=some g∨g=b) w6 w10:=(Yf.mono (λg _ h=>.inl h)).trans (EB.mono (λg _ h=>.inr h))
 have WH:=fT hw1 yJ (λk hk=>by
  rcases hk with hk|hk
  ·exact⟨(HlM.out k hk).1,(HlM.out k hk).2.1⟩
  ·rw [hk];exact HbM.out)
 have hall:Chg (λk=>cK I k∨k=b∨(Value.slice la a lc).ownBlock=some k) w w10:=(wO.mono (λ_ _ h=>.inl h)).trans (yJ.mono (λ_ _ h=>.inr (h.elim .inr .inl)))
 have MX:∀ g',(Value.slice (some ⟨g8,0,none⟩) (a+1) xL).ownBlock=some g'->((Value.slice la a lc).ownBlock=some g'∨w.heap.size<=g')/\g'≠b/\g'<w10.heap.size:=λg' hg'=>by
  cases hg'
  refine⟨?_,hgb,Nat.lt_of_lt_of_le KF EB.size⟩
  rcases vI with h|h
  ·exact .inl h
  ·right;show w.heap.size<=g8;have:=hc1'.size;omega
 have OE:w10.ownsRow 0 46 1 (.slice (some ⟨g8,0,none⟩) (a+1) xL) (s.list++[g]).length ((s.list++[g]).map bI):=by
  have e1:(s.list++[g]).length=a+1:=by rw [List.length_append,Hla.out,<-Ha.out];rfl
  have e2:(s.list++[g]).map bI=xs++[.int .u64 (g:Int)]:=by rw [List.map_append,<-Hxs.out];rfl
  rw [e1,e2];exact UV
 have hP10:w10.heap[bP]?=some (.cells (jB n k us).toArray 114 (0,0)):=by
  refine(yJ.block bP ?_ (λh=>?_)).trans ((hc1'.block bP (aC HP.out) NP.out).trans HP.out)
  ·exact Nat.lt_of_lt_of_le (aC HP.out) hc1'.size
  ·rcases h with h|h
   ·exact(HlM.out _ h).2.2.1 rfl
   ·exact Hne.out h
 have Hb10:=Lib.hid RO;have Hw10:=Lib.hid wS;have Hw10':=Lib.hid WH;have Hall:=Lib.hid hall;have Hown10:=Lib.hid MX;have Hrow10:=Lib.hid OE;have HP10:=Lib.hid hP10;have Hw6:=Lib.hid hw1;have Hc610:=Lib.hid yJ;have Hg8:=Lib.hid (show(Value.slice la a lc).ownBlock=some g8∨w6.heap.size<=g8 from vI.elim .inl (λh=>.inr (by omega)))
 clear hw1 wO hc1 hc1' hm1 hb6 z0 z2 z3 z4 FV Fy lW6 kQ dU vI KF NZ OH t0 t2 t3 t4 tf tl wS uZ RO EB hgb UV Yf yJ WH hall MX OE hP10 x0 y1 y2 y3 y4 hc0 hblt
 go_upto_region 14 with fail
 rw [<-Hw10.out]
 clear q2 qf qlt
 have e0:=Hb10.out.ptr
 have e1:w10.cell? ⟨b,1,none⟩=some (.int .i64 2):=by rw [Hb10.out.pc];show some (Value.int .i64 (s.pc:Int))=_;rw [Hpc.out];rfl
 have e2:w10.cell? ⟨b,2,none⟩=some (.int .i64 ((a:Int)+1)):=Hb10.out.at_
 have eP:w10.cell? ⟨bP,1,none⟩=some (.int .i64 (n:Int)):=by rw [aA HP10.out];rfl
 have HF10:=Lib.hid (show mW w10 Mut I N (eY wd r) (.slice (some ⟨g8,0,none⟩) (a+1) xL) from⟨w6,_,Hw6.out,Hc610.out,(λk hk=>by
  rcases hk with hk|hk
  ·exact⟨(HlM.out k hk).1,(HlM.out k hk).2.1⟩
  ·rw [hk];exact HbM.out),(λg' hg'=>by cases hg';exact Hg8.out.elim (λh=>.inl (HlM.out _ h).1) .inr)⟩)
 by_cases hl:a+1=n
 ·have l1:((a:Int)+1)=(n:Int):=by omega
  have F:=Lib.hid (λ(u:World) (hu:Chg (λ_=>False) w10 u)=>show xS w (u.setCell ⟨b,1,none⟩ (.int .i64 3)) Mut I N (eY wd r) b bP (.slice la a lc) (bE n wd s) (.returned (.bool true)) from by
   rw [Hgo.out,if_pos hl]
   have hc1:Chg (λk=>k=b) u (u.setCell ⟨b,1,none⟩ (.int .i64 3)):=(Chg.refl (λk=>k=b) u).setCell (p:=⟨b,1,none⟩) (.inl rfl) _
   refine⟨rfl,(Hall.out.trans (hu.mono (λ_ _ h=>h.elim))).trans (hc1.mono (λ_ _ h=>.inr (.inl h))),.slice (some ⟨g8,0,none⟩) (a+1) xL,((HF10.out.go hu (λ_ h=>h.elim)).go hc1 (λk hk=>by rw [hk];exact HbM.out)),(Hb10.out.chg hu (λh=>h)).setPc 3,bB (bB Hrow10.out hu (λ_ _ h=>h)) hc1 (λg' hg' e=>(Hown10.out g' hg').2.1 e),λg' hg'=>?_,λe=>by cases e⟩
   obtain⟨o1,o2,o3⟩:=Hown10.out g' hg'
   exact⟨o1,o2,Nat.lt_of_lt_of_le o3 (Nat.le_trans hu.size hc1.size)⟩)
  have hx2:(w10.cell? ⟨b,2,none⟩)=some (.int .i64 (n:Int)):=by rw [e2,l1]
  have f1:=Hb10.out.frozen 1
  have flt:=Hb10.out.lt
  clear hl e2
  go_quiet (fail)
  have d1:(w10.drewN nq).cell? ⟨b,1,none⟩=some (.int .i64 2):=e1
  have df:(w10.drewN nq).frozen? ⟨b,1,none⟩=false:=f1
  have dl:b<(w10.drewN nq).heap.size:=flt
  have hcd:Chg (λ_=>False) w10 (w10.drewN nq):=(Chg.refl _ _).drewN nq
  obtain⟨w4,hw4⟩:∃ w4,w4=w10.drewN nq:=⟨_,rfl⟩
  rw [<-hw4] at d1 df dl hcd ⊢
  have F4:=Lib.hid (F.out w4 hcd)
  clear hw4 hcd e0 e1 eP hx2 f1 flt
  go_wp2
  go_ret
  exact F4.out
 ·have l1:¬ ((a:Int)+1)=(n:Int):=by omega
  have F:=Lib.hid (λ(u:World) (hu:Chg (λ_=>False) w10 u)=>show xS w u Mut I N (eY wd r) b bP (.slice la a lc) (bE n wd s) (.returned (.bool false)) from by
   rw [Hgo.out,if_neg hl]
   refine⟨?_,Hall.out.trans (hu.mono (λ_ _ h=>h.elim)),.slice (some ⟨g8,0,none⟩) (a+1) xL,HF10.out.go hu (λ_ h=>h.elim),Hb10.out.chg hu (λh=>h),bB Hrow10.out hu (λ_ _ h=>h),λg' hg'=>?_,λe=>by exfalso;have:=Hpc.out;have e':s.pc=0:=e;omega⟩
   ·show Ending.returned (.bool false)=.returned (.bool (decide (s.pc=3)))
    rw [Hpc.out];rfl
   ·obtain⟨o1,o2,o3⟩:=Hown10.out g' hg'
    exact⟨o1,o2,Nat.lt_of_lt_of_le o3 hu.size⟩)
  clear hl
  go_quiet (fail)
  have d1:(w10.drewN nq).cell? ⟨b,1,none⟩=some (.int .i64 2):=e1
  clear e0 e1 e2 eP
  go_wp2
  go_ret
  exact F.out _ ((Chg.refl _ _).drewN nq)
end
section
open Go.RowKit
def FH (n:Nat) (wd:WD) (s:ScD):Prop:=s.pc<=2/\s.at_<n/\(s.pc=0->s.rounds<=999/\s.list=[]/\(s.at_+1=n->1<=s.rounds->∀ d f,iA s.old (s.now.set s.at_ (dZ wd s.at_)) n 0 s.diff=(d,some f)->f<1000000/\wd.traces (f:Int)≠[]))/\(1<=s.pc->s.list.length=s.at_)/\(s.pc=1->s.now.getD s.at_ 0<1000000)/\(s.pc=2->s.from_<1000000)
structure yK (w:World) (bs bP:Nat) (lv:Value) (s:ScD):Prop where
 blk:aR w bs bP s lv
 row:w.ownsRow 0 46 1 lv s.list.length (s.list.map bI)
 nil:s.pc=0->lv=.slice none 0 0
 val:∀ x∈s.list,x<18446744073709551616
theorem yK.chg {w w':World} {S:Nat->Prop} {bs bP:Nat} {lv:Value} {s:ScD} (h:yK w bs bP lv s) (hc:Chg S w w') (h1:¬ S bs) (h2:∀ g,lv.ownBlock=some g->¬ S g):yK w' bs bP lv s:=⟨h.blk.chg hc h1,bB h.row hc h2,h.nil,h.val⟩
theorem BO {B:Nat} (hB:0<B) (n:Nat):∀(m:Nat) (s:ScD),(∀ x∈s.list,x<B)->∀ x∈(dI n m s).list,x<B
 | 0,s,h=>h
 | m+1,s,h=>by
  unfold dI
  by_cases hc:s.at_<n/\s.now.getD s.at_ 0=0
  ·rw [if_pos hc]
   refine BO hB n m _ ?_
   intro x hx
   rcases List.mem_append.1 hx with hx|hx
   ·exact h x hx
   ·rw [List.mem_singleton.1 hx];exact hB
  ·rw [if_neg hc];exact h
theorem WO {B:Nat} (hB:0<B) (n:Nat) (wd:WD) (s:ScD) (h:∀ x∈s.list,x<B):∀ x∈(eH n wd s).list,x<B:=by
 unfold eH
 by_cases h1:s.rounds+1=1
 ·rw [if_pos h1];exact h
 ·rw [if_neg h1]
  by_cases h2:s.old=s.now
  ·rw [if_pos h2];exact BO hB n n _ h
  ·rw [if_neg h2]
   obtain⟨d,o⟩:=iA s.old s.now n 0 s.diff
   cases o<;>exact h
theorem UQ {B:Nat} (hB:0<B) (n:Nat) (wd:WD) (s:ScD) (h:∀ x∈s.list,x<B) (hg:dZ wd (bK s)<B):∀ x∈(bE n wd s).list,x<B:=by
 have ha:∀ x∈s.list++[dZ wd (bK s)],x<B:=by
  intro x hx
  rcases List.mem_append.1 hx with hx|hx
  ·exact h x hx
  ·rw [List.mem_singleton.1 hx];exact hg
 unfold bE jJ
 by_cases h0:s.pc=0
 ·rw [if_pos h0]
  by_cases h1:s.at_+1=n
  ·rw [if_pos h1];exact WO hB n wd _ h
  ·rw [if_neg h1];exact h
 ·rw [if_neg h0]
  by_cases h1:s.pc=1
  ·rw [if_pos h1];exact BO hB n n _ ha
  ·rw [if_neg h1];exact ha
theorem VK (n k:Nat) (us:List Nat) (hn:n<=16) (w:World) (Mut:Nat->Prop) (I:iM) (N:Nat) (wd:WD) (b bP:Nat) (s:ScD) (lv:Value) (hw:bJ w Mut I N wd) (hbM:Mut b/\¬ cK I b) (hlM:∀ g,lv.ownBlock=some g->Mut g/\¬ cK I g/\g≠bP/\g≠b) (h:yK w b bP lv s) (hne:bP≠b) (hPW:¬ cK I bP) (hP:w.heap[bP]?=some (.cells (jB n k us).toArray 114 (0,0))) (hl:FH n wd s) (hcn:wd.mem.c.all+1<1000000000000) :
  Calls Tryz.prog 217 #[.pointer (some ⟨b,0,none⟩),.pointer (some ⟨I.bW,0,none⟩)] w λe w'=>xS w w' Mut I N (vQ wd s) b bP lv (bE n wd s) e:=by
 obtain⟨hb,hrow,hnil,_⟩:=h
 obtain⟨h2,hat,h0,hla,h1,hf⟩:=hl
 by_cases c0:s.pc=0
 ·obtain⟨Qj,hnl,hlive⟩:=h0 c0
  have e:=hnil c0
  subst e
  exact TK n k us hn w Mut I N wd b bP s hw hbM hb hne hPW hP c0 hat Qj hnl hw.nowlt hcn hlive
 ·by_cases c1:s.pc=1
  ·exact WZ n k us hn w Mut I N wd b bP s lv hw hbM hlM hb hrow hne hPW hP c1 hat (hla (by omega)) hw.nowlt hcn (h1 c1)
  ·exact UA n k us hn w Mut I N wd b bP s lv hw hbM hlM hb hrow hne hPW hP (by omega) hat (hla (by omega)) hw.nowlt hcn (hf (by omega))
def YQ (bs:Nat) (kv:Value):Array Value:=#[.pointer (some ⟨bs,0,none⟩),kv]
def Gt (w w':World) (Mut:Nat->Prop) (I:iM) (N:Nat) (wd:WD) (n b bs bP:Nat) (lv kv:Value) (s:ScD) (e:Ending):Prop:=
 e=.returned (.bool (decide ((bE n wd s).pc=3)))/\Chg (λk=>cK I k∨k=b∨k=bs∨lv.ownBlock=some k) w w'/\∃ lv' kv',mW w' Mut I N (vQ wd s) lv'/\w'.heap[b]?=some (.cells (YQ bs kv') 268 (0,0))/\yK w' bs bP lv' (bE n wd s)/\(∀ g,lv'.ownBlock=some g->(lv.ownBlock=some g∨w.heap.size<=g)/\g≠bs/\g≠b/\g<w'.heap.size)/\
   (if (bE n wd s).pc=3 then Lst w' Mut kv' [2*(bE n wd s).moment,2*(wd.now:Int)] else kv'=kv)
set_option maxHeartbeats 8000000 in
theorem Ig (n k:Nat) (us:List Nat) (hn:n<=16) (w:World) (Mut:Nat->Prop) (I:iM) (N:Nat) (wd:WD) (b bs bP:Nat) (s:ScD) (lv kv:Value) (hw:bJ w Mut I N wd) (hbk:w.heap[b]?=some (.cells (YQ bs kv) 268 (0,0))) (hbM:Mut b/\¬ cK I b) (hsM:Mut bs/\¬ cK I bs) (hlM:∀ g,lv.ownBlock=some g->Mut g/\¬ cK I g/\g≠bP/\g≠bs/\g≠b) (h:yK w bs bP lv s) (hne:bP≠b/\bP≠bs/\b≠bs) (hPW:¬ cK I bP) (hP:w.heap[bP]?=some (.cells (jB n k us).toArray 114 (0,0))) (hl:FH n wd s) (hm:(bE n wd s).pc=3->0<=(bE n wd s).moment/\(bE n wd s).moment<1000000000) (hcn:wd.mem.c.all+1<1000000000000) :
  Calls Tryz.prog 215 #[.pointer (some ⟨b,0,none⟩),.pointer (some ⟨I.bW,0,none⟩)] w λe w'=>Gt w w' Mut I N wd n b bs bP lv kv s e:=by
 have SC:=Lib.hid (VK n k us hn w Mut I N wd bs bP s lv hw hsM (λg hg=>⟨(hlM g hg).1,(hlM g hg).2.1,(hlM g hg).2.2.1,(hlM g hg).2.2.2.1⟩) h hne.2.1 hPW hP hl hcn)
 have Hvl:=Lib.hid (UQ (by omega) n wd s h.val (GD hw.mem _))
 have y0:w.cell? ⟨b,0,none⟩=some (.pointer (some ⟨bs,0,none⟩)):=by rw [aA hbk];rfl
 have hblt:=aC hbk
 have Hw:=Lib.hid hw;have Hbk:=Lib.hid hbk;have HbM:=Lib.hid hbM;have HlM:=Lib.hid hlM;have Hne:=Lib.hid hne;have Hm:=Lib.hid hm;have Hblt:=Lib.hid hblt
 clear hw hbk hbM hsM hlM h hne hPW hP hl hm hcn hblt
 go_enter Tryz.func215,Tryz.ntmps215
 go_wp2_with fail
 refine SC.out.mono ?_
 intro e w5 hs
 obtain⟨rfl,OX,Oz,Sq,hb5,Du,Zj,Ms⟩:=hs
 have ML:=Sq.toAt
 have hnb:¬ (cK I b∨b=bs∨lv.ownBlock=some b):=by
  rintro(h|h|h)
  ·exact HbM.out.2 h
  ·exact Hne.out.2.2 h
  ·exact(HlM.out b h).2.2.2.2 rfl
 have RN:=(OX.block b Hblt.out hnb).trans Hbk.out
 have HO:=Lib.hid (show ∀ g,Oz.ownBlock=some g->(lv.ownBlock=some g∨w.heap.size<=g)/\g≠bs/\g≠b/\g<w5.heap.size from λg hg=>by
  obtain⟨o1,o2,o3⟩:=Zj g hg
  refine⟨o1,o2,?_,o3⟩
  rcases o1 with h|h
  ·exact(HlM.out g h).2.2.2.2
  ·have:=Hblt.out;omega)
 obtain⟨s5,hs5⟩:∃ s5,s5=bE n wd s:=⟨_,rfl⟩
 have Hs5:=Lib.hid hs5
 rw [<-hs5] at hb5 Du Ms
 have Hm5:=Lib.hid (show s5.pc=3->0<=s5.moment/\s5.moment<1000000000 from by rw [hs5];exact Hm.out)
 have Hbk5:=Lib.hid RN;have Hw5:=Lib.hid ML;have Hf5:=Lib.hid Sq;have Hb5:=Lib.hid hb5;have Hr5:=Lib.hid Du;have Hn5:=Lib.hid Ms;have Hc5:=Lib.hid (show Chg (λk=>cK I k∨k=b∨k=bs∨lv.ownBlock=some k) w w5 from OX.mono (λ_ _ h=>h.elim .inl (λh=>.inr (.inr h))))
 clear hs5 hb5 Du Ms RN ML Sq OX Zj hnb y0
 by_cases h3:s5.pc=3
 ·rw [show decide ((bE n wd s).pc=3)=true from by rw [<-Hs5.out];exact decide_eq_true h3]
  obtain⟨h4,h5⟩:=Hm5.out h3
  obtain⟨m,hmm⟩:∃ m,m=s5.moment:=⟨_,rfl⟩
  rw [<-hmm] at h4 h5
  obtain⟨mks,hwb,_,_⟩:=Hw5.out.blk
  have hnow:wd.now<1000000000:=Hw.out.nowlt
  have x1:w5.cell? ⟨I.bW,1,none⟩=some (.int .i64 (wd.now:Int)):=by rw [aA hwb];exact iL
  have x0:w5.cell? ⟨b,0,none⟩=some (.pointer (some ⟨bs,0,none⟩)):=by rw [aA Hbk5.out];rfl
  have xk:w5.cell? ⟨b,1,none⟩=some kv:=by rw [aA Hbk5.out];rfl
  have xf:=aB Hbk5.out 1
  have xm:w5.cell? ⟨bs,55,none⟩=some (.int .i64 m):=by rw [hmm];exact Hb5.out.mom
  have xlt:=aC Hbk5.out
  have w1:IntKind.i64.wrap (2*m)=2*m:=by rw [IntKind.wrap_i64];omega
  have w2:IntKind.i64.wrap (2*(wd.now:Int))=2*(wd.now:Int):=by rw [IntKind.wrap_i64];omega
  obtain⟨wz,hwz⟩:∃ wz,wz=((w5.setCell ⟨b,1,none⟩ (.slice (some ⟨w5.heap.size,0,none⟩) 2 2)).alloc (.cells #[.int .i64 (2*m),.int .i64 (2*(wd.now:Int))] 3)).drew:=⟨_,rfl⟩
  have hcz:Chg (λk=>k=b) w5 wz:=by rw [hwz];exact(((Chg.refl (λk=>k=b) w5).setCell (p:=⟨b,1,none⟩) (.inl rfl) _).alloc _).drew
  have hbz:wz.heap[b]?=some (.cells (YQ bs (.slice (some ⟨w5.heap.size,0,none⟩) 2 2)) 268 (0,0)):=by
   rw [hwz]
   show(World.alloc _ _).heap[b]?=_
   rw [Below.heap_alloc _ _ _ (by simpa [World.setCell] using xlt),aG Hbk5.out];rfl
  have hkz:wz.heap[w5.heap.size]?=some (.cells (([2*m,2*(wd.now:Int)]:List Int).map (Value.int .i64)).toArray 3 (0,0)):=by
   have h7:=heap_alloc_new (w5.setCell ⟨b,1,none⟩ (.slice (some ⟨w5.heap.size,0,none⟩) 2 2)) (.cells #[.int .i64 (2*m),.int .i64 (2*(wd.now:Int))] 3 (0,0))
   rw [show(w5.setCell ⟨b,1,none⟩ (.slice (some ⟨w5.heap.size,0,none⟩) 2 2)).heap.size=w5.heap.size by simp [World.setCell]] at h7
   rw [hwz];exact h7
  have q0:(((w5.setCell ⟨b,1,none⟩ (.slice (some ⟨w5.heap.size,0,none⟩) 2 2)).alloc (.cells #[.int .i64 (2*m),.int .i64 (2*(wd.now:Int))] 3)).drew).cell? ⟨b,0,none⟩=some (.pointer (some ⟨bs,0,none⟩)):=by rw [<-hwz,aA hbz];rfl
  have q1:(((w5.setCell ⟨b,1,none⟩ (.slice (some ⟨w5.heap.size,0,none⟩) 2 2)).alloc (.cells #[.int .i64 (2*m),.int .i64 (2*(wd.now:Int))] 3)).drew).cell? ⟨bs,55,none⟩=some (.int .i64 m):=by rw [<-hwz];exact aW hcz (λe=>Hne.out.2.2 e.symm) xm
  have q2:(((w5.setCell ⟨b,1,none⟩ (.slice (some ⟨w5.heap.size,0,none⟩) 2 2)).alloc (.cells #[.int .i64 (2*m),.int .i64 (2*(wd.now:Int))] 3)).drew).cell? ⟨I.bW,1,none⟩=some (.int .i64 (wd.now:Int)):=by rw [<-hwz];exact aW hcz (λe=>HbM.out.2 (.inl e.symm)) x1
  have F:=Lib.hid (show Gt w wz Mut I N wd n b bs bP lv kv s (.returned (.bool true)) from by
   unfold Gt
   rw [<-Hs5.out,decide_eq_true h3]
   refine⟨rfl,Hc5.out.trans (hcz.mono (λk _ e=>.inr (.inl e))),Oz,_,Hf5.out.go hcz (λk e=>by cases e;exact HbM.out),hbz,yK.chg ⟨Hb5.out,Hr5.out,Hn5.out,by rw [Hs5.out];exact Hvl.out⟩ hcz (λe=>Hne.out.2.2 e.symm) (λg hg e=>(HO.out g hg).2.2.1 e),λg hg=>?_,?_⟩
   ·obtain⟨o1,o2,o3,o4⟩:=HO.out g hg
    exact⟨o1,o2,o3,Nat.lt_of_lt_of_le o4 hcz.size⟩
   ·rw [if_pos h3,<-hmm]
    exact⟨some ⟨w5.heap.size,0,none⟩,2,rfl,(λh=>by cases h),BV hkz (by simp),λk off e hk=>by cases e;have:=Hw5.out.low _ hk;omega⟩)
  have Hwz:=Lib.hid hwz
  clear hwb h4 h5 hmm h3 hnow hcz hbz hkz hwz
  go_upto_region 3 with fail
  go_region_held3 (λu=>u.cell? ⟨b,0,none⟩=some (.pointer (some ⟨bs,0,none⟩))/\u.cell? ⟨bs,55,none⟩=some (.int .i64 m)/\u.cell? ⟨I.bW,1,none⟩=some (.int .i64 (wd.now:Int))) (first|exact⟨x0,xm,x1⟩|exact⟨q0,q1,q2⟩|go_keep) (fail)
  rw [<-Hwz.out]
  go_wp2
  go_ret
  exact F.out
 ·rw [show decide ((bE n wd s).pc=3)=false from by rw [<-Hs5.out];exact decide_eq_false h3]
  have F:=Lib.hid (show Gt w w5 Mut I N wd n b bs bP lv kv s (.returned (.bool false)) from by
   unfold Gt
   rw [<-Hs5.out,decide_eq_false h3]
   exact⟨rfl,Hc5.out,Oz,kv,Hf5.out,Hbk5.out,⟨Hb5.out,Hr5.out,Hn5.out,by rw [Hs5.out];exact Hvl.out⟩,HO.out,by rw [if_neg h3]⟩)
  go_wp2
  go_ret
  exact F.out
end
end Go.Proofs.YtfkokppncipgnaaGreat
