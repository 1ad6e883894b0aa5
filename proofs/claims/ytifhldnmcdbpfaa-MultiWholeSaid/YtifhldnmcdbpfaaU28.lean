/- Layer 16: a scan's step: to collect. -/
import Derived.Test.YtifhldnmcdbpfaaU27
import Derived.Test.YtifhldnmcdbpfaaU17
set_option maxRecDepth 100000
set_option linter.unusedVariables false
set_option linter.unusedSimpArgs false
set_option linter.unnecessarySimpa false
namespace Go.Proofs.Ytifhldnmcdbpfaa
open List renaming getElem_toArray → zq1, getElem_cons_zero → zq2, getElem_cons_succ → zq3, setIfInBounds_toArray → zq4, set_cons_zero → zq5, set_cons_succ → zq6
open Go.RowKit
def jR (w':World) (Mut:Nat->Prop) (I:eO) (N:Nat) (wd':WD) (Bk:Nat->Prop):Prop:=
 ∃(w1:World) (S:Nat->Prop),aT w1 Mut I N wd'/\Chg S w1 w'/\(∀ b,S b->Mut b/\¬ bC I b)/\∀ g,Bk g->Mut g∨w1.heap.size<=g
def jF (w w':World) (Mut:Nat->Prop) (I:eO) (N:Nat) (wd':WD) (b bP:Nat) (v:MuV) (s':MuD) (e:Ending):Prop:=
 e=.returned (.bool (aS s'))/\∃ v',MuAt w' b bP v' s'/\Chg (λk=>bC I k∨MuB b v k) w w'/\(∀ j,MuB b v' j->MuB b v j∨w.heap.size<=j)/\jR w' Mut I N wd' (MuB b v')
theorem FQ (n m q bU:Nat) (hm:1<=m) (dF:m<=16) (hq:1<=q) (dQ:q<=64) (w:World) (Mut:Nat->Prop) (I:eO) (NW:Nat) (b bP:Nat) (v:MuV) (s:MuD) (wd:WD) (hWU:∀ u,Chg (MuB b v) w u->aT u Mut I NW wd) (hbW:¬ MuB b v I.bW) (h:MuAt w b bP v s) (hP:w.heap[bP]?=some (.cells (jM n m q bU) 89 (0,0))) (hbP:¬ MuB b v bP) (hch:s.chosen=false) (hno:s.old=[]∨s.old.length=m) (hnn:s.now.length=m) (hl:s.list=[]) (TA:∀ k,s.now.getD k 0<=1000000)
  (hlv:s.old≠[]->∀ k,k<m->s.old.getD k 0≠s.now.getD k 0->m<=s.now.getD k 0/\s.now.getD k 0<=1000000/\aX m q (s.now.getD k 0)<16) (hlive:s.old≠[]->∀ d A,fU m q s.old s.now m 0 s.noted=(d,some A)->A<=1000000/\wd.traces (A:Int)≠[]) :
  Calls Try.prog 173 #[.pointer (some ⟨b,0,none⟩),.pointer (some ⟨I.bW,0,none⟩)] w λe w'=>nD w w' b bP v (dH m q wd s) e:=by
 have hWA:=hWU w (Chg.refl _ _)
 obtain⟨mks,hwb,_,_⟩:=hWA.blk
 have hT:w.cell? ⟨I.bW,1,none⟩=some (.int .i64 (wd.now:Int)):=by rw [aA hwb];exact fP
 have hn0:s.now≠[]:=λe=>by rw [e] at hnn;have:(0:Nat)=m:=hnn;omega
 by_cases ho:s.old=[]
 ·exact zB m q w b bP I.bW wd.now v s wd h rfl hT (λe=>hbW (.inl e)) ho hn0
 ·have hno':s.old.length=m:=hno.resolve_left ho
  by_cases heq:s.old=s.now
  ·exact yC m q w b bP I.bW v s wd h hch ho heq (by omega) TA (by rw [hl];exact Nat.zero_le _)
  ·obtain⟨R,hR⟩:∃ R,R=fU m q s.old s.now m 0 s.noted:=⟨_,rfl⟩
   match R,hR with
   | (d,none),hR=>exact CO n m q bU hm dF hq dQ w b bP I.bW wd.now v s wd h hP hbP rfl hT hbW hno' hnn heq (hlv ho) d hR.symm
   | (d,some A),hR=>
    obtain⟨a1,a2⟩:=hlive ho d A hR.symm
    obtain⟨mo,rest,htr⟩:∃ mo rest,wd.traces (A:Int)=mo::rest:=by
     cases h9:wd.traces (A:Int) with
     | nil=>exact absurd h9 a2
     | cons mo rest=>exact⟨mo,rest,rfl⟩
    exact AV n m q bU hm dF hq dQ w Mut I NW b bP v s wd hWU h hP hbP hch hno' hnn heq (hlv ho) d A hR.symm a1 mo rest htr
set_option maxHeartbeats 8000000 in
theorem CW (n m q bU:Nat) (hm:1<=m) (dF:m<=16) (hq:1<=q) (dQ:q<=64) (w:World) (Mut:Nat->Prop) (I:eO) (NW:Nat) (b bP:Nat) (v:MuV) (s:MuD) (wd:WD) (hw:aT w Mut I NW wd) (hB:∀ j,MuB b v j->Mut j/\¬ bC I j) (h:MuAt w b bP v s) (hP:w.heap[bP]?=some (.cells (jM n m q bU) 89 (0,0))) (hbP:¬ MuB b v bP) (hPW:¬ bC I bP) (hch:s.chosen=false) (hnl:s.now.length<m) (hcn:wd.mem.c.all+1<1000000000000) (hlist:s.list=[])
  (hlive:s.now.length+1=m->(s.old=[]∨s.old.length=m)/\(∀ k,(s.now++[dP wd s.now.length]).getD k 0<=1000000)/\(s.old≠[]->∀ k,k<m->s.old.getD k 0≠(s.now++[dP wd s.now.length]).getD k 0->m<=(s.now++[dP wd s.now.length]).getD k 0/\(s.now++[dP wd s.now.length]).getD k 0<=1000000/\aX m q ((s.now++[dP wd s.now.length]).getD k 0)<16)/\(s.old≠[]->∀ d A,fU m q s.old (s.now++[dP wd s.now.length]) m 0 s.noted=(d,some A)->A<=1000000/\wd.traces (A:Int)≠[])) :
  Calls Try.prog 172 #[.pointer (some ⟨b,0,none⟩),.pointer (some ⟨I.bW,0,none⟩)] w λe w'=>jF w w' Mut I NW (jJ wd s) b bP v (bJ m q wd s) e:=by
 obtain⟨s1,s2,s3⟩:=lV hw
 obtain⟨mks,hwb,_,_⟩:=hw.blk
 have x0:w.cell? ⟨I.bW,0,none⟩=some (.pointer (some ⟨I.bm,0,none⟩)):=by rw [aA hwb];exact kN
 have y0:w.cell? ⟨b,0,none⟩=some (.pointer (some ⟨bP,0,none⟩)):=h.get 0
 have y6:w.cell? ⟨b,6,none⟩=some (.bool false):=(h.get 6).trans (by rw [<-hch];rfl)
 obtain⟨na,nc,hnv⟩:=h.now.form
 obtain⟨a,ha⟩:∃ a,a=s.now.length:=⟨_,rfl⟩
 rw [<-ha] at hnv
 have y2:w.cell? ⟨b,2,none⟩=some (.slice na a nc):=(h.get 2).trans (by rw [<-hnv];rfl)
 have p0:w.cell? ⟨bP,0,none⟩=some (.int .i64 0):=by rw [aA hP];rfl
 have nB:∀ j,MuB b v j->¬ bO I.bm I.bw j:=λj hj e=>(hB j hj).2 (s3 j e).1
 have nb:¬ bO I.bm I.bw b:=nB b (.inl rfl)
 have nP:¬ bO I.bm I.bw bP:=λh=>hPW (s3 bP h).1
 have hbW:I.bW≠b:=λe=>(hB b (.inl rfl)).2 (.inl e.symm)
 have Rd:=Lib.hid (λ(u:World) (h:Chg noB w u)=>yQ I.bm I.bw wd.mem (a:Int) u (hw.mem.chg h (λh=>h) (λ_ _ h=>h)) hcn)
 obtain⟨g,hg⟩:∃ g,g=dP wd a:=⟨_,rfl⟩
 rw [show(dI wd.mem (a:Int)).2=g from hg.symm] at Rd
 have hadr:eQ s=a:=by unfold eQ;rw [if_neg (by rw [hch];exact Bool.false_ne_true),ha]
 have hwd':jJ wd s=dM wd a:=by unfold jJ;rw [hadr]
 have hgo:bJ m q wd s=if a+1=m then dH m q wd { s with now:=s.now++[g] } else { s with now:=s.now++[g] }:=by
  unfold bJ qN
  rw [if_neg (by rw [hch];exact Bool.false_ne_true),hadr,<-hg,<-ha]
 have ZI:IntKind.i64.wrap (0+(a:Int))=(a:Int):=by rw [IntKind.wrap_i64];omega
 have XQ:IntKind.i64.wrap (a:Int)=(a:Int):=by rw [IntKind.wrap_i64];omega
 have ZF:(0:Int)+(a:Int)=(a:Int):=by omega
 have ha16:a<=16:=by omega
 have hc0:Chg (bO I.bm I.bw) w w.drew:=(Chg.refl _ w).drew
 have nR:∀ g,(Value.slice na a nc).ownBlock=some g->MuB b v g:=λg e=>.inr (.inr (.inr (.inl (by rw [hnv];exact e))))
 have nRb:∀ g,(Value.slice na a nc).ownBlock=some g->g≠b:=λg e e9=>h.ty.2.1 (by rw [hnv,e,e9])
 obtain⟨xs,hxs⟩:∃ xs,xs=s.now.map cZ:=⟨_,rfl⟩
 have hrow:w.ownsRow 0 40 1 (.slice na a nc) a xs:=by have h9:=h.now;rw [hnv] at h9;rw [ha,hxs];rw [ha] at h9;exact h9
 obtain⟨k0,hk0,hu0,hu1,hu2⟩:=info_parts nI
 rw [hwd']
 have Hw:=Lib.hid hw;have Hb:=Lib.hid h;have NB:=Lib.hid nB;have Nb:=Lib.hid nb;have NP:=Lib.hid nP;have S2:=Lib.hid s2;have HB:=Lib.hid hB;have HP:=Lib.hid hP;have HbP:=Lib.hid hbP;have Hg:=Lib.hid hg;have Hgo:=Lib.hid hgo;have Ha:=Lib.hid ha;have HL:=Lib.hid hlive;have HPW:=Lib.hid hPW;have Hrow:=Lib.hid hrow;have NR:=Lib.hid nR;have NRb:=Lib.hid nRb;have Hxs:=Lib.hid hxs;have Hnv:=Lib.hid hnv;have HbW:=Lib.hid hbW;have Hch:=Lib.hid hch;have Hls:=Lib.hid hlist
 clear hw h nB nb nP s1 s2 s3 hB hP hbP hg hgo hwd' hadr hwb hlive hch hPW ha hcn hrow nR nRb hxs hnv hbW hnl hlist
 go_enter Try.func172,Try.ntmps172
 go_upto_region 5 with fail
 refine fC ((λu=>u.cell? ⟨I.bW,0,none⟩=some (.pointer (some ⟨I.bm,0,none⟩))/\u.cell? ⟨b,0,none⟩=some (.pointer (some ⟨bP,0,none⟩))/\u.cell? ⟨b,2,none⟩=some (.slice na a nc)/\u.cell? ⟨bP,0,none⟩=some (.int .i64 0))) 27 (by kernel_rfl) ?hS0L1 ?_
 case hS0L1=>
  (try dsimp only)
  (first|exact⟨x0,y0,y2,p0⟩|exact⟨z0,z1,z2,z3⟩|exact⟨t0,t1,t2,t3⟩|exact⟨(((Gr.new w6 _)).cell lW6).trans z0,(((Gr.new w6 _)).cell lK).trans z1,(((Gr.new w6 _)).cell lK).trans z2,(((Gr.new w6 _)).cell lP6).trans z3⟩)
 intro hS hcl
 refine aD (i:=0) (v:=?tv0L1) 28 rfl (by kernel_rfl) (by kernel_rfl) (by kernel_rfl) (by kernel_rfl) (by kernel_rfl) hcl (by first|exact λ_ _ _ h=>h|exact λ_ _ _ h=>HQp.out _ _ _ _ h) (Or.inl ⟨by rfl,?th0L1⟩) hS ?tr0L1
 (case th0L1=>(intro w hSw;(try dsimp only at hSw);go_simp;try with_reducible rfl))
 clear hcl;intro hcl
 (try simp only [Act.put,zs])
 refine aD (i:=1) (v:=?tv1L1) 28 rfl (by kernel_rfl) (by kernel_rfl) (by kernel_rfl) (by kernel_rfl) (by kernel_rfl) hcl (by first|exact λ_ _ _ h=>h|exact λ_ _ _ h=>HQp.out _ _ _ _ h) (Or.inl ⟨by rfl,?th1L1⟩) hS ?tr1L1
 (case th1L1=>(intro w hSw;(try dsimp only at hSw);go_simp;try with_reducible rfl))
 clear hcl;intro hcl
 (try simp only [Act.put,zs])
 refine aD (i:=2) (v:=?tv2L1) 28 rfl (by kernel_rfl) (by kernel_rfl) (by kernel_rfl) (by kernel_rfl) (by kernel_rfl) hcl (by first|exact λ_ _ _ h=>h|exact λ_ _ _ h=>HQp.out _ _ _ _ h) (Or.inl ⟨by rfl,?th2L1⟩) hS ?tr2L1
 (case th2L1=>(intro w hSw;(try dsimp only at hSw);go_simp;try with_reducible rfl))
 clear hcl;intro hcl
 (try simp only [Act.put,zs])
 refine aD (i:=3) (v:=?tv3L1) 28 rfl (by kernel_rfl) (by kernel_rfl) (by kernel_rfl) (by kernel_rfl) (by kernel_rfl) hcl (by first|exact λ_ _ _ h=>h|exact λ_ _ _ h=>HQp.out _ _ _ _ h) (Or.inl ⟨by rfl,?th3L1⟩) hS ?tr3L1
 (case th3L1=>(intro w hSw;(try dsimp only at hSw);go_simp;try with_reducible rfl))
 clear hcl;intro hcl
 (try simp only [Act.put,zs])
 refine aD (i:=4) (v:=?tv4L1) 28 rfl (by kernel_rfl) (by kernel_rfl) (by kernel_rfl) (by kernel_rfl) (by kernel_rfl) hcl (by first|exact λ_ _ _ h=>h|exact λ_ _ _ h=>HQp.out _ _ _ _ h) (Or.inl ⟨by rfl,?th4L1⟩) hS ?tr4L1
 (case th4L1=>(intro w hSw;(try dsimp only at hSw);go_simp;try with_reducible rfl))
 clear hcl;intro hcl
 (try simp only [Act.put,zs])
 refine aD (i:=5) (v:=?tv5L1) 28 rfl (by kernel_rfl) (by kernel_rfl) (by kernel_rfl) (by kernel_rfl) (by kernel_rfl) hcl (by first|exact λ_ _ _ h=>h|exact λ_ _ _ h=>HQp.out _ _ _ _ h) (Or.inl ⟨by rfl,?th5L1⟩) hS ?tr5L1
 (case th5L1=>(intro w hSw;(try dsimp only at hSw);go_simp;try with_reducible rfl))
 clear hcl;intro hcl
 (try simp only [Act.put,zs])
 refine aD (i:=6) (v:=?tv6L1) 28 rfl (by kernel_rfl) (by kernel_rfl) (by kernel_rfl) (by kernel_rfl) (by kernel_rfl) hcl (by first|exact λ_ _ _ h=>h|exact λ_ _ _ h=>HQp.out _ _ _ _ h) (Or.inl ⟨by rfl,?th6L1⟩) hS ?tr6L1
 (case th6L1=>(intro w hSw;(try dsimp only at hSw);go_simp;try with_reducible rfl))
 clear hcl;intro hcl
 (try simp only [Act.put,zs])
 refine aD (i:=7) (v:=?tv7L1) 28 rfl (by kernel_rfl) (by kernel_rfl) (by kernel_rfl) (by kernel_rfl) (by kernel_rfl) hcl (by first|exact λ_ _ _ h=>h|exact λ_ _ _ h=>HQp.out _ _ _ _ h) (Or.inl ⟨by rfl,?th7L1⟩) hS ?tr7L1
 (case th7L1=>(intro w hSw;(try dsimp only at hSw);go_simp;try with_reducible rfl))
 clear hcl;intro hcl
 (try simp only [Act.put,zs])
 refine aD (i:=8) (v:=?tv8L1) 28 rfl (by kernel_rfl) (by kernel_rfl) (by kernel_rfl) (by kernel_rfl) (by kernel_rfl) hcl (by first|exact λ_ _ _ h=>h|exact λ_ _ _ h=>HQp.out _ _ _ _ h) (Or.inl ⟨by rfl,?th8L1⟩) hS ?tr8L1
 (case th8L1=>(intro w hSw;(try dsimp only at hSw);go_simp;try with_reducible rfl))
 clear hcl;intro hcl
 (try simp only [Act.put,zs])
 refine aD (i:=9) (v:=?tv9L1) 28 rfl (by kernel_rfl) (by kernel_rfl) (by kernel_rfl) (by kernel_rfl) (by kernel_rfl) hcl (by first|exact λ_ _ _ h=>h|exact λ_ _ _ h=>HQp.out _ _ _ _ h) (Or.inl ⟨by rfl,?th9L1⟩) hS ?tr9L1
 (case th9L1=>(intro w hSw;(try dsimp only at hSw);go_simp;try with_reducible rfl))
 clear hcl;intro hcl
 (try simp only [Act.put,zs])
 refine aD (i:=10) (v:=?tv10L1) 28 rfl (by kernel_rfl) (by kernel_rfl) (by kernel_rfl) (by kernel_rfl) (by kernel_rfl) hcl (by first|exact λ_ _ _ h=>h|exact λ_ _ _ h=>HQp.out _ _ _ _ h) (Or.inl ⟨by rfl,?th10L1⟩) hS ?tr10L1
 (case th10L1=>(intro w hSw;(try dsimp only at hSw);go_simp;try with_reducible rfl))
 clear hcl;intro hcl
 (try simp only [Act.put,zs])
 refine aD (i:=11) (v:=?tv11L1) 28 rfl (by kernel_rfl) (by kernel_rfl) (by kernel_rfl) (by kernel_rfl) (by kernel_rfl) hcl (by first|exact λ_ _ _ h=>h|exact λ_ _ _ h=>HQp.out _ _ _ _ h) (Or.inl ⟨by rfl,?th11L1⟩) hS ?tr11L1
 (case th11L1=>(intro w hSw;(try dsimp only at hSw);go_simp;try with_reducible rfl))
 clear hcl;intro hcl
 (try simp only [Act.put,zs])
 refine aD (i:=12) (v:=?tv12L1) 28 rfl (by kernel_rfl) (by kernel_rfl) (by kernel_rfl) (by kernel_rfl) (by kernel_rfl) hcl (by first|exact λ_ _ _ h=>h|exact λ_ _ _ h=>HQp.out _ _ _ _ h) (Or.inl ⟨by rfl,?th12L1⟩) hS ?tr12L1
 (case th12L1=>(intro w hSw;(try dsimp only at hSw);go_simp;try with_reducible rfl))
 clear hcl;intro hcl
 (try simp only [Act.put,zs])
 refine aD (i:=13) (v:=?tv13L1) 28 rfl (by kernel_rfl) (by kernel_rfl) (by kernel_rfl) (by kernel_rfl) (by kernel_rfl) hcl (by first|exact λ_ _ _ h=>h|exact λ_ _ _ h=>HQp.out _ _ _ _ h) (Or.inl ⟨by rfl,?th13L1⟩) hS ?tr13L1
 (case th13L1=>(intro w hSw;(try dsimp only at hSw);go_simp;try with_reducible rfl))
 clear hcl;intro hcl
 (try simp only [Act.put,zs])
 refine aD (i:=14) (v:=?tv14L1) 28 rfl (by kernel_rfl) (by kernel_rfl) (by kernel_rfl) (by kernel_rfl) (by kernel_rfl) hcl (by first|exact λ_ _ _ h=>h|exact λ_ _ _ h=>HQp.out _ _ _ _ h) (Or.inl ⟨by rfl,?th14L1⟩) hS ?tr14L1
 (case th14L1=>(intro w hSw;(try dsimp only at hSw);go_simp;try with_reducible rfl))
 clear hcl;intro hcl
 (try simp only [Act.put,zs])
 refine aD (i:=15) (v:=?tv15L1) 28 rfl (by kernel_rfl) (by kernel_rfl) (by kernel_rfl) (by kernel_rfl) (by kernel_rfl) hcl (by first|exact λ_ _ _ h=>h|exact λ_ _ _ h=>HQp.out _ _ _ _ h) (Or.inl ⟨by rfl,?th15L1⟩) hS ?tr15L1
 (case th15L1=>(intro w hSw;(try dsimp only at hSw);go_simp;try with_reducible rfl))
 clear hcl;intro hcl
 (try simp only [Act.put,zs])
 refine aD (i:=16) (v:=?tv16L1) 28 rfl (by kernel_rfl) (by kernel_rfl) (by kernel_rfl) (by kernel_rfl) (by kernel_rfl) hcl (by first|exact λ_ _ _ h=>h|exact λ_ _ _ h=>HQp.out _ _ _ _ h) (Or.inl ⟨by rfl,?th16L1⟩) hS ?tr16L1
 (case th16L1=>(intro w hSw;(try dsimp only at hSw);go_simp;try with_reducible rfl))
 clear hcl;intro hcl
 (try simp only [Act.put,zs])
 refine aD (i:=17) (v:=?tv17L1) 28 rfl (by kernel_rfl) (by kernel_rfl) (by kernel_rfl) (by kernel_rfl) (by kernel_rfl) hcl (by first|exact λ_ _ _ h=>h|exact λ_ _ _ h=>HQp.out _ _ _ _ h) (Or.inl ⟨by rfl,?th17L1⟩) hS ?tr17L1
 (case th17L1=>(intro w hSw;(try dsimp only at hSw);go_simp;try with_reducible rfl))
 clear hcl;intro hcl
 (try simp only [Act.put,zs])
 refine aD (i:=18) (v:=?tv18L1) 28 rfl (by kernel_rfl) (by kernel_rfl) (by kernel_rfl) (by kernel_rfl) (by kernel_rfl) hcl (by first|exact λ_ _ _ h=>h|exact λ_ _ _ h=>HQp.out _ _ _ _ h) (Or.inl ⟨by rfl,?th18L1⟩) hS ?tr18L1
 (case th18L1=>(intro w hSw;(try dsimp only at hSw);go_simp;try with_reducible rfl))
 clear hcl;intro hcl
 (try simp only [Act.put,zs])
 refine aD (i:=19) (v:=?tv19L1) 28 rfl (by kernel_rfl) (by kernel_rfl) (by kernel_rfl) (by kernel_rfl) (by kernel_rfl) hcl (by first|exact λ_ _ _ h=>h|exact λ_ _ _ h=>HQp.out _ _ _ _ h) (Or.inl ⟨by rfl,?th19L1⟩) hS ?tr19L1
 (case th19L1=>(intro w hSw;(try dsimp only at hSw);go_simp;try with_reducible rfl))
 clear hcl;intro hcl
 (try simp only [Act.put,zs])
 refine aD (i:=20) (v:=?tv20L1) 28 rfl (by kernel_rfl) (by kernel_rfl) (by kernel_rfl) (by kernel_rfl) (by kernel_rfl) hcl (by first|exact λ_ _ _ h=>h|exact λ_ _ _ h=>HQp.out _ _ _ _ h) (Or.inl ⟨by rfl,?th20L1⟩) hS ?tr20L1
 (case th20L1=>(intro w hSw;(try dsimp only at hSw);go_simp;try with_reducible rfl))
 clear hcl;intro hcl
 (try simp only [Act.put,zs])
 refine aD (i:=21) (v:=?tv21L1) 28 rfl (by kernel_rfl) (by kernel_rfl) (by kernel_rfl) (by kernel_rfl) (by kernel_rfl) hcl (by first|exact λ_ _ _ h=>h|exact λ_ _ _ h=>HQp.out _ _ _ _ h) (Or.inl ⟨by rfl,?th21L1⟩) hS ?tr21L1
 (case th21L1=>(intro w hSw;(try dsimp only at hSw);go_simp;try with_reducible rfl))
 clear hcl;intro hcl
 (try simp only [Act.put,zs])
 refine aM (i:=22) (by kernel_rfl) rfl hcl (λK' hK=>?_)
 have HK:=Lib.hid hK;clear hK
 ((rw [if_pos (by kernel_rfl)]);(try simp only [zq1,zq2,zq3]);go_big_op)
 (first|(go_at_call 144;refine(Rd.out _ ?_).mono ?_;(exact(Chg.refl _ _).drew);rintro e w6 ⟨rfl,hm1,hc1⟩;have hc1':Chg (bO I.bm I.bw) w w6:=hc0.trans hc1;have z0:=aJ hc1' S2.out x0;have z1:=aJ hc1' Nb.out y0;have z2:=aJ hc1' Nb.out y2;have z3:=aJ hc1' NP.out p0;have hb6:=Hb.out.chg hc1' NB.out;have nU:=fJ Hrow.out hc1' (λg e=>NB.out g (NR.out g e));have lK:=hb6.lt;have lW6:I.bW<w6.heap.size:=World.block_lt_of_cell? _ _ z0;have lP6:bP<w6.heap.size:=World.block_lt_of_cell? _ _ z3)|(refine step_append_lies _ (by rfl) _ _ _ (by rfl) 0 40 k0 _ 1 8 Try.underlying28 hk0 hu0 hu1 hu2 rfl (by omega) _ _ _ (by rfl) (nU.alloc _) ⟨w6.heap.size,0,none⟩ 1 1 [.int .u64 (g:Int)] (by rfl) (by rfl) (World.news_of_block (cs:=#[.int .u64 (g:Int)]) (t:=40) (fr:=(0,0)) (heap_alloc_new w6 _)) (by simp [Value.oneCell']) (by omega) (by unfold maxLen;(try dsimp only);omega) (by(try dsimp only);omega) (by simp) (w6.heap.size+1) (by simp) ?_;intro g8 wB w8 oC jH vI BS;have hc8:Chg (λk=>(Value.slice na a nc).ownBlock=some k) w6 w8:=((Chg.refl _ w6).alloc _).grown jH (λg hg=>.inl hg);have t0:=aJ hc8 (λe=>NB.out _ (NR.out _ e) |> λh9=>(HB.out _ (NR.out _ e)).2 (.inl rfl)) z0;have t1:=aJ hc8 (λe=>NRb.out _ e rfl) z1;have t2:=aJ hc8 (λe=>NRb.out _ e rfl) z2;have t3:=aJ hc8 (λe=>HbP.out (NR.out _ e)) z3;have tf:=aC ((hc8.block b lK (λe=>NRb.out _ e rfl)).trans hb6.blk) 2;have tl:b<w8.heap.size:=Nat.lt_of_lt_of_le lK hc8.size))
 refine HK.out _ _ ?hS22L1 (λhcl=>?_)
 case hS22L1=>
  intro _
  (try dsimp only)
  (first|exact⟨x0,y0,y2,p0⟩|exact⟨z0,z1,z2,z3⟩|exact⟨t0,t1,t2,t3⟩|exact⟨(((Gr.new w6 _)).cell lW6).trans z0,(((Gr.new w6 _)).cell lK).trans z1,(((Gr.new w6 _)).cell lK).trans z2,(((Gr.new w6 _)).cell lP6).trans z3⟩)
 clear HK
 (try simp only [Act.put,zs])
 refine aM (i:=23) (by kernel_rfl) rfl hcl (λK' hK=>?_)
 have HK:=Lib.hid hK;clear hK
 ((rw [if_pos (by kernel_rfl)]);(try simp only [zq1,zq2,zq3]);first|go_big_move|go_big_op)
 refine HK.out _ _ ?hS23L1 (λhcl=>?_)
 case hS23L1=>
  intro _
  (try dsimp only)
  (first|exact⟨x0,y0,y2,p0⟩|exact⟨z0,z1,z2,z3⟩|exact⟨t0,t1,t2,t3⟩|exact⟨(((Gr.new w6 _)).cell lW6).trans z0,(((Gr.new w6 _)).cell lK).trans z1,(((Gr.new w6 _)).cell lK).trans z2,(((Gr.new w6 _)).cell lP6).trans z3⟩)
 clear HK
 (try simp only [Act.put,zs])
 refine aM (i:=24) (by kernel_rfl) rfl hcl (λK' hK=>?_)
 have HK:=Lib.hid hK;clear hK
 (first|(go_at_call 144;refine(Rd.out _ ?_).mono ?_;(exact(Chg.refl _ _).drew);rintro e w6 ⟨rfl,hm1,hc1⟩;have hc1':Chg (bO I.bm I.bw) w w6:=hc0.trans hc1;have z0:=aJ hc1' S2.out x0;have z1:=aJ hc1' Nb.out y0;have z2:=aJ hc1' Nb.out y2;have z3:=aJ hc1' NP.out p0;have hb6:=Hb.out.chg hc1' NB.out;have nU:=fJ Hrow.out hc1' (λg e=>NB.out g (NR.out g e));have lK:=hb6.lt;have lW6:I.bW<w6.heap.size:=World.block_lt_of_cell? _ _ z0;have lP6:bP<w6.heap.size:=World.block_lt_of_cell? _ _ z3)|(refine step_append_lies _ (by rfl) _ _ _ (by rfl) 0 40 k0 _ 1 8 Try.underlying28 hk0 hu0 hu1 hu2 rfl (by omega) _ _ _ (by rfl) (nU.alloc _) ⟨w6.heap.size,0,none⟩ 1 1 [.int .u64 (g:Int)] (by rfl) (by rfl) (World.news_of_block (cs:=#[.int .u64 (g:Int)]) (t:=40) (fr:=(0,0)) (heap_alloc_new w6 _)) (by simp [Value.oneCell']) (by omega) (by unfold maxLen;(try dsimp only);omega) (by(try dsimp only);omega) (by simp) (w6.heap.size+1) (by simp) ?_;intro g8 wB w8 oC jH vI BS;have hc8:Chg (λk=>(Value.slice na a nc).ownBlock=some k) w6 w8:=((Chg.refl _ w6).alloc _).grown jH (λg hg=>.inl hg);have t0:=aJ hc8 (λe=>NB.out _ (NR.out _ e) |> λh9=>(HB.out _ (NR.out _ e)).2 (.inl rfl)) z0;have t1:=aJ hc8 (λe=>NRb.out _ e rfl) z1;have t2:=aJ hc8 (λe=>NRb.out _ e rfl) z2;have t3:=aJ hc8 (λe=>HbP.out (NR.out _ e)) z3;have tf:=aC ((hc8.block b lK (λe=>NRb.out _ e rfl)).trans hb6.blk) 2;have tl:b<w8.heap.size:=Nat.lt_of_lt_of_le lK hc8.size))
 refine HK.out _ _ ?hS24L1 (λhcl=>?_)
 case hS24L1=>
  intro _
  (try dsimp only)
  (first|exact⟨x0,y0,y2,p0⟩|exact⟨z0,z1,z2,z3⟩|exact⟨t0,t1,t2,t3⟩|exact⟨(((Gr.new w6 _)).cell lW6).trans z0,(((Gr.new w6 _)).cell lK).trans z1,(((Gr.new w6 _)).cell lK).trans z2,(((Gr.new w6 _)).cell lP6).trans z3⟩)
 clear HK
 (try simp only [Act.put,zs])
 refine aM (i:=25) (by kernel_rfl) rfl hcl (λK' hK=>?_)
 have HK:=Lib.hid hK;clear hK
 ((rw [if_pos (by kernel_rfl)]);(try simp only [zq1,zq2,zq3]);first|go_big_move|go_big_op)
 refine HK.out _ _ ?hS25L1 (λhcl=>?_)
 case hS25L1=>
  intro _
  (try dsimp only)
  (first|exact⟨x0,y0,y2,p0⟩|exact⟨z0,z1,z2,z3⟩|exact⟨t0,t1,t2,t3⟩|exact⟨(((Gr.new w6 _)).cell lW6).trans z0,(((Gr.new w6 _)).cell lK).trans z1,(((Gr.new w6 _)).cell lK).trans z2,(((Gr.new w6 _)).cell lP6).trans z3⟩)
 clear HK
 (try simp only [Act.put,zs])
 refine aM (i:=26) (by kernel_rfl) rfl hcl (λK' hK=>?_)
 have HK:=Lib.hid hK;clear hK
 ((rw [if_pos (by kernel_rfl)]);(try simp only [zq1,zq2,zq3]);first|go_big_move|go_big_op)
 refine HK.out _ _ ?hS26L1 (λhcl=>?_)
 case hS26L1=>
  intro _
  (try dsimp only)
  (first|exact⟨x0,y0,y2,p0⟩|exact⟨z0,z1,z2,z3⟩|exact⟨t0,t1,t2,t3⟩|exact⟨(((Gr.new w6 _)).cell lW6).trans z0,(((Gr.new w6 _)).cell lK).trans z1,(((Gr.new w6 _)).cell lK).trans z2,(((Gr.new w6 _)).cell lP6).trans z3⟩)
 clear HK
 (try simp only [Act.put,zs])
 refine aM (i:=27) (by kernel_rfl) rfl hcl (λK' hK=>?_)
 have HK:=Lib.hid hK;clear hK
 ((rw [if_pos (by kernel_rfl)]);(try simp only [zq1,zq2,zq3]);first|go_big_move|go_big_op)
 refine HK.out _ _ (λh=>by cases h.symm.trans (by kernel_rfl:_=true)) (λ_=>fD (by kernel_rfl) ?_ _)
 clear HK
 (try clear hS)
 obtain⟨hw1,nV⟩:=Hw.out.mems hc1' hm1
 obtain⟨w9,kL⟩:∃ w9,w9=w8.setCell ⟨b,2,none⟩ (.slice (some ⟨g8,0,none⟩) (a+1) wB):=⟨_,rfl⟩
 have gW:gN w8 (.slice (some ⟨g8,0,none⟩) (a+1) wB) (s.now++[g]):=by
  have e1:(s.now++[g]).length=a+1:=by rw [List.length_append,<-Ha.out];rfl
  have e2:(s.now++[g]).map cZ=xs++[.int .u64 (g:Int)]:=by rw [List.map_append,<-Hxs.out];rfl
  show World.ownsRow _ 0 _ 1 _ (s.now++[g]).length ((s.now++[g]).map cZ)
  rw [e1,e2];exact oC
 obtain⟨A9,T9⟩:=hb6.addNow (w1:=w8) (nv:=.slice (some ⟨g8,0,none⟩) (a+1) wB) (l:=s.now++[g]) (by rw [Hnv.out];exact hc8) gW (λj e=>by
  have e':g8=j:=Option.some.inj e
  rw [<-e',Hnv.out]
  exact vI.imp_right (λh9=>by omega))
 rw [<-kL] at A9 T9 ⊢
 have hP9:w9.heap[bP]?=some (.cells (jM n m q bU) 89 (0,0)):=(T9.chg.block bP lP6 HbP.out).trans ((hc1'.block bP (aH HP.out) NP.out).trans HP.out)
 have HA9:=Lib.hid A9;have HT9:=Lib.hid T9;have HP9:=Lib.hid hP9;have Hw6:=Lib.hid hw1;have HlP:=Lib.hid lP6;have HlW:=Lib.hid lW6;have Hch6:=Lib.hid nV
 have FIN:=Lib.hid (λ(w':World) (v':MuV) (s':MuD) (hA:MuAt w' b bP v' s') (hto:gQ w6 w' b v v')=>(show jF w w' Mut I NW (dM wd a) b bP v s' (.returned (.bool (aS s'))) from
  ⟨rfl,v',hA,sM (S:=λk=>bC I k∨MuB b v k) (nV.mono (λ_ _ h=>.inl h)) hto.chg (λ_ _ h=>.inr h),λj hj=>(hto.own j hj).imp_right (λh9=>Nat.le_trans nV.size h9),⟨w6,MuB b v,hw1,hto.chg,HB.out,λg hg=>(hto.own g hg).imp_left (λh9=>(HB.out g h9).1)⟩⟩))
 clear hw1 nV hc1 hc1' hm1 hb6 z0 z1 z2 z3 nU lK lW6 lP6 oC jH vI BS hc8 t0 t1 t2 t3 tf tl kL gW A9 T9 hP9 x0 y0 y2 y6 p0 hc0
 have e0:w9.cell? ⟨b,0,none⟩=some (.pointer (some ⟨bP,0,none⟩)):=HA9.out.get 0
 have e2:w9.cell? ⟨b,2,none⟩=some (.slice (some ⟨g8,0,none⟩) (a+1) wB):=HA9.out.get 2
 have eP:w9.cell? ⟨bP,2,none⟩=some (.int .i64 (m:Int)):=by rw [aA HP9.out];rfl
 go_upto_region 6 with fail
 by_cases hl:a+1=m
 ·have l1:((a:Int)+1)=(m:Int):=by omega
  have l2:(((a:Int)+1) ==(m:Int))=true:=by rw [beq_iff_eq];exact l1
  obtain⟨s1,hs1⟩:∃ s1:MuD,s1={ s with now:=s.now++[g] }:=⟨_,rfl⟩
  have hgo:bJ m q wd s=dH m q (dM wd a) s1:=by rw [Hgo.out,if_pos hl,hs1];rfl
  obtain⟨L1,L2,L3,L4⟩:=HL.out (by rw [<-Ha.out];exact hl)
  rw [<-Ha.out,<-Hg.out] at L2 L3 L4
  have WH:=Lib.hid (λ(u:World) (hu:Below w9.heap.size w9 u)=>FQ n m q bU hm dF hq dQ u Mut I NW b bP { v with nv:=.slice (some ⟨g8,0,none⟩) (a+1) wB } s1 (dM wd a) (λu9 YY=>jT Hw6.out (sM (HT9.out.chg.trans (Chg.of_below hu)) YY (λx hx IG=>(HT9.out.own x IG).resolve_right (by omega))) HB.out) (λe=>(HT9.out.own _ e).elim (λh9=>(HB.out _ h9).2 (.inl rfl)) (λh9=>by have:=HlW.out;omega)) (by rw [hs1];exact HA9.out.grown hu) ((hu.block _ (aH HP9.out)).trans HP9.out) (λe=>(HT9.out.own _ e).elim HbP.out (λh9=>by have:=HlP.out;omega)) (by rw [hs1];exact Hch.out) (by rw [hs1];exact L1) (by rw [hs1];show(s.now++[g]).length=m;rw [List.length_append,<-Ha.out];exact hl) (by rw [hs1];exact Hls.out) (by rw [hs1];exact L2) (by rw [hs1];exact L3) (by rw [hs1];exact L4))
  have Hgo2:=Lib.hid hgo
  clear hs1 hgo hl L1 L2 L3 L4
  go_quiet (fail)
  obtain⟨w10,BC⟩:∃ w10,w10=w9.drewN nq:=⟨_,rfl⟩
  have SB:Below w9.heap.size w9 w10:=by rw [BC];exact below_drewN (Gr.refl w9) nq
  rw [<-BC]
  have W10:=Lib.hid (WH.out w10 SB)
  have Hb10:=Lib.hid SB
  clear BC SB e0 e2 eP WH
  go_wp2_with fail
  refine W10.out.mono ?_
  rintro e w11 ⟨rfl,v5,hM5,yU⟩
  obtain⟨s5,hs5⟩:∃ s5,s5=dH m q (dM wd a) s1:=⟨_,rfl⟩
  rw [<-hs5] at hM5
  have F:=FIN.out w11 v5 s5 hM5 ((HT9.out.trans (gQ.grown Hb10.out)).trans yU)
  have F':jF w w11 Mut I NW (dM wd a) b bP v (bJ m q wd s) (.returned (.bool (aS s5))):=by rw [Hgo2.out,<-hs5];exact F
  have e6:w11.cell? ⟨b,6,none⟩=some (.bool s5.chosen):=hM5.get 6
  obtain⟨ra,rc,hrv,_,_⟩:=hM5.rds
  obtain⟨R,hR⟩:∃ R,R=s5.reads.length:=⟨_,rfl⟩
  rw [<-hR] at hrv
  have e5:w11.cell? ⟨b,5,none⟩=some (.slice ra R rc):=(hM5.get 5).trans (by rw [<-hrv];rfl)
  cases rE:s5.chosen with
  | false=>
   rw [rE] at e6
   have e:aS s5=false:=by unfold aS;rw [rE];rfl
   rw [e] at F'
   have F2:=Lib.hid F'
   clear F F' hM5 yU hs5 hR hrv e rE
   go_wp2
   go_ret
   exact F2.out
  | true=>
   rw [rE] at e6
   by_cases hR0:R=0
   ·have e:aS s5=true:=by unfold aS;rw [rE,List.eq_nil_of_length_eq_zero (hR.symm.trans hR0)];rfl
    rw [e] at F'
    have F2:=Lib.hid F'
    clear F F' hM5 yU hs5 hR hrv e rE
    subst hR0
    go_wp2
    go_ret
    exact F2.out
   ·have e:aS s5=false:=by
     unfold aS
     rw [rE,decide_eq_false (λe=>hR0 (by rw [hR,e];rfl))];rfl
    have l3:¬ (R:Int)=0:=by omega
    have l4:((R:Int) == 0)=false:=by simp;omega
    rw [e] at F'
    have F2:=Lib.hid F'
    clear F F' hM5 yU hs5 hR hrv e rE hR0
    go_wp2
    go_ret
    exact F2.out
 ·have l1:¬ ((a:Int)+1)=(m:Int):=by omega
  have l2:(((a:Int)+1) ==(m:Int))=false:=by simp [l1]
  have F:=Lib.hid (λ(nq:Nat)=>(show jF w (w9.drewN nq) Mut I NW (dM wd a) b bP v (bJ m q wd s) (.returned (.bool false)) from by
   rw [Hgo.out,if_neg hl]
   have h9:=FIN.out (w9.drewN nq) _ _ (HA9.out.grown (below_drewN (Gr.refl w9) nq)) (HT9.out.trans (gQ.grown (below_drewN (Gr.refl w9) nq)))
   have e:aS { s with now:=s.now++[g] }=false:=by unfold aS;show(s.chosen && _)=false;rw [Hch.out];rfl
   rw [e] at h9
   exact h9))
  have e6:w9.cell? ⟨b,6,none⟩=some (.bool false):=(HA9.out.get 6).trans (by show some (Value.bool s.chosen)=_;rw [Hch.out])
  clear hl
  go_quiet (fail)
  have d6:(w9.drewN nq).cell? ⟨b,6,none⟩=some (.bool false):=e6
  clear e0 e2 eP e6
  go_wp2
  go_ret
  exact F.out nq
end Go.Proofs.Ytifhldnmcdbpfaa
