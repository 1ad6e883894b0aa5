/- Layer 15: a scan's step: to collect. -/
import Derived.Test.YtfkokppncipgnaaGreatW37
set_option maxRecDepth 100000
set_option linter.unusedVariables false
set_option linter.unusedSimpArgs false
set_option linter.unnecessarySimpa false
namespace Go.Proofs.YtfkokppncipgnaaGreat
open List renaming getElem_toArray → zq1, getElem_cons_zero → zq2, getElem_cons_succ → zq3, setIfInBounds_toArray → zq4, set_cons_zero → zq5, set_cons_succ → zq6
open Go.RowKit
def mW (w':World) (Mut:Nat->Prop) (I:iM) (N:Nat) (wd':WD) (lv':Value):Prop:=
 ∃(w1:World) (S:Nat->Prop),bJ w1 Mut I N wd'/\Chg S w1 w'/\(∀ b,S b->Mut b/\¬ cK I b)/\∀ g,lv'.ownBlock=some g->Mut g∨w1.heap.size<=g
section
variable {w' w'':World} {Mut:Nat->Prop} {I:iM} {N:Nat} {wd':WD} {lv':Value}
theorem mW.toAt (h:mW w' Mut I N wd' lv'):bJ w' Mut I N wd':=by
 obtain⟨w1,S,h1,h2,h3,_⟩:=h
 exact h1.keep h2 (λb hb=>(h3 b hb).1) (λb hb=>(h3 b hb).2) (aN.refl _ _) (λb hb=>Nat.lt_of_lt_of_le (h1.low b hb) h2.size) h1.muts
theorem mW.up (h:mW w' Mut I N wd' lv') {Mut':Nat->Prop} (hm:∀ b,Mut' b->Mut b∨lv'.ownBlock=some b) (hl:∀ b,Mut' b->b<w'.heap.size) (hW:∀ b,cK I b->Mut' b):bJ w' Mut' I N wd':=by
 obtain⟨w1,S,h1,h2,h3,h4⟩:=h
 refine h1.keep h2 (λb hb=>(h3 b hb).1) (λb hb=>(h3 b hb).2) (λb hb=>?_) hl hW
 rcases hm b hb with h|h
 ·exact .inl h
 ·exact h4 b h
theorem mW.go (h:mW w' Mut I N wd' lv') {S':Nat->Prop} (hc:Chg S' w' w'') (hS:∀ b,S' b->Mut b/\¬ cK I b):mW w'' Mut I N wd' lv':=by
 obtain⟨w1,S,h1,h2,h3,h4⟩:=h
 exact⟨w1,λb=>S b∨S' b,h1,(h2.mono (λ_ _ h=>.inl h)).trans (hc.mono (λ_ _ h=>.inr h)),λb hb=>hb.elim (h3 b) (hS b),h4⟩
theorem mW.of (h:bJ w' Mut I N wd') (ho:∀ g,lv'.ownBlock=some g->Mut g):mW w' Mut I N wd' lv':=
 ⟨w',noB,h,Chg.refl _ _,λ_ h=>h.elim,λg hg=>.inl (ho g hg)⟩
end
def xS (w w':World) (Mut:Nat->Prop) (I:iM) (N:Nat) (wd':WD) (b bP:Nat) (lv:Value) (s':ScD) (e:Ending):Prop:=
 e=.returned (.bool (decide (s'.pc=3)))/\Chg (λk=>cK I k∨k=b∨lv.ownBlock=some k) w w'/\∃ lv',mW w' Mut I N wd' lv'/\aR w' b bP s' lv'/\w'.ownsRow 0 46 1 lv' s'.list.length (s'.list.map bI)/\(∀ g,lv'.ownBlock=some g->(lv.ownBlock=some g∨w.heap.size<=g)/\g≠b/\g<w'.heap.size)/\(s'.pc=0->lv'=.slice none 0 0)
theorem Ir (n:Nat) (hn:n<=16) (w:World) (Mut:Nat->Prop) (I:iM) (N:Nat) (wd:WD) (b bP:Nat) (s:ScD) (hw:bJ w Mut I N wd) (hbM:Mut b/\¬ cK I b) (hb:aR w b bP s (.slice none 0 0)) (hne:bP≠b) (hP:w.cell? ⟨bP,1,none⟩=some (.int .i64 (n:Int))) (Qj:s.rounds<=1000) (hnil:s.list=[]) (hT:wd.now<1000000000)
  (hlive:1<=s.rounds->∀ d f,iA s.old s.now n 0 s.diff=(d,some f)->f<1000000/\wd.traces (f:Int)≠[]) :
  Calls Tryz.prog 218 #[.pointer (some ⟨b,0,none⟩),.pointer (some ⟨I.bW,0,none⟩)] w λe w'=>LW w w' b bP (eH n wd s) e:=by
 by_cases hr:s.rounds=0
 ·obtain⟨mks,hwb,_,_⟩:=hw.blk
  refine(XH w b bP I.bW s (.slice none 0 0) wd.now hb (by rw [aA hwb];exact iL) (λe=>hbM.2 (.inl e.symm)) hr).mono ?_
  rintro e u ⟨rfl,hc,hbu⟩
  refine⟨rfl,.slice none 0 0,?_⟩
  have e:eH n wd s={ s with at_:=0,rounds:=s.rounds+1,old:=s.now,last:=wd.now }:=by unfold eH;rw [if_pos (by omega)]
  rw [e]
  refine⟨?_,λ_=>rfl⟩
  refine⟨hbu,?_,hc.mono (λ_ _ e=>.inl e),λg hg=>by cases hg⟩
  show u.ownsRow 0 _ 1 _ s.list.length (s.list.map bI)
  rw [hnil];exact World.ownsRow_nil _ _ _ _
 ·exact Ao n hn w Mut I N wd b bP s hw hbM hb hne hP (by omega) Qj hnil hT (hlive (by omega))
set_option maxHeartbeats 8000000 in
theorem TK (n k:Nat) (us:List Nat) (hn:n<=16) (w:World) (Mut:Nat->Prop) (I:iM) (N:Nat) (wd:WD) (b bP:Nat) (s:ScD) (hw:bJ w Mut I N wd) (hbM:Mut b/\¬ cK I b) (hb:aR w b bP s (.slice none 0 0)) (hne:bP≠b) (hPW:¬ cK I bP) (hP:w.heap[bP]?=some (.cells (jB n k us).toArray 114 (0,0))) (hpc:s.pc=0) (hat:s.at_<n) (Qj:s.rounds<=999) (hnil:s.list=[]) (hT:wd.now<1000000000) (hcn:wd.mem.c.all+1<1000000000000)
  (hlive:s.at_+1=n->1<=s.rounds->∀ d f,iA s.old (s.now.set s.at_ (dZ wd s.at_)) n 0 s.diff=(d,some f)->f<1000000/\wd.traces (f:Int)≠[]) :
  Calls Tryz.prog 217 #[.pointer (some ⟨b,0,none⟩),.pointer (some ⟨I.bW,0,none⟩)] w λe w'=>xS w w' Mut I N (vQ wd s) b bP (.slice none 0 0) (bE n wd s) e:=by
 obtain⟨s1,s2,s3⟩:=jZ hw
 obtain⟨mks,hwb,_,_⟩:=hw.blk
 have x0:w.cell? ⟨I.bW,0,none⟩=some (.pointer (some ⟨I.bm,0,none⟩)):=by rw [aA hwb];exact kE
 have y0:=hb.ptr
 have y1:=hb.pc
 rw [hpc] at y1
 obtain⟨a,ha⟩:∃ a,a=s.at_:=⟨_,rfl⟩
 have y2:w.cell? ⟨b,2,none⟩=some (.int .i64 (a:Int)):=by rw [ha];exact hb.at_
 have p0:w.cell? ⟨bP,0,none⟩=some (.int .i64 0):=by rw [aA hP];rfl
 have nb:¬ bY I.bm I.bw b:=λh=>hbM.2 (s3 b h).1
 have nP:¬ bY I.bm I.bw bP:=λh=>hPW (s3 bP h).1
 have hbW:I.bW≠b:=λe=>hbM.2 (.inl e.symm)
 have Rd:=Lib.hid (λ(u:World) (h:Chg noB w u)=>OO I.bm I.bw wd.mem (a:Int) u (hw.mem.chg h (λh=>h) (λ_ _ h=>h)) hcn)
 obtain⟨g,hg⟩:∃ g,g=dZ wd a:=⟨_,rfl⟩
 rw [show(bL wd.mem (a:Int)).2=g from hg.symm] at Rd
 have hadr:bK s=a:=by unfold bK;rw [if_pos hpc,ha]
 have hwd':vQ wd s=eY wd a:=by unfold vQ;rw [hadr]
 have hgo:bE n wd s=if a+1=n then eH n wd { s with now:=s.now.set a g,at_:=a+1 } else { s with now:=s.now.set a g,at_:=a+1 }:=by
  unfold bE jJ
  rw [if_pos hpc,hadr,<-hg,ha]
 have wa1:IntKind.i64.wrap ((a:Int)+1)=(a:Int)+1:=by rw [IntKind.wrap_i64];omega
 have wa2:IntKind.i64.wrap (a:Int)=(a:Int):=by rw [IntKind.wrap_i64];omega
 have l16:(a:Int)<16:=by omega
 have hblt:=hb.lt
 have hc0:Chg (bY I.bm I.bw) w w.drew:=(Chg.refl _ w).drew
 rw [hwd']
 have Hw:=Lib.hid hw;have Hb:=Lib.hid hb;have Nb:=Lib.hid nb;have NP:=Lib.hid nP;have S2:=Lib.hid s2;have HbM:=Lib.hid hbM;have Hne:=Lib.hid hne;have HP:=Lib.hid hP;have Hg:=Lib.hid hg;have Hgo:=Lib.hid hgo;have Ha:=Lib.hid ha;have HL:=Lib.hid hlive;have Hnil:=Lib.hid hnil;have Hpc:=Lib.hid hpc;have HPW:=Lib.hid hPW
 clear hw hb nb nP s1 s2 s3 hbM hne hP hg hgo hwd' hadr hwb hlive hnil hpc hPW ha hcn
 go_enter Tryz.func217,Tryz.ntmps217
 go_upto_region 3 with fail
 refine bU ((λu=>u.cell? ⟨I.bW,0,none⟩=some (.pointer (some ⟨I.bm,0,none⟩))/\u.cell? ⟨b,0,none⟩=some (.pointer (some ⟨bP,0,none⟩))/\u.cell? ⟨b,2,none⟩=some (.int .i64 (a:Int))/\u.cell? ⟨bP,0,none⟩=some (.int .i64 0))) 25 (by kernel_rfl) ?hS0L1 ?_
 case hS0L1=>
  (exact⟨x0,y0,y2,p0⟩)
 intro hS hcl
 refine wL (i:=0) 26 rfl hcl hS ?_
 clear hcl;intro hcl
 (simp only [Act.put,zs])
 refine wL (i:=1) 26 rfl hcl hS ?_
 clear hcl;intro hcl
 (simp only [Act.put,zs])
 refine wL (i:=2) 26 rfl hcl hS ?_
 clear hcl;intro hcl
 (simp only [Act.put,zs])
 refine wL (i:=3) 26 rfl hcl hS ?_
 clear hcl;intro hcl
 (simp only [Act.put,zs])
 refine wL (i:=4) 26 rfl hcl hS ?_
 clear hcl;intro hcl
 (simp only [Act.put,zs])
 refine wL (i:=5) 26 rfl hcl hS ?_
 clear hcl;intro hcl
 (simp only [Act.put,zs])
 refine wL (i:=6) 26 rfl hcl hS ?_
 clear hcl;intro hcl
 (simp only [Act.put,zs])
 refine wL (i:=7) 26 rfl hcl hS ?_
 clear hcl;intro hcl
 (simp only [Act.put,zs])
 refine wL (i:=8) 26 rfl hcl hS ?_
 clear hcl;intro hcl
 (simp only [Act.put,zs])
 refine wL (i:=9) 26 rfl hcl hS ?_
 clear hcl;intro hcl
 (simp only [Act.put,zs])
 refine wL (i:=10) 26 rfl hcl hS ?_
 clear hcl;intro hcl
 (simp only [Act.put,zs])
 refine wL (i:=11) 26 rfl hcl hS ?_
 clear hcl;intro hcl
 (simp only [Act.put,zs])
 refine wL (i:=12) 26 rfl hcl hS ?_
 clear hcl;intro hcl
 (simp only [Act.put,zs])
 refine wL (i:=13) 26 rfl hcl hS ?_
 clear hcl;intro hcl
 (simp only [Act.put,zs])
 refine wL (i:=14) 26 rfl hcl hS ?_
 clear hcl;intro hcl
 (simp only [Act.put,zs])
 refine wL (i:=15) 26 rfl hcl hS ?_
 clear hcl;intro hcl
 (simp only [Act.put,zs])
 refine wL (i:=16) 26 rfl hcl hS ?_
 clear hcl;intro hcl
 (simp only [Act.put,zs])
 refine wL (i:=17) 26 rfl hcl hS ?_
 clear hcl;intro hcl
 (simp only [Act.put,zs])
 refine wL (i:=18) 26 rfl hcl hS ?_
 clear hcl;intro hcl
 (simp only [Act.put,zs])
 refine wL (i:=19) 26 rfl hcl hS ?_
 clear hcl;intro hcl
 (simp only [Act.put,zs])
 refine wL (i:=20) 26 rfl hcl hS ?_
 clear hcl;intro hcl
 (simp only [Act.put,zs])
 refine wL (i:=22) 26 rfl hcl hS ?_
 clear hcl;intro hcl
 (simp only [Act.put,zs])
 refine wL (i:=23) 26 rfl hcl hS ?_
 clear hcl;intro hcl
 (simp only [Act.put,zs])
 refine aL (i:=21) (by kernel_rfl) rfl hcl (λK' hK=>?_)
 have HK:=Lib.hid hK;clear hK
 ((rw [if_pos (by kernel_rfl)]);(simp only [zq1,zq2,zq3]);go_big_op)
 (go_at_call 162;refine(Rd.out _ ?_).mono ?_;(exact(Chg.refl _ _).drew);rintro e w1 ⟨rfl,hm1,hc1⟩;have hc1':Chg (bY I.bm I.bw) w w1:=hc0.trans hc1;have z0:=aW hc1' S2.out x0;have hb1:=Hb.out.chg hc1' Nb.out;have z1:=aW hc1' Nb.out y0;have z2:=aW hc1' Nb.out y2;have z3:=aW hc1' NP.out p0;have z4:=hb1.now (t:=a) (by omega);have zf:=hb1.frozen (20+a);have zl:=hb1.lt)
 refine HK.out _ _ ?hS21L1 (λhcl=>?_)
 case hS21L1=>
  intro _
  (exact⟨z0,z1,z2,z3⟩)
 clear HK
 refine aL (i:=24) (by kernel_rfl) rfl hcl (λK' hK=>?_)
 have HK:=Lib.hid hK;clear hK
 ((rw [if_pos (by kernel_rfl)]);(simp only [zq1,zq2,zq3]);go_big_op)
 refine HK.out _ _ ?hS24L1 (λhcl=>?_)
 case hS24L1=>
  intro _
  (exact⟨z0,z1,z2,z3⟩)
 clear HK
 refine aL (i:=25) (by kernel_rfl) rfl hcl (λK' hK=>?_)
 have HK:=Lib.hid hK;clear hK
 ((rw [if_pos (by kernel_rfl)]);(simp only [zq1,zq2,zq3]);go_big_op)
 refine HK.out _ _ (λh=>by cases h.symm.trans (by kernel_rfl:_=true)) (λ_=>bV (by kernel_rfl) ?_ _)
 clear HK
 (clear hS)
 obtain⟨hw1,wO⟩:=Hw.out.mems hc1' hm1
 obtain⟨w2,hw2⟩:∃ w2,w2=w1.setCell ⟨b,20+a,none⟩ (.int .u64 (g:Int)):=⟨_,rfl⟩
 rw [<-hw2]
 have hb2:aR w2 b bP { s with now:=s.now.set a g } (.slice none 0 0):=by rw [hw2];exact hb1.setNow (by omega) g
 have hc2:Chg (λk=>k=b) w1 w2:=by rw [hw2];exact(Chg.refl (λk=>k=b) w1).setCell (p:=⟨b,20+a,none⟩) (.inl rfl) _
 obtain⟨w3,hw3⟩:∃ w3,w3=w2.setCell ⟨b,2,none⟩ (.int .i64 ((a:Int)+1)):=⟨_,rfl⟩
 have hb3:aR w3 b bP { s with now:=s.now.set a g,at_:=a+1 } (.slice none 0 0):=by rw [hw3];exact hb2.setAt (a+1)
 have hc3:Chg (λk=>k=b) w1 w3:=by rw [hw3];exact hc2.setCell (p:=⟨b,2,none⟩) (.inl rfl) _
 have Vi:=fT hw1 hc3 (λk hk=>by cases hk;exact HbM.out)
 have q2:w2.cell? ⟨b,2,none⟩=some (.int .i64 (a:Int)):=by rw [hb2.at_,Ha.out]
 have qf:=hb2.frozen 2
 have qlt:=hb2.lt
 have hP1:=(hc1'.block bP (aC HP.out) NP.out).trans HP.out
 have hP3:=(hc3.block bP (aC hP1) Hne.out).trans hP1
 have hcw3:Chg (λk=>cK I k∨k=b) w w3:=(wO.mono (λ_ _ h=>.inl h)).trans (hc3.mono (λ_ _ h=>.inr h))
 have Hb3:=Lib.hid hb3;have Hw3:=Lib.hid hw3;have Hw3':=Lib.hid Vi;have HP3:=Lib.hid hP3;have Hcw3:=Lib.hid hcw3
 clear hw1 wO hc1 hc1' hm1 hb1 z0 z1 z2 z3 z4 zf zl hw2 hb2 hc2 hw3 hb3 hc3 Vi hP1 hP3 hcw3 x0 y0 y1 y2 p0 hc0
 go_upto_region 5 with fail
 rw [<-Hw3.out]
 clear q2 qf qlt
 have e0:=Hb3.out.ptr
 have e1:w3.cell? ⟨b,1,none⟩=some (.int .i64 0):=by rw [Hb3.out.pc];show some (Value.int .i64 (s.pc:Int))=_;rw [Hpc.out];rfl
 have e2:w3.cell? ⟨b,2,none⟩=some (.int .i64 ((a:Int)+1)):=Hb3.out.at_
 have eP:w3.cell? ⟨bP,1,none⟩=some (.int .i64 (n:Int)):=by rw [aA HP3.out];rfl
 by_cases hl:a+1=n
 ·have l1:((a:Int)+1)=(n:Int):=by omega
  obtain⟨s1,hs1⟩:∃ s1,s1=({ s with now:=s.now.set a g,at_:=a+1 }:ScD):=⟨_,rfl⟩
  have HE:=Lib.hid (λ(u:World) (hu:Chg (λ_=>False) w3 u)=>Ir n hn u Mut I N (eY wd a) b bP s1 (fT Hw3'.out hu (λ_ h=>h.elim)) HbM.out (by rw [hs1];exact Hb3.out.chg hu (λh=>h)) Hne.out (aW hu (λh=>h) eP) (by rw [hs1];show s.rounds<=1000;omega) (by rw [hs1];exact Hnil.out) hT (by
   rw [hs1]
   intro h1 d f hd
   have hd':iA s.old (s.now.set s.at_ (dZ wd s.at_)) n 0 s.diff=(d,some f):=by rw [<-Ha.out,<-Hg.out];exact hd
   exact HL.out (by rw [<-Ha.out];exact hl) h1 d f hd'))
  have hgo:bE n wd s=eH n (eY wd a) s1:=by rw [Hgo.out,if_pos hl,hs1];rfl
  have Hgo2:=Lib.hid hgo
  have hx2:(w3.cell? ⟨b,2,none⟩)=some (.int .i64 (n:Int)):=by rw [e2,l1]
  clear hs1 hgo hl e2
  go_quiet (fail)
  have hcd:Chg (λ_=>False) w3 (w3.drewN nq):=(Chg.refl _ _).drewN nq
  obtain⟨w4,hw4⟩:∃ w4,w4=w3.drewN nq:=⟨_,rfl⟩
  rw [<-hw4] at hcd ⊢
  have H4:=Lib.hid (HE.out w4 hcd)
  have Hcd:=Lib.hid hcd
  clear hw4 hcd e0 e1 eP hx2
  go_wp2_with fail
  refine H4.out.mono ?_
  rintro e w5 ⟨rfl,Oz,Du,Ms⟩
  have Hr5:=Lib.hid Du
  have Hn5:=Lib.hid Ms
  obtain⟨s5,hs5⟩:∃ s5,s5=eH n (eY wd a) s1:=⟨_,rfl⟩
  rw [<-hs5] at Hr5 Hn5
  have Hs5:=Lib.hid hs5
  obtain⟨pc,TH⟩:∃ pc,pc=s5.pc:=⟨_,rfl⟩
  have e1:w5.cell? ⟨b,1,none⟩=some (.int .i64 (pc:Int)):=by rw [TH];exact Hr5.out.blk.pc
  have F:=Lib.hid (show xS w w5 Mut I N (eY wd a) b bP (.slice none 0 0) (bE n wd s) (.returned (.bool (decide (pc=3)))) from by
   rw [Hgo2.out,<-Hs5.out]
   have hc34:Chg (λk=>cK I k∨k=b∨(Value.slice none 0 0).ownBlock=some k) w w4:=(Hcw3.out.mono (λk _ h=>h.elim .inl (λh=>.inr (.inl h)))).trans (Hcd.out.mono (λ_ _ h=>h.elim))
   refine⟨by rw [TH],hc34.trans (Hr5.out.chg.mono (λk _ h=>.inr h)),Oz,⟨w4,_,fT Hw3'.out Hcd.out (λ_ h=>h.elim),Hr5.out.chg,(λk hk=>by rcases hk with rfl|hk;exact HbM.out;cases hk),λg hg=>?_⟩,Hr5.out.blk,Hr5.out.row,λg hg=>?_,Hn5.out⟩
   ·obtain⟨o1,o2,o3⟩:=Hr5.out.own g hg
    exact o1.elim (λh=>by cases h) .inr
   obtain⟨o1,o2,o3⟩:=Hr5.out.own g hg
   exact⟨o1.elim .inl (λh=>.inr (Nat.le_trans hc34.size h)),o2,o3⟩)
  clear Du hs5 Ms
  by_cases h3:pc=3
  ·have t3:((pc:Int) == 3)=true:=by rw [beq_iff_eq];omega
   have F2:=Lib.hid F.out
   rw [decide_eq_true h3] at F2
   clear TH h3
   go_wp2
   go_ret
   exact F2.out
  ·have t3:((pc:Int) == 3)=false:=by rw [beq_eq_false_iff_ne];omega
   have F2:=Lib.hid F.out
   rw [decide_eq_false h3] at F2
   clear TH h3
   go_wp2
   go_ret
   exact F2.out
 ·have l1:¬ ((a:Int)+1)=(n:Int):=by omega
  have F:=Lib.hid (λ(u:World) (hu:Chg (λ_=>False) w3 u)=>show xS w u Mut I N (eY wd a) b bP (.slice none 0 0) (bE n wd s) (.returned (.bool false)) from by
   rw [Hgo.out,if_neg hl]
   refine⟨?_,(Hcw3.out.mono (λk _ h=>h.elim .inl (λh=>.inr (.inl h)))).trans (hu.mono (λ_ _ h=>h.elim)),(.slice none 0 0),mW.of (fT Hw3'.out hu (λ_ h=>h.elim)) (λg hg=>by cases hg),Hb3.out.chg hu (λh=>h),?_,(λg hg=>by cases hg),λ_=>rfl⟩
   ·show Ending.returned (.bool false)=.returned (.bool (decide (s.pc=3)))
    rw [Hpc.out];rfl
   ·show u.ownsRow 0 _ 1 _ s.list.length (s.list.map bI)
    rw [Hnil.out];exact World.ownsRow_nil _ _ _ _)
  clear hl
  go_quiet (fail)
  have d1:(w3.drewN nq).cell? ⟨b,1,none⟩=some (.int .i64 0):=e1
  clear e0 e1 e2 eP
  go_wp2
  go_ret
  exact F.out _ ((Chg.refl _ _).drewN nq)
end Go.Proofs.YtfkokppncipgnaaGreat
