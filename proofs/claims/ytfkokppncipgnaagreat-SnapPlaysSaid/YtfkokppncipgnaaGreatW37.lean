/- Layer 15: a scan's parts: two collects are held against one another. -/
import Derived.Test.YtfkokppncipgnaaGreatW36
set_option maxRecDepth 100000
set_option linter.unusedVariables false
set_option linter.unusedSimpArgs false
set_option linter.unnecessarySimpa false
namespace Go.Proofs.YtfkokppncipgnaaGreat
open Go.RowKit
theorem BN:(Tryz.prog.info? 273).map (·.size)=some 16:=by kernel_rfl
theorem NH {l:List Nat}:∀ v∈l.map bI,v.oneCell'=true:=λv hv=>by
 obtain⟨y,_,rfl⟩:=List.mem_map.1 hv;rfl
theorem Dm {n:Nat} {wd:WD} {s:ScD} (h:1<=s.rounds) (he:s.old=s.now):eH n wd s=dI n n { s with at_:=0,rounds:=s.rounds+1,pc:=1,moment:=s.last }:=by
 unfold eH;rw [if_neg (by omega),if_pos he]
theorem wF {n:Nat} {wd:WD} {s:ScD} (h:1<=s.rounds) (he:s.old≠s.now) {d:List Bool} {f:Nat} (hd:iA s.old s.now n 0 s.diff=(d,some f)):eH n wd s={ s with at_:=0,rounds:=s.rounds+1,diff:=d,pc:=2,from_:=f,moment:=(wd.traces f).headD 0 }:=by
 unfold eH;rw [if_neg (by omega),if_neg he,hd]
theorem IJ {n:Nat} {wd:WD} {s:ScD} (h:1<=s.rounds) (he:s.old≠s.now) {d:List Bool} (hd:iA s.old s.now n 0 s.diff=(d,none)):eH n wd s={ s with at_:=0,rounds:=s.rounds+1,diff:=d,old:=s.now,last:=wd.now }:=by
 unfold eH;rw [if_neg (by omega),if_neg he,hd]
set_option maxHeartbeats 4000000 in
theorem XH (w:World) (b bP bW:Nat) (s:ScD) (lv:Value) (T:Nat) (hb:aR w b bP s lv) (hW:w.cell? ⟨bW,1,none⟩=some (.int .i64 (T:Int))) (hbW:bW≠b) (hr:s.rounds=0) :
  Calls Tryz.prog 218 #[.pointer (some ⟨b,0,none⟩),.pointer (some ⟨bW,0,none⟩)] w λe w'=>e=.returned (.tuple #[])/\Chg (λk=>k=b) w w'/\aR w' b bP { s with at_:=0,rounds:=s.rounds+1,old:=s.now,last:=T } lv:=by
 obtain⟨w1,hw1⟩:∃ w1,w1=(w.setCell ⟨b,2,none⟩ (.int .i64 0)).setCell ⟨b,3,none⟩ (.int .i64 1):=⟨_,rfl⟩
 have h1:aR w1 b bP { s with at_:=0,rounds:=1 } lv:=by rw [hw1];exact(hb.setAt 0).setRounds 1
 have hc1:Chg (λk=>k=b) w w1:=by rw [hw1];exact((Chg.refl (λk=>k=b) w).setCell (p:=⟨b,2,none⟩) (.inl rfl) _).setCell (p:=⟨b,3,none⟩) (.inl rfl) _
 have y2:=hb.at_
 have f2:=hb.frozen 2
 have y3:=hb.rounds
 have f3:=hb.frozen 3
 rw [hr] at y3
 have z3:w1.cell? ⟨b,3,none⟩=some (.int .i64 1):=h1.rounds
 have zr:=h1.rNow
 have zt:=h1.thereOld
 have zl:w1.cell? ⟨b,36,none⟩=some (.int .i64 (s.last:Int)):=h1.last
 have zf:=h1.frozen 36
 have zW:w1.cell? ⟨bW,1,none⟩=some (.int .i64 (T:Int)):=aW hc1 hbW hW
 obtain⟨cs,hcs⟩:∃ cs,cs=s.now.map bI:=⟨_,rfl⟩
 have hlen:cs.length=16:=by rw [hcs,List.length_map];exact hb.l2
 have hone:∀ v∈cs,v.oneCell'=true:=by rw [hcs];exact NH
 have hinf:(Tryz.prog.info? 273).map (·.size)=some cs.length:=by rw [BN,hlen]
 replace zr:w1.rangeAt b 20 cs:=by rw [hcs];exact zr
 have hund:Tryz.prog.underlying 273=some (.array 16 46):=by kernel_rfl
 obtain⟨u1,hu1⟩:∃ u1,u1=w1.drew.setCells b 4 cs:=⟨_,rfl⟩
 have hd:aR w1.drew b bP { s with at_:=0,rounds:=1 } lv:=h1.chg ((Chg.refl (λ_=>False) w1).drew) (λh=>h)
 obtain⟨hs1,hs2⟩:=hd.setOld s.now hb.l2
 rw [<-hcs,<-hu1] at hs1 hs2
 have q1:(w1.drew.setCells b 4 cs).rangeAt b 20 cs:=by rw [<-hu1,hcs];exact hs1.rNow
 have q2:(w1.drew.setCells b 4 cs).cell? ⟨bW,1,none⟩=some (.int .i64 (T:Int)):=by rw [<-hu1];exact aW hs2 hbW zW
 have q3:(w1.drew.setCells b 4 cs).there b 4 16:=by rw [<-hu1];exact hs1.thereOld
 have q4:(w1.drew.setCells b 4 cs).cell? ⟨b,36,none⟩=some (.int .i64 (s.last:Int)):=by rw [<-hu1];exact hs1.last
 have q5:(w1.drew.setCells b 4 cs).frozen? ⟨b,36,none⟩=false:=by rw [<-hu1];exact hs1.frozen 36
 have q6:b<(w1.drew.setCells b 4 cs).heap.size:=by rw [<-hu1];exact hs1.lt
 obtain⟨u2,hu2⟩:∃ u2,u2=(w1.drew.setCells b 4 cs).setCell ⟨b,36,none⟩ (.int .i64 (T:Int)):=⟨_,rfl⟩
 have hs3:aR u2 b bP { s with at_:=0,rounds:=1,old:=s.now,last:=T } lv:=by rw [hu2,<-hu1];exact hs1.setLast T
 have hs4:Chg (λk=>k=b) w u2:=by rw [hu2,<-hu1];exact((hc1.drew).trans hs2).setCell (p:=⟨b,36,none⟩) (.inl rfl) _
 have p1:((w1.drew.setCells b 4 cs).setCell ⟨b,36,none⟩ (.int .i64 (T:Int))).rangeAt b 20 cs:=by rw [<-hu2,hcs];exact hs3.rNow
 have p2:((w1.drew.setCells b 4 cs).setCell ⟨b,36,none⟩ (.int .i64 (T:Int))).cell? ⟨bW,1,none⟩=some (.int .i64 (T:Int)):=by
  rw [<-hu1] at q2 ⊢
  exact aW ((Chg.refl (λk=>k=b) u1).setCell (p:=⟨b,36,none⟩) (.inl rfl) _) hbW q2
 have p3:((w1.drew.setCells b 4 cs).setCell ⟨b,36,none⟩ (.int .i64 (T:Int))).there b 4 16:=by rw [<-hu2];exact hs3.thereOld
 have HU2:=Lib.hid hs3;have HC2:=Lib.hid hs4
 have H1:=Lib.hid h1;have Hc1:=Lib.hid hc1;have Hw1:=Lib.hid hw1;have HbW:=Lib.hid hbW;have Hcs:=Lib.hid hcs;have Hr:=Lib.hid hr
 clear hb h1 hc1 hw1 hcs hr hW hd hs1 hs2 hs3 hs4 hu1
 go_enter Tryz.func218,Tryz.ntmps218
 go_upto_region 6 with fail
 rw [<-Hw1.out]
 clear y2 f2 y3 f3
 go_upto_region 10 with fail
 clear z3
 go_region_held3 (λu=>u.rangeAt b 20 cs/\u.cell? ⟨bW,1,none⟩=some (.int .i64 (T:Int))/\u.there b 4 16) (first|exact⟨zr,zW,zt⟩|exact⟨q1,q2,q3⟩|exact⟨p1,p2,p3⟩) (fail)
 rw [<-hu2]
 go_wp2
 go_end0
 exact⟨rfl,HC2.out,by rw [Hr.out];exact HU2.out⟩
theorem RA (n:Nat):∀(m:Nat) (s:ScD),(dI n m s).pc=s.pc∨(dI n m s).pc=3
 | 0,s=>by
  show(if s.at_=n then 3 else s.pc)=s.pc∨(if s.at_=n then 3 else s.pc)=3
  by_cases h:s.at_=n
  ·rw [if_pos h];exact .inr rfl
  ·rw [if_neg h];exact .inl rfl
 | m+1,s=>by
  unfold dI
  by_cases hc:s.at_<n/\s.now.getD s.at_ 0=0
  ·rw [if_pos hc];exact RA n m _
  ·rw [if_neg hc]
   show(if s.at_=n then 3 else s.pc)=s.pc∨(if s.at_=n then 3 else s.pc)=3
   by_cases h:s.at_=n
   ·rw [if_pos h];exact .inr rfl
   ·rw [if_neg h];exact .inl rfl
theorem LQ {n m:Nat} {s:ScD} (h:s.pc≠0):(dI n m s).pc≠0:=by
 rcases RA n m s with h9|h9
 ·rw [h9];exact h
 ·omega
def LW (w w':World) (b bP:Nat) (s:ScD) (e:Ending):Prop:=e=.returned (.tuple #[])/\∃ lv',OT w w' b bP (.slice none 0 0) s lv'/\(s.pc=0->lv'=.slice none 0 0)
set_option maxHeartbeats 8000000 in
theorem Ao (n:Nat) (hn:n<=16) (w:World) (Mut:Nat->Prop) (I:iM) (N:Nat) (wd:WD) (b bP:Nat) (s:ScD) (hw:bJ w Mut I N wd) (hbM:Mut b/\¬ cK I b) (hb:aR w b bP s (.slice none 0 0)) (hne:bP≠b) (hP:w.cell? ⟨bP,1,none⟩=some (.int .i64 (n:Int))) (hr:1<=s.rounds) (Qj:s.rounds<=1000) (hnil:s.list=[]) (hT:wd.now<1000000000)
  (hlive:∀ d f,iA s.old s.now n 0 s.diff=(d,some f)->f<1000000/\wd.traces (f:Int)≠[]) :
  Calls Tryz.prog 218 #[.pointer (some ⟨b,0,none⟩),.pointer (some ⟨I.bW,0,none⟩)] w λe w'=>LW w w' b bP (eH n wd s) e:=by
 obtain⟨mks,hwb,_,_⟩:=hw.blk
 have hbW:I.bW≠b:=λe=>hbM.2 (.inl e.symm)
 obtain⟨r,hrr⟩:∃ r,r=s.rounds+1:=⟨_,rfl⟩
 have wr1:IntKind.i64.wrap ((s.rounds:Int)+1)=(r:Int):=by rw [IntKind.wrap_i64];omega
 obtain⟨w1,hw1⟩:∃ w1,w1=(w.setCell ⟨b,2,none⟩ (.int .i64 0)).setCell ⟨b,3,none⟩ (.int .i64 (r:Int)):=⟨_,rfl⟩
 have h1:aR w1 b bP { s with at_:=0,rounds:=r } (.slice none 0 0):=by rw [hw1];exact(hb.setAt 0).setRounds r
 have hc1:Chg (λk=>k=b) w w1:=by rw [hw1];exact((Chg.refl (λk=>k=b) w).setCell (p:=⟨b,2,none⟩) (.inl rfl) _).setCell (p:=⟨b,3,none⟩) (.inl rfl) _
 have y2:=hb.at_
 have f2:=hb.frozen 2
 have y3:=hb.rounds
 have f3:=hb.frozen 3
 have hwA:=fT hw hc1 (λj hj=>by cases hj;exact hbM)
 have hP1:w1.cell? ⟨bP,1,none⟩=some (.int .i64 (n:Int)):=aW hc1 hne hP
 have z3:w1.cell? ⟨b,3,none⟩=some (.int .i64 (r:Int)):=h1.rounds
 have hr1:((r:Int) == 1)=false:=by rw [beq_eq_false_iff_ne];omega
 obtain⟨cs,hcs⟩:∃ cs,cs=s.now.map bI:=⟨_,rfl⟩
 obtain⟨co,hco⟩:∃ co,co=s.old.map bI:=⟨_,rfl⟩
 have hlen:cs.length=16:=by rw [hcs,List.length_map];exact hb.l2
 have hlno:co.length=16:=by rw [hco,List.length_map];exact hb.l1
 have HIn:(Tryz.prog.info? 273).map (·.size)=some cs.length:=by rw [BN,hlen]
 have HIo:(Tryz.prog.info? 273).map (·.size)=some co.length:=by rw [BN,hlno]
 have HUn:Tryz.prog.underlying 273=some (.array 16 46):=by kernel_rfl
 have HUo:=HUn
 have zn:w1.rangeAt b 20 cs:=by rw [hcs];exact h1.rNow
 have zo:w1.rangeAt b 4 co:=by rw [hco];exact h1.rOld
 have heq:∀ u:World,(Op.equalIn 10000 273 (.agg co.toArray) (.agg cs.toArray)).run Tryz.prog u=.ok (decide (s.old=s.now)) u:=λu=>by rw [hco,hcs];exact Ca u hb.l1 hb.l2
 have HwA:=Lib.hid hwA;have H1:=Lib.hid h1;have Hc1:=Lib.hid hc1;have Hw1:=Lib.hid hw1;have HbW:=Lib.hid hbW;have Hcs:=Lib.hid hcs;have Hco:=Lib.hid hco;have Hrr:=Lib.hid hrr;have Hne:=Lib.hid hne;have HbM:=Lib.hid hbM;have HL:=Lib.hid hlive;have HP1:=Lib.hid hP1;have Hnil:=Lib.hid hnil;have Hr:=Lib.hid hr
 clear hw hwb hb h1 hc1 hw1 hcs hco hwA hne hbM hlive hnil hP hbW hrr hP1
 by_cases hon:s.old=s.now
 ·rw [decide_eq_true hon] at heq
  have y36:=H1.out.last
  go_enter Tryz.func218,Tryz.ntmps218
  go_upto_region 6 with fail
  rw [<-Hw1.out]
  clear y2 f2 y3 f3 wr1
  go_upto_region 7 with fail
  have LDo:∀ u:World,(u.rangeAt b 20 cs/\u.rangeAt b 4 co)->u.rangeAt b 4 co:=λu h=>h.2
  have LDn:∀ u:World,(u.rangeAt b 20 cs/\u.rangeAt b 4 co)->u.rangeAt b 20 cs:=λu h=>h.1
  refine wp_region_held_drew (S:=(λu=>u.rangeAt b 20 cs/\u.rangeAt b 4 co)) (by kernel_rfl) ?_ (λhHeld=>?_)
  ·(exact⟨zn,zo⟩)
  refine wpAnyH_take (i:=0) (v:=?tv1) rfl (by kernel_rfl) (by kernel_rfl) (by kernel_rfl) (λ_ _ _ h=>h) (Or.inl ⟨by rfl,?Rp⟩) (by assumption) ?tr1
  (case Rp=>(intro w hSw;go_simp;with_reducible rfl))
  (simp only [Act.put,zs])
  refine wpAnyH_take (i:=1) (v:=?tv2) rfl (by kernel_rfl) (by kernel_rfl) (by kernel_rfl) (λ_ _ _ h=>h) (Or.inl ⟨by rfl,?Qu⟩) (by assumption) ?tr2
  (case Qu=>(intro w hSw;go_simp;with_reducible rfl))
  (simp only [Act.put,zs])
  refine wpAnyH_take (i:=2) (v:=?tv3) rfl (by kernel_rfl) (by kernel_rfl) (by kernel_rfl) (λ_ _ _ h=>h) (Or.inl ⟨by rfl,?Py⟩) (by assumption) ?tr3
  (case Py=>(intro w hSw;go_simp;with_reducible rfl))
  (simp only [Act.put,zs])
  refine wpAnyH_take (i:=3) rfl (by kernel_rfl) (by kernel_rfl) (by kernel_rfl) (λ_ _ _ h=>h) (yieldsIf_load_mid (by rfl) _ _ rfl _ _ rfl _ _ LDo HUo rfl HIo) (by assumption) ?tr4
  (simp only [Act.put,zs])
  refine wpAnyH_take (i:=4) (v:=?tv5) rfl (by kernel_rfl) (by kernel_rfl) (by kernel_rfl) (λ_ _ _ h=>h) (Or.inl ⟨by rfl,?Sm⟩) (by assumption) ?tr5
  (case Sm=>(intro w hSw;go_simp;with_reducible rfl))
  (simp only [Act.put,zs])
  refine wpAnyH_take (i:=5) (v:=?tv6) rfl (by kernel_rfl) (by kernel_rfl) (by kernel_rfl) (λ_ _ _ h=>h) (Or.inl ⟨by rfl,?Qm⟩) (by assumption) ?tr6
  (case Qm=>(intro w hSw;go_simp;with_reducible rfl))
  (simp only [Act.put,zs])
  refine wpAnyH_take (i:=6) (v:=?tv7) rfl (by kernel_rfl) (by kernel_rfl) (by kernel_rfl) (λ_ _ _ h=>h) (Or.inl ⟨by rfl,?Ww⟩) (by assumption) ?tr7
  (case Ww=>(intro w hSw;go_simp;with_reducible rfl))
  (simp only [Act.put,zs])
  refine wpAnyH_take (i:=7) rfl (by kernel_rfl) (by kernel_rfl) (by kernel_rfl) (λ_ _ _ h=>h) (yieldsIf_load_mid (by rfl) _ _ rfl _ _ rfl _ _ LDn HUn rfl HIn) (by assumption) ?tr8
  (simp only [Act.put,zs])
  refine wpAnyH_take (i:=8) (v:=?tv9) rfl (by kernel_rfl) (by kernel_rfl) (by kernel_rfl) (λ_ _ _ h=>h) (Or.inl ⟨by rfl,?th9⟩) (by assumption) ?tr9
  (case th9=>(intro w hSw;go_simp;with_reducible rfl))
  (simp only [Act.put,zs])
  refine wpAnyH_take (i:=9) (v:=?aAD) rfl (by kernel_rfl) (by kernel_rfl) (by kernel_rfl) (λ_ _ _ h=>h) (Or.inl ⟨by rfl,?Pp⟩) (by assumption) ?aAl
  (case Pp=>(intro w hSw;go_simp;with_reducible rfl))
  (simp only [Act.put,zs])
  refine wpAnyH_done (by kernel_rfl) ?_ _
  obtain⟨v1,hv1⟩:∃ v1,v1=w1.drew:=⟨_,rfl⟩
  have hcv:Chg (λk=>k=b) w v1:=by rw [hv1];exact Hc1.out.drew
  have hbv:aR v1 b bP { s with at_:=0,rounds:=r } (.slice none 0 0):=by rw [hv1];exact H1.out.chg ((Chg.refl (λ_=>False) w1).drew) (λh=>h)
  rw [<-hv1]
  have y36:=hbv.last
  have y1:=hbv.pc
  have g1:=hbv.frozen 1
  have y55:=hbv.mom
  have g55:=hbv.frozen 55
  have glt:=hbv.lt
  obtain⟨v2,hv2⟩:∃ v2,v2=(v1.setCell ⟨b,1,none⟩ (.int .i64 1)).setCell ⟨b,55,none⟩ (.int .i64 (s.last:Int)):=⟨_,rfl⟩
  have hb2:aR v2 b bP { s with at_:=0,rounds:=r,pc:=1,moment:=s.last } (.slice none 0 0):=by rw [hv2];exact(hbv.setPc 1).setMom s.last
  have hc2:Chg (λk=>k=b) w v2:=by rw [hv2];exact(hcv.setCell (p:=⟨b,1,none⟩) (.inl rfl) _).setCell (p:=⟨b,55,none⟩) (.inl rfl) _
  have Yr:Chg (λk=>k=b) w1 v2:=by rw [hv2,hv1];exact(((Chg.refl (λk=>k=b) w1).drew).setCell (p:=⟨b,1,none⟩) (.inl rfl) _).setCell (p:=⟨b,55,none⟩) (.inl rfl) _
  have PS:=Lib.hid (QE n hn v2 b bP { s with at_:=0,rounds:=r,pc:=1,moment:=s.last } (.slice none 0 0) ⟨hb2,by show v2.ownsRow 0 _ 1 _ s.list.length (s.list.map bI);rw [Hnil.out];exact World.ownsRow_nil _ _ _ _,Chg.refl _ _,λg hg=>by cases hg⟩ Hne.out (aW Yr Hne.out HP1.out) (λe=>by cases e) (Nat.zero_le _) (by show s.list.length<=16;rw [Hnil.out];exact Nat.zero_le _) (by show s.list.length=0;rw [Hnil.out];rfl))
  have Hc2:=Lib.hid hc2;have Hv2:=Lib.hid hv2
  have Hfin:=Lib.hid (show eH n wd s=dI n n { s with at_:=0,rounds:=r,pc:=1,moment:=s.last } by rw [Dm Hr.out hon,Hrr.out])
  clear hv1 hcv hbv hb2 hc2 Yr hv2 zn zo heq LDo LDn hHeld hon z3
  go_upto_region 9 with fail
  rw [<-Hv2.out]
  go_wp2_with fail
  refine PS.out.mono ?_
  rintro e u ⟨rfl,lv',hr⟩
  have F:=Lib.hid (show LW w u b bP (eH n wd s) (.returned (.tuple #[])) from⟨rfl,lv',by
   rw [Hfin.out]
   refine⟨?_,λe=>absurd e (LQ (Nat.one_ne_zero))⟩
   refine⟨hr.blk,hr.row,Hc2.out.mono (λ_ _ e=>.inl e) |>.trans hr.chg,λg hg=>?_⟩
   obtain⟨h1,h2,h3⟩:=hr.own g hg
   exact⟨h1.elim (λe=>by cases e) (λh=>.inr (Nat.le_trans Hc2.out.size h)),h2,h3⟩⟩)
  clear hr
  go_wp2
  ((refine bodyPost_ret (results_none rfl _ _ _) rfl ?_))
  exact F.out
 ·rw [decide_eq_false hon] at heq
  have DF:=λ(u:World) (hu:aR u b bP { s with at_:=0,rounds:=r } (.slice none 0 0)) (hp:u.cell? ⟨bP,1,none⟩=some (.int .i64 (n:Int)))=>RG n hn u b bP { s with at_:=0,rounds:=r } (.slice none 0 0) hu Hne.out hp
  obtain⟨R,hR⟩:∃ R,R=iA s.old s.now n 0 s.diff:=⟨_,rfl⟩
  simp only [<-hR] at DF
  have LDo:∀ u:World,(u.rangeAt b 20 cs/\u.rangeAt b 4 co)->u.rangeAt b 4 co:=λu h=>h.2
  have LDn:∀ u:World,(u.rangeAt b 20 cs/\u.rangeAt b 4 co)->u.rangeAt b 20 cs:=λu h=>h.1
  have HDF:=Lib.hid DF;have HRR:=Lib.hid hR;have Hon:=Lib.hid hon
  clear DF hR hon
  obtain⟨d,o⟩:=R
  cases o with
  | some f=>
   obtain⟨hf1,hf2⟩:=HL.out d f HRR.out.symm
   obtain⟨m,rest,hm⟩:∃ m rest,wd.traces (f:Int)=m::rest:=by
    cases h9:wd.traces (f:Int) with
    | nil=>exact absurd h9 hf2
    | cons m rest=>exact⟨m,rest,rfl⟩
   have wf:IntKind.i64.wrap (f:Int)=(f:Int):=by rw [IntKind.wrap_i64];omega
   have hwf:(Lit.int .i64 (f:Int)).wf=true:=by simp [Lit.wf,IntKind.min,IntKind.max,IntKind.signed,IntKind.bits];omega
   have Hfin:=Lib.hid (show eH n wd s={ s with at_:=0,rounds:=r,diff:=d,pc:=2,from_:=f,moment:=m } by rw [wF Hr.out Hon.out HRR.out.symm,Hrr.out,hm];rfl)
   have Hm:=Lib.hid hm
   clear hf1 hf2 hm
   go_enter Tryz.func218,Tryz.ntmps218
   go_upto_region 6 with fail
   rw [<-Hw1.out]
   clear y2 f2 y3 f3 wr1
   go_upto_region 7 with fail
   refine wp_region_held_drew (S:=(λu=>u.rangeAt b 20 cs/\u.rangeAt b 4 co)) (by kernel_rfl) ?_ (λhHeld=>?_)
   ·(exact⟨zn,zo⟩)
   refine wpAnyH_take (i:=0) (v:=?tv1s) rfl (by kernel_rfl) (by kernel_rfl) (by kernel_rfl) (λ_ _ _ h=>h) (Or.inl ⟨by rfl,?th1s⟩) (by assumption) ?tr1s
   (case th1s=>(intro w hSw;go_simp;with_reducible rfl))
   (simp only [Act.put,zs])
   refine wpAnyH_take (i:=1) (v:=?tv2s) rfl (by kernel_rfl) (by kernel_rfl) (by kernel_rfl) (λ_ _ _ h=>h) (Or.inl ⟨by rfl,?th2s⟩) (by assumption) ?tr2s
   (case th2s=>(intro w hSw;go_simp;with_reducible rfl))
   (simp only [Act.put,zs])
   refine wpAnyH_take (i:=2) (v:=?tv3s) rfl (by kernel_rfl) (by kernel_rfl) (by kernel_rfl) (λ_ _ _ h=>h) (Or.inl ⟨by rfl,?th3s⟩) (by assumption) ?tr3s
   (case th3s=>(intro w hSw;go_simp;with_reducible rfl))
   (simp only [Act.put,zs])
   refine wpAnyH_take (i:=3) rfl (by kernel_rfl) (by kernel_rfl) (by kernel_rfl) (λ_ _ _ h=>h) (yieldsIf_load_mid (by rfl) _ _ rfl _ _ rfl _ _ LDo HUo rfl HIo) (by assumption) ?tr4s
   (simp only [Act.put,zs])
   refine wpAnyH_take (i:=4) (v:=?tv5s) rfl (by kernel_rfl) (by kernel_rfl) (by kernel_rfl) (λ_ _ _ h=>h) (Or.inl ⟨by rfl,?th5s⟩) (by assumption) ?tr5s
   (case th5s=>(intro w hSw;go_simp;with_reducible rfl))
   (simp only [Act.put,zs])
   refine wpAnyH_take (i:=5) (v:=?tv6s) rfl (by kernel_rfl) (by kernel_rfl) (by kernel_rfl) (λ_ _ _ h=>h) (Or.inl ⟨by rfl,?th6s⟩) (by assumption) ?tr6s
   (case th6s=>(intro w hSw;go_simp;with_reducible rfl))
   (simp only [Act.put,zs])
   refine wpAnyH_take (i:=6) (v:=?tv7s) rfl (by kernel_rfl) (by kernel_rfl) (by kernel_rfl) (λ_ _ _ h=>h) (Or.inl ⟨by rfl,?th7s⟩) (by assumption) ?tr7s
   (case th7s=>(intro w hSw;go_simp;with_reducible rfl))
   (simp only [Act.put,zs])
   refine wpAnyH_take (i:=7) rfl (by kernel_rfl) (by kernel_rfl) (by kernel_rfl) (λ_ _ _ h=>h) (yieldsIf_load_mid (by rfl) _ _ rfl _ _ rfl _ _ LDn HUn rfl HIn) (by assumption) ?tr8s
   (simp only [Act.put,zs])
   refine wpAnyH_take (i:=8) (v:=?tv9s) rfl (by kernel_rfl) (by kernel_rfl) (by kernel_rfl) (λ_ _ _ h=>h) (Or.inl ⟨by rfl,?th9s⟩) (by assumption) ?tr9s
   (case th9s=>(intro w hSw;go_simp;with_reducible rfl))
   (simp only [Act.put,zs])
   refine wpAnyH_take (i:=9) (v:=?tv10s) rfl (by kernel_rfl) (by kernel_rfl) (by kernel_rfl) (λ_ _ _ h=>h) (Or.inl ⟨by rfl,?th10s⟩) (by assumption) ?tr10s
   (case th10s=>(intro w hSw;go_simp;with_reducible rfl))
   (simp only [Act.put,zs])
   refine wpAnyH_done (by kernel_rfl) ?_ _
   obtain⟨v1,hv1⟩:∃ v1,v1=w1.drew:=⟨_,rfl⟩
   have SL:Chg (λk=>k=b) w1 v1:=by rw [hv1];exact(Chg.refl _ _).drew
   have hcv:Chg (λk=>k=b) w v1:=Hc1.out.trans SL
   have hbv:aR v1 b bP { s with at_:=0,rounds:=r } (.slice none 0 0):=by rw [hv1];exact H1.out.chg ((Chg.refl (λ_=>False) w1).drew) (λh=>h)
   rw [<-hv1]
   have D1:=Lib.hid (HDF.out v1 hbv (aW SL Hne.out HP1.out))
   have Hcv:=Lib.hid hcv;have Hcv1:=Lib.hid SL
   clear hv1 hcv SL hbv zn zo heq LDo LDn hHeld z3
   go_wp2_with fail
   refine D1.out.mono ?_
   intro e v2 hD
   unfold OM at hD
   obtain⟨rfl,hc2,hb2⟩:=hD
   simp only [Option.getD_some,Option.isSome_some] at hb2 ⊢
   have y1:=hb2.pc
   have g1:=hb2.frozen 1
   have y53:=hb2.from_
   have g53:=hb2.frozen 53
   have glt:=hb2.lt
   obtain⟨v3,hv3⟩:∃ v3,v3=(v2.setCell ⟨b,1,none⟩ (.int .i64 2)).setCell ⟨b,53,none⟩ (.int .u64 (f:Int)):=⟨_,rfl⟩
   have hb3:aR v3 b bP { s with at_:=0,rounds:=r,diff:=d,pc:=2,from_:=f } (.slice none 0 0):=by rw [hv3];exact(hb2.setPc 2).setFrom f
   have hc3:Chg (λk=>k=b) w v3:=by rw [hv3];exact((Hcv.out.trans hc2).setCell (p:=⟨b,1,none⟩) (.inl rfl) _).setCell (p:=⟨b,53,none⟩) (.inl rfl) _
   have Zo:Chg (λk=>k=b) w1 v3:=by rw [hv3];exact((Hcv1.out.trans hc2).setCell (p:=⟨b,1,none⟩) (.inl rfl) _).setCell (p:=⟨b,53,none⟩) (.inl rfl) _
   have TR:=Lib.hid (Cq v3 Mut I N wd (f:Int) (fT HwA.out Zo (λj hj=>by cases hj;exact HbM.out)) hwf)
   have Hb3:=Lib.hid hb3;have Hc3:=Lib.hid hc3;have Hv3:=Lib.hid hv3
   clear hb3 hc3 Zo hv3 hc2 hb2
   go_upto_region 5 with fail
   rw [<-Hv3.out]
   clear y1 g1 y53 g53 glt
   have FO:=Hb3.out.mom
   have xf:=Hb3.out.frozen 55
   have xlt:=Hb3.out.lt
   go_wp2_with fail
   refine TR.out.mono ?_
   rintro e v4 ⟨⟨v,rfl,hL⟩,rfl⟩
   obtain⟨ta,tc,rfl,_,hsl,_⟩:=hL
   have hsl':=hsl
   rw [Hm.out] at hsl'
   obtain⟨tb,to_,rfl,_,htc⟩:=hsl'.2 0 (by simp)
   have t0:v3.cell? ⟨tb,to_,none⟩=some (.int .i64 m):=htc 0 (by omega)
   obtain⟨tn,htn⟩:∃ tn,tn=(wd.traces (f:Int)).length:=⟨_,rfl⟩
   rw [<-htn]
   have tl:(0:Int)<(tn:Int):=by rw [htn,Hm.out];simp
   have F:=Lib.hid (show LW w (v3.setCell ⟨b,55,none⟩ (.int .i64 m)) b bP (eH n wd s) (.returned (.tuple #[])) from⟨rfl,.slice none 0 0,by
    rw [Hfin.out]
    refine⟨?_,λ_=>rfl⟩
    refine⟨Hb3.out.setMom m,?_,(Hc3.out.mono (λ_ _ e=>.inl e)).setCell (p:=⟨b,55,none⟩) (.inl (.inl rfl)) _,λg hg=>by cases hg⟩
    show World.ownsRow _ 0 _ 1 _ s.list.length (s.list.map bI)
    rw [Hnil.out];exact World.ownsRow_nil _ _ _ _⟩)
   clear hsl hsl' htc htn
   go_wp2
   ((refine bodyPost_ret (results_none rfl _ _ _) rfl ?_))
   exact F.out
  | none=>
   have Hfin:=Lib.hid (show eH n wd s={ s with at_:=0,rounds:=r,diff:=d,old:=s.now,last:=wd.now } by rw [IJ Hr.out Hon.out HRR.out.symm,Hrr.out])
   have hlen':=hlen
   have hone:∀ v∈cs,v.oneCell'=true:=by rw [Hcs.out];exact NH
   obtain⟨mks,hwb,_,_⟩:=HwA.out.blk
   have W1:=Lib.hid (show w1.cell? ⟨I.bW,1,none⟩=some (.int .i64 (wd.now:Int)) from by rw [aA hwb];exact iL)
   clear hwb
   go_enter Tryz.func218,Tryz.ntmps218
   go_upto_region 6 with fail
   rw [<-Hw1.out]
   clear y2 f2 y3 f3 wr1
   go_upto_region 7 with fail
   refine wp_region_held_drew (S:=(λu=>u.rangeAt b 20 cs/\u.rangeAt b 4 co)) (by kernel_rfl) ?_ (λhHeld=>?_)
   ·(exact⟨zn,zo⟩)
   refine wpAnyH_take (i:=0) (v:=?tv1n) rfl (by kernel_rfl) (by kernel_rfl) (by kernel_rfl) (λ_ _ _ h=>h) (Or.inl ⟨by rfl,?th1n⟩) (by assumption) ?tr1n
   (case th1n=>(intro w hSw;go_simp;with_reducible rfl))
   (simp only [Act.put,zs])
   refine wpAnyH_take (i:=1) (v:=?tv2n) rfl (by kernel_rfl) (by kernel_rfl) (by kernel_rfl) (λ_ _ _ h=>h) (Or.inl ⟨by rfl,?th2n⟩) (by assumption) ?tr2n
   (case th2n=>(intro w hSw;go_simp;with_reducible rfl))
   (simp only [Act.put,zs])
   refine wpAnyH_take (i:=2) (v:=?tv3n) rfl (by kernel_rfl) (by kernel_rfl) (by kernel_rfl) (λ_ _ _ h=>h) (Or.inl ⟨by rfl,?th3n⟩) (by assumption) ?tr3n
   (case th3n=>(intro w hSw;go_simp;with_reducible rfl))
   (simp only [Act.put,zs])
   refine wpAnyH_take (i:=3) rfl (by kernel_rfl) (by kernel_rfl) (by kernel_rfl) (λ_ _ _ h=>h) (yieldsIf_load_mid (by rfl) _ _ rfl _ _ rfl _ _ LDo HUo rfl HIo) (by assumption) ?tr4n
   (simp only [Act.put,zs])
   refine wpAnyH_take (i:=4) (v:=?tv5n) rfl (by kernel_rfl) (by kernel_rfl) (by kernel_rfl) (λ_ _ _ h=>h) (Or.inl ⟨by rfl,?th5n⟩) (by assumption) ?tr5n
   (case th5n=>(intro w hSw;go_simp;with_reducible rfl))
   (simp only [Act.put,zs])
   refine wpAnyH_take (i:=5) (v:=?tv6n) rfl (by kernel_rfl) (by kernel_rfl) (by kernel_rfl) (λ_ _ _ h=>h) (Or.inl ⟨by rfl,?th6n⟩) (by assumption) ?tr6n
   (case th6n=>(intro w hSw;go_simp;with_reducible rfl))
   (simp only [Act.put,zs])
   refine wpAnyH_take (i:=6) (v:=?tv7n) rfl (by kernel_rfl) (by kernel_rfl) (by kernel_rfl) (λ_ _ _ h=>h) (Or.inl ⟨by rfl,?th7n⟩) (by assumption) ?tr7n
   (case th7n=>(intro w hSw;go_simp;with_reducible rfl))
   (simp only [Act.put,zs])
   refine wpAnyH_take (i:=7) rfl (by kernel_rfl) (by kernel_rfl) (by kernel_rfl) (λ_ _ _ h=>h) (yieldsIf_load_mid (by rfl) _ _ rfl _ _ rfl _ _ LDn HUn rfl HIn) (by assumption) ?tr8n
   (simp only [Act.put,zs])
   refine wpAnyH_take (i:=8) (v:=?tv9n) rfl (by kernel_rfl) (by kernel_rfl) (by kernel_rfl) (λ_ _ _ h=>h) (Or.inl ⟨by rfl,?th9n⟩) (by assumption) ?tr9n
   (case th9n=>(intro w hSw;go_simp;with_reducible rfl))
   (simp only [Act.put,zs])
   refine wpAnyH_take (i:=9) (v:=?tv10n) rfl (by kernel_rfl) (by kernel_rfl) (by kernel_rfl) (λ_ _ _ h=>h) (Or.inl ⟨by rfl,?th10n⟩) (by assumption) ?tr10n
   (case th10n=>(intro w hSw;go_simp;with_reducible rfl))
   (simp only [Act.put,zs])
   refine wpAnyH_done (by kernel_rfl) ?_ _
   obtain⟨v1,hv1⟩:∃ v1,v1=w1.drew:=⟨_,rfl⟩
   have SL:Chg (λk=>k=b) w1 v1:=by rw [hv1];exact(Chg.refl _ _).drew
   have hcv:Chg (λk=>k=b) w v1:=Hc1.out.trans SL
   have hbv:aR v1 b bP { s with at_:=0,rounds:=r } (.slice none 0 0):=by rw [hv1];exact H1.out.chg ((Chg.refl (λ_=>False) w1).drew) (λh=>h)
   rw [<-hv1]
   have D1:=Lib.hid (HDF.out v1 hbv (aW SL Hne.out HP1.out))
   have Hcv:=Lib.hid hcv;have Hcv1:=Lib.hid SL
   clear hv1 hcv SL hbv zn zo heq LDo LDn hHeld z3
   go_wp2_with fail
   refine D1.out.mono ?_
   intro e v2 hD
   unfold OM at hD
   obtain⟨rfl,hc2,hb2⟩:=hD
   simp only [Option.getD_none,Option.isSome_none] at hb2 ⊢
   have zW:v2.cell? ⟨I.bW,1,none⟩=some (.int .i64 (wd.now:Int)):=aW (Hcv1.out.trans hc2) HbW.out W1.out
   have zr:v2.rangeAt b 20 cs:=by rw [Hcs.out];exact hb2.rNow
   have zt:=hb2.thereOld
   obtain⟨u1,hu1⟩:∃ u1,u1=v2.drew.setCells b 4 cs:=⟨_,rfl⟩
   have hd:aR v2.drew b bP { s with at_:=0,rounds:=r,diff:=d } (.slice none 0 0):=hb2.chg ((Chg.refl (λ_=>False) v2).drew) (λh=>h)
   have hnl:s.now.length=16:=by have:=hlen;rw [Hcs.out,List.length_map] at this;exact this
   obtain⟨hs1,hs2⟩:=hd.setOld s.now hnl
   rw [<-Hcs.out,<-hu1] at hs1 hs2
   have q1:(v2.drew.setCells b 4 cs).rangeAt b 20 cs:=by rw [<-hu1,Hcs.out];exact hs1.rNow
   have q2:(v2.drew.setCells b 4 cs).cell? ⟨I.bW,1,none⟩=some (.int .i64 (wd.now:Int)):=by rw [<-hu1];exact aW hs2 HbW.out zW
   have q3:(v2.drew.setCells b 4 cs).there b 4 16:=by rw [<-hu1];exact hs1.thereOld
   have q4:(v2.drew.setCells b 4 cs).cell? ⟨b,36,none⟩=some (.int .i64 (s.last:Int)):=by rw [<-hu1];exact hs1.last
   have q5:(v2.drew.setCells b 4 cs).frozen? ⟨b,36,none⟩=false:=by rw [<-hu1];exact hs1.frozen 36
   have q6:b<(v2.drew.setCells b 4 cs).heap.size:=by rw [<-hu1];exact hs1.lt
   obtain⟨u2,hu2⟩:∃ u2,u2=(v2.drew.setCells b 4 cs).setCell ⟨b,36,none⟩ (.int .i64 (wd.now:Int)):=⟨_,rfl⟩
   have hs3:aR u2 b bP { s with at_:=0,rounds:=r,diff:=d,old:=s.now,last:=wd.now } (.slice none 0 0):=by rw [hu2,<-hu1];exact hs1.setLast wd.now
   have hs4:Chg (λk=>k=b) w u2:=by rw [hu2,<-hu1];exact(((Hcv.out.trans hc2).drew).trans hs2).setCell (p:=⟨b,36,none⟩) (.inl rfl) _
   have p1:((v2.drew.setCells b 4 cs).setCell ⟨b,36,none⟩ (.int .i64 (wd.now:Int))).rangeAt b 20 cs:=by rw [<-hu2,Hcs.out];exact hs3.rNow
   have p2:((v2.drew.setCells b 4 cs).setCell ⟨b,36,none⟩ (.int .i64 (wd.now:Int))).cell? ⟨I.bW,1,none⟩=some (.int .i64 (wd.now:Int)):=by
    rw [<-hu1] at q2 ⊢
    exact aW ((Chg.refl (λk=>k=b) u1).setCell (p:=⟨b,36,none⟩) (.inl rfl) _) HbW.out q2
   have p3:((v2.drew.setCells b 4 cs).setCell ⟨b,36,none⟩ (.int .i64 (wd.now:Int))).there b 4 16:=by rw [<-hu2];exact hs3.thereOld
   have F:=Lib.hid (show LW w u2 b bP (eH n wd s) (.returned (.tuple #[])) from⟨rfl,.slice none 0 0,by
    rw [Hfin.out]
    refine⟨?_,λ_=>rfl⟩
    refine⟨hs3,?_,hs4.mono (λ_ _ e=>.inl e),λg hg=>by cases hg⟩
    show World.ownsRow _ 0 _ 1 _ s.list.length (s.list.map bI)
    rw [Hnil.out];exact World.ownsRow_nil _ _ _ _⟩)
   have hinf:(Tryz.prog.info? 273).map (·.size)=some cs.length:=HIn
   have hund:Tryz.prog.underlying 273=some (.array 16 46):=HUn
   clear hs1 hs2 hs3 hs4 hd hu1 hc2 hb2 hnl HIo hlno
   go_upto_region 10 with fail
   go_region_held3 (λu=>u.rangeAt b 20 cs/\u.cell? ⟨I.bW,1,none⟩=some (.int .i64 (wd.now:Int))/\u.there b 4 16) (first|exact⟨zr,zW,zt⟩|exact⟨q1,q2,q3⟩|exact⟨p1,p2,p3⟩) (fail)
   rw [<-hu2]
   go_wp2
   (go_end0)
   exact F.out
end Go.Proofs.YtfkokppncipgnaaGreat
