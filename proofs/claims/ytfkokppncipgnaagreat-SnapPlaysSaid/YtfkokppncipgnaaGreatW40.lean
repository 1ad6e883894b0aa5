/- Layer 15: the steps of one that updates. -/
import Derived.Test.YtfkokppncipgnaaGreatW39
import Derived.BigRegion
set_option maxRecDepth 100000
set_option linter.unusedVariables false
set_option linter.unusedSimpArgs false
set_option linter.unnecessarySimpa false
namespace Go.Proofs.YtfkokppncipgnaaGreat
open List renaming getElem_toArray → zq1, getElem_cons_zero → zq2, getElem_cons_succ → zq3, setIfInBounds_toArray → zq4, set_cons_zero → zq5, set_cons_succ → zq6
section
open Go.RowKit
def vN (bs p r nx v:Nat) (sc:Bool):Array Value:=#[.pointer (some ⟨bs,0,none⟩),.int .i64 (p:Int),.int .i64 (r:Int),.int .i64 (nx:Int),.int .u64 (v:Int),.bool sc]
def WL (w w':World) (Mut:Nat->Prop) (I:iM) (N:Nat) (wd':WD) (b bs bP:Nat) (lv:Value) (cs:Array Value) (s':ScD) (done:Bool) (e:Ending):Prop:=
 e=.returned (.bool done)/\Chg (λk=>cK I k∨k=b∨k=bs∨lv.ownBlock=some k) w w'/\∃ lv',mW w' Mut I N wd' lv'/\w'.heap[b]?=some (.cells cs 271 (0,0))/\yK w' bs bP lv' s'/\(∀ g,lv'.ownBlock=some g->(lv.ownBlock=some g∨w.heap.size<=g)/\g≠bs/\g≠b/\g<w'.heap.size)
set_option maxHeartbeats 8000000 in
theorem Fg (n k:Nat) (us:List Nat) (hn:n<=16) (w:World) (Mut:Nat->Prop) (I:iM) (N:Nat) (wd:WD) (b bs bP:Nat) (s:ScD) (lv:Value) (p r nx v:Nat) (hw:bJ w Mut I N wd) (hbk:w.heap[b]?=some (.cells (vN bs p r nx v false) 271 (0,0))) (hbM:Mut b/\¬ cK I b) (hsM:Mut bs/\¬ cK I bs) (hlM:∀ g,lv.ownBlock=some g->Mut g/\¬ cK I g/\g≠bP/\g≠bs/\g≠b) (h:yK w bs bP lv s) (hne:bP≠b/\bP≠bs/\b≠bs) (hPW:¬ cK I bP) (hP:w.heap[bP]?=some (.cells (jB n k us).toArray 114 (0,0))) (hl:FH n wd s) (hcn:wd.mem.c.all+1<1000000000000) :
  Calls Tryz.prog 221 #[.pointer (some ⟨b,0,none⟩),.pointer (some ⟨I.bW,0,none⟩)] w λe w'=>WL w w' Mut I N (vQ wd s) b bs bP lv (vN bs p r nx v (decide ((bE n wd s).pc=3))) (bE n wd s) false e:=by
 have SC:=Lib.hid (VK n k us hn w Mut I N wd bs bP s lv hw hsM (λg hg=>⟨(hlM g hg).1,(hlM g hg).2.1,(hlM g hg).2.2.1,(hlM g hg).2.2.2.1⟩) h hne.2.1 hPW hP hl hcn)
 have Hvl:=Lib.hid (UQ (by omega) n wd s h.val (GD hw.mem _))
 have y0:w.cell? ⟨b,0,none⟩=some (.pointer (some ⟨bs,0,none⟩)):=by rw [aA hbk];rfl
 have y5:w.cell? ⟨b,5,none⟩=some (.bool false):=by rw [aA hbk];rfl
 have hblt:=aC hbk
 have Hbk:=Lib.hid hbk;have HbM:=Lib.hid hbM;have HlM:=Lib.hid hlM;have Hne:=Lib.hid hne;have Hblt:=Lib.hid hblt
 clear hw hbk hbM hsM hlM h hne hPW hP hl hcn hblt
 go_enter Tryz.func221,Tryz.ntmps221
 go_wp2_with fail
 refine SC.out.mono ?_
 intro e w5 hs
 obtain⟨rfl,OX,Oz,Sq,hb5,Du,Zj,Ms⟩:=hs
 have hnb:¬ (cK I b∨b=bs∨lv.ownBlock=some b):=by
  rintro(h|h|h)
  ·exact HbM.out.2 h
  ·exact Hne.out.2.2 h
  ·exact(HlM.out b h).2.2.2.2 rfl
 have RN:=(OX.block b Hblt.out hnb).trans Hbk.out
 obtain⟨d,hd⟩:∃ d,d=decide ((bE n wd s).pc=3):=⟨_,rfl⟩
 rw [<-hd]
 have hcz:Chg (λk=>k=b) w5 (w5.setCell ⟨b,5,none⟩ (.bool d)):=(Chg.refl (λk=>k=b) w5).setCell (p:=⟨b,5,none⟩) (.inl rfl) _
 have hO:∀ g,Oz.ownBlock=some g->(lv.ownBlock=some g∨w.heap.size<=g)/\g≠bs/\g≠b/\g<w5.heap.size:=λg hg=>by
  obtain⟨o1,o2,o3⟩:=Zj g hg
  refine⟨o1,o2,?_,o3⟩
  rcases o1 with h|h
  ·exact(HlM.out g h).2.2.2.2
  ·have:=Hblt.out;omega
 have F:=Lib.hid (show WL w (w5.setCell ⟨b,5,none⟩ (.bool d)) Mut I N (vQ wd s) b bs bP lv (vN bs p r nx v (decide ((bE n wd s).pc=3))) (bE n wd s) false (.returned (.bool false)) from by
  refine⟨rfl,(OX.mono (λ_ _ h=>h.elim .inl (λh=>.inr (.inr h)))).trans (hcz.mono (λk _ e=>.inr (.inl e))),Oz,Sq.go hcz (λk e=>by cases e;exact HbM.out),?_,yK.chg ⟨hb5,Du,Ms,Hvl.out⟩ hcz (λe=>Hne.out.2.2 e.symm) (λg hg e=>(hO g hg).2.2.1 e),λg hg=>?_⟩
  ·rw [aG RN,<-hd];rfl
  ·obtain⟨o1,o2,o3,o4⟩:=hO g hg
   exact⟨o1,o2,o3,Nat.lt_of_lt_of_le o4 hcz.size⟩)
 have x0:w5.cell? ⟨b,0,none⟩=some (.pointer (some ⟨bs,0,none⟩)):=by rw [aA RN];rfl
 have x5:w5.cell? ⟨b,5,none⟩=some (.bool false):=by rw [aA RN];rfl
 have xf:=aB RN 5
 have xlt:=aC RN
 clear OX Sq hb5 Du Zj Ms hnb RN hd hcz hO y0 y5
 go_wp2
 go_ret
 exact F.out
set_option maxHeartbeats 8000000 in
theorem Co (w:World) (Mut:Nat->Prop) (I:iM) (N:Nat) (wd:WD) (b bs bP:Nat) (s:ScD) (lv:Value) (p r v:Nat) (hw:bJ w Mut I N wd) (hbk:w.heap[b]?=some (.cells (vN bs p r 0 v true) 271 (0,0))) (hbM:Mut b/\¬ cK I b) (hsM:Mut bs/\¬ cK I bs) (hlM:∀ g,lv.ownBlock=some g->Mut g/\¬ cK I g/\g≠bP/\g≠bs/\g≠b) (h:yK w bs bP lv s) (hne:bP≠b/\bP≠bs/\b≠bs) (hv:v<18446744073709551616) (hcn:wd.mem.c.all+1<1000000000000) :
  Calls Tryz.prog 221 #[.pointer (some ⟨b,0,none⟩),.pointer (some ⟨I.bW,0,none⟩)] w λe w'=>WL w w' Mut I N (eB wd r v) b bs bP lv (vN bs p r 1 v true) s false e:=by
 obtain⟨s1,s2,s3⟩:=jZ hw
 obtain⟨mks,hwb,_,_⟩:=hw.blk
 have hblt:=aC hbk
 obtain⟨wa,hwa⟩:∃ wa,wa=w.setCell ⟨b,3,none⟩ (.int .i64 1):=⟨_,rfl⟩
 have hca:Chg (λj=>j=b) w wa:=by rw [hwa];exact(Chg.refl (λj=>j=b) w).setCell (by exact .inl rfl) _
 have hba:wa.heap[b]?=some (.cells (vN bs p r 1 v true) 271 (0,0)):=by rw [hwa,aG hbk];rfl
 have hwA:=fT hw hca (λj hj=>by cases hj;exact hbM)
 have y3:w.cell? ⟨b,3,none⟩=some (.int .i64 0):=by rw [aA hbk];rfl
 have y5:w.cell? ⟨b,5,none⟩=some (.bool true):=by rw [aA hbk];rfl
 have yf:=aB hbk 3
 have a0:wa.cell? ⟨I.bW,0,none⟩=some (.pointer (some ⟨I.bm,0,none⟩)):=(hca.cell (aC hwb) (λe=>hbM.2 (.inl e.symm))).trans (by rw [aA hwb];exact kE)
 have a2:wa.cell? ⟨b,2,none⟩=some (.int .i64 (r:Int)):=by rw [aA hba];rfl
 have a4:wa.cell? ⟨b,4,none⟩=some (.int .u64 (v:Int)):=by rw [aA hba];rfl
 have nb:¬ bY I.bm I.bw b:=λh=>hbM.2 (s3 b h).1
 have Wr:=Lib.hid (λ(u:World) (h:Chg noB wa u)=>EH I.bm I.bw wd.mem (r:Int) v u (hwA.mem.chg h (λh=>h) (λ_ _ h=>h)) hv hcn)
 have hsa:=h.chg hca (λe=>hne.2.2 e.symm) (λg hg e=>(hlM g hg).2.2.2.2 e)
 have HwA:=Lib.hid hwA;have Hca:=Lib.hid hca;have Hba:=Lib.hid hba;have Hwa:=Lib.hid hwa;have Nb:=Lib.hid nb;have S2:=Lib.hid s2;have S3:=Lib.hid s3;have HbM:=Lib.hid hbM;have HsM:=Lib.hid hsM;have HlM:=Lib.hid hlM;have Hsa:=Lib.hid hsa;have Hne:=Lib.hid hne;have Hblt:=Lib.hid hblt
 clear hw hbk hwb s1 s2 s3 nb hbM hsM hlM h hne hv hcn hwa hca hwA hba hsa hblt
 go_enter Tryz.func221,Tryz.ntmps221
 go_upto_region 10 with fail
 rw [<-Hwa.out]
 clear y3 y5 yf
 go_upto_region 11 with fail
 go_region_held3 (λu=>u.cell? ⟨I.bW,0,none⟩=some (.pointer (some ⟨I.bm,0,none⟩))/\u.cell? ⟨b,2,none⟩=some (.int .i64 (r:Int))/\u.cell? ⟨b,4,none⟩=some (.int .u64 (v:Int)))
  (first|exact⟨a0,a2,a4⟩|exact⟨z0,z1,z2⟩)
  ((go_at_call 167;refine(Wr.out _ ?_).mono ?_;(exact(Chg.refl _ _).drew);rintro e w6 ⟨rfl,hm1,hc1⟩;have hc1':Chg (bY I.bm I.bw) wa w6:=((Chg.refl _ wa).drew).trans hc1;have z0:=aW hc1' S2.out a0;have z1:=aW hc1' Nb.out a2;have z2:=aW hc1' Nb.out a4))
 obtain⟨hw1,wO⟩:=HwA.out.mems hc1' hm1
 have F:=Lib.hid (show WL w w6 Mut I N (eB wd r v) b bs bP lv (vN bs p r 1 v true) s false (.returned (.bool false)) from by
  refine⟨rfl,(Hca.out.mono (λk _ e=>.inr (.inl e))).trans (wO.mono (λ_ _ h=>.inl h)),lv,mW.of hw1 (λg hg=>(HlM.out g hg).1),(hc1'.block b (aC Hba.out) Nb.out).trans Hba.out,Hsa.out.chg wO HsM.out.2 (λg hg=>(HlM.out g hg).2.1),λg hg=>⟨.inl hg,(HlM.out g hg).2.2.2.1,(HlM.out g hg).2.2.2.2,?_⟩⟩
  exact Nat.lt_of_lt_of_le (HwA.out.low g (HlM.out g hg).1) wO.size)
 clear hw1 wO hc1 hc1' hm1 z0 z1 z2 a0 a2 a4
 go_wp2
 go_ret
 exact F.out
end
section
open Go.RowKit
set_option maxHeartbeats 8000000 in
theorem Ky (n k:Nat) (us:List Nat) (hn:n<=16) (w:World) (Mut:Nat->Prop) (I:iM) (N:Nat) (wd:WD) (b bs bP:Nat) (s:ScD) (lv:Value) (p r i v:Nat) (hw:bJ w Mut I N wd) (hbk:w.heap[b]?=some (.cells (vN bs p r (i+1) v true) 271 (0,0))) (hbM:Mut b/\¬ cK I b) (hsM:Mut bs/\¬ cK I bs) (hlM:∀ g,lv.ownBlock=some g->Mut g/\¬ cK I g/\g≠bP/\g≠bs/\g≠b) (h:yK w bs bP lv s) (hne:bP≠b/\bP≠bs/\b≠bs) (hP:w.heap[bP]?=some (.cells (jB n k us).toArray 114 (0,0))) (hPW:¬ cK I bP) (hi:i+1<=n) (hls:s.list.length=n) (hr:r<1000000) (hcn:wd.mem.c.all+1<1000000000000) :
  Calls Tryz.prog 221 #[.pointer (some ⟨b,0,none⟩),.pointer (some ⟨I.bW,0,none⟩)] w λe w'=>WL w w' Mut I N (eB wd (r+(i+1)) (s.list.getD i 0)) b bs bP lv (vN bs p r (i+2) v true) s false e:=by
 obtain⟨s1,s2,s3⟩:=jZ hw
 obtain⟨mks,hwb,_,_⟩:=hw.blk
 have hblt:=aC hbk
 obtain⟨x,hx⟩:∃ x,x=s.list.getD i 0:=⟨_,rfl⟩
 have hxv:x<18446744073709551616:=by
  rw [hx,List.getD_eq_getElem?_getD,List.getElem?_eq_getElem (by omega)]
  exact h.val _ (List.getElem_mem _)
 obtain⟨la,lc,rfl⟩:∃ la lc,lv=.slice la s.list.length lc:=by obtain⟨a,c,e⟩:=dX h.row;exact⟨a,c,e⟩
 obtain⟨tb,to_,rfl,_,h9⟩:=((wR (g:=fE s.list) h.row (by unfold maxLen;omega) (λi hi=>by simp [fE,bI,List.getD_eq_getElem?_getD,hi])).1).2 i (by omega)
 have e9:w.cell? ⟨tb,to_+i,none⟩=some (.int .u64 (x:Int)):=by
  have h10:=h9 0 (by omega);rw [Nat.mul_one,Nat.add_zero] at h10;rw [h10,hx];rfl
 obtain⟨wa,hwa⟩:∃ wa,wa=w.setCell ⟨b,3,none⟩ (.int .i64 ((i:Int)+1+1)):=⟨_,rfl⟩
 have hca:Chg (λj=>j=b) w wa:=by rw [hwa];exact(Chg.refl (λj=>j=b) w).setCell (by exact .inl rfl) _
 have hba:wa.heap[b]?=some (.cells (vN bs p r (i+2) v true) 271 (0,0)):=by rw [hwa,aG hbk];unfold vN;rw [show((i+2:Nat):Int)=(i:Int)+1+1 by omega];rfl
 have hwA:=fT hw hca (λj hj=>by cases hj;exact hbM)
 have y3:w.cell? ⟨b,3,none⟩=some (.int .i64 ((i:Int)+1)):=by rw [aA hbk];unfold vN;rw [show((i+1:Nat):Int)=(i:Int)+1 by omega];rfl
 have y5:w.cell? ⟨b,5,none⟩=some (.bool true):=by rw [aA hbk];rfl
 have yf:=aB hbk 3
 obtain⟨ra,hra⟩:∃ ra,ra=r+(i+1):=⟨_,rfl⟩
 have wi1:IntKind.i64.wrap ((i:Int)+1+1)=(i:Int)+1+1:=by rw [IntKind.wrap_i64];omega
 have wi2:IntKind.i64.wrap ((i:Int)+1 - 1)=(i:Int):=by rw [IntKind.wrap_i64];omega
 have wi3:IntKind.i64.wrap ((r:Int)+((i:Int)+1))=(ra:Int):=by rw [IntKind.wrap_i64];omega
 have l1:((i:Int)+1 == 0)=false:=by rw [beq_eq_false_iff_ne];omega
 have l2:(i:Int)+1<=(n:Int):=by omega
 have a0:wa.cell? ⟨I.bW,0,none⟩=some (.pointer (some ⟨I.bm,0,none⟩)):=(hca.cell (aC hwb) (λe=>hbM.2 (.inl e.symm))).trans (by rw [aA hwb];exact kE)
 have a2:wa.cell? ⟨b,2,none⟩=some (.int .i64 (r:Int)):=by rw [aA hba];rfl
 have a4:wa.cell? ⟨b,0,none⟩=some (.pointer (some ⟨bs,0,none⟩)):=by rw [aA hba];rfl
 have hsa:=h.chg hca (λe=>hne.2.2 e.symm) (λg hg e=>(hlM g hg).2.2.2.2 e)
 have a5:wa.cell? ⟨bs,54,none⟩=some (.slice (some ⟨tb,to_,none⟩) s.list.length lc):=hsa.blk.list
 have htb:=hlM tb rfl
 have a6:wa.cell? ⟨tb,to_+i,none⟩=some (.int .u64 (x:Int)):=aW hca htb.2.2.2.2 e9
 have a7:wa.cell? ⟨bs,0,none⟩=some (.pointer (some ⟨bP,0,none⟩)):=hsa.blk.ptr
 have a8:wa.cell? ⟨bP,1,none⟩=some (.int .i64 (n:Int)):=aW hca hne.1 (by rw [aA hP];rfl)
 rw [hls] at a5
 have nb:¬ bY I.bm I.bw b:=λh=>hbM.2 (s3 b h).1
 have ns:¬ bY I.bm I.bw bs:=λh=>hsM.2 (s3 bs h).1
 have nt:¬ bY I.bm I.bw tb:=λh=>htb.2.1 (s3 tb h).1
 have Wr:=Lib.hid (λ(u:World) (h:Chg noB wa u)=>EH I.bm I.bw wd.mem (ra:Int) x u (hwA.mem.chg h (λh=>h) (λ_ _ h=>h)) hxv hcn)
 have l3:(i:Int)<(n:Int):=by omega
 have l4:(0:Int)<=(i:Int):=by omega
 have wi4:IntKind.i64.wrap (i:Int)=(i:Int):=by rw [IntKind.wrap_i64];omega
 have HwA:=Lib.hid hwA;have Hca:=Lib.hid hca;have Hba:=Lib.hid hba;have Hwa:=Lib.hid hwa;have Nb:=Lib.hid nb;have Ns:=Lib.hid ns;have Nt:=Lib.hid nt;have S2:=Lib.hid s2;have HbM:=Lib.hid hbM;have HsM:=Lib.hid hsM;have HlM:=Lib.hid hlM;have Hsa:=Lib.hid hsa;have Hne:=Lib.hid hne;have Hra:=Lib.hid hra
 rw [<-hx,<-hra]
 clear hw hbk hwb s1 s2 s3 nb ns nt hbM hsM hlM h hne hcn hwa hca hwA hba hsa hblt htb h9 e9 hx hxv hra hP hPW
 go_enter Tryz.func221,Tryz.ntmps221
 go_upto_region 10 with fail
 rw [<-Hwa.out]
 clear y3 y5 yf wi1
 go_upto_region 13 with fail
 go_region_held3 (λu=>u.cell? ⟨I.bW,0,none⟩=some (.pointer (some ⟨I.bm,0,none⟩))/\u.cell? ⟨b,2,none⟩=some (.int .i64 (r:Int))/\u.cell? ⟨b,0,none⟩=some (.pointer (some ⟨bs,0,none⟩))/\u.cell? ⟨bs,54,none⟩=some (.slice (some ⟨tb,to_,none⟩) n lc)/\u.cell? ⟨tb,to_+i,none⟩=some (.int .u64 (x:Int)))
  (first|exact⟨a0,a2,a4,a5,a6⟩|exact⟨z0,z1,z2,z3,z4⟩)
  ((go_at_call 167;refine(Wr.out _ ?_).mono ?_;(exact(Chg.refl _ _).drew);rintro e w6 ⟨rfl,hm1,hc1⟩;have hc1':Chg (bY I.bm I.bw) wa w6:=((Chg.refl _ wa).drew).trans hc1;have z0:=aW hc1' S2.out a0;have z1:=aW hc1' Nb.out a2;have z2:=aW hc1' Nb.out a4;have z3:=aW hc1' Ns.out a5;have z4:=aW hc1' Nt.out a6))
 obtain⟨hw1,wO⟩:=HwA.out.mems hc1' hm1
 have F:=Lib.hid (show WL w w6 Mut I N (eB wd ra x) b bs bP (.slice (some ⟨tb,to_,none⟩) s.list.length lc) (vN bs p r (i+2) v true) s false (.returned (.bool false)) from by
  refine⟨rfl,(Hca.out.mono (λk _ e=>.inr (.inl e))).trans (wO.mono (λ_ _ h=>.inl h)),_,mW.of hw1 (λg hg=>(HlM.out g hg).1),(hc1'.block b (aC Hba.out) Nb.out).trans Hba.out,Hsa.out.chg wO HsM.out.2 (λg hg=>(HlM.out g hg).2.1),λg hg=>⟨.inl hg,(HlM.out g hg).2.2.2.1,(HlM.out g hg).2.2.2.2,?_⟩⟩
  exact Nat.lt_of_lt_of_le (HwA.out.low g (HlM.out g hg).1) wO.size)
 clear hw1 wO hc1 hc1' hm1 z0 z1 z2 z3 z4 a0 a2 a4 a5 a6
 go_wp2
 go_ret
 exact F.out
end
section
open Go.RowKit
def Oy (w w':World) (Mut:Nat->Prop) (I:iM) (N:Nat) (wd':WD) (b bs bP n k:Nat) (us':List Nat) (lv:Value) (cs:Array Value) (s:ScD) (e:Ending):Prop:=
 e=.returned (.bool true)/\Chg (λj=>cK I j∨j=b∨j=bP) w w'/\bJ w' Mut I N wd'/\w'.heap[b]?=some (.cells cs 271 (0,0))/\yK w' bs bP lv s/\w'.heap[bP]?=some (.cells (jB n k us').toArray 114 (0,0))
theorem PW {n k:Nat} {us:List Nat} (h:us.length=16) {p:Nat} (hp:p<16):(jB n k us)[3+p]?=some (.int .i64 ((us.getD p 0:Nat):Int)):=by
 rw [show 3+p=p+1+1+1 by omega]
 show(us.map gD)[p]?=_
 simp [gD,List.getD_eq_getElem?_getD,show p<us.length by omega]
theorem Au {n k:Nat} {us:List Nat} {p:Nat} (x:Nat):(jB n k us).set (3+p) (.int .i64 (x:Int))=jB n k (us.set p x):=by
 rw [show 3+p=p+1+1+1 by omega]
 unfold jB
 simp only [zq6]
 rw [List.map_set];rfl
set_option maxHeartbeats 8000000 in
theorem Ml (n k:Nat) (us:List Nat) (hn:n<=16) (h16:us.length=16) (w:World) (Mut:Nat->Prop) (I:iM) (N:Nat) (wd:WD) (b bs bP:Nat) (s:ScD) (lv:Value) (p r i v:Nat) (hw:bJ w Mut I N wd) (hbk:w.heap[b]?=some (.cells (vN bs p r (i+1) v true) 271 (0,0))) (hbM:Mut b/\¬ cK I b) (hsM:Mut bs/\¬ cK I bs) (hlM:∀ g,lv.ownBlock=some g->Mut g/\¬ cK I g/\g≠bP/\g≠bs/\g≠b) (h:yK w bs bP lv s) (hne:bP≠b/\bP≠bs/\b≠bs) (hP:w.heap[bP]?=some (.cells (jB n k us).toArray 114 (0,0))) (hPW:¬ cK I bP) (hPM:Mut bP) (hi:¬ i+1<=n) (hi2:i<=100) (hr:r<1000000) (hp:p<16) (hus:us.getD p 0<1000000) (hN:N+1<1000000000) (hcn:wd.mem.c.all+1<1000000000000) :
  Calls Tryz.prog 221 #[.pointer (some ⟨b,0,none⟩),.pointer (some ⟨I.bW,0,none⟩)] w λe w'=>Oy w w' Mut I (N+1) (eB (vU wd r s.moment) p r) b bs bP n k (us.set p (us.getD p 0+1)) lv (vN bs p r (i+2) v true) s e:=by
 obtain⟨s1,s2,s3⟩:=jZ hw
 obtain⟨mks,hwb,_,_⟩:=hw.blk
 have hblt:=aC hbk
 obtain⟨m,hm⟩:∃ m,m=s.moment:=⟨_,rfl⟩
 obtain⟨q,hq⟩:∃ q,q=us.getD p 0:=⟨_,rfl⟩
 rw [<-hq] at hus
 obtain⟨wa,hwa⟩:∃ wa,wa=w.setCell ⟨b,3,none⟩ (.int .i64 ((i:Int)+1+1)):=⟨_,rfl⟩
 have hca:Chg (λj=>j=b) w wa:=by rw [hwa];exact(Chg.refl (λj=>j=b) w).setCell (by exact .inl rfl) _
 have hba:wa.heap[b]?=some (.cells (vN bs p r (i+2) v true) 271 (0,0)):=by rw [hwa,aG hbk];unfold vN;rw [show((i+2:Nat):Int)=(i:Int)+1+1 by omega];rfl
 have hwA:=fT hw hca (λj hj=>by cases hj;exact hbM)
 have y3:w.cell? ⟨b,3,none⟩=some (.int .i64 ((i:Int)+1)):=by rw [aA hbk];unfold vN;rw [show((i+1:Nat):Int)=(i:Int)+1 by omega];rfl
 have y5:w.cell? ⟨b,5,none⟩=some (.bool true):=by rw [aA hbk];rfl
 have yf:=aB hbk 3
 have wi1:IntKind.i64.wrap ((i:Int)+1+1)=(i:Int)+1+1:=by rw [IntKind.wrap_i64];omega
 have wr:IntKind.u64.wrap (r:Int)=(r:Int):=by rw [IntKind.wrap_u64];omega
 have wp:IntKind.i64.wrap (p:Int)=(p:Int):=by rw [IntKind.wrap_i64];omega
 have wq:IntKind.i64.wrap ((q:Int)+1)=(q:Int)+1:=by rw [IntKind.wrap_i64];omega
 have hwf:(Lit.int .i64 (r:Int)).wf=true:=by simp [Lit.wf,IntKind.min,IntKind.max,IntKind.signed,IntKind.bits];omega
 have l1:((i:Int)+1 == 0)=false:=by rw [beq_eq_false_iff_ne];omega
 have l2:¬ (i:Int)+1<=(n:Int):=by omega
 have l16:(p:Int)<16:=by omega
 have a0:wa.cell? ⟨I.bW,0,none⟩=some (.pointer (some ⟨I.bm,0,none⟩)):=(hca.cell (aC hwb) (λe=>hbM.2 (.inl e.symm))).trans (by rw [aA hwb];exact kE)
 have hsa:=h.chg hca (λe=>hne.2.2 e.symm) (λg hg e=>(hlM g hg).2.2.2.2 e)
 have hPa:=(hca.block bP (aC hP) hne.1).trans hP
 have a1:wa.cell? ⟨b,1,none⟩=some (.int .i64 (p:Int)):=by rw [aA hba];rfl
 have a2:wa.cell? ⟨b,2,none⟩=some (.int .i64 (r:Int)):=by rw [aA hba];rfl
 have a4:wa.cell? ⟨b,0,none⟩=some (.pointer (some ⟨bs,0,none⟩)):=by rw [aA hba];rfl
 have a5:wa.cell? ⟨bs,55,none⟩=some (.int .i64 m):=by rw [hm];exact hsa.blk.mom
 have a7:wa.cell? ⟨bs,0,none⟩=some (.pointer (some ⟨bP,0,none⟩)):=hsa.blk.ptr
 have a8:wa.cell? ⟨bP,1,none⟩=some (.int .i64 (n:Int)):=by rw [aA hPa];rfl
 have hcv:Chg noB wa ((wa.alloc (.cells #[.int .i64 m] 3)).drew):=((Chg.refl _ wa).alloc _).drew
 have Nt:=Lib.hid (Fz ((wa.alloc (.cells #[.int .i64 m] 3)).drew) Mut I N wd (r:Int) (some ⟨wa.heap.size,0,none⟩) 1 [m] (fT hwA hcv (λ_ h=>h.elim)) hwf (BV (l:=[m]) (heap_alloc_new wa (.cells #[.int .i64 m] 3)) (by simp)) (by simp) (by simp) (λh=>by cases h) hN)
 have Hcv:=Lib.hid hcv
 have HwA:=Lib.hid hwA;have Hca:=Lib.hid hca;have Hba:=Lib.hid hba;have Hwa:=Lib.hid hwa;have HbM:=Lib.hid hbM;have HsM:=Lib.hid hsM;have HlM:=Lib.hid hlM;have Hsa:=Lib.hid hsa;have Hne:=Lib.hid hne;have HPa:=Lib.hid hPa;have HPW:=Lib.hid hPW;have HPM:=Lib.hid hPM;have H16:=Lib.hid h16;have Hq:=Lib.hid hq;have Hcn:=Lib.hid hcn;have Hm:=Lib.hid hm
 rw [<-hm,<-hq]
 clear hw hbk hwb s1 s2 s3 hbM hsM hlM h hne hcn hwa hca hwA hba hsa hblt hP hPW hPM hm hq h16 hPa hi hcv
 go_enter Tryz.func221,Tryz.ntmps221
 go_upto_region 10 with fail
 rw [<-Hwa.out]
 clear y3 y5 yf wi1
 go_upto_region 6 with fail
 go_region_held3 (λu=>u.cell? ⟨b,2,none⟩=some (.int .i64 (r:Int))/\u.cell? ⟨b,0,none⟩=some (.pointer (some ⟨bs,0,none⟩))/\u.cell? ⟨bs,55,none⟩=some (.int .i64 m))
  (first|exact⟨a2,a4,a5⟩|go_keep)
  ((go_at_call 222;refine Nt.out.mono ?_;rintro e w6 ⟨rfl,kK,hc6⟩;have TZ:Chg (cK I) wa w6:=(Hcv.out.mono (λ_ _ h=>h.elim)).trans hc6;have z1:=aW TZ HbM.out.2 a2;have z2:=aW TZ HbM.out.2 a4;have z3:=aW TZ HsM.out.2 a5))
 have hb6:=(TZ.block b (aC Hba.out) HbM.out.2).trans Hba.out
 have hs6:=Hsa.out.chg TZ HsM.out.2 (λg hg=>(HlM.out g hg).2.1)
 have hP6:=(TZ.block bP (aC HPa.out) HPW.out).trans HPa.out
 obtain⟨aAV,Vb,_,_⟩:=kK.blk
 have b0:w6.cell? ⟨I.bW,0,none⟩=some (.pointer (some ⟨I.bm,0,none⟩)):=by rw [aA Vb];exact kE
 have b1:w6.cell? ⟨b,0,none⟩=some (.pointer (some ⟨bs,0,none⟩)):=by rw [aA hb6];rfl
 have b2:w6.cell? ⟨bs,0,none⟩=some (.pointer (some ⟨bP,0,none⟩)):=hs6.blk.ptr
 have b3:w6.cell? ⟨bP,0,none⟩=some (.int .i64 0):=by rw [aA hP6];rfl
 have b4:w6.cell? ⟨b,1,none⟩=some (.int .i64 (p:Int)):=by rw [aA hb6];rfl
 have b5:w6.cell? ⟨b,2,none⟩=some (.int .i64 (r:Int)):=by rw [aA hb6];rfl
 obtain⟨s1,s2,s3⟩:=jZ kK
 have nb:¬ bY I.bm I.bw b:=λh=>HbM.out.2 (s3 b h).1
 have ns:¬ bY I.bm I.bw bs:=λh=>HsM.out.2 (s3 bs h).1
 have nP:¬ bY I.bm I.bw bP:=λh=>HPW.out (s3 bP h).1
 have Wr:=Lib.hid (λ(u:World) (h:Chg noB w6 u)=>EH I.bm I.bw wd.mem (p:Int) r u (kK.mem.chg h (λh=>h) (λ_ _ h=>h)) (by omega) Hcn.out)
 have Hw6:=Lib.hid (show bJ w6 Mut I (N+1) (vU wd r m) from kK);have Hc6:=Lib.hid TZ;have Hb6:=Lib.hid hb6;have Hs6:=Lib.hid hs6;have HP6:=Lib.hid hP6;have Nb:=Lib.hid nb;have Ns:=Lib.hid ns;have NP:=Lib.hid nP;have S2:=Lib.hid s2
 clear kK hc6 TZ hb6 hs6 hP6 Vb s1 s2 s3 nb ns nP z1 z2 z3 a0 a1 a2 a4 a5 a7 a8
 go_upto_region 7 with fail
 go_region_held3 (λu=>u.cell? ⟨I.bW,0,none⟩=some (.pointer (some ⟨I.bm,0,none⟩))/\u.cell? ⟨b,0,none⟩=some (.pointer (some ⟨bs,0,none⟩))/\u.cell? ⟨bs,0,none⟩=some (.pointer (some ⟨bP,0,none⟩))/\u.cell? ⟨bP,0,none⟩=some (.int .i64 0)/\u.cell? ⟨b,1,none⟩=some (.int .i64 (p:Int))/\u.cell? ⟨b,2,none⟩=some (.int .i64 (r:Int)))
  (first|exact⟨b0,b1,b2,b3,b4,b5⟩|exact⟨z0,z1,z2,z3,z4,z5⟩)
  ((go_at_call 167;refine(Wr.out _ ?_).mono ?_;(exact(Chg.refl _ _).drew);rintro e w7 ⟨rfl,hm1,hc1⟩;have hc1':Chg (bY I.bm I.bw) w6 w7:=((Chg.refl _ w6).drew).trans hc1;have z0:=aW hc1' S2.out b0;have z1:=aW hc1' Nb.out b1;have z2:=aW hc1' Ns.out b2;have z3:=aW hc1' NP.out b3;have z4:=aW hc1' Nb.out b4;have z5:=aW hc1' Nb.out b5))
 obtain⟨hw7,iD⟩:=Hw6.out.mems hc1' hm1
 have MO:=(iD.block b (aC Hb6.out) HbM.out.2).trans Hb6.out
 have hs7:=Hs6.out.chg iD HsM.out.2 (λg hg=>(HlM.out g hg).2.1)
 have hP7:=(iD.block bP (aC HP6.out) HPW.out).trans HP6.out
 have hPf:=aB hP7 (3+p)
 have hPl:=aC hP7
 have c3:w7.cell? ⟨bP,3+p,none⟩=some (.int .i64 (q:Int)):=by rw [aA hP7,Hq.out];simpa using PW (n:=n) (k:=k) H16.out (by omega)
 obtain⟨w8,hw8⟩:∃ w8,w8=(w7.setCell ⟨bP,3+p,none⟩ (.int .i64 ((q:Int)+1))).drew:=⟨_,rfl⟩
 have hc8:Chg (λk=>k=bP) w7 w8:=by rw [hw8];exact((Chg.refl (λk=>k=bP) w7).setCell (p:=⟨bP,3+p,none⟩) (.inl rfl) _).drew
 have hP8:w8.heap[bP]?=some (.cells (jB n k (us.set p (q+1))).toArray 114 (0,0)):=by
  rw [hw8]
  show(w7.setCell _ _).heap[bP]?=_
  rw [aG hP7]
  simp only [zq4]
  rw [show((q:Int)+1)=((q+1:Nat):Int) by omega,Au]
 have F:=Lib.hid (show Oy w w8 Mut I (N+1) (eB (vU wd r m) p r) b bs bP n k (us.set p (q+1)) lv (vN bs p r (i+2) v true) s (.returned (.bool true)) from by
  refine⟨rfl,((((Hca.out.mono (λk _ e=>.inr (.inl e))).trans (Hc6.out.mono (λ_ _ h=>.inl h))).trans (iD.mono (λ_ _ h=>.inl h)))).trans (hc8.mono (λk _ e=>.inr (.inr e))),fT hw7 hc8 (λj e=>by cases e;exact⟨HPM.out,HPW.out⟩),(hc8.block b (aC MO) (λe=>Hne.out.1 e.symm)).trans MO,hs7.chg hc8 (λe=>Hne.out.2.1 e.symm) (λg hg e=>(HlM.out g hg).2.2.1 e),hP8⟩)
 have q0:((w7.setCell ⟨bP,3+p,none⟩ (.int .i64 ((q:Int)+1))).drew).cell? ⟨b,0,none⟩=some (.pointer (some ⟨bs,0,none⟩)):=by rw [<-hw8];exact aW hc8 (λe=>Hne.out.1 e.symm) z1
 have q1:((w7.setCell ⟨bP,3+p,none⟩ (.int .i64 ((q:Int)+1))).drew).cell? ⟨bs,0,none⟩=some (.pointer (some ⟨bP,0,none⟩)):=by rw [<-hw8];exact aW hc8 (λe=>Hne.out.2.1 e.symm) z2
 have q2:((w7.setCell ⟨bP,3+p,none⟩ (.int .i64 ((q:Int)+1))).drew).cell? ⟨b,1,none⟩=some (.int .i64 (p:Int)):=by rw [<-hw8];exact aW hc8 (λe=>Hne.out.1 e.symm) z4
 have Hw8:=Lib.hid hw8
 clear hw7 iD MO hs7 hP7 hc8 hP8 hw8 hc1 hc1' hm1 z0 z3 z5 b0 b1 b2 b3 b4 b5
 go_upto_region 8 with fail
 refine wp_region_held_drew (S:=(λu=>u.cell? ⟨b,0,none⟩=some (.pointer (some ⟨bs,0,none⟩))/\u.cell? ⟨bs,0,none⟩=some (.pointer (some ⟨bP,0,none⟩))/\u.cell? ⟨b,1,none⟩=some (.int .i64 (p:Int)))) (by kernel_rfl) ?_ (λhHeld=>?_)
 ·(exact⟨z1,z2,z4⟩)
 refine wpAnyH_take (i:=0) (v:=?tv1) rfl (by kernel_rfl) (by kernel_rfl) (by kernel_rfl) (λ_ _ _ h=>h) (Or.inl ⟨by rfl,?Rp⟩) (by assumption) ?tr1
 (case Rp=>(intro w hSw;go_simp;with_reducible rfl))
 (simp only [Act.put,zs])
 refine wpAnyH_take (i:=1) (v:=?tv2) rfl (by kernel_rfl) (by kernel_rfl) (by kernel_rfl) (λ_ _ _ h=>h) (Or.inl ⟨by rfl,?Qu⟩) (by assumption) ?tr2
 (case Qu=>(intro w hSw;go_simp;with_reducible rfl))
 (simp only [Act.put,zs])
 refine wpAnyH_take (i:=2) (v:=?tv3) rfl (by kernel_rfl) (by kernel_rfl) (by kernel_rfl) (λ_ _ _ h=>h) (Or.inl ⟨by rfl,?Py⟩) (by assumption) ?tr3
 (case Py=>(intro w hSw;go_simp;with_reducible rfl))
 (simp only [Act.put,zs])
 refine wpAnyH_take (i:=3) (v:=?tv4) rfl (by kernel_rfl) (by kernel_rfl) (by kernel_rfl) (λ_ _ _ h=>h) (Or.inl ⟨by rfl,?Vp⟩) (by assumption) ?tr4
 (case Vp=>(intro w hSw;go_simp;with_reducible rfl))
 (simp only [Act.put,zs])
 refine wpAnyH_take (i:=4) (v:=?tv5) rfl (by kernel_rfl) (by kernel_rfl) (by kernel_rfl) (λ_ _ _ h=>h) (Or.inl ⟨by rfl,?Sm⟩) (by assumption) ?tr5
 (case Sm=>(intro w hSw;go_simp;with_reducible rfl))
 (simp only [Act.put,zs])
 refine wpAnyH_take (i:=5) (v:=?tv6) rfl (by kernel_rfl) (by kernel_rfl) (by kernel_rfl) (λ_ _ _ h=>h) (Or.inl ⟨by rfl,?Qm⟩) (by assumption) ?tr6
 (case Qm=>(intro w hSw;go_simp;with_reducible rfl))
 (simp only [Act.put,zs])
 refine wpAnyH_take (i:=6) (v:=?tv7) rfl (by kernel_rfl) (by kernel_rfl) (by kernel_rfl) (λ_ _ _ h=>h) (Or.inl ⟨by rfl,?Ww⟩) (by assumption) ?tr7
 (case Ww=>(intro w hSw;go_simp;with_reducible rfl))
 (simp only [Act.put,zs])
 refine wpAnyH_take (i:=7) (v:=?tv8) rfl (by kernel_rfl) (by kernel_rfl) (by kernel_rfl) (λ_ _ _ h=>h) (Or.inl ⟨by rfl,?th8⟩) (by assumption) ?tr8
 (case th8=>(intro w hSw;go_simp;with_reducible rfl))
 (simp only [Act.put,zs])
 refine wpAnyH_take (i:=8) (v:=?tv9) rfl (by kernel_rfl) (by kernel_rfl) (by kernel_rfl) (λ_ _ _ h=>h) (Or.inl ⟨by rfl,?th9⟩) (by assumption) ?tr9
 (case th9=>(intro w hSw;go_simp;with_reducible rfl))
 (simp only [Act.put,zs])
 refine wpAnyH_take (i:=9) (v:=?aAD) rfl (by kernel_rfl) (by kernel_rfl) (by kernel_rfl) (λ_ _ _ h=>h) (Or.inl ⟨by rfl,?Pp⟩) (by assumption) ?aAl
 (case Pp=>(intro w hSw;go_simp;with_reducible rfl))
 (simp only [Act.put,zs])
 refine wpAnyH_take (i:=10) (v:=?aAY) rfl (by kernel_rfl) (by kernel_rfl) (by kernel_rfl) (λ_ _ _ h=>h) (Or.inl ⟨by rfl,?aAw⟩) (by assumption) ?aA8
 (case aAw=>(intro w hSw;go_simp;with_reducible rfl))
 (simp only [Act.put,zs])
 refine wpAnyH_take (i:=11) (v:=?aA2) rfl (by kernel_rfl) (by kernel_rfl) (by kernel_rfl) (λ_ _ _ h=>h) (Or.inl ⟨by rfl,?aAs⟩) (by assumption) ?aA5
 (case aAs=>(intro w hSw;go_simp;with_reducible rfl))
 (simp only [Act.put,zs])
 refine wpAnyH_take (i:=12) (v:=?aBc) rfl (by kernel_rfl) (by kernel_rfl) (by kernel_rfl) (λ_ _ _ h=>h) (Or.inl ⟨by rfl,?aAr⟩) (by assumption) ?aA7
 (case aAr=>(intro w hSw;go_simp;with_reducible rfl))
 (simp only [Act.put,zs])
 refine wpAnyH_take (i:=13) (v:=?aA9) rfl (by kernel_rfl) (by kernel_rfl) (by kernel_rfl) (λ_ _ _ h=>h) (Or.inl ⟨by rfl,?aAg⟩) (by assumption) ?aBb
 (case aAg=>(intro w hSw;go_simp;with_reducible rfl))
 (simp only [Act.put,zs])
 refine wpAnyH_take (i:=16) (v:=?aAU) rfl (by kernel_rfl) (by kernel_rfl) (by kernel_rfl) (λ_ _ _ h=>h) (Or.inl ⟨by rfl,?aAt⟩) (by assumption) ?aBa
 (case aAt=>(intro w hSw;go_simp;with_reducible rfl))
 (simp only [Act.put,zs])
 refine wpAnyH_take (i:=17) (v:=?aAW) rfl (by kernel_rfl) (by kernel_rfl) (by kernel_rfl) (λ_ _ _ h=>h) (Or.inl ⟨by rfl,?aAx⟩) (by assumption) ?aBd
 (case aAx=>(intro w hSw;go_simp;with_reducible rfl))
 (simp only [Act.put,zs])
 refine wpAnyH_ready (rs:=[14]) (by kernel_rfl) (by simp) ?_
 refine AllReadyH.cons rfl (λK hK=>?_) AllReadyH.nil
 ((rw [if_pos (by kernel_rfl)]);(simp only [zq1,zq2,zq3]);go_big_op)
 refine hK.out _ _ ?_ (λhHeld=>?_)
 ·(exact⟨z1,z2,z4⟩)
 clear hK K
 refine wpAnyH_ready (rs:=[15]) (by kernel_rfl) (by simp) ?_
 refine AllReadyH.cons rfl (λK hK=>?_) AllReadyH.nil
 ((rw [if_pos (by kernel_rfl)]);(simp only [zq1,zq2,zq3]);go_big_op)
 refine hK.out _ _ ?_ (λhHeld=>?_)
 ·(exact⟨z1,z2,z4⟩)
 clear hK K
 refine wpAnyH_ready (rs:=[18]) (by kernel_rfl) (by simp) ?_
 refine AllReadyH.cons rfl (λK hK=>?_) AllReadyH.nil
 ((rw [if_pos (by kernel_rfl)]);(simp only [zq1,zq2,zq3]);go_big_op)
 refine hK.out _ _ ?_ (λhHeld=>?_)
 ·(exact⟨z1,z2,z4⟩)
 clear hK K
 refine wpAnyH_ready (rs:=[19]) (by kernel_rfl) (by simp) ?_
 refine AllReadyH.cons rfl (λK hK=>?_) AllReadyH.nil
 ((rw [if_pos (by kernel_rfl)]);(simp only [zq1,zq2,zq3]);go_big_op)
 refine hK.out _ _ ?_ (λhHeld=>?_)
 ·(exact⟨q0,q1,q2⟩)
 clear hK K
 refine wpAnyH_done (by kernel_rfl) ?_ _
 rw [<-Hw8.out]
 go_wp2
 go_ret
 exact F.out
end
section
open Go.RowKit
theorem XB (a : Addr) : KD 264 (.pointer (some a)) "Step" 215 (.pointer (some a)) := ⟨fun _ _ => by kernel_rfl, fun _ _ => by kernel_rfl, fun _ _ => by kernel_rfl⟩
theorem SV (a : Addr) : KD 264 (.pointer (some a)) "Answer" 214 (.pointer (some a)) := ⟨fun _ _ => by kernel_rfl, fun _ _ => by kernel_rfl, fun _ _ => by kernel_rfl⟩
theorem xR (a : Addr) : KD 269 (.pointer (some a)) "Step" 221 (.pointer (some a)) := ⟨fun _ _ => by kernel_rfl, fun _ _ => by kernel_rfl, fun _ _ => by kernel_rfl⟩
theorem SF (a : Addr) : KD 269 (.pointer (some a)) "Answer" 220 (.pointer (some a)) := ⟨fun _ _ => by kernel_rfl, fun _ _ => by kernel_rfl, fun _ _ => by kernel_rfl⟩
theorem TT (a : Addr) : KD 67 (.pointer (some a)) "Start" 175 (.pointer (some a)) := ⟨fun _ _ => by kernel_rfl, fun _ _ => by kernel_rfl, fun _ _ => by kernel_rfl⟩
theorem Es (v:Value) (u:World):(Instr.typeAssert (.iface 264 v) 129 159 true).run Tryz.prog u=.ok (.tuple #[.nilIface,.bool false]) u:=run_typeAssert_lacksB Tryz.underlying159 (by kernel_rfl) (by kernel_rfl) v _ u
theorem Eb (v:Value) (u:World):(Instr.typeAssert (.iface 269 v) 129 159 true).run Tryz.prog u=.ok (.tuple #[.nilIface,.bool false]) u:=run_typeAssert_lacksB Tryz.underlying159 (by kernel_rfl) (by kernel_rfl) v _ u
theorem WN (b:Nat) (w:World):Calls Tryz.prog 220 #[.pointer (some ⟨b,0,none⟩)] w λe w'=>e=.returned (.tuple #[EY 0 0 (.slice none 0 0),.slice none 0 0])/\Below w.heap.size w w':=by
 unfold EY
 go_enter Tryz.func220,Tryz.ntmps220
 go_wp2
 exact bodyPost_ret (v:=.tuple #[.agg #[.int .i64 0,.int .u64 0,.slice none 0 0],.slice none 0 0]) (by simp [results,Tryz.results220 ,go_sem]) rfl ⟨rfl,Gr.new _ _⟩
theorem XW (b bs ln lc kn kc:Nat) (la ka:Option Addr) (w:World) (h:w.heap[b]?=some (.cells (YQ bs (.slice ka kn kc)) 268 (0,0))) (hl:w.cell? ⟨bs,54,none⟩=some (.slice la ln lc)) (hsl:bs<w.heap.size) :
  Calls Tryz.prog 214 #[.pointer (some ⟨b,0,none⟩)] w λe w'=>e=.returned (.tuple #[EY 0 0 (.slice la ln lc),.slice ka kn kc])/\Below w.heap.size w w':=by
 have hlt:=aC h
 have d0:w.cell? ⟨b,0,none⟩=some (.pointer (some ⟨bs,0,none⟩)):=by rw [aA h];rfl
 have d1:w.cell? ⟨b,1,none⟩=some (.slice ka kn kc):=by rw [aA h];rfl
 have c0:=(World.cell?_alloc_lt w (.cells #[.int .i64 0,.int .u64 0,.slice none 0 0] 50) ⟨b,0,none⟩ hlt).trans d0
 have c1:=(World.cell?_alloc_lt w (.cells #[.int .i64 0,.int .u64 0,.slice none 0 0] 50) ⟨b,1,none⟩ hlt).trans d1
 have c2:=(World.cell?_alloc_lt w (.cells #[.int .i64 0,.int .u64 0,.slice none 0 0] 50) ⟨bs,54,none⟩ hsl).trans hl
 have hne:w.heap.size≠b:=by omega
 have hne2:b≠w.heap.size:=by omega
 have aA3:bs≠w.heap.size:=by omega
 have aA1:w.heap.size≠bs:=by omega
 clear h
 unfold EY
 go_enter Tryz.func214,Tryz.ntmps214
 go_wp2_with fail
 go_region_held3 (λu=>u.cell? ⟨b,0,none⟩=some (.pointer (some ⟨bs,0,none⟩))/\u.cell? ⟨b,1,none⟩=some (.slice ka kn kc)/\u.cell? ⟨bs,54,none⟩=some (.slice la ln lc)) (first|exact⟨c0,c1,c2⟩|exact⟨(World.cell?_alloc_lt _ _ _ hlt).trans d0,(World.cell?_alloc_lt _ _ _ hlt).trans d1,(World.cell?_alloc_lt _ _ _ hsl).trans hl⟩) (fail)
 all_goals
  go_wp2
  exact bodyPost_ret (v:=.tuple #[.agg #[.int .i64 0,.int .u64 0,.slice la ln lc],.slice ka kn kc]) (by simp [results,Tryz.results214 ,go_sem]) rfl ⟨rfl,by exact(Gr.new _ _).drew⟩
theorem VP (bP:Nat) (w:World):Calls Tryz.prog 177 #[.pointer (some ⟨bP,0,none⟩)] w λe w'=>e=.returned (.pointer (some ⟨w.heap.size,0,none⟩))/\Below w.heap.size w w'/\w'.heap.size=w.heap.size+1/\w'.heap[w.heap.size]?=some (.cells (uX bP AQ (.slice none 0 0)).toArray 276 (0,0)):=by
 go_enter Tryz.func177,Tryz.ntmps177
 go_wp2
 go_ret
 exact⟨rfl,Gr.new _ _,by simp,heap_alloc_new _ _⟩
theorem VZ (bP n k t r:Nat) (us:List Nat) (hn:n<=16) (hk:k<=64) (ht:t<16) (hr:r<=64) (w:World) (hP:w.heap[bP]?=some (.cells (jB n k us).toArray 114 (0,0))) :
  Calls Tryz.prog 176 #[.pointer (some ⟨bP,0,none⟩),.int .i64 (t:Int),.int .i64 (r:Int)] w λe w'=>e=.returned (.int .i64 ((bG n k t r:Nat):Int))/\Below w.heap.size w w':=by
 have c0:w.cell? ⟨bP,0,none⟩=some (.int .i64 0):=by rw [aA hP];rfl
 have c1:w.cell? ⟨bP,1,none⟩=some (.int .i64 (n:Int)):=by rw [aA hP];rfl
 have c2:w.cell? ⟨bP,2,none⟩=some (.int .i64 (k:Int)):=by rw [aA hP];rfl
 obtain⟨m,hm⟩:∃ m:Nat,m=t*k:=⟨_,rfl⟩
 have hm1:m<=1024:=by rw [hm];have:=Nat.mul_le_mul (show t<=16 by omega) hk;omega
 have em:(t:Int)*(k:Int)=(m:Int):=by rw [hm];simp
 obtain⟨q,hq⟩:∃ q:Nat,q=(m+r)*(n+1):=⟨_,rfl⟩
 have hq1:q<=100000:=by rw [hq];have:=Nat.mul_le_mul (show m+r<=1088 by omega) (show n+1<=17 by omega);omega
 have eq:((m:Int)+(r:Int))*((n:Int)+1)=(q:Int):=by rw [hq];simp
 have w2:IntKind.i64.wrap ((t:Int)*(k:Int))=(m:Int):=by rw [em,IntKind.wrap_i64];omega
 have w3:IntKind.i64.wrap ((m:Int)+(r:Int))=(m:Int)+(r:Int):=by rw [IntKind.wrap_i64];omega
 have w4:IntKind.i64.wrap ((n:Int)+1)=(n:Int)+1:=by rw [IntKind.wrap_i64];omega
 have w5:IntKind.i64.wrap (((m:Int)+(r:Int))*((n:Int)+1))=(q:Int):=by rw [eq,IntKind.wrap_i64];omega
 have w6:IntKind.i64.wrap ((n:Int)+(q:Int))=(n:Int)+(q:Int):=by rw [IntKind.wrap_i64];omega
 have w0:IntKind.i64.wrap (n:Int)=(n:Int):=by rw [IntKind.wrap_i64];omega
 have E:=Lib.hid (show((bG n k t r:Nat):Int)=(n:Int)+(q:Int) by unfold bG;rw [<-hm,<-hq];omega)
 rw [E.out]
 clear hP hm hm1 em hn hk hq hq1 eq ht hr
 go_enter Tryz.func176,Tryz.ntmps176
 go_wp2_with fail
 go_quiet (fail)
 go_wp2
 go_ret
 exact⟨rfl,below_drewN (Gr.refl w) nq⟩
end
end Go.Proofs.YtfkokppncipgnaaGreat
