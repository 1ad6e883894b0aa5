/- Layer 16: the steps of one that updates: it writes. -/
import Derived.Test.YtifhldnmcdbpfaaU30
set_option maxRecDepth 100000
set_option linter.unusedVariables false
set_option linter.unusedSimpArgs false
set_option linter.unnecessarySimpa false
namespace Go.Proofs.Ytifhldnmcdbpfaa
open List renaming getElem_toArray → zq1, getElem_cons_zero → zq2, getElem_cons_succ → zq3, setIfInBounds_toArray → zq4, set_cons_zero → zq5, set_cons_succ → zq6
section
open Go.RowKit
set_option maxHeartbeats 8000000 in
theorem OL (w:World) (Mut:Nat->Prop) (I:eO) (N:Nat) (wd:WD) (b bs bP p a r x i:Nat) (s:MuD) (v:MuV) (wv:Value) (wl:List Nat) (hw:aT w Mut I N wd) (hbk:w.heap[b]?=some (.cells (lM bs p a r x wv i) 226 (0,0))) (hbM:Mut b/\¬ bC I b) (hB:∀ j,MuB bs v j->Mut j/\¬ bC I j/\j≠b/\j≠bP) (hV:∀ j,wv.ownBlock=some j->Mut j/\¬ bC I j/\j≠b/\¬ MuB bs v j) (h:MuAt w bs bP v s) (hrow:gN w wv wl) (hi:i<wl.length) (hwl:wl.length<=100) (hval:wl.getD i 0<18446744073709551616) (hr:r<1000000) (hcn:wd.mem.c.all+1<1000000000000) :
  Calls Try.prog 177 #[.pointer (some ⟨b,0,none⟩),.pointer (some ⟨I.bW,0,none⟩)] w λe w'=>uJ w w' Mut I N (dK wd (r+i) (wl.getD i 0)) b bs bP v wv (λwv=>lM bs p a r x wv (i+1)) s wl false e:=by
 obtain⟨s1,s2,s3⟩:=lV hw
 obtain⟨mks,hwb,_,_⟩:=hw.blk
 have hblt:=aH hbk
 obtain⟨y,hy⟩:∃ y,y=wl.getD i 0:=⟨_,rfl⟩
 rw [<-hy] at hval ⊢
 obtain⟨L,hL⟩:∃ L,L=wl.length:=⟨_,rfl⟩
 obtain⟨tb,lc,hwv,ht,_,_⟩:=hrow.at (i:=i) hi
 rw [<-hL] at hwv
 rw [<-hy] at ht
 have htb:=hV tb (by rw [hwv];rfl)
 obtain⟨ra,hra⟩:∃ ra,ra=r+i:=⟨_,rfl⟩
 have x0:w.cell? ⟨I.bW,0,none⟩=some (.pointer (some ⟨I.bm,0,none⟩)):=by rw [aA hwb];exact kN
 have y3:w.cell? ⟨b,3,none⟩=some (.int .i64 (r:Int)):=by rw [aA hbk];rfl
 have y5:w.cell? ⟨b,5,none⟩=some (.slice (some ⟨tb,0,none⟩) L lc):=by rw [aA hbk,<-hwv];rfl
 have y6:w.cell? ⟨b,6,none⟩=some (.int .i64 (i:Int)):=by rw [aA hbk];rfl
 have hnn:=fE (some ⟨tb,0,none⟩) L lc
 have l3:(i:Int)<(L:Int):=by omega
 have l4:(0:Int)<=(i:Int):=by omega
 have Ag:IntKind.i64.wrap ((i:Int)+1)=(i:Int)+1:=by rw [IntKind.wrap_i64];omega
 have Bo:IntKind.i64.wrap ((r:Int)+(i:Int))=(ra:Int):=by rw [IntKind.wrap_i64];omega
 have Bc:IntKind.i64.wrap (i:Int)=(i:Int):=by rw [IntKind.wrap_i64];omega
 have nb:¬ bO I.bm I.bw b:=λh=>hbM.2 (s3 b h).1
 have nt:¬ bO I.bm I.bw tb:=λh=>htb.2.1 (s3 tb h).1
 have Wr:=Lib.hid (λ(u:World) (h:Chg noB w u)=>vX I.bm I.bw wd.mem (ra:Int) y u (hw.mem.chg h (λh=>h) (λ_ _ h=>h)) hval hcn)
 rw [<-hra]
 have Hw:=Lib.hid hw;have Hbk:=Lib.hid hbk;have HbM:=Lib.hid hbM;have HB:=Lib.hid hB;have HV:=Lib.hid hV;have H:=Lib.hid h;have Hrow:=Lib.hid hrow;have Nb:=Lib.hid nb;have Nt:=Lib.hid nt;have S2:=Lib.hid s2;have Hwv:=Lib.hid hwv;have Hra:=Lib.hid hra;have Hi:=Lib.hid hi
 clear hw hbk hwb s1 s2 s3 nb nt hbM hB hV h hrow hcn hwv hra hy hL hblt htb hval hi hwl
 go_enter Try.func177,Try.ntmps177
 go_upto_region 8 with fail
 go_quiet (fail)
 obtain⟨wa,hwa⟩:∃ wa,wa=w.drewN nq:=⟨_,rfl⟩
 have hca:Chg noB w wa:=by rw [hwa];exact Chg.of_below (below_drewN (Gr.refl w) nq)
 rw [<-hwa]
 have a0:=aJ hca (λh=>h) x0
 have a3:=aJ hca (λh=>h) y3
 have a5:=aJ hca (λh=>h) y5
 have a6:=aJ hca (λh=>h) y6
 have a7:=aJ hca (λh=>h) ht
 have Hca:=Lib.hid hca
 clear hwa hca x0 y3 y5 y6 ht hnn
 go_upto_region 9 with fail
 go_region_held3 (λu=>u.cell? ⟨I.bW,0,none⟩=some (.pointer (some ⟨I.bm,0,none⟩))/\u.cell? ⟨b,3,none⟩=some (.int .i64 (r:Int))/\u.cell? ⟨b,5,none⟩=some (.slice (some ⟨tb,0,none⟩) L lc)/\u.cell? ⟨b,6,none⟩=some (.int .i64 (i:Int))/\u.cell? ⟨tb,i,none⟩=some (.int .u64 (y:Int)))
  (first|exact⟨a0,a3,a5,a6,a7⟩|exact⟨z0,z1,z2,z3,z4⟩)
  (first|(go_at_call 151;refine(Wr.out _ ?_).mono ?_;(exact Hca.out.trans (Chg.refl _ _).drew);rintro e w6 ⟨rfl,hm1,hc1⟩;have hc1':Chg (bO I.bm I.bw) wa w6:=((Chg.refl _ wa).drew).trans hc1;have z0:=aJ hc1' S2.out a0;have z1:=aJ hc1' Nb.out a3;have z2:=aJ hc1' Nb.out a5;have z3:=aJ hc1' Nb.out a6;have z4:=aJ hc1' Nt.out a7))
 have hcw:Chg (bO I.bm I.bw) w w6:=(Hca.out.mono (λ_ _ h=>h.elim)).trans hc1'
 obtain⟨hw1,nV⟩:=Hw.out.mems hcw hm1
 have OG:=(hcw.block b (aH Hbk.out) Nb.out).trans Hbk.out
 have xf:=aC OG 6
 have xlt:=aH OG
 have x6:w6.cell? ⟨b,6,none⟩=some (.int .i64 (i:Int)):=z3
 obtain⟨w7,hw7⟩:∃ w7,w7=w6.setCell ⟨b,6,none⟩ (.int .i64 ((i:Int)+1)):=⟨_,rfl⟩
 have UF:Chg (λk=>k=b) w6 w7:=by rw [hw7];exact(Chg.refl (λk=>k=b) w6).setCell (p:=⟨b,6,none⟩) (.inl rfl) _
 have F:=Lib.hid (show uJ w w7 Mut I N (dK wd ra y) b bs bP v wv (λwv=>lM bs p a r x wv (i+1)) s wl false (.returned (.bool false)) from by
  refine⟨rfl,(nV.mono (λ_ _ h=>.inl h)).trans (UF.mono (λ_ _ e=>.inr (.inl e))),v,wv,⟨w7,noB,jT hw1 UF (λk e=>by cases e;exact HbM.out),Chg.refl _ _,λ_ h=>h.elim,λg hg=>.inl (hg.elim (λh=>(HB.out g h).1) (λh=>(HV.out g h).1))⟩,?_,(H.out.chg nV (λj hj=>(HB.out j hj).2.1)).chg UF (λj hj=>(HB.out j hj).2.2.1),(Hrow.out.chg nV (λj hj=>(HV.out j hj).2.1)).chg UF (λj hj=>(HV.out j hj).2.2.1),λe=>absurd Hi.out (by rw [e];exact Nat.not_lt_zero _),λj hj=>⟨.inl hj,(HB.out j hj).2.2.1⟩,λj hj=>⟨.inl hj,(HV.out j hj).2.2.1,(HV.out j hj).2.2.2⟩⟩
  rw [hw7,aG OG]
  show _=some (Obj.cells (lM bs p a r x wv (i+1)) _ _)
  unfold lM
  rw [show((i+1:Nat):Int)=(i:Int)+1 by omega];rfl)
 have Hw7:=Lib.hid hw7
 clear hw1 nV hc1 hc1' hm1 hcw z0 z1 z2 z3 z4 a0 a3 a5 a6 a7 hw7 UF OG
 go_wp2
 rw [<-Hw7.out]
 go_ret
 exact F.out
end
section
open Go.RowKit
end
section
open Go.RowKit
theorem qV (w:World) {T e:TypeId} (hT:Try.prog.underlying T=some (.map 3 e)) {ops:Array Oper} {o:Oper} {a:Act} {K:Act->World->Prop} {Q:Exit->Act->World->Prop} {E:Prop}
  (hg:o.guard=none) (m x v:Operand) (hop:o.op=Op.mapUpdate T m x v) (z:Value) (b n:Nat) (M:Int->Option Value)
  (hm:a.eval m=.map (some b)) (hown:MapOf z w b n M) (hn:n<maxLen) (key:Int) (val:Value) (hx:a.eval x=.int .i64 key) (hv:a.eval v=val) (hw:(Lit.int .i64 key).wf=true)
  (hK:∀ w',MapOf z w' b (n+1) (tV M key val)->w.grownBy w' (some b)->K (a.put o.dst undef) w') :
  if Region.wanted o (yielded ops a.tmps)=true then Oper.wp Try.prog o a w K Q else E:=by
 have hwt:Region.wanted o (yielded ops a.tmps)=true:=by simp [Region.wanted,hg]
 rw [if_pos hwt]
 obtain⟨w',hrun,r1,r2⟩:=hown.put hT hn hw val
 unfold Oper.wp
 simp [execOp,hop,hm,hx,hv,hrun,Result.andThen]
 exact hK w' r1 r2
theorem oP (w:World) {T e:TypeId} (hT:Try.prog.underlying T=some (.map 3 e)) {ops:Array Oper} {o:Oper} {a:Act} {K:Act->World->Prop} {Q:Exit->Act->World->Prop} {E:Prop}
  (hg:o.guard=none) (m x:Operand) (hop:o.op=Op.lookup T m x false) (z:Value) (b n:Nat) (M:Int->Option Value) (hz:(zeroValue e).run Try.prog w=.ok z w)
  (hm:a.eval m=.map (some b)) (hown:MapOf z w b n M) (key:Int) (val:Value) (hx:a.eval x=.int .i64 key) (hw:(Lit.int .i64 key).wf=true) (hv:(M key).getD z=val)
  (hK:K (a.put o.dst val) w) :
  if Region.wanted o (yielded ops a.tmps)=true then Oper.wp Try.prog o a w K Q else E:=by
 have hwt:Region.wanted o (yielded ops a.tmps)=true:=by simp [Region.wanted,hg]
 rw [if_pos hwt]
 have hrun:=hown.look hT hz hw
 unfold Oper.wp
 simp [execOp,hop,hm,hx,hrun,Result.andThen]
 rw [hv];exact hK
theorem MapOf.drew {z:Value} {w:World} {b n:Nat} {M:Int->Option Value} (h:MapOf z w b n M):MapOf z w.drew b n M:=h.block rfl
def usM (o:List Nat) (k:Int):Option Value:=if 0<=k/\o.getD k.toNat 0≠0 then some (.int .i64 ((o.getD k.toNat 0:Nat):Int)) else none
theorem LC (o:List Nat) (p:Nat):((usM o (p:Int)).getD (.int .i64 0))=.int .i64 ((o.getD p 0:Nat):Int):=by
 unfold usM
 rw [Int.toNat_natCast]
 by_cases h:o.getD p 0≠0
 ·rw [if_pos ⟨Int.natCast_nonneg p,h⟩];rfl
 ·rw [if_neg (λe=>h e.2)]
  have h0:o.getD p 0=0:=Classical.not_not.1 h
  rw [h0];rfl
theorem PP (o:List Nat) {p:Nat} (hp:p<o.length) (x:Nat) (hx:x≠0):tV (usM o) (p:Int) (.int .i64 (x:Int))=usM (o.set p x):=by
 funext k
 unfold tV usM
 by_cases hk:k=(p:Int)
 ·subst hk
  rw [if_pos rfl,Int.toNat_natCast,aK hp,if_pos ⟨Int.natCast_nonneg p,hx⟩]
 ·rw [if_neg hk]
  by_cases h0:0<=k
  ·have hne:p≠k.toNat:=λe=>hk (by omega)
   rw [aO hne]
  ·rw [if_neg (λe=>h0 e.1),if_neg (λe=>h0 e.1)]
end
section
open Go.RowKit
def MJ (w w':World) (Mut:Nat->Prop) (I:eO) (N:Nat) (wd':WD) (b bs bP bU n m q cnt:Nat) (o':List Nat) (v:MuV) (wv:Value) (cs:Array Value) (s:MuD) (wl:List Nat) (e:Ending):Prop:=
 e=.returned (.bool true)/\Chg (λj=>bC I j∨j=bU) w w'/\aT w' Mut I N wd'/\w'.heap[b]?=some (.cells cs 226 (0,0))/\MuAt w' bs bP v s/\gN w' wv wl/\w'.heap[bP]?=some (.cells (jM n m q bU) 89 (0,0))/\MapOf (.int .i64 0) w' bU cnt (usM o')
theorem pK (w:World):(zeroValue 3).run Try.prog w=.ok (.int .i64 0) w:=by kernel_rfl
set_option maxHeartbeats 8000000 in
theorem NN (n m q bU cnt:Nat) (o:List Nat) (h16:o.length=16) (w:World) (Mut:Nat->Prop) (I:eO) (N:Nat) (wd:WD) (b bs bP p a r x i:Nat) (s:MuD) (v:MuV) (wv:Value) (wl:List Nat) (hw:aT w Mut I N wd) (hbk:w.heap[b]?=some (.cells (lM bs p a r x wv i) 226 (0,0))) (hbM:Mut b/\¬ bC I b) (hB:∀ j,MuB bs v j->Mut j/\¬ bC I j/\j≠b/\j≠bP/\j≠bU) (hV:∀ j,wv.ownBlock=some j->Mut j/\¬ bC I j/\j≠b/\¬ MuB bs v j/\j≠bU) (h:MuAt w bs bP v s) (hrow:gN w wv wl) (hne:bU≠b/\bU≠bP/\bP≠b) (hU:Mut bU/\¬ bC I bU) (hPW:¬ bC I bP) (hP:w.heap[bP]?=some (.cells (jM n m q bU) 89 (0,0))) (hM:MapOf (.int .i64 0) w bU cnt (usM o)) (hcnt:cnt<=1000000) (UJ:wl≠[]) (hi:¬ i<wl.length) (hi9:i<=1000) (hp:p<16) (hus:o.getD p 0<1000000) (hr:r<1000000) (ha:a<=1000) (hN:N+1<1000000000) (hcn:wd.mem.c.all+1<1000000000000) :
  Calls Try.prog 177 #[.pointer (some ⟨b,0,none⟩),.pointer (some ⟨I.bW,0,none⟩)] w λe w'=>MJ w w' Mut I (N+1) (dK (nH wd r s.moment) a r) b bs bP bU n m q (cnt+1) (o.set p (o.getD p 0+1)) v wv (lM bs p a r x wv i) s wl e:=by
 obtain⟨mm,hmm⟩:∃ mm,mm=s.moment:=⟨_,rfl⟩
 obtain⟨u,hu⟩:∃ u,u=o.getD p 0:=⟨_,rfl⟩
 rw [<-hu] at hus
 obtain⟨L,hL⟩:∃ L,L=wl.length:=⟨_,rfl⟩
 have hL0:0<wl.length:=List.length_pos_iff.2 UJ
 obtain⟨tb,lc,hwv,_,_,_⟩:=hrow.at (i:=0) hL0
 rw [<-hL] at hwv
 have y0:w.cell? ⟨b,0,none⟩=some (.pointer (some ⟨bs,0,none⟩)):=by rw [aA hbk];rfl
 have y3:w.cell? ⟨b,3,none⟩=some (.int .i64 (r:Int)):=by rw [aA hbk];rfl
 have y5:w.cell? ⟨b,5,none⟩=some (.slice (some ⟨tb,0,none⟩) L lc):=by rw [aA hbk,<-hwv];rfl
 have y6:w.cell? ⟨b,6,none⟩=some (.int .i64 (i:Int)):=by rw [aA hbk];rfl
 have y8:w.cell? ⟨bs,8,none⟩=some (.int .i64 mm):=by rw [hmm];exact h.get 8
 have hnn:=fE (some ⟨tb,0,none⟩) L lc
 have l3:¬ (i:Int)<(L:Int):=by omega
 have wr:IntKind.u64.wrap (r:Int)=(r:Int):=by rw [IntKind.wrap_u64];omega
 have ZI:IntKind.i64.wrap (0+(a:Int))=(a:Int):=by rw [IntKind.wrap_i64];omega
 have XQ:IntKind.i64.wrap (a:Int)=(a:Int):=by rw [IntKind.wrap_i64];omega
 have ZF:(0:Int)+(a:Int)=(a:Int):=by omega
 have wq:IntKind.i64.wrap ((u:Int)+1)=(u:Int)+1:=by rw [IntKind.wrap_i64];omega
 have hwf:(Lit.int .i64 (r:Int)).wf=true:=by simp [Lit.wf,IntKind.min,IntKind.max,IntKind.signed,IntKind.bits];omega
 have hpf:(Lit.int .i64 (p:Int)).wf=true:=by simp [Lit.wf,IntKind.min,IntKind.max,IntKind.signed,IntKind.bits];omega
 have Nt:=Lib.hid (λ(wa:World) (hca:Chg noB w wa)=>JD ((wa.alloc (.cells #[.int .i64 mm] 3)).drew) Mut I N wd (r:Int) (some ⟨wa.heap.size,0,none⟩) 1 [mm] (jT hw (hca.trans (((Chg.refl _ wa).alloc _).drew)) (λ_ h=>h.elim)) hwf (oJ (l:=[mm]) (heap_alloc_new wa (.cells #[.int .i64 mm] 3)) (by simp)) (by simp) (by simp) (λh=>by cases h) hN)
 have Hw:=Lib.hid hw;have Hbk:=Lib.hid hbk;have HbM:=Lib.hid hbM;have HB:=Lib.hid hB;have HV:=Lib.hid hV;have H:=Lib.hid h;have Hrow:=Lib.hid hrow;have Hne:=Lib.hid hne;have HU:=Lib.hid hU;have HP:=Lib.hid hP;have HM:=Lib.hid hM;have HPW:=Lib.hid hPW;have Hcn:=Lib.hid hcn;have Hmm:=Lib.hid hmm;have Hu:=Lib.hid hu;have H16:=Lib.hid h16;have Hpf:=Lib.hid hpf;have Hcnt:=Lib.hid hcnt
 rw [<-hmm,<-hu]
 clear hw hbk hbM hB hV h hrow hne hU hP hM hPW hcn hmm hu h16 hwv hL hL0 UJ hi hwf hpf hcnt
 go_enter Try.func177,Try.ntmps177
 go_upto_region 8 with fail
 go_quiet (fail)
 obtain⟨wa,hwa⟩:∃ wa,wa=w.drewN nq:=⟨_,rfl⟩
 have hca:Chg noB w wa:=by rw [hwa];exact Chg.of_below (below_drewN (Gr.refl w) nq)
 rw [<-hwa]
 have a0:=aJ hca (λh=>h) y0
 have a3:=aJ hca (λh=>h) y3
 have a8:=aJ hca (λh=>h) y8
 have Nta:=Lib.hid (Nt.out wa hca)
 have Hca:=Lib.hid hca
 clear hwa hca y0 y3 y5 y6 y8 hnn Nt
 go_upto_region 1 with fail
 go_region_held3 (λu=>u.cell? ⟨b,3,none⟩=some (.int .i64 (r:Int))/\u.cell? ⟨b,0,none⟩=some (.pointer (some ⟨bs,0,none⟩))/\u.cell? ⟨bs,8,none⟩=some (.int .i64 mm))
  (first|exact⟨a3,a0,a8⟩|go_keep)
  (first|(go_at_call 178;refine Nta.out.mono ?_;rintro e w6 ⟨rfl,dR,hc6⟩;have vL:Chg (bC I) wa w6:=((((Chg.refl noB wa).alloc _).drew).mono (λ_ _ h=>h.elim)).trans hc6;have z1:=aJ vL HbM.out.2 a3;have z2:=aJ vL HbM.out.2 a0;have z3:=aJ vL (HB.out bs (.inl rfl)).2.1 a8))
 have hba:=(Hca.out.block b (aH Hbk.out) (λh=>h)).trans Hbk.out
 have hb6:=(vL.block b (aH hba) HbM.out.2).trans hba
 have hs6:MuAt w6 bs bP v s:=(H.out.chg Hca.out (λ_ _ h=>h)).chg vL (λj hj=>(HB.out j hj).2.1)
 have hPa:=(Hca.out.block bP (aH HP.out) (λh=>h)).trans HP.out
 have hP6:=(vL.block bP (aH hPa) HPW.out).trans hPa
 have nU:=(Hrow.out.chg Hca.out (λ_ _ h=>h)).chg vL (λj hj=>(HV.out j hj).2.1)
 have hMa:=HM.out.block (Hca.out.block bU HM.out.lt (λh=>h))
 have hM6:=hMa.block (vL.block bU hMa.lt HU.out.2)
 obtain⟨Ad,TL,_,_⟩:=dR.blk
 have b0:w6.cell? ⟨I.bW,0,none⟩=some (.pointer (some ⟨I.bm,0,none⟩)):=by rw [aA TL];exact kN
 have b1:w6.cell? ⟨b,0,none⟩=some (.pointer (some ⟨bs,0,none⟩)):=by rw [aA hb6];rfl
 have b2:w6.cell? ⟨bs,0,none⟩=some (.pointer (some ⟨bP,0,none⟩)):=hs6.get 0
 have b3:w6.cell? ⟨bP,0,none⟩=some (.int .i64 0):=by rw [aA hP6];rfl
 have b4:w6.cell? ⟨b,2,none⟩=some (.int .i64 (a:Int)):=by rw [aA hb6];rfl
 have b5:w6.cell? ⟨b,3,none⟩=some (.int .i64 (r:Int)):=by rw [aA hb6];rfl
 have b6:w6.cell? ⟨b,1,none⟩=some (.int .i64 (p:Int)):=by rw [aA hb6];rfl
 have b7:w6.cell? ⟨bP,4,none⟩=some (.map (some bU)):=by rw [aA hP6];rfl
 obtain⟨s1,s2,s3⟩:=lV dR
 have nb:¬ bO I.bm I.bw b:=λh=>HbM.out.2 (s3 b h).1
 have ns:¬ bO I.bm I.bw bs:=λh=>(HB.out bs (.inl rfl)).2.1 (s3 bs h).1
 have nP:¬ bO I.bm I.bw bP:=λh=>HPW.out (s3 bP h).1
 have Wr:=Lib.hid (λ(u:World) (h:Chg noB w6 u)=>vX I.bm I.bw wd.mem (a:Int) r u (dR.mem.chg h (λh=>h) (λ_ _ h=>h)) (by omega) Hcn.out)
 have Hw6:=Lib.hid (show aT w6 Mut I (N+1) (nH wd r mm) from dR);have Hc6:=Lib.hid vL;have Hb6:=Lib.hid hb6;have Hs6:=Lib.hid hs6;have HP6:=Lib.hid hP6;have Nb:=Lib.hid nb;have Ns:=Lib.hid ns;have NP:=Lib.hid nP;have S2:=Lib.hid s2;have Hr6:=Lib.hid nU;have HM6:=Lib.hid hM6
 clear dR hc6 vL hb6 hs6 hP6 TL s1 s2 s3 nb ns nP z1 z2 z3 a0 a3 a8 hba hPa nU hMa hM6
 go_upto_region 2 with fail
 go_region_held3 (λu=>u.cell? ⟨I.bW,0,none⟩=some (.pointer (some ⟨I.bm,0,none⟩))/\u.cell? ⟨b,0,none⟩=some (.pointer (some ⟨bs,0,none⟩))/\u.cell? ⟨bs,0,none⟩=some (.pointer (some ⟨bP,0,none⟩))/\u.cell? ⟨bP,0,none⟩=some (.int .i64 0)/\u.cell? ⟨b,2,none⟩=some (.int .i64 (a:Int))/\u.cell? ⟨b,3,none⟩=some (.int .i64 (r:Int)))
  (first|exact⟨b0,b1,b2,b3,b4,b5⟩|exact⟨z0,z1,z2,z3,z4,z5⟩)
  (first|(go_at_call 151;refine(Wr.out _ ?_).mono ?_;(exact(Chg.refl _ _).drew);rintro e w7 ⟨rfl,hm1,hc1⟩;have hc1':Chg (bO I.bm I.bw) w6 w7:=((Chg.refl _ w6).drew).trans hc1;have z0:=aJ hc1' S2.out b0;have z1:=aJ hc1' Nb.out b1;have z2:=aJ hc1' Ns.out b2;have z3:=aJ hc1' NP.out b3;have z4:=aJ hc1' Nb.out b4;have z5:=aJ hc1' Nb.out b5;have z6:=aJ hc1' Nb.out b6;have z7:=aJ hc1' NP.out b7))
 obtain⟨hw7,dZ⟩:=Hw6.out.mems hc1' hm1
 have YK:=(dZ.block b (aH Hb6.out) HbM.out.2).trans Hb6.out
 have hs7:=Hs6.out.chg dZ (λj hj=>(HB.out j hj).2.1)
 have hP7:=(dZ.block bP (aH HP6.out) HPW.out).trans HP6.out
 have kD:=Hr6.out.chg dZ (λj hj=>(HV.out j hj).2.1)
 have hM7:=HM6.out.block (dZ.block bU HM6.out.lt HU.out.2)
 have Hw7:=Lib.hid hw7;have Hch7:=Lib.hid dZ;have Hb7:=Lib.hid YK;have Hs7:=Lib.hid hs7;have HP7:=Lib.hid hP7;have Hr7:=Lib.hid kD;have HM7:=Lib.hid hM7
 have Eu:=Lib.hid (show((usM o (p:Int)).getD (.int .i64 0))=.int .i64 (u:Int) from by rw [LC,Hu.out])
 have Ecn:=Lib.hid (show cnt<maxLen from by have:=Hcnt.out;unfold maxLen;omega)
 clear hw7 dZ YK hs7 hP7 kD hM7 hc1 hc1' hm1 z0 z3 z4 z5 b0 b1 b2 b3 b4 b5 b6 b7
 go_upto_region 3 with fail
 refine fC ((λx=>x.cell? ⟨b,0,none⟩=some (.pointer (some ⟨bs,0,none⟩))/\x.cell? ⟨bs,0,none⟩=some (.pointer (some ⟨bP,0,none⟩))/\x.cell? ⟨bP,4,none⟩=some (.map (some bU))/\x.cell? ⟨b,1,none⟩=some (.int .i64 (p:Int)))) 16 (by kernel_rfl) ?hS0L1 ?_
 case hS0L1=>
  (try dsimp only)
  (first|exact⟨z1,z2,z7,z6⟩)
 intro hS hcl
 refine aD (i:=0) (v:=?tv0L1) 17 rfl (by kernel_rfl) (by kernel_rfl) (by kernel_rfl) (by kernel_rfl) (by kernel_rfl) hcl (by first|exact λ_ _ _ h=>h|exact λ_ _ _ h=>HQp.out _ _ _ _ h) (Or.inl ⟨by rfl,?th0L1⟩) hS ?tr0L1
 (case th0L1=>(intro w hSw;(try dsimp only at hSw);go_simp;try with_reducible rfl))
 clear hcl;intro hcl
 (try simp only [Act.put,zs])
 refine aD (i:=1) (v:=?tv1L1) 17 rfl (by kernel_rfl) (by kernel_rfl) (by kernel_rfl) (by kernel_rfl) (by kernel_rfl) hcl (by first|exact λ_ _ _ h=>h|exact λ_ _ _ h=>HQp.out _ _ _ _ h) (Or.inl ⟨by rfl,?th1L1⟩) hS ?tr1L1
 (case th1L1=>(intro w hSw;(try dsimp only at hSw);go_simp;try with_reducible rfl))
 clear hcl;intro hcl
 (try simp only [Act.put,zs])
 refine aD (i:=2) (v:=?tv2L1) 17 rfl (by kernel_rfl) (by kernel_rfl) (by kernel_rfl) (by kernel_rfl) (by kernel_rfl) hcl (by first|exact λ_ _ _ h=>h|exact λ_ _ _ h=>HQp.out _ _ _ _ h) (Or.inl ⟨by rfl,?th2L1⟩) hS ?tr2L1
 (case th2L1=>(intro w hSw;(try dsimp only at hSw);go_simp;try with_reducible rfl))
 clear hcl;intro hcl
 (try simp only [Act.put,zs])
 refine aD (i:=3) (v:=?tv3L1) 17 rfl (by kernel_rfl) (by kernel_rfl) (by kernel_rfl) (by kernel_rfl) (by kernel_rfl) hcl (by first|exact λ_ _ _ h=>h|exact λ_ _ _ h=>HQp.out _ _ _ _ h) (Or.inl ⟨by rfl,?th3L1⟩) hS ?tr3L1
 (case th3L1=>(intro w hSw;(try dsimp only at hSw);go_simp;try with_reducible rfl))
 clear hcl;intro hcl
 (try simp only [Act.put,zs])
 refine aD (i:=4) (v:=?tv4L1) 17 rfl (by kernel_rfl) (by kernel_rfl) (by kernel_rfl) (by kernel_rfl) (by kernel_rfl) hcl (by first|exact λ_ _ _ h=>h|exact λ_ _ _ h=>HQp.out _ _ _ _ h) (Or.inl ⟨by rfl,?th4L1⟩) hS ?tr4L1
 (case th4L1=>(intro w hSw;(try dsimp only at hSw);go_simp;try with_reducible rfl))
 clear hcl;intro hcl
 (try simp only [Act.put,zs])
 refine aD (i:=5) (v:=?tv5L1) 17 rfl (by kernel_rfl) (by kernel_rfl) (by kernel_rfl) (by kernel_rfl) (by kernel_rfl) hcl (by first|exact λ_ _ _ h=>h|exact λ_ _ _ h=>HQp.out _ _ _ _ h) (Or.inl ⟨by rfl,?th5L1⟩) hS ?tr5L1
 (case th5L1=>(intro w hSw;(try dsimp only at hSw);go_simp;try with_reducible rfl))
 clear hcl;intro hcl
 (try simp only [Act.put,zs])
 refine aD (i:=6) (v:=?tv6L1) 17 rfl (by kernel_rfl) (by kernel_rfl) (by kernel_rfl) (by kernel_rfl) (by kernel_rfl) hcl (by first|exact λ_ _ _ h=>h|exact λ_ _ _ h=>HQp.out _ _ _ _ h) (Or.inl ⟨by rfl,?th6L1⟩) hS ?tr6L1
 (case th6L1=>(intro w hSw;(try dsimp only at hSw);go_simp;try with_reducible rfl))
 clear hcl;intro hcl
 (try simp only [Act.put,zs])
 refine aD (i:=7) (v:=?tv7L1) 17 rfl (by kernel_rfl) (by kernel_rfl) (by kernel_rfl) (by kernel_rfl) (by kernel_rfl) hcl (by first|exact λ_ _ _ h=>h|exact λ_ _ _ h=>HQp.out _ _ _ _ h) (Or.inl ⟨by rfl,?th7L1⟩) hS ?tr7L1
 (case th7L1=>(intro w hSw;(try dsimp only at hSw);go_simp;try with_reducible rfl))
 clear hcl;intro hcl
 (try simp only [Act.put,zs])
 refine aD (i:=8) (v:=?tv8L1) 17 rfl (by kernel_rfl) (by kernel_rfl) (by kernel_rfl) (by kernel_rfl) (by kernel_rfl) hcl (by first|exact λ_ _ _ h=>h|exact λ_ _ _ h=>HQp.out _ _ _ _ h) (Or.inl ⟨by rfl,?th8L1⟩) hS ?tr8L1
 (case th8L1=>(intro w hSw;(try dsimp only at hSw);go_simp;try with_reducible rfl))
 clear hcl;intro hcl
 (try simp only [Act.put,zs])
 refine aD (i:=9) (v:=?tv9L1) 17 rfl (by kernel_rfl) (by kernel_rfl) (by kernel_rfl) (by kernel_rfl) (by kernel_rfl) hcl (by first|exact λ_ _ _ h=>h|exact λ_ _ _ h=>HQp.out _ _ _ _ h) (Or.inl ⟨by rfl,?th9L1⟩) hS ?tr9L1
 (case th9L1=>(intro w hSw;(try dsimp only at hSw);go_simp;try with_reducible rfl))
 clear hcl;intro hcl
 (try simp only [Act.put,zs])
 refine aD (i:=10) (v:=?tv10L1) 17 rfl (by kernel_rfl) (by kernel_rfl) (by kernel_rfl) (by kernel_rfl) (by kernel_rfl) hcl (by first|exact λ_ _ _ h=>h|exact λ_ _ _ h=>HQp.out _ _ _ _ h) (Or.inl ⟨by rfl,?th10L1⟩) hS ?tr10L1
 (case th10L1=>(intro w hSw;(try dsimp only at hSw);go_simp;try with_reducible rfl))
 clear hcl;intro hcl
 (try simp only [Act.put,zs])
 refine aD (i:=11) (v:=?tv11L1) 17 rfl (by kernel_rfl) (by kernel_rfl) (by kernel_rfl) (by kernel_rfl) (by kernel_rfl) hcl (by first|exact λ_ _ _ h=>h|exact λ_ _ _ h=>HQp.out _ _ _ _ h) (Or.inl ⟨by rfl,?th11L1⟩) hS ?tr11L1
 (case th11L1=>(intro w hSw;(try dsimp only at hSw);go_simp;try with_reducible rfl))
 clear hcl;intro hcl
 (try simp only [Act.put,zs])
 refine aD (i:=12) (v:=?tv12L1) 17 rfl (by kernel_rfl) (by kernel_rfl) (by kernel_rfl) (by kernel_rfl) (by kernel_rfl) hcl (by first|exact λ_ _ _ h=>h|exact λ_ _ _ h=>HQp.out _ _ _ _ h) (Or.inl ⟨by rfl,?th12L1⟩) hS ?tr12L1
 (case th12L1=>(intro w hSw;(try dsimp only at hSw);go_simp;try with_reducible rfl))
 clear hcl;intro hcl
 (try simp only [Act.put,zs])
 refine aD (i:=13) (v:=?tv13L1) 17 rfl (by kernel_rfl) (by kernel_rfl) (by kernel_rfl) (by kernel_rfl) (by kernel_rfl) hcl (by first|exact λ_ _ _ h=>h|exact λ_ _ _ h=>HQp.out _ _ _ _ h) (Or.inl ⟨by rfl,?th13L1⟩) hS ?tr13L1
 (case th13L1=>(intro w hSw;(try dsimp only at hSw);go_simp;try with_reducible rfl))
 clear hcl;intro hcl
 (try simp only [Act.put,zs])
 refine aM (i:=14) (by kernel_rfl) rfl hcl (λK' hK=>?_)
 have HK:=Lib.hid hK;clear hK
 (first|(refine oP _ Try.underlying87 (by rfl) _ _ (by rfl) (.int .i64 0) bU cnt (usM o) (pK _) (by rfl) HM7.out.drew (p:Int) (.int .i64 (u:Int)) (by rfl) Hpf.out Eu.out ?_)|(refine qV _ Try.underlying87 (by rfl) _ _ _ (by rfl) (.int .i64 0) bU cnt (usM o) (by rfl) HM7.out.drew Ecn.out (p:Int) (.int .i64 ((u:Int)+1)) (by rfl) (by first|rfl|(go_simp;done)) Hpf.out ?_;intro w8 hM8 TT))
 refine HK.out _ _ ?hS14L1 (λhcl=>?_)
 case hS14L1=>
  intro _
  (try dsimp only)
  (first|exact⟨z1,z2,z7,z6⟩)
 clear HK
 (try simp only [Act.put,zs])
 refine aM (i:=15) (by kernel_rfl) rfl hcl (λK' hK=>?_)
 have HK:=Lib.hid hK;clear hK
 ((rw [if_pos (by kernel_rfl)]);(try simp only [zq1,zq2,zq3]);first|go_big_move|go_big_op)
 refine HK.out _ _ ?hS15L1 (λhcl=>?_)
 case hS15L1=>
  intro _
  (try dsimp only)
  (first|exact⟨z1,z2,z7,z6⟩)
 clear HK
 (try simp only [Act.put,zs])
 refine aM (i:=16) (by kernel_rfl) rfl hcl (λK' hK=>?_)
 have HK:=Lib.hid hK;clear hK
 (first|(refine oP _ Try.underlying87 (by rfl) _ _ (by rfl) (.int .i64 0) bU cnt (usM o) (pK _) (by rfl) HM7.out.drew (p:Int) (.int .i64 (u:Int)) (by rfl) Hpf.out Eu.out ?_)|(refine qV _ Try.underlying87 (by rfl) _ _ _ (by rfl) (.int .i64 0) bU cnt (usM o) (by rfl) HM7.out.drew Ecn.out (p:Int) (.int .i64 ((u:Int)+1)) (by rfl) (by first|rfl|(go_simp;done)) Hpf.out ?_;intro w8 hM8 TT))
 refine HK.out _ _ (λh=>by cases h.symm.trans (by kernel_rfl:_=true)) (λ_=>fD (by kernel_rfl) ?_ _)
 clear HK
 (try clear hS)
 have hc8:Chg (λk=>k=bU) w7 w8:=(((Chg.refl (λk=>k=bU) w7).drew)).grown TT (λk hk=>.inl (Option.some.inj hk).symm)
 have F:=Lib.hid (show MJ w w8 Mut I (N+1) (dK (nH wd r mm) a r) b bs bP bU n m q (cnt+1) (o.set p (u+1)) v wv (lM bs p a r x wv i) s wl (.returned (.bool true)) from by
  refine⟨rfl,(((Hca.out.mono (λ_ _ h=>h.elim)).trans (Hc6.out.mono (λ_ _ h=>.inl h))).trans (Hch7.out.mono (λ_ _ h=>.inl h))).trans (hc8.mono (λk _ e=>.inr e)),jT Hw7.out hc8 (λj e=>by cases e;exact HU.out),(hc8.block b (aH Hb7.out) (λe=>Hne.out.1 e.symm)).trans Hb7.out,Hs7.out.chg hc8 (λj hj e=>(HB.out j hj).2.2.2.2 e),Hr7.out.chg hc8 (λj hj e=>(HV.out j hj).2.2.2.2 e),(hc8.block bP (aH HP7.out) (λe=>Hne.out.2.1 e.symm)).trans HP7.out,?_⟩
  have h9:=hM8
  rw [show(.int .i64 ((u:Int)+1):Value)=.int .i64 ((u+1:Nat):Int) from rfl,PP o (by rw [H16.out];exact hp) (u+1) (Nat.succ_ne_zero u)] at h9
  exact h9)
 clear hM8 TT hc8 z1 z2 z6 z7
 go_wp2
 go_ret
 exact F.out
end
end Go.Proofs.Ytifhldnmcdbpfaa
