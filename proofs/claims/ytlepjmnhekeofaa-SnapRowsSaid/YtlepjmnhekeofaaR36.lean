/- Layer 15: the steps of one that updates: its end. -/
import Derived.Test.YtlepjmnhekeofaaR35
set_option maxRecDepth 100000
set_option linter.unusedVariables false
set_option linter.unusedSimpArgs false
set_option linter.unnecessarySimpa false
namespace Go.Proofs.Ytlepjmnhekeofaa
open List renaming getElem_toArray → zq1, getElem_cons_zero → zq2, getElem_cons_succ → zq3, setIfInBounds_toArray → zq4, set_cons_zero → zq5, set_cons_succ → zq6
open Go.RowKit
def SuEnd (w w':World) (Mut:Nat->Prop) (I:WIds) (N:Nat) (wd':WD) (b bs bP n k:Nat) (us':List Nat) (lv:Value) (cs:Array Value) (s:ScD) (e:Ending):Prop:=
 e=.returned (.bool true)/\Chg (λj=>WSet I j∨j=b∨j=bP) w w'/\WorldAt w' Mut I N wd'/\w'.heap[b]?=some (.cells cs 224 (0,0))/\ScAt w' bs bP lv s/\w'.heap[bP]?=some (.cells (snapL n k us').toArray 100 (0,0))
theorem snapL_get {n k:Nat} {us:List Nat} (h:us.length=16) {p:Nat} (hp:p<16):(snapL n k us)[3+p]?=some (.int .i64 ((us.getD p 0:Nat):Int)):=by
 rw [show 3+p=p+1+1+1 by omega]
 show(us.map natV)[p]?=_
 simp [natV,List.getD_eq_getElem?_getD,show p<us.length by omega]
theorem snapL_set {n k:Nat} {us:List Nat} {p:Nat} (x:Nat):(snapL n k us).set (3+p) (.int .i64 (x:Int))=snapL n k (us.set p x):=by
 rw [show 3+p=p+1+1+1 by omega]
 unfold snapL
 simp only [zq6]
 rw [List.map_set];rfl
set_option maxHeartbeats 8000000 in
theorem sup_end (n k:Nat) (us:List Nat) (hn:n<=16) (h16:us.length=16) (w:World) (Mut:Nat->Prop) (I:WIds) (N:Nat) (wd:WD) (b bs bP:Nat) (s:ScD) (lv:Value) (p r i v:Nat) (hw:WorldAt w Mut I N wd) (hbk:w.heap[b]?=some (.cells (snUp bs p r (i+1) v true) 224 (0,0))) (hbM:Mut b/\¬ WSet I b) (hsM:Mut bs/\¬ WSet I bs) (hlM:∀ g,lv.ownBlock=some g->Mut g/\¬ WSet I g/\g≠bP/\g≠bs/\g≠b) (h:ScAt w bs bP lv s) (hne:bP≠b/\bP≠bs/\b≠bs) (hP:w.heap[bP]?=some (.cells (snapL n k us).toArray 100 (0,0))) (hPW:¬ WSet I bP) (hPM:Mut bP) (hi:¬ i+1<=n) (hi2:i<=100) (hr:r<1000000) (hp:p<16) (hus:us.getD p 0<1000000) (hN:N+1<1000000000) (hcn:wd.mem.c.all+1<1000000000000) :
  Calls Try.prog 174 #[.pointer (some ⟨b,0,none⟩),.pointer (some ⟨I.bW,0,none⟩)] w λe w'=>SuEnd w w' Mut I (N+1) (doWrite (snNote wd r s.moment) p r) b bs bP n k (us.set p (us.getD p 0+1)) lv (snUp bs p r (i+2) v true) s e:=by
 obtain⟨s1,s2,s3⟩:=memSet_sub hw
 obtain⟨mks,hwb,_,_⟩:=hw.blk
 have hblt:=blk_lt hbk
 obtain⟨m,hm⟩:∃ m,m=s.moment:=⟨_,rfl⟩
 obtain⟨q,hq⟩:∃ q,q=us.getD p 0:=⟨_,rfl⟩
 rw [<-hq] at hus
 obtain⟨wa,hwa⟩:∃ wa,wa=w.setCell ⟨b,3,none⟩ (.int .i64 ((i:Int)+1+1)):=⟨_,rfl⟩
 have hca:Chg (λj=>j=b) w wa:=by rw [hwa];exact(Chg.refl (λj=>j=b) w).setCell (by exact .inl rfl) _
 have hba:wa.heap[b]?=some (.cells (snUp bs p r (i+2) v true) 224 (0,0)):=by rw [hwa,blk_set hbk];unfold snUp;rw [show((i+2:Nat):Int)=(i:Int)+1+1 by omega];rfl
 have hwA:=world_cell hw hca (λj hj=>by cases hj;exact hbM)
 have y3:w.cell? ⟨b,3,none⟩=some (.int .i64 ((i:Int)+1)):=by rw [cell_blk hbk];unfold snUp;rw [show((i+1:Nat):Int)=(i:Int)+1 by omega];rfl
 have y5:w.cell? ⟨b,5,none⟩=some (.bool true):=by rw [cell_blk hbk];rfl
 have yf:=frozen_blk hbk 3
 have wi1:IntKind.i64.wrap ((i:Int)+1+1)=(i:Int)+1+1:=by rw [IntKind.wrap_i64];omega
 have wr:IntKind.u64.wrap (r:Int)=(r:Int):=by rw [IntKind.wrap_u64];omega
 have wp:IntKind.i64.wrap (p:Int)=(p:Int):=by rw [IntKind.wrap_i64];omega
 have wq:IntKind.i64.wrap ((q:Int)+1)=(q:Int)+1:=by rw [IntKind.wrap_i64];omega
 have hwf:(Lit.int .i64 (r:Int)).wf=true:=by simp [Lit.wf,IntKind.min,IntKind.max,IntKind.signed,IntKind.bits];omega
 have l1:((i:Int)+1 == 0)=false:=by rw [beq_eq_false_iff_ne];omega
 have l2:¬ (i:Int)+1<=(n:Int):=by omega
 have l16:(p:Int)<16:=by omega
 have a0:wa.cell? ⟨I.bW,0,none⟩=some (.pointer (some ⟨I.bm,0,none⟩)):=(hca.cell (blk_lt hwb) (λe=>hbM.2 (.inl e.symm))).trans (by rw [cell_blk hwb];exact world_mem)
 have hsa:=h.chg hca (λe=>hne.2.2 e.symm) (λg hg e=>(hlM g hg).2.2.2.2 e)
 have hPa:=(hca.block bP (blk_lt hP) hne.1).trans hP
 have a1:wa.cell? ⟨b,1,none⟩=some (.int .i64 (p:Int)):=by rw [cell_blk hba];rfl
 have a2:wa.cell? ⟨b,2,none⟩=some (.int .i64 (r:Int)):=by rw [cell_blk hba];rfl
 have a4:wa.cell? ⟨b,0,none⟩=some (.pointer (some ⟨bs,0,none⟩)):=by rw [cell_blk hba];rfl
 have a5:wa.cell? ⟨bs,55,none⟩=some (.int .i64 m):=by rw [hm];exact hsa.blk.mom
 have a7:wa.cell? ⟨bs,0,none⟩=some (.pointer (some ⟨bP,0,none⟩)):=hsa.blk.ptr
 have a8:wa.cell? ⟨bP,1,none⟩=some (.int .i64 (n:Int)):=by rw [cell_blk hPa];rfl
 have hcv:Chg noB wa ((wa.alloc (.cells #[.int .i64 m] 3)).drew):=((Chg.refl _ wa).alloc _).drew
 have Nt:=Lib.hid (note_any ((wa.alloc (.cells #[.int .i64 m] 3)).drew) Mut I N wd (r:Int) (some ⟨wa.heap.size,0,none⟩) 1 [m] (world_cell hwA hcv (λ_ h=>h.elim)) hwf (ints_block (l:=[m]) (heap_alloc_new wa (.cells #[.int .i64 m] 3)) (by simp)) (by simp) (by simp) (λh=>by cases h) hN)
 have Hcv:=Lib.hid hcv
 have HwA:=Lib.hid hwA;have Hca:=Lib.hid hca;have Hba:=Lib.hid hba;have Hwa:=Lib.hid hwa;have HbM:=Lib.hid hbM;have HsM:=Lib.hid hsM;have HlM:=Lib.hid hlM;have Hsa:=Lib.hid hsa;have Hne:=Lib.hid hne;have HPa:=Lib.hid hPa;have HPW:=Lib.hid hPW;have HPM:=Lib.hid hPM;have H16:=Lib.hid h16;have Hq:=Lib.hid hq;have Hcn:=Lib.hid hcn;have Hm:=Lib.hid hm
 rw [<-hm,<-hq]
 clear hw hbk hwb s1 s2 s3 hbM hsM hlM h hne hcn hwa hca hwA hba hsa hblt hP hPW hPM hm hq h16 hPa hi hcv
 go_enter Try.func174,Try.ntmps174
 go_upto_region 10 with fail
 rw [<-Hwa.out]
 clear y3 y5 yf wi1
 go_upto_region 6 with fail
 go_region_held3 (λu=>u.cell? ⟨b,2,none⟩=some (.int .i64 (r:Int))/\u.cell? ⟨b,0,none⟩=some (.pointer (some ⟨bs,0,none⟩))/\u.cell? ⟨bs,55,none⟩=some (.int .i64 m))
  (first|exact⟨a2,a4,a5⟩|go_keep)
  (first|(go_at_call 175;refine Nt.out.mono ?_;rintro e w6 ⟨rfl,hw6,hc6⟩;have hc6':Chg (WSet I) wa w6:=(Hcv.out.mono (λ_ _ h=>h.elim)).trans hc6;have z1:=box_keep hc6' HbM.out.2 a2;have z2:=box_keep hc6' HbM.out.2 a4;have z3:=box_keep hc6' HsM.out.2 a5))
 have hb6:=(hc6'.block b (blk_lt Hba.out) HbM.out.2).trans Hba.out
 have hs6:=Hsa.out.chg hc6' HsM.out.2 (λg hg=>(HlM.out g hg).2.1)
 have hP6:=(hc6'.block bP (blk_lt HPa.out) HPW.out).trans HPa.out
 obtain⟨mks6,hwb6,_,_⟩:=hw6.blk
 have b0:w6.cell? ⟨I.bW,0,none⟩=some (.pointer (some ⟨I.bm,0,none⟩)):=by rw [cell_blk hwb6];exact world_mem
 have b1:w6.cell? ⟨b,0,none⟩=some (.pointer (some ⟨bs,0,none⟩)):=by rw [cell_blk hb6];rfl
 have b2:w6.cell? ⟨bs,0,none⟩=some (.pointer (some ⟨bP,0,none⟩)):=hs6.blk.ptr
 have b3:w6.cell? ⟨bP,0,none⟩=some (.int .i64 0):=by rw [cell_blk hP6];rfl
 have b4:w6.cell? ⟨b,1,none⟩=some (.int .i64 (p:Int)):=by rw [cell_blk hb6];rfl
 have b5:w6.cell? ⟨b,2,none⟩=some (.int .i64 (r:Int)):=by rw [cell_blk hb6];rfl
 obtain⟨s1,s2,s3⟩:=memSet_sub hw6
 have nb:¬ MemSet I.bm I.bw b:=λh=>HbM.out.2 (s3 b h).1
 have ns:¬ MemSet I.bm I.bw bs:=λh=>HsM.out.2 (s3 bs h).1
 have nP:¬ MemSet I.bm I.bw bP:=λh=>HPW.out (s3 bP h).1
 have Wr:=Lib.hid (λ(u:World) (h:Chg noB w6 u)=>write_any I.bm I.bw wd.mem (p:Int) r u (hw6.mem.chg h (λh=>h) (λ_ _ h=>h)) (by omega) Hcn.out)
 have Hw6:=Lib.hid (show WorldAt w6 Mut I (N+1) (snNote wd r m) from hw6);have Hc6:=Lib.hid hc6';have Hb6:=Lib.hid hb6;have Hs6:=Lib.hid hs6;have HP6:=Lib.hid hP6;have Nb:=Lib.hid nb;have Ns:=Lib.hid ns;have NP:=Lib.hid nP;have S2:=Lib.hid s2
 clear hw6 hc6 hc6' hb6 hs6 hP6 hwb6 s1 s2 s3 nb ns nP z1 z2 z3 a0 a1 a2 a4 a5 a7 a8
 go_upto_region 7 with fail
 go_region_held3 (λu=>u.cell? ⟨I.bW,0,none⟩=some (.pointer (some ⟨I.bm,0,none⟩))/\u.cell? ⟨b,0,none⟩=some (.pointer (some ⟨bs,0,none⟩))/\u.cell? ⟨bs,0,none⟩=some (.pointer (some ⟨bP,0,none⟩))/\u.cell? ⟨bP,0,none⟩=some (.int .i64 0)/\u.cell? ⟨b,1,none⟩=some (.int .i64 (p:Int))/\u.cell? ⟨b,2,none⟩=some (.int .i64 (r:Int)))
  (first|exact⟨b0,b1,b2,b3,b4,b5⟩|exact⟨z0,z1,z2,z3,z4,z5⟩)
  (first|(go_at_call 120;refine(Wr.out _ ?_).mono ?_;(exact(Chg.refl _ _).drew);rintro e w7 ⟨rfl,hm1,hc1⟩;have hc1':Chg (MemSet I.bm I.bw) w6 w7:=((Chg.refl _ w6).drew).trans hc1;have z0:=box_keep hc1' S2.out b0;have z1:=box_keep hc1' Nb.out b1;have z2:=box_keep hc1' Ns.out b2;have z3:=box_keep hc1' NP.out b3;have z4:=box_keep hc1' Nb.out b4;have z5:=box_keep hc1' Nb.out b5))
 obtain⟨hw7,hch7⟩:=Hw6.out.mems hc1' hm1
 have hb7:=(hch7.block b (blk_lt Hb6.out) HbM.out.2).trans Hb6.out
 have hs7:=Hs6.out.chg hch7 HsM.out.2 (λg hg=>(HlM.out g hg).2.1)
 have hP7:=(hch7.block bP (blk_lt HP6.out) HPW.out).trans HP6.out
 have hPf:=frozen_blk hP7 (3+p)
 have hPl:=blk_lt hP7
 have c3:w7.cell? ⟨bP,3+p,none⟩=some (.int .i64 (q:Int)):=by rw [cell_blk hP7,Hq.out];simpa using snapL_get (n:=n) (k:=k) H16.out (by omega)
 obtain⟨w8,hw8⟩:∃ w8,w8=(w7.setCell ⟨bP,3+p,none⟩ (.int .i64 ((q:Int)+1))).drew:=⟨_,rfl⟩
 have hc8:Chg (λk=>k=bP) w7 w8:=by rw [hw8];exact((Chg.refl (λk=>k=bP) w7).setCell (p:=⟨bP,3+p,none⟩) (.inl rfl) _).drew
 have hP8:w8.heap[bP]?=some (.cells (snapL n k (us.set p (q+1))).toArray 100 (0,0)):=by
  rw [hw8]
  show(w7.setCell _ _).heap[bP]?=_
  rw [blk_set hP7]
  simp only [zq4]
  rw [show((q:Int)+1)=((q+1:Nat):Int) by omega,snapL_set]
 have F:=Lib.hid (show SuEnd w w8 Mut I (N+1) (doWrite (snNote wd r m) p r) b bs bP n k (us.set p (q+1)) lv (snUp bs p r (i+2) v true) s (.returned (.bool true)) from by
  refine⟨rfl,((((Hca.out.mono (λk _ e=>.inr (.inl e))).trans (Hc6.out.mono (λ_ _ h=>.inl h))).trans (hch7.mono (λ_ _ h=>.inl h)))).trans (hc8.mono (λk _ e=>.inr (.inr e))),world_cell hw7 hc8 (λj e=>by cases e;exact⟨HPM.out,HPW.out⟩),(hc8.block b (blk_lt hb7) (λe=>Hne.out.1 e.symm)).trans hb7,hs7.chg hc8 (λe=>Hne.out.2.1 e.symm) (λg hg e=>(HlM.out g hg).2.2.1 e),hP8⟩)
 have q0:((w7.setCell ⟨bP,3+p,none⟩ (.int .i64 ((q:Int)+1))).drew).cell? ⟨b,0,none⟩=some (.pointer (some ⟨bs,0,none⟩)):=by rw [<-hw8];exact box_keep hc8 (λe=>Hne.out.1 e.symm) z1
 have q1:((w7.setCell ⟨bP,3+p,none⟩ (.int .i64 ((q:Int)+1))).drew).cell? ⟨bs,0,none⟩=some (.pointer (some ⟨bP,0,none⟩)):=by rw [<-hw8];exact box_keep hc8 (λe=>Hne.out.2.1 e.symm) z2
 have q2:((w7.setCell ⟨bP,3+p,none⟩ (.int .i64 ((q:Int)+1))).drew).cell? ⟨b,1,none⟩=some (.int .i64 (p:Int)):=by rw [<-hw8];exact box_keep hc8 (λe=>Hne.out.1 e.symm) z4
 have Hw8:=Lib.hid hw8
 clear hw7 hch7 hb7 hs7 hP7 hc8 hP8 hw8 hc1 hc1' hm1 z0 z3 z5 b0 b1 b2 b3 b4 b5
 go_upto_region 8 with fail
 refine wp_region_held_drew (S:=(λu=>u.cell? ⟨b,0,none⟩=some (.pointer (some ⟨bs,0,none⟩))/\u.cell? ⟨bs,0,none⟩=some (.pointer (some ⟨bP,0,none⟩))/\u.cell? ⟨b,1,none⟩=some (.int .i64 (p:Int)))) (by kernel_rfl) ?_ (λhHeld=>?_)
 ·(try dsimp only)
  (first|exact⟨z1,z2,z4⟩|exact⟨q0,q1,q2⟩)
 refine wpAnyH_take (i:=0) (v:=?tv1) rfl (by kernel_rfl) (by kernel_rfl) (by kernel_rfl) (λ_ _ _ h=>h) (Or.inl ⟨by rfl,?th1⟩) (by assumption) ?tr1
 (case th1=>(intro w hSw;(try dsimp only at hSw);go_simp;try with_reducible rfl))
 (try simp only [Act.put,zq1,zq2,zq3,zq4,zq5,zq6])
 refine wpAnyH_take (i:=1) (v:=?tv2) rfl (by kernel_rfl) (by kernel_rfl) (by kernel_rfl) (λ_ _ _ h=>h) (Or.inl ⟨by rfl,?th2⟩) (by assumption) ?tr2
 (case th2=>(intro w hSw;(try dsimp only at hSw);go_simp;try with_reducible rfl))
 (try simp only [Act.put,zq1,zq2,zq3,zq4,zq5,zq6])
 refine wpAnyH_take (i:=2) (v:=?tv3) rfl (by kernel_rfl) (by kernel_rfl) (by kernel_rfl) (λ_ _ _ h=>h) (Or.inl ⟨by rfl,?th3⟩) (by assumption) ?tr3
 (case th3=>(intro w hSw;(try dsimp only at hSw);go_simp;try with_reducible rfl))
 (try simp only [Act.put,zq1,zq2,zq3,zq4,zq5,zq6])
 refine wpAnyH_take (i:=3) (v:=?tv4) rfl (by kernel_rfl) (by kernel_rfl) (by kernel_rfl) (λ_ _ _ h=>h) (Or.inl ⟨by rfl,?th4⟩) (by assumption) ?tr4
 (case th4=>(intro w hSw;(try dsimp only at hSw);go_simp;try with_reducible rfl))
 (try simp only [Act.put,zq1,zq2,zq3,zq4,zq5,zq6])
 refine wpAnyH_take (i:=4) (v:=?tv5) rfl (by kernel_rfl) (by kernel_rfl) (by kernel_rfl) (λ_ _ _ h=>h) (Or.inl ⟨by rfl,?th5⟩) (by assumption) ?tr5
 (case th5=>(intro w hSw;(try dsimp only at hSw);go_simp;try with_reducible rfl))
 (try simp only [Act.put,zq1,zq2,zq3,zq4,zq5,zq6])
 refine wpAnyH_take (i:=5) (v:=?tv6) rfl (by kernel_rfl) (by kernel_rfl) (by kernel_rfl) (λ_ _ _ h=>h) (Or.inl ⟨by rfl,?th6⟩) (by assumption) ?tr6
 (case th6=>(intro w hSw;(try dsimp only at hSw);go_simp;try with_reducible rfl))
 (try simp only [Act.put,zq1,zq2,zq3,zq4,zq5,zq6])
 refine wpAnyH_take (i:=6) (v:=?tv7) rfl (by kernel_rfl) (by kernel_rfl) (by kernel_rfl) (λ_ _ _ h=>h) (Or.inl ⟨by rfl,?th7⟩) (by assumption) ?tr7
 (case th7=>(intro w hSw;(try dsimp only at hSw);go_simp;try with_reducible rfl))
 (try simp only [Act.put,zq1,zq2,zq3,zq4,zq5,zq6])
 refine wpAnyH_take (i:=7) (v:=?tv8) rfl (by kernel_rfl) (by kernel_rfl) (by kernel_rfl) (λ_ _ _ h=>h) (Or.inl ⟨by rfl,?th8⟩) (by assumption) ?tr8
 (case th8=>(intro w hSw;(try dsimp only at hSw);go_simp;try with_reducible rfl))
 (try simp only [Act.put,zq1,zq2,zq3,zq4,zq5,zq6])
 refine wpAnyH_take (i:=8) (v:=?tv9) rfl (by kernel_rfl) (by kernel_rfl) (by kernel_rfl) (λ_ _ _ h=>h) (Or.inl ⟨by rfl,?th9⟩) (by assumption) ?tr9
 (case th9=>(intro w hSw;(try dsimp only at hSw);go_simp;try with_reducible rfl))
 (try simp only [Act.put,zq1,zq2,zq3,zq4,zq5,zq6])
 refine wpAnyH_take (i:=9) (v:=?tv10) rfl (by kernel_rfl) (by kernel_rfl) (by kernel_rfl) (λ_ _ _ h=>h) (Or.inl ⟨by rfl,?th10⟩) (by assumption) ?tr10
 (case th10=>(intro w hSw;(try dsimp only at hSw);go_simp;try with_reducible rfl))
 (try simp only [Act.put,zq1,zq2,zq3,zq4,zq5,zq6])
 refine wpAnyH_take (i:=10) (v:=?tv11) rfl (by kernel_rfl) (by kernel_rfl) (by kernel_rfl) (λ_ _ _ h=>h) (Or.inl ⟨by rfl,?th11⟩) (by assumption) ?tr11
 (case th11=>(intro w hSw;(try dsimp only at hSw);go_simp;try with_reducible rfl))
 (try simp only [Act.put,zq1,zq2,zq3,zq4,zq5,zq6])
 refine wpAnyH_take (i:=11) (v:=?tv12) rfl (by kernel_rfl) (by kernel_rfl) (by kernel_rfl) (λ_ _ _ h=>h) (Or.inl ⟨by rfl,?th12⟩) (by assumption) ?tr12
 (case th12=>(intro w hSw;(try dsimp only at hSw);go_simp;try with_reducible rfl))
 (try simp only [Act.put,zq1,zq2,zq3,zq4,zq5,zq6])
 refine wpAnyH_take (i:=12) (v:=?tv13) rfl (by kernel_rfl) (by kernel_rfl) (by kernel_rfl) (λ_ _ _ h=>h) (Or.inl ⟨by rfl,?th13⟩) (by assumption) ?tr13
 (case th13=>(intro w hSw;(try dsimp only at hSw);go_simp;try with_reducible rfl))
 (try simp only [Act.put,zq1,zq2,zq3,zq4,zq5,zq6])
 refine wpAnyH_take (i:=13) (v:=?tv14) rfl (by kernel_rfl) (by kernel_rfl) (by kernel_rfl) (λ_ _ _ h=>h) (Or.inl ⟨by rfl,?th14⟩) (by assumption) ?tr14
 (case th14=>(intro w hSw;(try dsimp only at hSw);go_simp;try with_reducible rfl))
 (try simp only [Act.put,zq1,zq2,zq3,zq4,zq5,zq6])
 refine wpAnyH_take (i:=16) (v:=?tv15) rfl (by kernel_rfl) (by kernel_rfl) (by kernel_rfl) (λ_ _ _ h=>h) (Or.inl ⟨by rfl,?th15⟩) (by assumption) ?tr15
 (case th15=>(intro w hSw;(try dsimp only at hSw);go_simp;try with_reducible rfl))
 (try simp only [Act.put,zq1,zq2,zq3,zq4,zq5,zq6])
 refine wpAnyH_take (i:=17) (v:=?tv16) rfl (by kernel_rfl) (by kernel_rfl) (by kernel_rfl) (λ_ _ _ h=>h) (Or.inl ⟨by rfl,?th16⟩) (by assumption) ?tr16
 (case th16=>(intro w hSw;(try dsimp only at hSw);go_simp;try with_reducible rfl))
 (try simp only [Act.put,zq1,zq2,zq3,zq4,zq5,zq6])
 refine wpAnyH_ready (rs:=[14]) (by kernel_rfl) (by simp) ?_
 refine AllReadyH.cons rfl (λK hK=>?_) AllReadyH.nil
 ((rw [if_pos (by kernel_rfl)]);(try simp only [zq1,zq2,zq3]);first|go_big_move|go_big_op)
 refine hK.out _ _ ?_ (λhHeld=>?_)
 ·(try dsimp only)
  (first|exact⟨z1,z2,z4⟩|exact⟨q0,q1,q2⟩)
 clear hK K
 (try simp only [Act.put,zq1,zq2,zq3,zq4,zq5,zq6])
 refine wpAnyH_ready (rs:=[15]) (by kernel_rfl) (by simp) ?_
 refine AllReadyH.cons rfl (λK hK=>?_) AllReadyH.nil
 ((rw [if_pos (by kernel_rfl)]);(try simp only [zq1,zq2,zq3]);first|go_big_move|go_big_op)
 refine hK.out _ _ ?_ (λhHeld=>?_)
 ·(try dsimp only)
  (first|exact⟨z1,z2,z4⟩|exact⟨q0,q1,q2⟩)
 clear hK K
 (try simp only [Act.put,zq1,zq2,zq3,zq4,zq5,zq6])
 refine wpAnyH_ready (rs:=[18]) (by kernel_rfl) (by simp) ?_
 refine AllReadyH.cons rfl (λK hK=>?_) AllReadyH.nil
 ((rw [if_pos (by kernel_rfl)]);(try simp only [zq1,zq2,zq3]);first|go_big_move|go_big_op)
 refine hK.out _ _ ?_ (λhHeld=>?_)
 ·(try dsimp only)
  (first|exact⟨z1,z2,z4⟩|exact⟨q0,q1,q2⟩)
 clear hK K
 (try simp only [Act.put,zq1,zq2,zq3,zq4,zq5,zq6])
 refine wpAnyH_ready (rs:=[19]) (by kernel_rfl) (by simp) ?_
 refine AllReadyH.cons rfl (λK hK=>?_) AllReadyH.nil
 ((rw [if_pos (by kernel_rfl)]);(try simp only [zq1,zq2,zq3]);first|go_big_move|go_big_op)
 refine hK.out _ _ ?_ (λhHeld=>?_)
 ·(try dsimp only)
  (first|exact⟨z1,z2,z4⟩|exact⟨q0,q1,q2⟩)
 clear hK K
 (try simp only [Act.put,zq1,zq2,zq3,zq4,zq5,zq6])
 refine wpAnyH_done (by kernel_rfl) ?_ _
 rw [<-Hw8.out]
 go_wp2
 go_ret
 exact F.out
end Go.Proofs.Ytlepjmnhekeofaa
