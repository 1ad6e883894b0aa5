/- Layer 15: the steps of one that updates: its list, its end. -/
import Derived.Test.YtlepjmnhekeofaaR34
import Derived.BigRegion
set_option maxRecDepth 100000
set_option linter.unusedVariables false
set_option linter.unusedSimpArgs false
set_option linter.unnecessarySimpa false
namespace Go.Proofs.Ytlepjmnhekeofaa
open Go.RowKit
set_option maxHeartbeats 8000000 in
theorem sup_list (n k:Nat) (us:List Nat) (hn:n<=16) (w:World) (Mut:Nat->Prop) (I:WIds) (N:Nat) (wd:WD) (b bs bP:Nat) (s:ScD) (lv:Value) (p r i v:Nat) (hw:WorldAt w Mut I N wd) (hbk:w.heap[b]?=some (.cells (snUp bs p r (i+1) v true) 224 (0,0))) (hbM:Mut b/\¬ WSet I b) (hsM:Mut bs/\¬ WSet I bs) (hlM:∀ g,lv.ownBlock=some g->Mut g/\¬ WSet I g/\g≠bP/\g≠bs/\g≠b) (h:ScAt w bs bP lv s) (hne:bP≠b/\bP≠bs/\b≠bs) (hP:w.heap[bP]?=some (.cells (snapL n k us).toArray 100 (0,0))) (hPW:¬ WSet I bP) (hi:i+1<=n) (hls:s.list.length=n) (hr:r<1000000) (hcn:wd.mem.c.all+1<1000000000000) :
  Calls Try.prog 174 #[.pointer (some ⟨b,0,none⟩),.pointer (some ⟨I.bW,0,none⟩)] w λe w'=>SuTo w w' Mut I N (doWrite wd (r+(i+1)) (s.list.getD i 0)) b bs bP lv (snUp bs p r (i+2) v true) s false e:=by
 obtain⟨s1,s2,s3⟩:=memSet_sub hw
 obtain⟨mks,hwb,_,_⟩:=hw.blk
 have hblt:=blk_lt hbk
 obtain⟨x,hx⟩:∃ x,x=s.list.getD i 0:=⟨_,rfl⟩
 have hxv:x<18446744073709551616:=by
  rw [hx,List.getD_eq_getElem?_getD,List.getElem?_eq_getElem (by omega)]
  exact h.val _ (List.getElem_mem _)
 obtain⟨la,lc,rfl⟩:∃ la lc,lv=.slice la s.list.length lc:=by obtain⟨a,c,e⟩:=row_form h.row;exact⟨a,c,e⟩
 obtain⟨tb,to_,rfl,_,h9⟩:=((row_sl (g:=u64G s.list) h.row (by unfold maxLen;omega) (λi hi=>by simp [u64G,u64V,List.getD_eq_getElem?_getD,hi])).1).2 i (by omega)
 have e9:w.cell? ⟨tb,to_+i,none⟩=some (.int .u64 (x:Int)):=by
  have h10:=h9 0 (by omega);rw [Nat.mul_one,Nat.add_zero] at h10;rw [h10,hx];rfl
 obtain⟨wa,hwa⟩:∃ wa,wa=w.setCell ⟨b,3,none⟩ (.int .i64 ((i:Int)+1+1)):=⟨_,rfl⟩
 have hca:Chg (λj=>j=b) w wa:=by rw [hwa];exact(Chg.refl (λj=>j=b) w).setCell (by exact .inl rfl) _
 have hba:wa.heap[b]?=some (.cells (snUp bs p r (i+2) v true) 224 (0,0)):=by rw [hwa,blk_set hbk];unfold snUp;rw [show((i+2:Nat):Int)=(i:Int)+1+1 by omega];rfl
 have hwA:=world_cell hw hca (λj hj=>by cases hj;exact hbM)
 have y3:w.cell? ⟨b,3,none⟩=some (.int .i64 ((i:Int)+1)):=by rw [cell_blk hbk];unfold snUp;rw [show((i+1:Nat):Int)=(i:Int)+1 by omega];rfl
 have y5:w.cell? ⟨b,5,none⟩=some (.bool true):=by rw [cell_blk hbk];rfl
 have yf:=frozen_blk hbk 3
 obtain⟨ra,hra⟩:∃ ra,ra=r+(i+1):=⟨_,rfl⟩
 have wi1:IntKind.i64.wrap ((i:Int)+1+1)=(i:Int)+1+1:=by rw [IntKind.wrap_i64];omega
 have wi2:IntKind.i64.wrap ((i:Int)+1 - 1)=(i:Int):=by rw [IntKind.wrap_i64];omega
 have wi3:IntKind.i64.wrap ((r:Int)+((i:Int)+1))=(ra:Int):=by rw [IntKind.wrap_i64];omega
 have l1:((i:Int)+1 == 0)=false:=by rw [beq_eq_false_iff_ne];omega
 have l2:(i:Int)+1<=(n:Int):=by omega
 have a0:wa.cell? ⟨I.bW,0,none⟩=some (.pointer (some ⟨I.bm,0,none⟩)):=(hca.cell (blk_lt hwb) (λe=>hbM.2 (.inl e.symm))).trans (by rw [cell_blk hwb];exact world_mem)
 have a2:wa.cell? ⟨b,2,none⟩=some (.int .i64 (r:Int)):=by rw [cell_blk hba];rfl
 have a4:wa.cell? ⟨b,0,none⟩=some (.pointer (some ⟨bs,0,none⟩)):=by rw [cell_blk hba];rfl
 have hsa:=h.chg hca (λe=>hne.2.2 e.symm) (λg hg e=>(hlM g hg).2.2.2.2 e)
 have a5:wa.cell? ⟨bs,54,none⟩=some (.slice (some ⟨tb,to_,none⟩) s.list.length lc):=hsa.blk.list
 have htb:=hlM tb rfl
 have a6:wa.cell? ⟨tb,to_+i,none⟩=some (.int .u64 (x:Int)):=box_keep hca htb.2.2.2.2 e9
 have a7:wa.cell? ⟨bs,0,none⟩=some (.pointer (some ⟨bP,0,none⟩)):=hsa.blk.ptr
 have a8:wa.cell? ⟨bP,1,none⟩=some (.int .i64 (n:Int)):=box_keep hca hne.1 (by rw [cell_blk hP];rfl)
 rw [hls] at a5
 have nb:¬ MemSet I.bm I.bw b:=λh=>hbM.2 (s3 b h).1
 have ns:¬ MemSet I.bm I.bw bs:=λh=>hsM.2 (s3 bs h).1
 have nt:¬ MemSet I.bm I.bw tb:=λh=>htb.2.1 (s3 tb h).1
 have Wr:=Lib.hid (λ(u:World) (h:Chg noB wa u)=>write_any I.bm I.bw wd.mem (ra:Int) x u (hwA.mem.chg h (λh=>h) (λ_ _ h=>h)) hxv hcn)
 have l3:(i:Int)<(n:Int):=by omega
 have l4:(0:Int)<=(i:Int):=by omega
 have wi4:IntKind.i64.wrap (i:Int)=(i:Int):=by rw [IntKind.wrap_i64];omega
 have HwA:=Lib.hid hwA;have Hca:=Lib.hid hca;have Hba:=Lib.hid hba;have Hwa:=Lib.hid hwa;have Nb:=Lib.hid nb;have Ns:=Lib.hid ns;have Nt:=Lib.hid nt;have S2:=Lib.hid s2;have HbM:=Lib.hid hbM;have HsM:=Lib.hid hsM;have HlM:=Lib.hid hlM;have Hsa:=Lib.hid hsa;have Hne:=Lib.hid hne;have Hra:=Lib.hid hra
 rw [<-hx,<-hra]
 clear hw hbk hwb s1 s2 s3 nb ns nt hbM hsM hlM h hne hcn hwa hca hwA hba hsa hblt htb h9 e9 hx hxv hra hP hPW
 go_enter Try.func174,Try.ntmps174
 go_upto_region 10 with fail
 rw [<-Hwa.out]
 clear y3 y5 yf wi1
 go_upto_region 13 with fail
 go_region_held3 (λu=>u.cell? ⟨I.bW,0,none⟩=some (.pointer (some ⟨I.bm,0,none⟩))/\u.cell? ⟨b,2,none⟩=some (.int .i64 (r:Int))/\u.cell? ⟨b,0,none⟩=some (.pointer (some ⟨bs,0,none⟩))/\u.cell? ⟨bs,54,none⟩=some (.slice (some ⟨tb,to_,none⟩) n lc)/\u.cell? ⟨tb,to_+i,none⟩=some (.int .u64 (x:Int)))
  (first|exact⟨a0,a2,a4,a5,a6⟩|exact⟨z0,z1,z2,z3,z4⟩)
  (first|(go_at_call 120;refine(Wr.out _ ?_).mono ?_;(exact(Chg.refl _ _).drew);rintro e w6 ⟨rfl,hm1,hc1⟩;have hc1':Chg (MemSet I.bm I.bw) wa w6:=((Chg.refl _ wa).drew).trans hc1;have z0:=box_keep hc1' S2.out a0;have z1:=box_keep hc1' Nb.out a2;have z2:=box_keep hc1' Nb.out a4;have z3:=box_keep hc1' Ns.out a5;have z4:=box_keep hc1' Nt.out a6))
 obtain⟨hw1,hch1⟩:=HwA.out.mems hc1' hm1
 have F:=Lib.hid (show SuTo w w6 Mut I N (doWrite wd ra x) b bs bP (.slice (some ⟨tb,to_,none⟩) s.list.length lc) (snUp bs p r (i+2) v true) s false (.returned (.bool false)) from by
  refine⟨rfl,(Hca.out.mono (λk _ e=>.inr (.inl e))).trans (hch1.mono (λ_ _ h=>.inl h)),_,WFrom.of hw1 (λg hg=>(HlM.out g hg).1),(hc1'.block b (blk_lt Hba.out) Nb.out).trans Hba.out,Hsa.out.chg hch1 HsM.out.2 (λg hg=>(HlM.out g hg).2.1),λg hg=>⟨.inl hg,(HlM.out g hg).2.2.2.1,(HlM.out g hg).2.2.2.2,?_⟩⟩
  exact Nat.lt_of_lt_of_le (HwA.out.low g (HlM.out g hg).1) hch1.size)
 clear hw1 hch1 hc1 hc1' hm1 z0 z1 z2 z3 z4 a0 a2 a4 a5 a6
 go_wp2
 go_ret
 exact F.out
end Go.Proofs.Ytlepjmnhekeofaa
