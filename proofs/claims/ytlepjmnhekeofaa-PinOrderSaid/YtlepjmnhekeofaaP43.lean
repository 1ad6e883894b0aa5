/- Layer 27: the register of many words as the reference has it. -/
import Derived.Test.YtlepjmnhekeofaaP40
import Derived.Test.YtlepjmnhekeofaaP42
set_option maxRecDepth 100000
set_option linter.unusedVariables false
set_option linter.unusedSimpArgs false
set_option linter.unnecessarySimpa false
namespace Go.Proofs.Ytlepjmnhekeofaa
open Go.RowKit
theorem u64_get {st:List Nat} {j:Nat} (h:j<st.length):(st.map u64V)[j]?=some (.int .u64 ((st.getD j 0:Nat):Int)):=by
 simp [List.getD_eq_getElem?_getD,h,u64V]
theorem sl_words {w:World} {B q n cp:Nat} {l:List Nat} (h:w.ownsRow B 40 1 (.slice (some ⟨q,0,none⟩) n cp) n (l.map u64V)) (hn:n=l.length) (hm:n<=1000000):SlAt w (some ⟨q,0,none⟩) l.length 1 (u64G l):=by
 subst hn
 obtain⟨a,c,e,h1,_⟩:=sl_of_row (g:=u64G l) h (by unfold maxLen;omega) (λj hj=>u64_get hj)
 cases e
 exact h1
def RefRowTo (k q cp:Nat) (ar:List Nat×AnsD) (w1 w':World) (e:Ending):Prop:=
 ∃ la lc,e=.returned (.tuple #[.slice (some ⟨q,0,none⟩) k cp,ansV ar.2.err ar.2.val (.slice la ar.2.list.length lc)])/\Chg (λb=>b=q) w1 w'/\SlAt w' la ar.2.list.length 1 (u64G ar.2.list)/\SlAt w' (some ⟨q,0,none⟩) ar.1.length 1 (u64G ar.1)/\(∀ b off,la=some ⟨b,off,none⟩->b=q)
set_option maxHeartbeats 8000000 in
theorem ref_pin (k:Nat) (hk:k<=8) (w1:World) (B q cp:Nat) (st:List Nat) (hst:st.length=k) (x:CallD) (hok:CallOk x) (hr:w1.ownsRow B 40 1 (.slice (some ⟨q,0,none⟩) k cp) k (st.map u64V)) (hql:q<w1.heap.size) :
  Calls Try.prog 76 #[specV 9 (k:Int) 0,.slice (some ⟨q,0,none⟩) k cp,callAgg x] w1 λe w'=>RefRowTo k q cp (pinAp st x) w1 w' e:=by
 obtain⟨th,ob,kd',ca,cb,cc⟩:=x
 have hca:ca<18446744073709551616:=hok.a
 unfold callAgg specV
 simp only
 obtain⟨wa,hwa⟩:∃ wa,wa=((w1.alloc (.cells #[.int .i64 9,.int .i64 (k:Int),.int .i64 0] 49)).alloc (.cells #[.int .i64 th,.int .i64 ob,.int .i64 kd',.int .u64 (ca:Int),.int .u64 (cb:Int),.int .u64 (cc:Int)] 46)).alloc (.cells #[.int .i64 0,.int .u64 0,.slice none 0 0] 42):=⟨_,rfl⟩
 have hga:Below w1.heap.size w1 wa:=by rw [hwa];exact allocs_below w1 [_,_,_]
 have hsz:wa.heap.size=w1.heap.size+3:=by rw [hwa];simp
 have s1:wa.heap[w1.heap.size+1]?=some (.cells #[.int .i64 th,.int .i64 ob,.int .i64 kd',.int .u64 (ca:Int),.int .u64 (cb:Int),.int .u64 (cc:Int)] 46 (0,0)):=by rw [hwa];exact allocs_get [_,_,_] w1 1 _ rfl
 have s2:wa.heap[w1.heap.size+2]?=some (.cells #[.int .i64 0,.int .u64 0,.slice none 0 0] 42 (0,0)):=by rw [hwa];exact allocs_get [_,_,_] w1 2 _ rfl
 have hrow:wa.ownsRow B 40 1 (.slice (some ⟨q,0,none⟩) k cp) k (st.map u64V):=row_below hr hga
 have c0:wa.cell? ⟨w1.heap.size+1,0,none⟩=some (.int .i64 th):=by rw [cell_blk s1];rfl
 have c2:wa.cell? ⟨w1.heap.size+1,2,none⟩=some (.int .i64 kd'):=by rw [cell_blk s1];rfl
 have a0:wa.cell? ⟨w1.heap.size+1+1,0,none⟩=some (.int .i64 0):=by rw [show w1.heap.size+1+1=w1.heap.size+2 from rfl,cell_blk s2];rfl
 have a1:wa.cell? ⟨w1.heap.size+1+1,1,none⟩=some (.int .u64 0):=by rw [show w1.heap.size+1+1=w1.heap.size+2 from rfl,cell_blk s2];rfl
 have a2:wa.cell? ⟨w1.heap.size+1+1,2,none⟩=some (.slice none 0 0):=by rw [show w1.heap.size+1+1=w1.heap.size+2 from rfl,cell_blk s2];rfl
 have f0:wa.frozen? ⟨w1.heap.size+1+1,0,none⟩=false:=frozen_blk s2 0
 have f1:wa.frozen? ⟨w1.heap.size+1+1,1,none⟩=false:=frozen_blk s2 1
 have f2:wa.frozen? ⟨w1.heap.size+1+1,2,none⟩=false:=frozen_blk s2 2
 have hlt2:w1.heap.size+1+1<wa.heap.size:=blk_lt s2
 have fin:∀(wb:World) (er:Int) (vl:Nat) (sl:Value) (l:List Nat),l.length=k->Chg (λb=>b=q) wa wb->wb.ownsRow B 40 1 (.slice (some ⟨q,0,none⟩) k cp) k (l.map u64V)->∀ w',w'=(((wb.setCell ⟨w1.heap.size+1+1,0,none⟩ (.int .i64 er)).setCell ⟨w1.heap.size+1+1,1,none⟩ (.int .u64 (vl:Int))).setCell ⟨w1.heap.size+1+1,2,none⟩ sl)->
   w'.cell? ⟨w1.heap.size+1+1,0,none⟩=some (.int .i64 er)/\w'.cell? ⟨w1.heap.size+1+1,1,none⟩=some (.int .u64 (vl:Int))/\w'.cell? ⟨w1.heap.size+1+1,2,none⟩=some sl/\Chg (λb=>b=q) w1 w'/\SlAt w' (some ⟨q,0,none⟩) l.length 1 (u64G l):=by
  intro wb er vl sl l hl hc hrw w' hw'
  have t2:=(hc.block _ (blk_lt s2) (by omega)).trans s2
  obtain⟨t1,t3,_⟩:=set3 t2 (.int .i64 er) (.int .u64 (vl:Int)) sl
  have t1':w'.heap[w1.heap.size+1+1]?=some (.cells #[.int .i64 er,.int .u64 (vl:Int),sl] 42 (0,0)):=by rw [hw'];exact t1
  have t3':Chg (λb=>b=w1.heap.size+2) wb w':=by rw [hw'];exact t3
  refine⟨by rw [cell_blk t1'];rfl,by rw [cell_blk t1'];rfl,by rw [cell_blk t1'];rfl,?_,(sl_words hrw hl.symm (by omega)).chg t3' (λb off e h=>by cases e;omega)⟩
  have h9:Chg (λb=>b=q∨w1.heap.size<=b) w1 w':=((Chg.of_below hga).trans (hc.mono (λb _ h=>.inl h))).trans (t3'.mono (λb _ h=>.inr (by omega)))
  exact h9.mono (λb hb h=>h.elim id (λh=>by omega))
 have C3:=Lib.hid (show wa.cell? ⟨w1.heap.size+1,3,none⟩=some (.int .u64 (ca:Int)) by rw [cell_blk s1];rfl)
 have Fin:=Lib.hid fin;have Hwa:=Lib.hid hwa;have Hrow:=Lib.hid hrow;have Hsz:=Lib.hid hsz;have Hst:=Lib.hid hst;have S1:=Lib.hid s1;have S2:=Lib.hid s2
 clear hr hga s1 s2 hrow fin hwa hok hsz hst
 by_cases h1:kd'=1
 ·subst h1
  rw [pinAp_1 (c:=⟨th,ob,1,ca,cb,cc⟩) rfl]
  clear c0
  go_enter Try.func76,Try.ntmps76
  go_upto_region 1 with fail
  rw [<-Hwa.out]
  go_wp2
  obtain⟨w6,hw6⟩:∃ w6,w6=(((wa.setCell ⟨w1.heap.size+1+1,0,none⟩ (.int .i64 0)).setCell ⟨w1.heap.size+1+1,1,none⟩ (.int .u64 0)).setCell ⟨w1.heap.size+1+1,2,none⟩ (.slice (some ⟨q,0,none⟩) k cp)):=⟨_,rfl⟩
  rw [<-hw6]
  obtain⟨k0,k1,k2,g1,g2⟩:=Fin.out wa 0 0 (.slice (some ⟨q,0,none⟩) k cp) st Hst.out (Chg.refl _ _) Hrow.out w6 hw6
  clear hw6
  refine bodyPost_ret (v:=.tuple #[.slice (some ⟨q,0,none⟩) k cp,ansV 0 0 (.slice (some ⟨q,0,none⟩) k cp)]) (by simp [results,Try.results76 ,go_sem,ansV,k0,k1,k2]) rfl ?_
  unfold RefRowTo
  exact⟨some ⟨q,0,none⟩,cp,by rw [Hst.out],g1,g2,g2,λb off e=>by cases e;rfl⟩
 have q1:(kd' == 1)=false:=by simpa using h1
 by_cases h0:kd'=0
 ·subst h0
  by_cases ht:th=0
  ·subst ht
   rw [pinAp_0 (c:=⟨0,ob,0,ca,cb,cc⟩) rfl rfl]
   clear h1
   have K1:=Lib.hid (show Chg (λb=>b=q) wa wa from Chg.refl _ _)
   have A0:=Lib.hid a0;have A1:=Lib.hid a1;have A2:=Lib.hid a2;have F0:=Lib.hid f0;have F1:=Lib.hid f1;have F2:=Lib.hid f2
   clear a0 a1 a2 f0 f1 f2
   go_enter Try.func76,Try.ntmps76
   go_upto_region 1 with fail
   rw [<-Hwa.out]
   go_wp2
   clear c0 c2
   go_loopw [27] (λi wr=>∃(j:Nat) (l:List Nat),j<=k/\i=.int .i64 j/\Chg (λb=>b=q) wa wr/\l.length=k/\wr.ownsRow B 40 1 (.slice (some ⟨q,0,none⟩) k cp) k (l.map u64V)/\∀ a,a<j->l.getD a 0=(ca+a) % 18446744073709551616) (λi _=>k - (intOf i).toNat)
   case atStart=>exact⟨0,st,Nat.zero_le _,rfl,Chg.refl _ _,Hst.out,Hrow.out,λa ha=>absurd ha (Nat.not_lt_zero a)⟩
   case round=>
    obtain⟨j,l,hj,rfl,hc,hl,hrw,hg⟩:=hrel
    have hwq:q<wr.heap.size:=Nat.lt_of_lt_of_le (by have:=Hsz.out;omega) hc.size
    by_cases hlt:j<k
    ·have l1:(j:Int)<(k:Int):=by omega
     have e3:=box_keep hc (by have:=hql;omega) C3.out
     obtain⟨r1,r2⟩:=row_at hrw (u64_get (show j<l.length by omega))
     obtain⟨s,hs⟩:∃ s,s=(ca+j) % 18446744073709551616:=⟨_,rfl⟩
     have u1:IntKind.u64.wrap (j:Int)=(j:Int):=by rw [IntKind.wrap_u64];omega
     have u2:IntKind.u64.wrap ((ca:Int)+(j:Int))=(s:Int):=by rw [IntKind.wrap_u64];omega
     have P:=Lib.hid (show Chg (λb=>b=q) wa (wr.setCell ⟨q,j,none⟩ (.int .u64 (s:Int)))/\(wr.setCell ⟨q,j,none⟩ (.int .u64 (s:Int))).ownsRow B 40 1 (.slice (some ⟨q,0,none⟩) k cp) k ((l.set j s).map u64V) from⟨hc.setCell (p:=⟨q,j,none⟩) (.inl rfl) _,by rw [List.map_set];exact row_put hrw j _⟩)
     have G:=Lib.hid (show ∀ a,a<j+1->(l.set j s).getD a 0=(ca+a) % 18446744073709551616 from λa ha=>by
      by_cases e:a=j
      ·subst e;rw [getD_set_eq (by omega),hs]
      ·rw [getD_set_neq (Ne.symm e)];exact hg a (by omega))
     have HL:=Lib.hid hl
     clear hc hl hrw hg hs
     go_wp2
     go_roundw
     case rel=>exact⟨j+1,l.set j s,by omega,by go_num,P.out.1,by rw [List.length_set];exact HL.out,P.out.2,G.out⟩
     case measure=>simp [intOf]<;>omega
    ·have l1:¬ (j:Int)<(k:Int):=by omega
     obtain rfl:j=k:=by omega
     have hx:l=piCont st.length ca:=by
      apply List.ext_getElem
      ·rw [piCont_len,hl,Hst.out]
      ·intro a h3 h4
       have h5:=hg a (by omega)
       rw [List.getD_eq_getElem?_getD,List.getElem?_eq_getElem h3] at h5
       have h6:=piCont_get (k:=st.length) (a:=ca) (i:=a) (by rw [piCont_len] at h4;exact h4)
       rw [List.getD_eq_getElem?_getD,List.getElem?_eq_getElem h4] at h6
       exact h5.trans h6.symm
     have e0:=box_keep hc (by have:=hql;omega) A0.out
     have e1:=box_keep hc (by have:=hql;omega) A1.out
     have e2:=box_keep hc (by have:=hql;omega) A2.out
     have s2:=(hc.block _ (blk_lt S2.out) (by have:=hql;omega)).trans S2.out
     have g0:wr.frozen? ⟨w1.heap.size+1+1,0,none⟩=false:=frozen_blk s2 0
     have g1:wr.frozen? ⟨w1.heap.size+1+1,1,none⟩=false:=frozen_blk s2 1
     have g2:wr.frozen? ⟨w1.heap.size+1+1,2,none⟩=false:=frozen_blk s2 2
     have hlt3:w1.heap.size+1+1<wr.heap.size:=blk_lt s2
     have Hc:=Lib.hid hc;have Hl:=Lib.hid hl;have Hrw:=Lib.hid hrw;have Hx:=Lib.hid hx
     clear hc hl hrw hg hx s2
     go_wp2
     obtain⟨w6,hw6⟩:∃ w6,w6=(((wr.setCell ⟨w1.heap.size+1+1,0,none⟩ (.int .i64 0)).setCell ⟨w1.heap.size+1+1,1,none⟩ (.int .u64 0)).setCell ⟨w1.heap.size+1+1,2,none⟩ (.slice none 0 0)):=⟨_,rfl⟩
     rw [<-hw6]
     obtain⟨k0,k1,k2,z1,z2⟩:=Fin.out wr 0 0 (.slice none 0 0) l Hl.out Hc.out Hrw.out w6 hw6
     clear hw6
     refine bodyPost_ret (v:=.tuple #[.slice (some ⟨q,0,none⟩) j cp,ansV 0 0 (.slice none 0 0)]) (by simp [results,Try.results76 ,go_sem,ansV,k0,k1,k2]) rfl ?_
     unfold RefRowTo
     rw [<-Hx.out]
     exact⟨none,0,rfl,z1,SlAt.nil _ _ _ _,z2,λb off e=>by cases e⟩
  ·rw [pinAp_11 (c:=⟨th,ob,0,ca,cb,cc⟩) rfl ht]
   have q3:(th != 0)=true:=by simpa using ht
   clear h1
   go_enter Try.func76,Try.ntmps76
   go_upto_region 1 with fail
   rw [<-Hwa.out]
   go_wp2
   obtain⟨w6,hw6⟩:∃ w6,w6=(((wa.setCell ⟨w1.heap.size+1+1,0,none⟩ (.int .i64 11)).setCell ⟨w1.heap.size+1+1,1,none⟩ (.int .u64 0)).setCell ⟨w1.heap.size+1+1,2,none⟩ (.slice none 0 0)):=⟨_,rfl⟩
   rw [<-hw6]
   obtain⟨k0,k1,k2,g1,g2⟩:=Fin.out wa 11 0 (.slice none 0 0) st Hst.out (Chg.refl _ _) Hrow.out w6 hw6
   clear hw6
   refine bodyPost_ret (v:=.tuple #[.slice (some ⟨q,0,none⟩) k cp,ansV 11 0 (.slice none 0 0)]) (by simp [results,Try.results76 ,go_sem,ansV,k0,k1,k2]) rfl ?_
   unfold RefRowTo
   exact⟨none,0,rfl,g1,SlAt.nil _ _ _ _,g2,λb off e=>by cases e⟩
 ·rw [pinAp_9 (c:=⟨th,ob,kd',ca,cb,cc⟩) h1 h0]
  have q2:(kd' != 0)=true:=by simpa using h0
  clear c0
  go_enter Try.func76,Try.ntmps76
  go_upto_region 1 with fail
  rw [<-Hwa.out]
  go_wp2
  obtain⟨w6,hw6⟩:∃ w6,w6=(((wa.setCell ⟨w1.heap.size+1+1,0,none⟩ (.int .i64 9)).setCell ⟨w1.heap.size+1+1,1,none⟩ (.int .u64 0)).setCell ⟨w1.heap.size+1+1,2,none⟩ (.slice none 0 0)):=⟨_,rfl⟩
  rw [<-hw6]
  obtain⟨k0,k1,k2,g1,g2⟩:=Fin.out wa 9 0 (.slice none 0 0) st Hst.out (Chg.refl _ _) Hrow.out w6 hw6
  clear hw6
  refine bodyPost_ret (v:=.tuple #[.slice (some ⟨q,0,none⟩) k cp,ansV 9 0 (.slice none 0 0)]) (by simp [results,Try.results76 ,go_sem,ansV,k0,k1,k2]) rfl ?_
  unfold RefRowTo
  exact⟨none,0,rfl,g1,SlAt.nil _ _ _ _,g2,λb off e=>by cases e⟩
set_option maxHeartbeats 4000000 in
theorem pin_apply (n k:Nat) (hk1:1<=k) (hk:k<=8) (u:World) (a:Option Addr) (c:Nat) (st:List Nat) (hst:st.length=k) (x:CallD) (hs:SlAt u a k 1 (u64G st)) (hx:CallOk x) :
  Calls Try.prog 52 #[.int .i64 (n:Int),specV 9 (k:Int) 0,.slice a k c,callAgg x] u (ApPost pinAp st x u):=by
 obtain⟨b,o,rfl,hb,h4⟩:=hs.2 0 (by omega)
 have e4:∀ j,j<k->u.cell? ⟨b,o+j,none⟩=some (.int .u64 ((st.getD j 0:Nat):Int)):=λj hj=>by
  obtain⟨b9,o9,e9,_,h9⟩:=hs.2 j hj
  cases e9
  have h0:=h9 0 (by omega)
  rw [Nat.mul_one,Nat.add_zero] at h0
  exact h0
 obtain⟨th,ob,kd',ca,cb,cc⟩:=x
 obtain⟨wa,hwa⟩:∃ wa,wa=(((u.alloc (.cells #[.int .i64 9,.int .i64 (k:Int),.int .i64 0] 49)).alloc (.cells #[.int .i64 th,.int .i64 ob,.int .i64 kd',.int .u64 (ca:Int),.int .u64 (cb:Int),.int .u64 (cc:Int)] 46)).alloc (.cells #[.int .i64 0,.int .u64 0,.slice none 0 0] 42)).alloc (.cells #[] 40):=⟨_,rfl⟩
 have hga:Below u.heap.size u wa:=by rw [hwa];exact allocs_below u [_,_,_,_]
 have r0:wa.heap[u.heap.size]?=some (.cells #[.int .i64 9,.int .i64 (k:Int),.int .i64 0] 49 (0,0)):=by rw [hwa];exact allocs_get [_,_,_,_] u 0 _ rfl
 have r1:wa.heap[u.heap.size+1]?=some (.cells #[.int .i64 th,.int .i64 ob,.int .i64 kd',.int .u64 (ca:Int),.int .u64 (cb:Int),.int .u64 (cc:Int)] 46 (0,0)):=by rw [hwa];exact allocs_get [_,_,_,_] u 1 _ rfl
 have r2:wa.heap[u.heap.size+2]?=some (.cells #[.int .i64 0,.int .u64 0,.slice none 0 0] 42 (0,0)):=by rw [hwa];exact allocs_get [_,_,_,_] u 2 _ rfl
 have r3:wa.heap[u.heap.size+3]?=some (.cells #[] 40 (0,0)):=by rw [hwa];exact allocs_get [_,_,_,_] u 3 _ rfl
 have hwsz:wa.heap.size=u.heap.size+4:=by rw [hwa];simp
 have x4:∀ j,j<k->wa.cell? ⟨b,o+j,none⟩=some (.int .u64 ((st.getD j 0:Nat):Int)):=λj hj=>(hga.cell hb).trans (e4 j hj)
 obtain⟨i0,hi,hz0,hz1,hz2⟩:=info_parts uint64_info0
 have hown:wa.ownsRow (u.heap.size+3) 40 1 (.slice (some ⟨u.heap.size+3,0,none⟩) 0 0) 0 []:=⟨rfl,.inr ⟨u.heap.size+3,0,#[],rfl,Nat.le_refl _,r3,Nat.le_refl _,Nat.zero_le _,rfl,rfl⟩⟩
 have hnew:∀ j w',(st.map u64V)[j]?=some w'->wa.cell? ((⟨b,o,none⟩:Addr).add j)=some w':=by
  intro j w' h
  have hj:j<st.length:=by
   rcases Nat.lt_or_ge j st.length with h9|h9
   ·exact h9
   ·rw [List.getElem?_eq_none (by simpa using h9)] at h;cases h
  rw [u64_get hj] at h
  cases h
  have e8:(⟨b,o,none⟩:Addr).add j=⟨b,o+j,none⟩:=by unfold Addr.add;split<;>simp_all
  rw [e8];exact x4 j (by omega)
 rw [hwa] at hown hnew
 have Hown:=Lib.hid hown;have Hnew:=Lib.hid hnew;have Hwa:=Lib.hid hwa;have Hga:=Lib.hid hga;have R0:=Lib.hid r0;have R1:=Lib.hid r1;have R2:=Lib.hid r2;have Hwsz:=Lib.hid hwsz;have Hst:=Lib.hid hst;have Hx:=Lib.hid hx
 unfold specV callAgg
 simp only
 clear hown hnew hwa hga r0 r1 r2 r3 hs h4 e4 hx hb hwsz x4 hst
 go_enter Try.func52,Try.ntmps52
 go_wp2_with (at_builtin;refine wpList_append_own _ rfl (.tmp 11) (.tmp 12) 28 rfl (u.heap.size+3) 40 i0 (.int .u64 0) 1 8 Try.underlying28 hi hz0 hz1 hz2 rfl (by decide) (.slice (some ⟨u.heap.size+3,0,none⟩) 0 0) 0 [] rfl Hown.out ⟨b,o,none⟩ k c (st.map u64V) rfl ?c1 Hnew.out ?c2 ?c3 ?c4 ?c5 ?_)
 case c1=>rw [List.length_map,Nat.mul_one];exact Hst.out
 case c2=>intro w' hw';obtain⟨y,_,rfl⟩:=List.mem_map.1 hw';rfl
 case c3=>unfold maxLen;omega
 case c4=>omega
 case c5=>simp
 intro o' w1 hown1 hgrow _
 obtain⟨m,hm⟩:∃ m,k=m+1:=⟨k - 1,by omega⟩
 have hown1':=hown1
 rw [hm] at hown1'
 obtain⟨q,cp,rfl,hq1,hq2,hq3⟩:=row_own hown1'
 rw [<-hm] at hown1 ⊢
 rw [<-Hwa.out] at hgrow
 have hch:Chg (λb=>u.heap.size+3<=b) wa w1:=(Chg.refl _ wa).grown hgrow (λk hk=>by simp only [Value.ownBlock,Option.some.injEq] at hk;exact .inl (by omega))
 have hb1:Below u.heap.size u w1:=Hga.out.trans (hch.below (λk h=>by omega) Hga.out.size)
 have s0:=(hch.block _ (by rw [Hwsz.out];omega) (by omega)).trans R0.out
 have s1:=(hch.block _ (by rw [Hwsz.out];omega) (by omega)).trans R1.out
 have s2:=(hch.block _ (by rw [Hwsz.out];omega) (by omega)).trans R2.out
 have z0:w1.cell? ⟨u.heap.size,0,none⟩=some (.int .i64 9):=by rw [cell_blk s0];rfl
 have zp1:w1.cell? ⟨u.heap.size,1,none⟩=some (.int .i64 (k:Int)):=by rw [cell_blk s0];rfl
 have zp2:w1.cell? ⟨u.heap.size,2,none⟩=some (.int .i64 0):=by rw [cell_blk s0];rfl
 have z2:w1.cell? ⟨u.heap.size+1,2,none⟩=some (.int .i64 kd'):=by rw [cell_blk s1];rfl
 have a0:w1.cell? ⟨u.heap.size+1+1,0,none⟩=some (.int .i64 0):=by rw [show u.heap.size+1+1=u.heap.size+2 from rfl,cell_blk s2];rfl
 have a1:w1.cell? ⟨u.heap.size+1+1,1,none⟩=some (.int .u64 0):=by rw [show u.heap.size+1+1=u.heap.size+2 from rfl,cell_blk s2];rfl
 have a2:w1.cell? ⟨u.heap.size+1+1,2,none⟩=some (.slice none 0 0):=by rw [show u.heap.size+1+1=u.heap.size+2 from rfl,cell_blk s2];rfl
 have f0:w1.frozen? ⟨u.heap.size+1+1,0,none⟩=false:=frozen_blk s2 0
 have f1:w1.frozen? ⟨u.heap.size+1+1,1,none⟩=false:=frozen_blk s2 1
 have f2:w1.frozen? ⟨u.heap.size+1+1,2,none⟩=false:=frozen_blk s2 2
 have hlt2:u.heap.size+1+1<w1.heap.size:=blk_lt s2
 have y0:w1.cell? ⟨u.heap.size+1,0,none⟩=some (.int .i64 th):=by rw [cell_blk s1];rfl
 have y1:w1.cell? ⟨u.heap.size+1,1,none⟩=some (.int .i64 ob):=by rw [cell_blk s1];rfl
 have y3:w1.cell? ⟨u.heap.size+1,3,none⟩=some (.int .u64 (ca:Int)):=by rw [cell_blk s1];rfl
 have y4:w1.cell? ⟨u.heap.size+1,4,none⟩=some (.int .u64 (cb:Int)):=by rw [cell_blk s1];rfl
 have y5:w1.cell? ⟨u.heap.size+1,5,none⟩=some (.int .u64 (cc:Int)):=by rw [cell_blk s1];rfl
 have Hown1:=Lib.hid hown1;have Hb1:=Lib.hid hb1;have S2:=Lib.hid s2;have Hq1:=Lib.hid hq1;have Hq2:=Lib.hid hq2
 clear hown1 hgrow hch hb1 s0 s1 s2 Hown Hnew Hwa Hga R0 R1 R2 Hwsz hq1 hq2
 have AD:=Lib.hid (ref_pin k hk w1 _ q cp st Hst.out ⟨th,ob,kd',ca,cb,cc⟩ Hx.out Hown1.out Hq2.out)
 unfold callAgg specV at AD
 simp only at AD
 clear hown1' hm a0 a1 a2 f0 f1 f2
 go_wp2_with fail
 refine AD.out.mono ?_
 intro e w2 H9
 unfold RefRowTo at H9
 obtain⟨la,lc,rfl,hch2,hla,hrow2,hlq⟩:=H9
 have s3:=(hch2.block _ (blk_lt S2.out) (by have:=Hq1.out;omega)).trans S2.out
 have a0:w2.cell? ⟨u.heap.size+1+1,0,none⟩=some (.int .i64 0):=by rw [show u.heap.size+1+1=u.heap.size+2 from rfl,cell_blk s3];rfl
 have a1:w2.cell? ⟨u.heap.size+1+1,1,none⟩=some (.int .u64 0):=by rw [show u.heap.size+1+1=u.heap.size+2 from rfl,cell_blk s3];rfl
 have a2:w2.cell? ⟨u.heap.size+1+1,2,none⟩=some (.slice none 0 0):=by rw [show u.heap.size+1+1=u.heap.size+2 from rfl,cell_blk s3];rfl
 have f0:w2.frozen? ⟨u.heap.size+1+1,0,none⟩=false:=frozen_blk s3 0
 have f1:w2.frozen? ⟨u.heap.size+1+1,1,none⟩=false:=frozen_blk s3 1
 have f2:w2.frozen? ⟨u.heap.size+1+1,2,none⟩=false:=frozen_blk s3 2
 have hlt3:u.heap.size+1+1<w2.heap.size:=blk_lt s3
 have S3:=Lib.hid s3;have Hch2:=Lib.hid hch2;have Hrow2:=Lib.hid hrow2;have Hla:=Lib.hid hla;have Hlq:=Lib.hid hlq
 obtain⟨ar,har⟩:∃ ar,ar=pinAp st ⟨th,ob,kd',ca,cb,cc⟩:=⟨_,rfl⟩
 rw [<-har] at Hla Hrow2 ⊢
 have Har:=Lib.hid har
 obtain⟨st',er,vl,li⟩:=ar
 unfold ansV
 simp only
 simp only at Hla Hrow2
 obtain⟨ll,hll⟩:∃ ll,ll=li.length:=⟨_,rfl⟩
 rw [<-hll]
 have Hll:=Lib.hid hll
 clear hll
 clear s3 hch2 hrow2 hla hlq z0 z2 zp1 zp2 y0 y1 y3 y4 y5 har
 go_wp2
 obtain⟨t1,t2,t3⟩:=set3 S3.out (.int .i64 er) (.int .u64 (vl:Int)) (.slice la ll lc)
 obtain⟨w3,hw3⟩:∃ w3,w3=(((w2.setCell ⟨u.heap.size+2,0,none⟩ (.int .i64 er)).setCell ⟨u.heap.size+2,1,none⟩ (.int .u64 (vl:Int))).setCell ⟨u.heap.size+2,2,none⟩ (.slice la ll lc)):=⟨_,rfl⟩
 rw [<-hw3] at t1 t2 t3
 rw [show u.heap.size+1+1=u.heap.size+2 from rfl,<-hw3]
 have k0:w3.cell? ⟨u.heap.size+2,0,none⟩=some (.int .i64 er):=by rw [cell_blk t1];rfl
 have k1:w3.cell? ⟨u.heap.size+2,1,none⟩=some (.int .u64 (vl:Int)):=by rw [cell_blk t1];rfl
 have k2:w3.cell? ⟨u.heap.size+2,2,none⟩=some (.slice la ll lc):=by rw [cell_blk t1];rfl
 refine bodyPost_ret (v:=.tuple #[.slice (some ⟨q,0,none⟩) k cp,ansV er vl (.slice la ll lc)]) (by simp [results,Try.results52 ,go_sem,ansV,k0,k1,k2]) rfl ?_
 have hq1:=Hq1.out;have hq2:=Hq2.out;have hc2:=Hch2.out.size;have hs3:=t2.size
 unfold ApPost
 rw [<-Har.out]
 have hl':st'.length=k:=by
  have e:=pinAp_len st ⟨th,ob,kd',ca,cb,cc⟩
  rw [<-Har.out,Hst.out] at e;exact e
 have hlx:∀ b off,la=some ⟨b,off,none⟩->b=q:=Hlq.out
 refine⟨some ⟨q,0,none⟩,cp,la,lc,by rw [Hll.out,hl'],⟨Hrow2.out.chg t2 (λb off e h=>by cases e;omega),λb off e=>?_⟩,Hla.out.chg t2 (λb off e h=>by have:=hlx b off e;omega),(Hb1.out.trans (Hch2.out.below (λk h=>by omega) Hb1.out.size)).trans (t2.below (λk h=>by omega) (Nat.le_trans Hb1.out.size hc2))⟩
 cases e
 omega
theorem size_pin (n k:Nat) (hn:n<=16) (hk1:1<=k) (hk:k<=8) (u:World):Calls Try.prog 48 #[.int .i64 (n:Int),specV 9 (k:Int) 0] u λe u'=>∃ z:Int,e=.returned (.int .i64 z)/\0<=z/\Below u.heap.size u u':=by
 have h1:(n+1)*(k+1)<=17*9:=Nat.mul_le_mul (by omega) (by omega)
 obtain⟨z,hz⟩:∃ z,z=(n+1)*(k+1):=⟨_,rfl⟩
 have e1:((n:Int)+1)*((k:Int)+1)=(z:Int):=by rw [hz];push_cast;rfl
 have w1:IntKind.i64.wrap ((n:Int)+1)=(n:Int)+1:=by rw [IntKind.wrap_i64];omega
 have w2:IntKind.i64.wrap ((k:Int)+1)=(k:Int)+1:=by rw [IntKind.wrap_i64];omega
 have w3:IntKind.i64.wrap (((n:Int)+1)*((k:Int)+1))=(z:Int):=by rw [e1,IntKind.wrap_i64];omega
 have w4:IntKind.i64.wrap (1+(z:Int))=1+(z:Int):=by rw [IntKind.wrap_i64];omega
 have hki:(k:Int)<=8:=by omega
 have hki1:(1:Int)<=(k:Int):=by omega
 have Hz:=Lib.hid (show 0<=1+(z:Int) by omega)
 unfold specV
 clear e1 h1 hz
 go_enter Try.func48,Try.ntmps48
 go_wp2
 go_ret
 exact⟨_,rfl,Hz.out,Gr.new _ _⟩
theorem new_pin (n k:Nat) (hk:k<=8) (u:World):Calls Try.prog 49 #[.int .i64 (n:Int),specV 9 (k:Int) 0] u λe u'=>∃ a c,e=.returned (.slice a (List.replicate k 0).length c)/\NewSl u u' a (List.replicate k 0)/\Below u.heap.size u u':=by
 have hmk:=make_size4 k (k:Int) rfl (by omega)
 obtain⟨wa,hwa⟩:∃ wa,wa=u.alloc (.cells #[.int .i64 9,.int .i64 (k:Int),.int .i64 0] 49):=⟨_,rfl⟩
 have hga:Below u.heap.size u wa:=by rw [hwa];exact Gr.new _ _
 have p0:wa.cell? ⟨u.heap.size,0,none⟩=some (.int .i64 9):=by rw [hwa,cell_blk (heap_alloc_new _ _)];rfl
 have p1:wa.cell? ⟨u.heap.size,1,none⟩=some (.int .i64 (k:Int)):=by rw [hwa,cell_blk (heap_alloc_new _ _)];rfl
 have hsz:u.heap.size<=wa.heap.size:=by rw [hwa];simp
 have Hga:=Lib.hid hga;have Hwa:=Lib.hid hwa;have Hsz:=Lib.hid hsz
 have fin:NewSl u (wa.alloc (.cells (madeCells #[.int .u64 0] k) 40)) (some ⟨wa.heap.size,0,none⟩) (List.replicate k 0)/\Below u.heap.size u (wa.alloc (.cells (madeCells #[.int .u64 0] k) 40)):=
  ⟨⟨zeros_sl4 (heap_alloc_new _ _) (by omega),λb off e=>by cases e;simp;exact hsz⟩,Gr.trans hga (Gr.new _ _)⟩
 have Fin:=Lib.hid fin
 unfold specV
 rw [List.length_replicate]
 clear hga hwa hsz fin
 go_enter Try.func49,Try.ntmps49
 go_upto_region 1 with fail
 rw [<-Hwa.out]
 go_wp2
 go_ret
 exact⟨_,_,rfl,Fin.out.1,Fin.out.2⟩
theorem pin_spec (n k:Nat) (hn:n<=16) (hk1:1<=k) (hk:k<=8):SpecOk 9 (k:Int) 0 n pinAp (List.replicate k 0) (λst=>st.length=k) where
 size:=size_pin n k hn hk1 hk
 new:=new_pin n k hk
 apply:=by
  rintro u a c st x hs hst hx
  have hs':SlAt u a k 1 (u64G st):=by rw [<-hst];exact hs
  have:=pin_apply n k hk1 hk u a c st hst x hs' hx
  rw [hst];exact this
 inv0:=by simp
 invS:=by
  rintro st x hst hx
  show(pinAp st x).1.length=k
  rw [pinAp_len];exact hst
 queue:=by omega
end Go.Proofs.Ytlepjmnhekeofaa
