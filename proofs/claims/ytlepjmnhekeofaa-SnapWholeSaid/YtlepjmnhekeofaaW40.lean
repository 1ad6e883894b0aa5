/- Layer 27: parts as the reference has them. -/
import Derived.Test.YtlepjmnhekeofaaW39
set_option maxRecDepth 100000
set_option linter.unusedVariables false
set_option linter.unusedSimpArgs false
set_option linter.unnecessarySimpa false
namespace Go.Proofs.Ytlepjmnhekeofaa
open Go.RowKit
def RefRowTo2 (L q cp:Nat) (ar:List Nat×AnsD) (w1 w':World) (e:Ending):Prop:=
 ∃ la lc,e=.returned (.tuple #[.slice (some ⟨q,0,none⟩) L cp,ansV ar.2.err ar.2.val (.slice la ar.2.list.length lc)])/\Chg (λb=>b=q) w1 w'/\SlAt w' la ar.2.list.length 1 (u64G ar.2.list)/\SlAt w' (some ⟨q,0,none⟩) ar.1.length 1 (u64G ar.1)/\(∀ b off,la=some ⟨b,off,none⟩->w1.heap.size<=b)
theorem own_cap {w:World} {B q n cp:Nat} {xs:List Value} {e:TypeId} (h:w.ownsRow B e 1 (.slice (some ⟨q,0,none⟩) n cp) n xs):n<=cp:=by
 rcases h.2 with⟨h1,_⟩|⟨g,cap,cur,h1,_,_,h2,_⟩
 ·cases h1
 ·cases h1;exact h2
set_option maxHeartbeats 8000000 in
theorem ref_sc (m most n L:Nat) (hm1:1<=m) (hm:m<=16) (hmost:most<=64) (hn:n<=16) (hL:L=m+n) (w1:World) (B q cp:Nat) (st:List Nat) (hst:st.length=L) (x y:CallD) (hok:CallOk x) (hoky:CallOk y) (hr:w1.ownsRow B 40 1 (.slice (some ⟨q,0,none⟩) L cp) L (st.map u64V)) (hql:q<w1.heap.size) :
  Calls Try.prog 73 #[.int .i64 (m:Int),.int .i64 (most:Int),.int .i64 (n:Int),.slice (some ⟨q,0,none⟩) L cp,.int .i64 x.thread,callAgg x,callAgg y] w1 λe w'=>RefRowTo2 L q cp (scAp m most n st x y.a y.b) w1 w' e:=by
 obtain⟨th,ob,kd',ca,cb,cc⟩:=x
 obtain⟨thy,oby,kdy,cay,cby,ccy⟩:=y
 have hca:cay<18446744073709551616:=hoky.a
 have hcp:=own_cap hr
 unfold callAgg
 simp only
 obtain⟨wa,hwa⟩:∃ wa,wa=((w1.alloc (.cells #[.int .i64 th,.int .i64 ob,.int .i64 kd',.int .u64 (ca:Int),.int .u64 (cb:Int),.int .u64 (cc:Int)] 46)).alloc (.cells #[.int .i64 thy,.int .i64 oby,.int .i64 kdy,.int .u64 (cay:Int),.int .u64 (cby:Int),.int .u64 (ccy:Int)] 46)).alloc (.cells #[.int .i64 0,.int .u64 0,.slice none 0 0] 42):=⟨_,rfl⟩
 have hga:Below w1.heap.size w1 wa:=by rw [hwa];exact allocs_below w1 [_,_,_]
 have hsz:wa.heap.size=w1.heap.size+3:=by rw [hwa];simp
 have s0:wa.heap[w1.heap.size]?=some (.cells #[.int .i64 th,.int .i64 ob,.int .i64 kd',.int .u64 (ca:Int),.int .u64 (cb:Int),.int .u64 (cc:Int)] 46 (0,0)):=by rw [hwa];exact allocs_get [_,_,_] w1 0 _ rfl
 have s1:wa.heap[w1.heap.size+1]?=some (.cells #[.int .i64 thy,.int .i64 oby,.int .i64 kdy,.int .u64 (cay:Int),.int .u64 (cby:Int),.int .u64 (ccy:Int)] 46 (0,0)):=by rw [hwa];exact allocs_get [_,_,_] w1 1 _ rfl
 have s2:wa.heap[w1.heap.size+2]?=some (.cells #[.int .i64 0,.int .u64 0,.slice none 0 0] 42 (0,0)):=by rw [hwa];exact allocs_get [_,_,_] w1 2 _ rfl
 have hrow:wa.ownsRow B 40 1 (.slice (some ⟨q,0,none⟩) L cp) L (st.map u64V):=row_below hr hga
 have c2:wa.cell? ⟨w1.heap.size,2,none⟩=some (.int .i64 kd'):=by rw [cell_blk s0];rfl
 have y3:wa.cell? ⟨w1.heap.size+1,3,none⟩=some (.int .u64 (cay:Int)):=by rw [cell_blk s1];rfl
 have y4:wa.cell? ⟨w1.heap.size+1,4,none⟩=some (.int .u64 (cby:Int)):=by rw [cell_blk s1];rfl
 have a0:wa.cell? ⟨w1.heap.size+1+1,0,none⟩=some (.int .i64 0):=by rw [show w1.heap.size+1+1=w1.heap.size+2 from rfl,cell_blk s2];rfl
 have a1:wa.cell? ⟨w1.heap.size+1+1,1,none⟩=some (.int .u64 0):=by rw [show w1.heap.size+1+1=w1.heap.size+2 from rfl,cell_blk s2];rfl
 have a2:wa.cell? ⟨w1.heap.size+1+1,2,none⟩=some (.slice none 0 0):=by rw [show w1.heap.size+1+1=w1.heap.size+2 from rfl,cell_blk s2];rfl
 have f0:wa.frozen? ⟨w1.heap.size+1+1,0,none⟩=false:=frozen_blk s2 0
 have f1:wa.frozen? ⟨w1.heap.size+1+1,1,none⟩=false:=frozen_blk s2 1
 have f2:wa.frozen? ⟨w1.heap.size+1+1,2,none⟩=false:=frozen_blk s2 2
 have hlt2:w1.heap.size+1+1<wa.heap.size:=blk_lt s2
 have fin:∀(wb:World) (er:Int) (vl:Nat) (sl:Value) (l:List Nat),l.length=L->Chg (λb=>b=q) wa wb->wb.ownsRow B 40 1 (.slice (some ⟨q,0,none⟩) L cp) L (l.map u64V)->∀ w',w'=(((wb.setCell ⟨w1.heap.size+1+1,0,none⟩ (.int .i64 er)).setCell ⟨w1.heap.size+1+1,1,none⟩ (.int .u64 (vl:Int))).setCell ⟨w1.heap.size+1+1,2,none⟩ sl)->
   w'.cell? ⟨w1.heap.size+1+1,0,none⟩=some (.int .i64 er)/\w'.cell? ⟨w1.heap.size+1+1,1,none⟩=some (.int .u64 (vl:Int))/\w'.cell? ⟨w1.heap.size+1+1,2,none⟩=some sl/\Chg (λb=>b=q) w1 w'/\SlAt w' (some ⟨q,0,none⟩) l.length 1 (u64G l)/\Chg (λb=>b=w1.heap.size+2) wb w':=by
  intro wb er vl sl l hl hc hrw w' hw'
  have t2:=(hc.block _ (blk_lt s2) (by omega)).trans s2
  obtain⟨t1,t3,_⟩:=set3 t2 (.int .i64 er) (.int .u64 (vl:Int)) sl
  have t1':w'.heap[w1.heap.size+1+1]?=some (.cells #[.int .i64 er,.int .u64 (vl:Int),sl] 42 (0,0)):=by rw [hw'];exact t1
  have t3':Chg (λb=>b=w1.heap.size+2) wb w':=by rw [hw'];exact t3
  refine⟨by rw [cell_blk t1'];rfl,by rw [cell_blk t1'];rfl,by rw [cell_blk t1'];rfl,?_,(sl_words hrw hl.symm (by omega)).chg t3' (λb off e h=>by cases e;omega),t3'⟩
  have h9:Chg (λb=>b=q∨w1.heap.size<=b) w1 w':=((Chg.of_below hga).trans (hc.mono (λb _ h=>.inl h))).trans (t3'.mono (λb _ h=>.inr (by omega)))
  exact h9.mono (λb hb h=>h.elim id (λh=>by omega))
 have wm:IntKind.u64.wrap (m:Int)=(m:Int):=by rw [IntKind.wrap_u64];omega
 have wmo:IntKind.u64.wrap (most:Int)=(most:Int):=by rw [IntKind.wrap_u64];omega
 have Fin:=Lib.hid fin;have Hwa:=Lib.hid hwa;have Hrow:=Lib.hid hrow;have Hsz:=Lib.hid hsz;have Hst:=Lib.hid hst;have S2:=Lib.hid s2;have Hga:=Lib.hid hga;have HL:=Lib.hid hL;have Hql:=Lib.hid hql
 clear hr hga s0 s1 s2 hrow fin hwa hok hoky hsz hst hL
 by_cases h1:kd'=1
 ·subst h1
  rw [scAp_1 (c:=⟨th,ob,1,ca,cb,cc⟩) rfl]
  clear y3 y4 wm wmo
  obtain⟨i0,hi,hz0,hz1,hz2⟩:=info_parts uint64_info0
  obtain⟨wn,hwn⟩:∃ wn,wn=wa.alloc (.cells #[] 40):=⟨_,rfl⟩
  have hgn:Below wa.heap.size wa wn:=by rw [hwn];exact Gr.new _ _
  have hown:wn.ownsRow wa.heap.size 40 1 (.slice (some ⟨wa.heap.size,0,none⟩) 0 0) 0 []:=⟨rfl,.inr ⟨wa.heap.size,0,#[],rfl,Nat.le_refl _,by rw [hwn];exact heap_alloc_new _ _,Nat.le_refl _,Nat.zero_le _,rfl,rfl⟩⟩
  have hrn:=row_below Hrow.out hgn
  obtain⟨xs,hxs⟩:∃ xs,xs=(st.take m).map u64V:=⟨_,rfl⟩
  have hnew:∀ j w',xs[j]?=some w'->wn.cell? ((⟨q,0,none⟩:Addr).add j)=some w':=by
   intro j w' h
   rw [hxs] at h
   have hj:j<(st.take m).length:=by
    rcases Nat.lt_or_ge j (st.take m).length with h9|h9
    ·exact h9
    ·rw [List.getElem?_eq_none (by simpa using h9)] at h;cases h
   have hj2:j<m:=by rw [List.length_take] at hj;omega
   have hj3:j<st.length:=by rw [List.length_take] at hj;omega
   have h8:=(row_at hrn (u64_get hj3)).1
   rw [u64_get hj] at h
   cases h
   have e8:(⟨q,0,none⟩:Addr).add j=⟨q,j,none⟩:=by unfold Addr.add;split<;>simp_all
   rw [e8,h8]
   congr 2
   simp [List.getD_eq_getElem?_getD,hj2]
  have htl:(st.take m).length=m:=by rw [List.length_take,Hst.out,HL.out];omega
  have l1:(m:Int)<=(cp:Int):=by have:=HL.out;omega
  have l2:(0:Int)<=(m:Int):=by omega
  have Hnew:=Lib.hid hnew;have Hown:=Lib.hid hown;have Hwn:=Lib.hid hwn;have Hgn:=Lib.hid hgn;have Htl:=Lib.hid htl;have Hxs:=Lib.hid hxs;have Hrn:=Lib.hid hrn
  have hxl:xs.length=m*1:=by rw [hxs,List.length_map,htl,Nat.mul_one]
  have hxo:∀ v∈xs,v.oneCell'=true:=by rw [hxs];exact words_one
  have hnl:=hgn.size
  clear hnew hown hwn hgn hrn htl hxs
  go_enter Try.func73,Try.ntmps73
  go_upto_region 2 with fail
  rw [<-Hwa.out]
  clear c2
  go_wp2_with (at_builtin;rw [<-Hwn.out];refine wpList_append_own _ rfl (.tmp 20) (.tmp 23) 28 rfl wa.heap.size 40 i0 (.int .u64 0) 1 8 Try.underlying28 hi hz0 hz1 hz2 rfl (by decide) (.slice (some ⟨wa.heap.size,0,none⟩) 0 0) 0 [] rfl Hown.out ⟨q,0,none⟩ m cp xs rfl ?c1 Hnew.out ?c2 ?c3 ?c4 ?c5 ?_)
  case c1=>exact hxl
  case c2=>exact hxo
  case c3=>unfold maxLen;omega
  case c4=>omega
  case c5=>exact hnl
  intro o' w2 hown1 hgrow _
  have hrl:=hown1
  try simp only [Nat.zero_add,List.nil_append] at hrl
  obtain⟨la,lc,rfl⟩:∃ la lc,o'=.slice la m lc:=row_form hrl
  have hc2:Chg noB wa w2:=(Chg.of_below Hgn.out).grown hgrow (λb hb=>.inr (by simp only [Value.ownBlock,Option.some.injEq] at hb;omega))
  have hr2:=row_chg Hrow.out hc2 (λ_ _ h=>h.elim)
  rw [Hxs.out] at hrl
  have hls:=row_sl (g:=u64G (st.take m)) hrl (by unfold maxLen;omega) (λj hj=>u64_get (by rw [Htl.out];exact hj))
  have s2':=(hc2.block _ (blk_lt S2.out) (λh=>h.elim)).trans S2.out
  have Hc2:=Lib.hid hc2;have Hr2:=Lib.hid hr2;have Hls:=Lib.hid hls
  have a0:w2.cell? ⟨w1.heap.size+1+1,0,none⟩=some (.int .i64 0):=by rw [show w1.heap.size+1+1=w1.heap.size+2 from rfl,cell_blk s2'];rfl
  have a1:w2.cell? ⟨w1.heap.size+1+1,1,none⟩=some (.int .u64 0):=by rw [show w1.heap.size+1+1=w1.heap.size+2 from rfl,cell_blk s2'];rfl
  have a2:w2.cell? ⟨w1.heap.size+1+1,2,none⟩=some (.slice none 0 0):=by rw [show w1.heap.size+1+1=w1.heap.size+2 from rfl,cell_blk s2'];rfl
  have f0:w2.frozen? ⟨w1.heap.size+1+1,0,none⟩=false:=frozen_blk s2' 0
  have f1:w2.frozen? ⟨w1.heap.size+1+1,1,none⟩=false:=frozen_blk s2' 1
  have f2:w2.frozen? ⟨w1.heap.size+1+1,2,none⟩=false:=frozen_blk s2' 2
  have hlt3:w1.heap.size+1+1<w2.heap.size:=blk_lt s2'
  clear hown1 hgrow hrl hc2 hr2 hls s2' hxl hxo hnl
  go_wp2
  obtain⟨w6,hw6⟩:∃ w6,w6=(((w2.setCell ⟨w1.heap.size+1+1,0,none⟩ (.int .i64 0)).setCell ⟨w1.heap.size+1+1,1,none⟩ (.int .u64 0)).setCell ⟨w1.heap.size+1+1,2,none⟩ (.slice la m lc)):=⟨_,rfl⟩
  rw [<-hw6]
  obtain⟨k0,k1,k2,g1,g2,g3⟩:=Fin.out (w2) 0 0 (.slice la m lc) (st) Hst.out (Hc2.out.mono (λ_ _ h=>h.elim)) Hr2.out w6 hw6
  refine bodyPost_ret (v:=.tuple #[.slice (some ⟨q,0,none⟩) L cp,ansV 0 0 (.slice la m lc)]) (by simp [results,Try.results73 ,go_sem,ansV,k0,k1,k2]) rfl ?_
  unfold RefRowTo2
  have hsz:=Hsz.out
  exact⟨la,lc,by rw [Htl.out],g1,(by show SlAt w6 la (st.take m).length 1 (u64G (st.take m));rw [Htl.out];exact Hls.out.1.chg g3 (λb off e h=>by have:=Hls.out.2 b off e;omega)),g2,λb off e=>by have:=Hls.out.2 b off e;omega⟩
 have q1:(kd' == 1)=false:=by simpa using h1
 by_cases h0:kd'=0
 ·by_cases ha:m<=cay
  ·rw [scAp_10 (c:=⟨th,ob,kd',ca,cb,cc⟩) h0 ha]
   have l1:(m:Int)<=(cay:Int):=by omega
   subst h0
   clear h1 ha
   go_enter Try.func73,Try.ntmps73
   go_upto_region 1 with fail
   rw [<-Hwa.out]
   go_wp2
   obtain⟨w6,hw6⟩:∃ w6,w6=(((wa.setCell ⟨w1.heap.size+1+1,0,none⟩ (.int .i64 10)).setCell ⟨w1.heap.size+1+1,1,none⟩ (.int .u64 0)).setCell ⟨w1.heap.size+1+1,2,none⟩ (.slice none 0 0)):=⟨_,rfl⟩
   rw [<-hw6]
   obtain⟨k0,k1,k2,g1,g2,g3⟩:=Fin.out (wa) 10 0 (.slice none 0 0) (st) Hst.out (Chg.refl _ _) Hrow.out w6 hw6
   refine bodyPost_ret (v:=.tuple #[.slice (some ⟨q,0,none⟩) L cp,ansV 10 0 (.slice none 0 0)]) (by simp [results,Try.results73 ,go_sem,ansV,k0,k1,k2]) rfl ?_
   unfold RefRowTo2
   exact⟨none,0,rfl,g1,SlAt.nil _ _ _ _,g2,λb off e=>by cases e⟩
  ·have l1:¬ (m:Int)<=(cay:Int):=by omega
   by_cases ht:th<0∨(n:Int)<=th∨most<=st.getD (m+th.toNat) 0
   ·rw [scAp_6 (c:=⟨th,ob,kd',ca,cb,cc⟩) h0 ha ht]
    subst h0
    clear h1 ha
    by_cases t0:th<0
    ·clear ht
     go_enter Try.func73,Try.ntmps73
     go_upto_region 1 with fail
     rw [<-Hwa.out]
     go_wp2
     obtain⟨w6,hw6⟩:∃ w6,w6=(((wa.setCell ⟨w1.heap.size+1+1,0,none⟩ (.int .i64 6)).setCell ⟨w1.heap.size+1+1,1,none⟩ (.int .u64 0)).setCell ⟨w1.heap.size+1+1,2,none⟩ (.slice none 0 0)):=⟨_,rfl⟩
     rw [<-hw6]
     obtain⟨k0,k1,k2,g1,g2,g3⟩:=Fin.out (wa) 6 0 (.slice none 0 0) (st) Hst.out (Chg.refl _ _) Hrow.out w6 hw6
     refine bodyPost_ret (v:=.tuple #[.slice (some ⟨q,0,none⟩) L cp,ansV 6 0 (.slice none 0 0)]) (by simp [results,Try.results73 ,go_sem,ansV,k0,k1,k2]) rfl ?_
     unfold RefRowTo2
     exact⟨none,0,rfl,g1,SlAt.nil _ _ _ _,g2,λb off e=>by cases e⟩
    ·by_cases t1:(n:Int)<=th
     ·clear ht
      go_enter Try.func73,Try.ntmps73
      go_upto_region 1 with fail
      rw [<-Hwa.out]
      go_wp2
      obtain⟨w6,hw6⟩:∃ w6,w6=(((wa.setCell ⟨w1.heap.size+1+1,0,none⟩ (.int .i64 6)).setCell ⟨w1.heap.size+1+1,1,none⟩ (.int .u64 0)).setCell ⟨w1.heap.size+1+1,2,none⟩ (.slice none 0 0)):=⟨_,rfl⟩
      rw [<-hw6]
      obtain⟨k0,k1,k2,g1,g2,g3⟩:=Fin.out (wa) 6 0 (.slice none 0 0) (st) Hst.out (Chg.refl _ _) Hrow.out w6 hw6
      refine bodyPost_ret (v:=.tuple #[.slice (some ⟨q,0,none⟩) L cp,ansV 6 0 (.slice none 0 0)]) (by simp [results,Try.results73 ,go_sem,ansV,k0,k1,k2]) rfl ?_
      unfold RefRowTo2
      exact⟨none,0,rfl,g1,SlAt.nil _ _ _ _,g2,λb off e=>by cases e⟩
     ·obtain⟨t,rfl⟩:∃ t:Nat,th=(t:Int):=⟨th.toNat,by omega⟩
      have ht2:most<=st.getD (m+t) 0:=by
       rcases ht with h9|h9|h9
       ·exact absurd h9 t0
       ·exact absurd h9 t1
       ·simpa using h9
      obtain⟨z,hz⟩:∃ z,z=m+t:=⟨_,rfl⟩
      obtain⟨v,hv⟩:∃ v,v=st.getD z 0:=⟨_,rfl⟩
      rw [<-hz,<-hv] at ht2
      have hzL:z<L:=by have:=HL.out;omega
      have e4:=(row_at Hrow.out (u64_get (st:=st) (j:=z) (by have:=Hst.out;omega))).1
      rw [<-hv] at e4
      have wz:IntKind.i64.wrap ((m:Int)+(t:Int))=(z:Int):=by rw [IntKind.wrap_i64];omega
      have lz:(z:Int)<(L:Int):=by omega
      have lz0:(0:Int)<=(z:Int):=by omega
      have lv:(most:Int)<=(v:Int):=by omega
      clear ht ht2 hz hv hzL
      go_enter Try.func73,Try.ntmps73
      go_upto_region 1 with fail
      rw [<-Hwa.out]
      go_wp2
      obtain⟨w6,hw6⟩:∃ w6,w6=(((wa.setCell ⟨w1.heap.size+1+1,0,none⟩ (.int .i64 6)).setCell ⟨w1.heap.size+1+1,1,none⟩ (.int .u64 0)).setCell ⟨w1.heap.size+1+1,2,none⟩ (.slice none 0 0)):=⟨_,rfl⟩
      rw [<-hw6]
      obtain⟨k0,k1,k2,g1,g2,g3⟩:=Fin.out (wa) 6 0 (.slice none 0 0) (st) Hst.out (Chg.refl _ _) Hrow.out w6 hw6
      refine bodyPost_ret (v:=.tuple #[.slice (some ⟨q,0,none⟩) L cp,ansV 6 0 (.slice none 0 0)]) (by simp [results,Try.results73 ,go_sem,ansV,k0,k1,k2]) rfl ?_
      unfold RefRowTo2
      exact⟨none,0,rfl,g1,SlAt.nil _ _ _ _,g2,λb off e=>by cases e⟩
   ·rw [scAp_0 (c:=⟨th,ob,kd',ca,cb,cc⟩) h0 ha ht]
    subst h0
    have t0:¬ th<0:=λx=>ht (.inl x)
    have t1:¬ (n:Int)<=th:=λx=>ht (.inr (.inl x))
    obtain⟨t,rfl⟩:∃ t:Nat,th=(t:Int):=⟨th.toNat,by omega⟩
    simp only [Int.toNat_natCast] at ht ⊢
    have ht2:¬ most<=st.getD (m+t) 0:=λx=>ht (.inr (.inr x))
    obtain⟨z,hz⟩:∃ z,z=m+t:=⟨_,rfl⟩
    obtain⟨v,hv⟩:∃ v,v=st.getD z 0:=⟨_,rfl⟩
    rw [<-hz] at ht2 ⊢
    rw [<-hv] at ht2 ⊢
    have hzL:z<L:=by have:=HL.out;omega
    have haL:cay<L:=by have:=HL.out;omega
    have hza:z≠cay:=by omega
    obtain⟨e3,f3⟩:=row_at Hrow.out (u64_get (st:=st) (j:=cay) (by have:=Hst.out;omega))
    obtain⟨e4,f4⟩:=row_at Hrow.out (u64_get (st:=st) (j:=z) (by have:=Hst.out;omega))
    rw [<-hv] at e4
    have hqa:q<wa.heap.size:=by have:=Hsz.out;have:=Hql.out;omega
    obtain⟨wb,hwb⟩:∃ wb,wb=wa.setCell ⟨q,cay,none⟩ (.int .u64 (cby:Int)):=⟨_,rfl⟩
    have hrb:wb.ownsRow B 40 1 (.slice (some ⟨q,0,none⟩) L cp) L ((st.set cay cby).map u64V):=by rw [hwb,List.map_set];exact row_put Hrow.out cay _
    have hcb:Chg (λb=>b=q) wa wb:=by rw [hwb];exact(Chg.refl (λb=>b=q) wa).setCell (p:=⟨q,cay,none⟩) (.inl rfl) _
    have hsl:(st.set cay cby).length=L:=by rw [List.length_set];exact Hst.out
    obtain⟨e5,f5⟩:=row_at hrb (u64_get (j:=z) (by omega))
    rw [show(st.set cay cby).getD z 0=v by rw [getD_set_neq (Ne.symm hza),hv]] at e5
    obtain⟨wd,hwd⟩:∃ wd,wd=wb.setCell ⟨q,z,none⟩ (.int .u64 ((v:Int)+1)):=⟨_,rfl⟩
    have hrd:wd.ownsRow B 40 1 (.slice (some ⟨q,0,none⟩) L cp) L (((st.set cay cby).set z (v+1)).map u64V):=by
     rw [hwd,List.map_set]
     have:=row_put hrb z (.int .u64 ((v:Int)+1))
     rw [show u64V (v+1)=.int .u64 ((v:Int)+1) by unfold u64V;rw [show((v+1:Nat):Int)=(v:Int)+1 by omega]]
     exact this
    have hcd:Chg (λb=>b=q) wa wd:=by rw [hwd];exact hcb.setCell (p:=⟨q,z,none⟩) (.inl rfl) _
    have hlb:q<wb.heap.size:=Nat.lt_of_lt_of_le hqa hcb.size
    have s2':=(hcd.block _ (blk_lt S2.out) (by have:=Hql.out;omega)).trans S2.out
    have a0':wd.cell? ⟨w1.heap.size+1+1,0,none⟩=some (.int .i64 0):=by rw [show w1.heap.size+1+1=w1.heap.size+2 from rfl,cell_blk s2'];rfl
    have a1':wd.cell? ⟨w1.heap.size+1+1,1,none⟩=some (.int .u64 0):=by rw [show w1.heap.size+1+1=w1.heap.size+2 from rfl,cell_blk s2'];rfl
    have a2':wd.cell? ⟨w1.heap.size+1+1,2,none⟩=some (.slice none 0 0):=by rw [show w1.heap.size+1+1=w1.heap.size+2 from rfl,cell_blk s2'];rfl
    have f0':wd.frozen? ⟨w1.heap.size+1+1,0,none⟩=false:=frozen_blk s2' 0
    have f1':wd.frozen? ⟨w1.heap.size+1+1,1,none⟩=false:=frozen_blk s2' 1
    have f2':wd.frozen? ⟨w1.heap.size+1+1,2,none⟩=false:=frozen_blk s2' 2
    have hlt3:w1.heap.size+1+1<wd.heap.size:=blk_lt s2'
    have wz:IntKind.i64.wrap ((m:Int)+(t:Int))=(z:Int):=by rw [IntKind.wrap_i64];omega
    have wv:IntKind.u64.wrap ((v:Int)+1)=(v:Int)+1:=by rw [IntKind.wrap_u64];omega
    have wa1:IntKind.i64.wrap (cay:Int)=(cay:Int):=by rw [IntKind.wrap_i64];omega
    have lz:(z:Int)<(L:Int):=by omega
    have lz0:(0:Int)<=(z:Int):=by omega
    have la:(cay:Int)<(L:Int):=by omega
    have la0:(0:Int)<=(cay:Int):=by omega
    have lv:¬ (most:Int)<=(v:Int):=by omega
    have Hwb:=Lib.hid hwb;have Hwd:=Lib.hid hwd;have Hrd:=Lib.hid hrd;have Hcd:=Lib.hid hcd
    have hdl:((st.set cay cby).set z (v+1)).length=L:=by rw [List.length_set];exact hsl
    have Hdl:=Lib.hid hdl
    clear ht ht2 hz hv hzL haL hza h1 ha hrb hcb hsl hwb hwd hrd hcd hdl s2'
    go_enter Try.func73,Try.ntmps73
    go_upto_region 1 with fail
    rw [<-Hwa.out]
    go_upto_region 10 with fail
    rw [<-Hwb.out]
    clear e3 f3 e4 f4 y3 y4 c2
    go_upto_region 11 with fail
    rw [<-Hwd.out]
    clear e5 f5 a0 a1 a2 f0 f1 f2 hlt2
    go_wp2
    obtain⟨w6,hw6⟩:∃ w6,w6=(((wd.setCell ⟨w1.heap.size+1+1,0,none⟩ (.int .i64 0)).setCell ⟨w1.heap.size+1+1,1,none⟩ (.int .u64 0)).setCell ⟨w1.heap.size+1+1,2,none⟩ (.slice none 0 0)):=⟨_,rfl⟩
    rw [<-hw6]
    obtain⟨k0,k1,k2,g1,g2,g3⟩:=Fin.out (wd) 0 0 (.slice none 0 0) ((st.set cay cby).set z (v+1)) Hdl.out Hcd.out Hrd.out w6 hw6
    refine bodyPost_ret (v:=.tuple #[.slice (some ⟨q,0,none⟩) L cp,ansV 0 0 (.slice none 0 0)]) (by simp [results,Try.results73 ,go_sem,ansV,k0,k1,k2]) rfl ?_
    unfold RefRowTo2
    exact⟨none,0,rfl,g1,SlAt.nil _ _ _ _,g2,λb off e=>by cases e⟩
 ·rw [scAp_9 (c:=⟨th,ob,kd',ca,cb,cc⟩) h1 h0]
  have q2:(kd' != 0)=true:=by simpa using h0
  clear y3 y4
  go_enter Try.func73,Try.ntmps73
  go_upto_region 1 with fail
  rw [<-Hwa.out]
  go_wp2
  obtain⟨w6,hw6⟩:∃ w6,w6=(((wa.setCell ⟨w1.heap.size+1+1,0,none⟩ (.int .i64 9)).setCell ⟨w1.heap.size+1+1,1,none⟩ (.int .u64 0)).setCell ⟨w1.heap.size+1+1,2,none⟩ (.slice none 0 0)):=⟨_,rfl⟩
  rw [<-hw6]
  obtain⟨k0,k1,k2,g1,g2,g3⟩:=Fin.out (wa) 9 0 (.slice none 0 0) (st) Hst.out (Chg.refl _ _) Hrow.out w6 hw6
  refine bodyPost_ret (v:=.tuple #[.slice (some ⟨q,0,none⟩) L cp,ansV 9 0 (.slice none 0 0)]) (by simp [results,Try.results73 ,go_sem,ansV,k0,k1,k2]) rfl ?_
  unfold RefRowTo2
  exact⟨none,0,rfl,g1,SlAt.nil _ _ _ _,g2,λb off e=>by cases e⟩
end Go.Proofs.Ytlepjmnhekeofaa
