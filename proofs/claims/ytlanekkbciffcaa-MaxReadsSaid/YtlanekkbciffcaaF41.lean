/- Layer 27: the max register as the reference has it. -/
import Derived.Test.YtlanekkbciffcaaF36
import Derived.Test.YtlanekkbciffcaaF40
import Derived.Test.YtlanekkbciffcaaF16
import Derived.Test.YtlanekkbciffcaaF17
set_option maxRecDepth 100000
set_option linter.unusedVariables false
set_option linter.unusedSimpArgs false
set_option linter.unnecessarySimpa false
namespace Go.Proofs.Ytlanekkbciffcaa
section
open Go.RowKit
theorem maxAp_9 {m:Nat} {st:List Nat} {c:CallD} (h1:¬ c.kind=1) (h:c.kind≠0):maxAp m st c=(st,⟨9,0,[]⟩):=(if_neg h1).trans (if_pos h)
theorem maxAp_10 {m:Nat} {st:List Nat} {c:CallD} (h:c.kind=0) (ha:c.a / 2^m≠0):maxAp m st c=(st,⟨10,0,[]⟩):=(if_neg (by rw [h];decide)).trans ((if_neg (λx=>x h)).trans (if_pos ha))
theorem maxAp_0 {m:Nat} {st:List Nat} {c:CallD} (h:c.kind=0) (ha:c.a / 2^m=0):maxAp m st c=([max (st.getD 0 0) c.a],⟨0,0,[]⟩):=(if_neg (by rw [h];decide)).trans ((if_neg (λx=>x h)).trans (if_neg (λx=>x ha)))
set_option maxHeartbeats 4000000 in
theorem ref_max (m:Nat) (hm:m<=12) (w1:World) (B q cp v:Nat) (x:CallD) (hv64:v<18446744073709551616) (hr:w1.ownsRow B 37 1 (.slice (some ⟨q,0,none⟩) 1 cp) 1 [.int .u64 (v:Int)]) :
  Calls Try.prog 86 #[specV 4 (m:Int) 0,.slice (some ⟨q,0,none⟩) 1 cp,callAgg x] w1 λe w'=>e=.returned (.tuple #[.slice (some ⟨q,0,none⟩) 1 cp,ansV (maxAp m [v] x).2.err (maxAp m [v] x).2.val (.slice none 0 0)])/\Chg (λb=>b=q) w1 w'/\∃ v',(maxAp m [v] x).1=[v']/\(maxAp m [v] x).2.list=[]/\SlAt w' (some ⟨q,0,none⟩) 1 1 (u64G [v']):=by
 obtain⟨th,ob,kd',ca,cb,cc⟩:=x
 obtain⟨rq,rf⟩:=row_at hr (j:=0) rfl
 have hql:=(hr.lt q rfl).2
 unfold callAgg specV
 simp only
 obtain⟨wa,hwa⟩:∃ wa,wa=((w1.alloc (.cells #[.int .i64 4,.int .i64 (m:Int),.int .i64 0] 48)).alloc (.cells #[.int .i64 th,.int .i64 ob,.int .i64 kd',.int .u64 (ca:Int),.int .u64 (cb:Int),.int .u64 (cc:Int)] 43)).alloc (.cells #[.int .i64 0,.int .u64 0,.slice none 0 0] 39):=⟨_,rfl⟩
 have hga:Below w1.heap.size w1 wa:=by rw [hwa];exact allocs_below w1 [_,_,_]
 have hsz:wa.heap.size=w1.heap.size+3:=by rw [hwa];simp
 have s0:wa.heap[w1.heap.size]?=some (.cells #[.int .i64 4,.int .i64 (m:Int),.int .i64 0] 48 (0,0)):=by rw [hwa];exact allocs_get [_,_,_] w1 0 _ rfl
 have s1:wa.heap[w1.heap.size+1]?=some (.cells #[.int .i64 th,.int .i64 ob,.int .i64 kd',.int .u64 (ca:Int),.int .u64 (cb:Int),.int .u64 (cc:Int)] 43 (0,0)):=by rw [hwa];exact allocs_get [_,_,_] w1 1 _ rfl
 have s2:wa.heap[w1.heap.size+2]?=some (.cells #[.int .i64 0,.int .u64 0,.slice none 0 0] 39 (0,0)):=by rw [hwa];exact allocs_get [_,_,_] w1 2 _ rfl
 have hrow:wa.ownsRow B 37 1 (.slice (some ⟨q,0,none⟩) 1 cp) 1 [.int .u64 (v:Int)]:=row_below hr hga
 have rqa:wa.cell? ⟨q,0,none⟩=some (.int .u64 (v:Int)):=(row_at hrow (j:=0) rfl).1
 have rfa:wa.frozen? ⟨q,0,none⟩=false:=(row_at hrow (j:=0) rfl).2
 have e1:wa.cell? ⟨w1.heap.size,1,none⟩=some (.int .i64 (m:Int)):=by rw [cell_blk s0];rfl
 have c2:wa.cell? ⟨w1.heap.size+1,2,none⟩=some (.int .i64 kd'):=by rw [cell_blk s1];rfl
 have c3:wa.cell? ⟨w1.heap.size+1,3,none⟩=some (.int .u64 (ca:Int)):=by rw [cell_blk s1];rfl
 have a0:wa.cell? ⟨w1.heap.size+1+1,0,none⟩=some (.int .i64 0):=by rw [show w1.heap.size+1+1=w1.heap.size+2 from rfl,cell_blk s2];rfl
 have a1:wa.cell? ⟨w1.heap.size+1+1,1,none⟩=some (.int .u64 0):=by rw [show w1.heap.size+1+1=w1.heap.size+2 from rfl,cell_blk s2];rfl
 have a2:wa.cell? ⟨w1.heap.size+1+1,2,none⟩=some (.slice none 0 0):=by rw [show w1.heap.size+1+1=w1.heap.size+2 from rfl,cell_blk s2];rfl
 have f0:wa.frozen? ⟨w1.heap.size+1+1,0,none⟩=false:=frozen_blk s2 0
 have f1:wa.frozen? ⟨w1.heap.size+1+1,1,none⟩=false:=frozen_blk s2 1
 have f2:wa.frozen? ⟨w1.heap.size+1+1,2,none⟩=false:=frozen_blk s2 2
 have hne:¬ q=w1.heap.size+1+1:=by omega
 have hne2:¬ w1.heap.size+1+1=q:=by omega
 have hlt2:w1.heap.size+1+1<wa.heap.size:=blk_lt s2
 have fin:∀(wb:World) (er:Int) (vl nv:Nat),Chg (λb=>b=q) wa wb->wb.ownsRow B 37 1 (.slice (some ⟨q,0,none⟩) 1 cp) 1 [.int .u64 (nv:Int)]->∀ w',(w'=(((wb.setCell ⟨w1.heap.size+1+1,0,none⟩ (.int .i64 er)).setCell ⟨w1.heap.size+1+1,1,none⟩ (.int .u64 (vl:Int))).setCell ⟨w1.heap.size+1+1,2,none⟩ (.slice none 0 0))∨w'=(((wb.setCell ⟨w1.heap.size+1+1,0,none⟩ (.int .i64 er)).setCell ⟨w1.heap.size+1+1,1,none⟩ (.int .u64 (vl:Int))).setCell ⟨w1.heap.size+1+1,2,none⟩ (.slice none 0 0)).drew)->
   w'.cell? ⟨w1.heap.size+1+1,0,none⟩=some (.int .i64 er)/\w'.cell? ⟨w1.heap.size+1+1,1,none⟩=some (.int .u64 (vl:Int))/\w'.cell? ⟨w1.heap.size+1+1,2,none⟩=some (.slice none 0 0)/\Chg (λb=>b=q) w1 w'/\SlAt w' (some ⟨q,0,none⟩) 1 1 (u64G [nv]):=by
  intro wb er vl nv hc hrw w' hw'
  have t2:=(hc.block _ (blk_lt s2) (by omega)).trans s2
  obtain⟨t1,t3,_⟩:=set3 t2 (.int .i64 er) (.int .u64 (vl:Int)) (.slice none 0 0)
  have t1':w'.heap[w1.heap.size+1+1]?=some (.cells #[.int .i64 er,.int .u64 (vl:Int),.slice none 0 0] 39 (0,0)):=by rcases hw' with hw'|hw'<;>rw [hw']<;>exact t1
  have t3':Chg (λb=>b=w1.heap.size+2) wb w':=by
   rcases hw' with hw'|hw'
   ·rw [hw'];exact t3
   ·rw [hw'];exact t3.drew
  refine⟨by rw [cell_blk t1'];rfl,by rw [cell_blk t1'];rfl,by rw [cell_blk t1'];rfl,?_,(sl_row1 hrw rfl).chg t3' (λb off e h=>by cases e;omega)⟩
  have h9:Chg (λb=>b=q∨w1.heap.size<=b) w1 w':=((Chg.of_below hga).trans (hc.mono (λb _ h=>.inl h))).trans (t3'.mono (λb _ h=>.inr (by omega)))
  exact h9.mono (λb hb h=>h.elim id (λh=>by omega))
 have Fin:=Lib.hid fin;have Hwa:=Lib.hid hwa;have Hrow:=Lib.hid hrow;have Hsz:=Lib.hid hsz
 clear hr hga s0 s1 s2 hrow fin hwa hql hsz rq rf
 by_cases h1:kd'=1
 ·subst h1
  rw [maxAp_1 (c:=⟨th,ob,1,ca,cb,cc⟩) rfl]
  clear c3 e1 rfa hv64
  go_enter Try.func86,Try.ntmps86
  go_upto_region 1 with fail
  rw [<-Hwa.out]
  go_wp2_with fail
  go_region_held3 (λu=>u.cell? ⟨q,0,none⟩=some (.int .u64 (v:Int))) (first|exact rqa|exact box_keep (((((Chg.refl (λk=>k=w1.heap.size+1+1) wa).setCell (by exact .inl rfl) _).setCell (by exact .inl rfl) _).setCell (by exact .inl rfl) _).drew) hne rqa) (fail)
  all_goals
   go_wp2_with fail
   obtain⟨w6,hw6⟩:∃ w6,w6=((((wa.setCell ⟨w1.heap.size+1+1,0,none⟩ (.int .i64 0)).setCell ⟨w1.heap.size+1+1,1,none⟩ (.int .u64 (v:Int))).setCell ⟨w1.heap.size+1+1,2,none⟩ (.slice none 0 0))).drew:=⟨_,rfl⟩
   rw [<-hw6]
   obtain⟨k0,k1,k2,g1,g2⟩:=Fin.out wa 0 v v (Chg.refl _ _) Hrow.out w6 (.inr hw6)
   clear hw6
   refine bodyPost_ret (v:=.tuple #[.slice (some ⟨q,0,none⟩) 1 cp,ansV 0 v (.slice none 0 0)]) (by simp [results,Try.results86 ,go_sem,ansV,k0,k1,k2]) rfl ?_
   first|exact⟨rfl,g1,v,rfl,trivial,g2⟩|exact⟨rfl,g1,trivial,g2⟩|exact⟨rfl,g1,g2⟩|exact⟨rfl,g1,v,trivial,trivial,g2⟩
 by_cases h0:kd'=0
 ·subst h0
  have e9:(((ca / 2^m:Nat)):Int)=(ca:Int) / 2^m:=by simp
  by_cases ha:ca / 2^m=0
  ·rw [maxAp_0 (c:=⟨th,ob,0,ca,cb,cc⟩) rfl ha]
   have t1:(ca:Int) / 2^m=0:=by rw [<-e9,ha];rfl
   have t2:((ca:Int) / 2^m != 0)=false:=by rw [t1];rfl
   have hmi:(m:Int)<64:=by omega
   have hmi0:¬ (m:Int)<0:=by omega
   have D:=Lib.hid (show ∀ n,(wa.drewN n).heap.size=wa.heap.size from λ_=>rfl)
   clear e9 h1
   by_cases hg:v<ca
   ·have hg2:(v:Int)<(ca:Int):=by omega
    have hmx:max ([v].getD 0 0) ca=ca:=Nat.max_eq_right (Nat.le_of_lt hg)
    rw [show(⟨th,ob,0,ca,cb,cc⟩:CallD).a=ca from rfl,hmx]
    clear hmx hg ha
    go_enter Try.func86,Try.ntmps86
    go_upto_region 1 with fail
    rw [<-Hwa.out]
    go_wp2_with fail
    go_quiet (fail)
    obtain⟨wd,hwd⟩:∃ wd,wd=wa.drewN nq:=⟨_,rfl⟩
    rw [<-hwd]
    have c3':wd.cell? ⟨w1.heap.size+1,3,none⟩=some (.int .u64 (ca:Int)):=by rw [hwd];exact c3
    have a0':wd.cell? ⟨w1.heap.size+1+1,0,none⟩=some (.int .i64 0):=by rw [hwd];exact a0
    have a1':wd.cell? ⟨w1.heap.size+1+1,1,none⟩=some (.int .u64 0):=by rw [hwd];exact a1
    have a2':wd.cell? ⟨w1.heap.size+1+1,2,none⟩=some (.slice none 0 0):=by rw [hwd];exact a2
    have rqa':wd.cell? ⟨q,0,none⟩=some (.int .u64 (v:Int)):=by rw [hwd];exact rqa
    have f0':wd.frozen? ⟨w1.heap.size+1+1,0,none⟩=false:=by rw [hwd];exact f0
    have f1':wd.frozen? ⟨w1.heap.size+1+1,1,none⟩=false:=by rw [hwd];exact f1
    have f2':wd.frozen? ⟨w1.heap.size+1+1,2,none⟩=false:=by rw [hwd];exact f2
    have rfa':wd.frozen? ⟨q,0,none⟩=false:=by rw [hwd];exact rfa
    have hql':q<wd.heap.size:=World.block_lt_of_cell? _ _ rqa'
    have hlt2':w1.heap.size+1+1<wd.heap.size:=World.block_lt_of_cell? _ _ a0'
    have hcd:Chg (λb=>b=q) wa wd:=by rw [hwd];exact(Chg.refl _ _).drewN nq
    have hrd:wd.ownsRow B 37 1 (.slice (some ⟨q,0,none⟩) 1 cp) 1 [.int .u64 (v:Int)]:=by rw [hwd];exact row_chg Hrow.out ((Chg.refl (λ_=>False) wa).drewN nq) (λ_ _ h=>h)
    obtain⟨we,hwe⟩:∃ we,we=wd.setCell ⟨q,0,none⟩ (.int .u64 (ca:Int)):=⟨_,rfl⟩
    have Hcd:=Lib.hid (show Chg (λb=>b=q) wa we by rw [hwe];exact hcd.setCell (p:=⟨q,0,none⟩) (.inl rfl) _)
    have Hrd:=Lib.hid (show we.ownsRow B 37 1 (.slice (some ⟨q,0,none⟩) 1 cp) 1 [.int .u64 (ca:Int)] by rw [hwe];exact row_put hrd 0 _)
    have Hwe:=Lib.hid hwe
    clear hcd hrd hwd hwe c2 c3 a0 a1 a2 f0 f1 f2 rqa rfa e1
    go_wp2_with fail
    rw [<-Hwe.out]
    obtain⟨w6,hw6⟩:∃ w6,w6=(((we.setCell ⟨w1.heap.size+1+1,0,none⟩ (.int .i64 0)).setCell ⟨w1.heap.size+1+1,1,none⟩ (.int .u64 0)).setCell ⟨w1.heap.size+1+1,2,none⟩ (.slice none 0 0)):=⟨_,rfl⟩
    rw [<-hw6]
    obtain⟨k0,k1,k2,g1,g2⟩:=Fin.out we 0 0 ca Hcd.out Hrd.out w6 (.inl hw6)
    clear hw6
    refine bodyPost_ret (v:=.tuple #[.slice (some ⟨q,0,none⟩) 1 cp,ansV 0 0 (.slice none 0 0)]) (by simp [results,Try.results86 ,go_sem,ansV,k0,k1,k2]) rfl ?_
    first|exact⟨rfl,g1,ca,rfl,trivial,g2⟩|exact⟨rfl,g1,trivial,g2⟩|exact⟨rfl,g1,g2⟩|exact⟨rfl,g1,ca,trivial,trivial,g2⟩
   ·have hg2:¬ (v:Int)<(ca:Int):=by omega
    have hmx:max ([v].getD 0 0) ca=v:=Nat.max_eq_left (by show ca<=v;omega)
    rw [show(⟨th,ob,0,ca,cb,cc⟩:CallD).a=ca from rfl,hmx]
    clear hmx hg ha
    go_enter Try.func86,Try.ntmps86
    go_upto_region 1 with fail
    rw [<-Hwa.out]
    go_wp2_with fail
    go_quiet (fail)
    obtain⟨wd,hwd⟩:∃ wd,wd=wa.drewN nq:=⟨_,rfl⟩
    rw [<-hwd]
    have a0':wd.cell? ⟨w1.heap.size+1+1,0,none⟩=some (.int .i64 0):=by rw [hwd];exact a0
    have a1':wd.cell? ⟨w1.heap.size+1+1,1,none⟩=some (.int .u64 0):=by rw [hwd];exact a1
    have a2':wd.cell? ⟨w1.heap.size+1+1,2,none⟩=some (.slice none 0 0):=by rw [hwd];exact a2
    have f0':wd.frozen? ⟨w1.heap.size+1+1,0,none⟩=false:=by rw [hwd];exact f0
    have f1':wd.frozen? ⟨w1.heap.size+1+1,1,none⟩=false:=by rw [hwd];exact f1
    have f2':wd.frozen? ⟨w1.heap.size+1+1,2,none⟩=false:=by rw [hwd];exact f2
    have Hcd:=Lib.hid (show Chg (λb=>b=q) wa wd by rw [hwd];exact(Chg.refl _ _).drewN nq)
    have Hrd:=Lib.hid (show wd.ownsRow B 37 1 (.slice (some ⟨q,0,none⟩) 1 cp) 1 [.int .u64 (v:Int)] by rw [hwd];exact row_chg Hrow.out ((Chg.refl (λ_=>False) wa).drewN nq) (λ_ _ h=>h))
    clear hwd c2 c3 a0 a1 a2 f0 f1 f2 rqa rfa e1
    go_wp2_with fail
    obtain⟨w6,hw6⟩:∃ w6,w6=(((wd.setCell ⟨w1.heap.size+1+1,0,none⟩ (.int .i64 0)).setCell ⟨w1.heap.size+1+1,1,none⟩ (.int .u64 0)).setCell ⟨w1.heap.size+1+1,2,none⟩ (.slice none 0 0)):=⟨_,rfl⟩
    rw [<-hw6]
    obtain⟨k0,k1,k2,g1,g2⟩:=Fin.out wd 0 0 v Hcd.out Hrd.out w6 (.inl hw6)
    clear hw6
    refine bodyPost_ret (v:=.tuple #[.slice (some ⟨q,0,none⟩) 1 cp,ansV 0 0 (.slice none 0 0)]) (by simp [results,Try.results86 ,go_sem,ansV,k0,k1,k2]) rfl ?_
    first|exact⟨rfl,g1,v,rfl,trivial,g2⟩|exact⟨rfl,g1,trivial,g2⟩|exact⟨rfl,g1,g2⟩|exact⟨rfl,g1,v,trivial,trivial,g2⟩
  ·rw [maxAp_10 (c:=⟨th,ob,0,ca,cb,cc⟩) rfl ha]
   have t1:¬ (ca:Int) / 2^m=0:=by rw [<-e9];exact λh=>ha (by omega)
   have t2:((ca:Int) / 2^m != 0)=true:=by simpa using t1
   have hmi:(m:Int)<64:=by omega
   have hmi0:¬ (m:Int)<0:=by omega
   clear e9 h1 ha rqa rfa
   go_enter Try.func86,Try.ntmps86
   go_upto_region 1 with fail
   rw [<-Hwa.out]
   go_wp2_with fail
   obtain⟨w6,hw6⟩:∃ w6,w6=(((wa.setCell ⟨w1.heap.size+1+1,0,none⟩ (.int .i64 10)).setCell ⟨w1.heap.size+1+1,1,none⟩ (.int .u64 0)).setCell ⟨w1.heap.size+1+1,2,none⟩ (.slice none 0 0)):=⟨_,rfl⟩
   rw [<-hw6]
   obtain⟨k0,k1,k2,g1,g2⟩:=Fin.out wa 10 0 v (Chg.refl _ _) Hrow.out w6 (.inl hw6)
   clear hw6
   refine bodyPost_ret (v:=.tuple #[.slice (some ⟨q,0,none⟩) 1 cp,ansV 10 0 (.slice none 0 0)]) (by simp [results,Try.results86 ,go_sem,ansV,k0,k1,k2]) rfl ?_
   first|exact⟨rfl,g1,v,rfl,trivial,g2⟩|exact⟨rfl,g1,trivial,g2⟩|exact⟨rfl,g1,g2⟩|exact⟨rfl,g1,v,trivial,trivial,g2⟩
 ·rw [maxAp_9 (c:=⟨th,ob,kd',ca,cb,cc⟩) h1 h0]
  have q1:(kd' == 1)=false:=by simpa using h1
  have q0:(kd' != 0)=true:=by simpa using h0
  clear rqa rfa e1
  go_enter Try.func86,Try.ntmps86
  go_upto_region 1 with fail
  rw [<-Hwa.out]
  go_wp2_with fail
  obtain⟨w6,hw6⟩:∃ w6,w6=(((wa.setCell ⟨w1.heap.size+1+1,0,none⟩ (.int .i64 9)).setCell ⟨w1.heap.size+1+1,1,none⟩ (.int .u64 0)).setCell ⟨w1.heap.size+1+1,2,none⟩ (.slice none 0 0)):=⟨_,rfl⟩
  rw [<-hw6]
  obtain⟨k0,k1,k2,g1,g2⟩:=Fin.out wa 9 0 v (Chg.refl _ _) Hrow.out w6 (.inl hw6)
  clear hw6
  refine bodyPost_ret (v:=.tuple #[.slice (some ⟨q,0,none⟩) 1 cp,ansV 9 0 (.slice none 0 0)]) (by simp [results,Try.results86 ,go_sem,ansV,k0,k1,k2]) rfl ?_
  first|exact⟨rfl,g1,v,rfl,trivial,g2⟩|exact⟨rfl,g1,trivial,g2⟩|exact⟨rfl,g1,g2⟩|exact⟨rfl,g1,v,trivial,trivial,g2⟩
set_option maxHeartbeats 4000000 in
theorem max_apply (n m:Nat) (hm:m<=12) (u:World) (a:Option Addr) (c v:Nat) (x:CallD) (hs:SlAt u a 1 1 (u64G [v])) (hv:v<18446744073709551616) (hx:CallOk x) :
  Calls Try.prog 66 #[.int .i64 (n:Int),specV 4 (m:Int) 0,.slice a 1 c,callAgg x] u (ApPost (maxAp m) [v] x u):=by
 obtain⟨b,o,rfl,hb,h4⟩:=hs.2 0 (by omega)
 have e4:u.cell? ⟨b,o,none⟩=some (.int .u64 (v:Int)):=by have h0:=h4 0 (by omega);rw [Nat.zero_mul,Nat.add_zero] at h0;exact h0
 obtain⟨th,ob,kd',ca,cb,cc⟩:=x
 obtain⟨wa,hwa⟩:∃ wa,wa=(((u.alloc (.cells #[.int .i64 4,.int .i64 (m:Int),.int .i64 0] 48)).alloc (.cells #[.int .i64 th,.int .i64 ob,.int .i64 kd',.int .u64 (ca:Int),.int .u64 (cb:Int),.int .u64 (cc:Int)] 43)).alloc (.cells #[.int .i64 0,.int .u64 0,.slice none 0 0] 39)).alloc (.cells #[] 37):=⟨_,rfl⟩
 have hga:Below u.heap.size u wa:=by rw [hwa];exact allocs_below u [_,_,_,_]
 have r0:wa.heap[u.heap.size]?=some (.cells #[.int .i64 4,.int .i64 (m:Int),.int .i64 0] 48 (0,0)):=by rw [hwa];exact allocs_get [_,_,_,_] u 0 _ rfl
 have r1:wa.heap[u.heap.size+1]?=some (.cells #[.int .i64 th,.int .i64 ob,.int .i64 kd',.int .u64 (ca:Int),.int .u64 (cb:Int),.int .u64 (cc:Int)] 43 (0,0)):=by rw [hwa];exact allocs_get [_,_,_,_] u 1 _ rfl
 have r2:wa.heap[u.heap.size+2]?=some (.cells #[.int .i64 0,.int .u64 0,.slice none 0 0] 39 (0,0)):=by rw [hwa];exact allocs_get [_,_,_,_] u 2 _ rfl
 have r3:wa.heap[u.heap.size+3]?=some (.cells #[] 37 (0,0)):=by rw [hwa];exact allocs_get [_,_,_,_] u 3 _ rfl
 have hwsz:wa.heap.size=u.heap.size+4:=by rw [hwa];simp
 have x4:wa.cell? ⟨b,o,none⟩=some (.int .u64 (v:Int)):=(hga.cell hb).trans e4
 obtain⟨i0,hi,hz0,hz1,hz2⟩:=info_parts uint64_info0
 have hown:wa.ownsRow (u.heap.size+3) 37 1 (.slice (some ⟨u.heap.size+3,0,none⟩) 0 0) 0 []:=⟨rfl,.inr ⟨u.heap.size+3,0,#[],rfl,Nat.le_refl _,r3,Nat.le_refl _,Nat.zero_le _,rfl,rfl⟩⟩
 have hnew:∀ j w',[Value.int .u64 (v:Int)][j]?=some w'->wa.cell? ((⟨b,o,none⟩:Addr).add j)=some w':=by
  intro j w' h
  match j,h with
  | 0,h=>simp only [List.getElem?_cons_zero,Option.some.injEq] at h;subst h;exact x4
 rw [hwa] at hown hnew
 have Hown:=Lib.hid hown;have Hnew:=Lib.hid hnew;have Hwa:=Lib.hid hwa;have Hga:=Lib.hid hga;have R0:=Lib.hid r0;have R1:=Lib.hid r1;have R2:=Lib.hid r2;have Hwsz:=Lib.hid hwsz;have Hv64:=Lib.hid hv
 unfold specV callAgg
 simp only
 clear hown hnew hwa hga r0 r1 r2 r3 hs h4 e4 hx hb hwsz x4 hv
 go_enter Try.func66,Try.ntmps66
 go_wp2_with (at_builtin;refine wpList_append_own _ rfl (.tmp 11) (.tmp 12) 28 rfl (u.heap.size+3) 37 i0 (.int .u64 0) 1 8 Try.underlying28 hi hz0 hz1 hz2 rfl (by decide) (.slice (some ⟨u.heap.size+3,0,none⟩) 0 0) 0 [] rfl Hown.out ⟨b,o,none⟩ 1 c [.int .u64 (v:Int)] rfl ?c1 Hnew.out ?c2 ?c3 ?c4 ?c5 ?_)
 case c1=>rfl
 case c2=>intro w' hw';simp only [List.mem_singleton] at hw';subst hw';rfl
 case c3=>unfold maxLen;omega
 case c4=>omega
 case c5=>simp
 intro o' w1 hown1 hgrow _
 obtain⟨q,cp,rfl,hq1,hq2,hq3⟩:=row_own hown1
 rw [<-Hwa.out] at hgrow
 have hch:Chg (λb=>u.heap.size+3<=b) wa w1:=(Chg.refl _ wa).grown hgrow (λk hk=>by simp only [Value.ownBlock,Option.some.injEq] at hk;exact .inl (by omega))
 have hb1:Below u.heap.size u w1:=Hga.out.trans (hch.below (λk h=>by omega) Hga.out.size)
 have s0:=(hch.block _ (by rw [Hwsz.out];omega) (by omega)).trans R0.out
 have s1:=(hch.block _ (by rw [Hwsz.out];omega) (by omega)).trans R1.out
 have s2:=(hch.block _ (by rw [Hwsz.out];omega) (by omega)).trans R2.out
 have z0:w1.cell? ⟨u.heap.size,0,none⟩=some (.int .i64 4):=by rw [cell_blk s0];rfl
 have zp1:w1.cell? ⟨u.heap.size,1,none⟩=some (.int .i64 (m:Int)):=by rw [cell_blk s0];rfl
 have zp2:w1.cell? ⟨u.heap.size,2,none⟩=some (.int .i64 0):=by rw [cell_blk s0];rfl
 have z2:w1.cell? ⟨u.heap.size+1,2,none⟩=some (.int .i64 kd'):=by rw [cell_blk s1];rfl
 have a0:w1.cell? ⟨u.heap.size+1+1,0,none⟩=some (.int .i64 0):=by rw [show u.heap.size+1+1=u.heap.size+2 from rfl,cell_blk s2];rfl
 have a1:w1.cell? ⟨u.heap.size+1+1,1,none⟩=some (.int .u64 0):=by rw [show u.heap.size+1+1=u.heap.size+2 from rfl,cell_blk s2];rfl
 have a2:w1.cell? ⟨u.heap.size+1+1,2,none⟩=some (.slice none 0 0):=by rw [show u.heap.size+1+1=u.heap.size+2 from rfl,cell_blk s2];rfl
 have f0:w1.frozen? ⟨u.heap.size+1+1,0,none⟩=false:=frozen_blk s2 0
 have f1:w1.frozen? ⟨u.heap.size+1+1,1,none⟩=false:=frozen_blk s2 1
 have f2:w1.frozen? ⟨u.heap.size+1+1,2,none⟩=false:=frozen_blk s2 2
 have hlt2:u.heap.size+1+1<w1.heap.size:=blk_lt s2
 have rq:=(row_at hown1 (j:=0) rfl).1
 have y0:w1.cell? ⟨u.heap.size+1,0,none⟩=some (.int .i64 th):=by rw [cell_blk s1];rfl
 have y1:w1.cell? ⟨u.heap.size+1,1,none⟩=some (.int .i64 ob):=by rw [cell_blk s1];rfl
 have y3:w1.cell? ⟨u.heap.size+1,3,none⟩=some (.int .u64 (ca:Int)):=by rw [cell_blk s1];rfl
 have y4:w1.cell? ⟨u.heap.size+1,4,none⟩=some (.int .u64 (cb:Int)):=by rw [cell_blk s1];rfl
 have y5:w1.cell? ⟨u.heap.size+1,5,none⟩=some (.int .u64 (cc:Int)):=by rw [cell_blk s1];rfl
 have Hown1:=Lib.hid hown1;have Hb1:=Lib.hid hb1;have S2:=Lib.hid s2;have Hq1:=Lib.hid hq1;have Hq2:=Lib.hid hq2
 clear hown1 hgrow hch hb1 s0 s1 s2 Hown Hnew Hwa Hga R0 R1 R2 Hwsz hq1 hq2
 have AD:=Lib.hid (ref_max m hm w1 _ q cp v ⟨th,ob,kd',ca,cb,cc⟩ Hv64.out Hown1.out)
 unfold callAgg specV at AD
 simp only at AD
 clear rq a0 a1 a2 f0 f1 f2
 go_wp2_with fail
 refine AD.out.mono ?_
 rintro e w2 ⟨rfl,hch2,nv,hst,hli,hrow2⟩
 have s3:=(hch2.block _ (blk_lt S2.out) (by have:=Hq1.out;omega)).trans S2.out
 have a0:w2.cell? ⟨u.heap.size+1+1,0,none⟩=some (.int .i64 0):=by rw [show u.heap.size+1+1=u.heap.size+2 from rfl,cell_blk s3];rfl
 have a1:w2.cell? ⟨u.heap.size+1+1,1,none⟩=some (.int .u64 0):=by rw [show u.heap.size+1+1=u.heap.size+2 from rfl,cell_blk s3];rfl
 have a2:w2.cell? ⟨u.heap.size+1+1,2,none⟩=some (.slice none 0 0):=by rw [show u.heap.size+1+1=u.heap.size+2 from rfl,cell_blk s3];rfl
 have f0:w2.frozen? ⟨u.heap.size+1+1,0,none⟩=false:=frozen_blk s3 0
 have f1:w2.frozen? ⟨u.heap.size+1+1,1,none⟩=false:=frozen_blk s3 1
 have f2:w2.frozen? ⟨u.heap.size+1+1,2,none⟩=false:=frozen_blk s3 2
 have hlt3:u.heap.size+1+1<w2.heap.size:=blk_lt s3
 have S3:=Lib.hid s3;have Hch2:=Lib.hid hch2;have Hrow2:=Lib.hid hrow2;have Hst:=Lib.hid hst;have Hli:=Lib.hid hli
 obtain⟨ar,har⟩:∃ ar,ar=maxAp m [v] ⟨th,ob,kd',ca,cb,cc⟩:=⟨_,rfl⟩
 rw [<-har] at Hst Hli ⊢
 have Har:=Lib.hid har
 obtain⟨st',er,vl,li⟩:=ar
 unfold ansV
 simp only
 clear s3 hch2 hrow2 hst hli z0 z2 zp1 zp2 y0 y1 y3 y4 y5 har
 go_wp2
 obtain⟨t1,t2,t3⟩:=set3 S3.out (.int .i64 er) (.int .u64 (vl:Int)) (.slice none 0 0)
 obtain⟨w3,hw3⟩:∃ w3,w3=(((w2.setCell ⟨u.heap.size+2,0,none⟩ (.int .i64 er)).setCell ⟨u.heap.size+2,1,none⟩ (.int .u64 (vl:Int))).setCell ⟨u.heap.size+2,2,none⟩ (.slice none 0 0)):=⟨_,rfl⟩
 rw [<-hw3] at t1 t2 t3
 rw [show u.heap.size+1+1=u.heap.size+2 from rfl,<-hw3]
 have k0:w3.cell? ⟨u.heap.size+2,0,none⟩=some (.int .i64 er):=by rw [cell_blk t1];rfl
 have k1:w3.cell? ⟨u.heap.size+2,1,none⟩=some (.int .u64 (vl:Int)):=by rw [cell_blk t1];rfl
 have k2:w3.cell? ⟨u.heap.size+2,2,none⟩=some (.slice none 0 0):=by rw [cell_blk t1];rfl
 refine bodyPost_ret (v:=.tuple #[.slice (some ⟨q,0,none⟩) 1 cp,ansV er vl (.slice none 0 0)]) (by simp [results,Try.results66 ,go_sem,ansV,k0,k1,k2]) rfl ?_
 have hq1:=Hq1.out;have hq2:=Hq2.out;have hc2:=Hch2.out.size;have hs3:=t2.size
 have e1:st'=[nv]:=Hst.out
 have e2:li=[]:=Hli.out
 subst e1 e2
 unfold ApPost
 rw [<-Har.out]
 refine⟨some ⟨q,0,none⟩,cp,none,0,rfl,⟨Hrow2.out.chg t2 (λb off e h=>by cases e;omega),λb off e=>?_⟩,SlAt.nil _ _ _ _,(Hb1.out.trans (Hch2.out.below (λk h=>by omega) Hb1.out.size)).trans (t2.below (λk h=>by omega) (Nat.le_trans Hb1.out.size hc2))⟩
 cases e
 omega
theorem size_max (n m:Nat) (hm1:1<=m) (hm:m<=12) (u:World):Calls Try.prog 62 #[.int .i64 (n:Int),specV 4 (m:Int) 0] u λe u'=>∃ z:Int,e=.returned (.int .i64 z)/\0<=z/\Below u.heap.size u u':=by
 have h1:=Nat.two_pow_pos m
 have hp:2^m<=4096:=Nat.pow_le_pow_right (n:=2) (by decide) hm
 have e1:((2^m:Nat):Int)=(2:Int)^m:=by simp
 have w1:IntKind.i64.wrap ((2:Int)^m)=(2:Int)^m:=by rw [<-e1,IntKind.wrap_i64];omega
 have w2:IntKind.i64.wrap ((2:Int)^m - 1)=(2:Int)^m - 1:=by rw [<-e1,IntKind.wrap_i64];omega
 have hz:0<=(2:Int)^m - 1:=by rw [<-e1];omega
 have hmi:(m:Int)<=12:=by omega
 have hmi1:(1:Int)<=(m:Int):=by omega
 have Hz:=Lib.hid hz
 unfold specV
 clear e1 h1 hp hz
 go_enter Try.func62,Try.ntmps62
 go_wp2
 go_ret
 exact⟨_,rfl,Hz.out,Gr.new _ _⟩
theorem max_spec (n m:Nat) (hm1:1<=m) (hm:m<=12):SpecOk 4 (m:Int) 0 n (maxAp m) [0] oneInv where
 size:=size_max n m hm1 hm
 new:=new_one 4 (by omega) n (m:Int) 0
 apply:=by
  rintro u a c st x hs ⟨v,rfl,hv⟩ hx
  exact max_apply n m hm u a c v x hs hv hx
 inv0:=⟨0,rfl,by omega⟩
 invS:=by
  rintro st x ⟨v,rfl,hv⟩ hx
  have ha:=hx.a
  unfold maxAp
  split
  ·exact⟨v,rfl,hv⟩
  ·split
   ·exact⟨v,rfl,hv⟩
   ·split
    ·exact⟨v,rfl,hv⟩
    ·refine⟨_,rfl,?_⟩
     show max v x.a<_
     have:=Nat.max_lt.2 ⟨hv,ha⟩
     exact this
 queue:=by omega
end
section

/- Layer 6: a report's rows: the walk of roundelayplain.Rows. -/
open Go.RowKit
set_option maxHeartbeats 4000000 in
theorem within_true (ks:List Int) (iv rs:Nat) (a:Option Addr) (c:Nat) (w:World) (hs:SlAt w a ks.length 1 (intG ks)) (hk:Within ks iv rs) (hr:rs<1000000) :
  Calls Try.prog 61 #[.slice a ks.length c,.int .i64 (iv:Int),.int .i64 (rs:Int)] w λe w'=>e=.returned (.bool true)/\Below w.heap.size w w':=by
 obtain⟨h1,h2,h3⟩:=hk
 match ks,h1 with
 | k::ks,_=>
  simp only [List.headD_cons] at h2 h3
  obtain⟨b,o,rfl,_,h4⟩:=hs.2 0 (by simp)
  have hm:=hs.1
  have e4:w.cell? ⟨b,o,none⟩=some (.int .i64 k):=by have h0:=h4 0 (by omega);rw [Nat.zero_mul,Nat.add_zero] at h0;simpa [intG] using h0
  obtain⟨n,hn⟩:∃ n,n=(k::ks).length:=⟨_,rfl⟩
  have hn0:0<n:=by rw [hn];simp
  rw [<-hn] at hm ⊢
  unfold maxLen at hm
  have l0:(0:Int)<(n:Int):=by omega
  have l1:(iv:Int)<=k.tdiv 2:=by rw [Int.tdiv_eq_ediv_of_nonneg (by omega)];omega
  have l2:(k+1).tdiv 2<=(rs:Int):=by rw [Int.tdiv_eq_ediv_of_nonneg (by omega)];omega
  have l3:0<=k/\k<2000000:=by omega
  have w1:IntKind.i64.wrap (k.tdiv 2)=k.tdiv 2:=by rw [IntKind.wrap_i64,Int.tdiv_eq_ediv_of_nonneg (by omega)];omega
  have w2:IntKind.i64.wrap ((k+1).tdiv 2)=(k+1).tdiv 2:=by rw [IntKind.wrap_i64,Int.tdiv_eq_ediv_of_nonneg (by omega)];omega
  have w3:IntKind.i64.wrap (k+1)=k+1:=by rw [IntKind.wrap_i64];omega
  clear hs h4 h2 h3 hn hn0 hr
  go_enter Try.func61,Try.ntmps61
  go_wp2
  go_ret
  exact⟨rfl,Gr.refl _⟩
end
end Go.Proofs.Ytlanekkbciffcaa
