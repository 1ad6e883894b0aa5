/- Layer 15: the walk of SnapRows. -/
import Derived.Test.YtlepjmnhekeofaaR41
import Derived.Test.YtlepjmnhekeofaaR42
set_option maxRecDepth 100000
set_option linter.unusedVariables false
set_option linter.unusedSimpArgs false
set_option linter.unnecessarySimpa false
namespace Go.Proofs.Ytlepjmnhekeofaa
open Go.RowKit
def leB (l m:List Nat):Nat->Bool
 | 0=>true
 | t+1=>leB l m t && decide (l.getD t 0<=m.getD t 0)
theorem leB_all {l m:List Nat}:∀ n,(∀ t,t<n->l.getD t 0<=m.getD t 0)->leB l m n=true
 | 0,_=>rfl
 | n+1,h=>by
  show(leB l m n && _)=true
  rw [leB_all n (λt ht=>h t (by omega)),decide_eq_true (h n (by omega))];rfl
theorem rcs_at {N k j:Nat} (hj:j<N):(rcs N (k*N+j+1)).flatMap callL=(rcs N (k*N+j)).flatMap callL++[.int .i64 (j:Int),.int .i64 0,.int .i64 0,.int .u64 ((k:Int)+1),.int .u64 0,.int .u64 0,.int .i64 (j:Int),.int .i64 0,.int .i64 1,.int .u64 0,.int .u64 0,.int .u64 0]:=by
 have e1:(k*N+j) % N=j:=by rw [Nat.mul_comm k N,Nat.mul_add_mod,Nat.mod_eq_of_lt hj]
 have e2:(k*N+j) / N=k:=by rw [Nat.mul_comm k N,Nat.mul_add_div (by omega),Nat.div_eq_of_lt hj,Nat.add_zero]
 show(rcs N (k*N+j)++_).flatMap callL=_
 rw [List.flatMap_append,e1,e2]
 congr 1
set_option maxHeartbeats 16000000 in
theorem snapRows_any (n:Int) (m:Nat) (picks:List Int) (pa:Option Addr) (pc:Nat) (w:World) (hp:PicksAt w pa picks) (hm:m<256) :
  Calls Try.prog 10 #[.int .i64 n,.int .u8 (m:Int),.slice pa picks.length pc] w λe w'=>e=.returned (.bool true)/\Below w.heap.size w w':=by
 have T:=Lib.hid snap_five
 have hpl:=hp.sl.1
 unfold maxLen at hpl
 by_cases h5:n<1
 ·clear hp
  go_enter Try.func10,Try.ntmps10
  go_wp2_with (go_at_call 22;refine(T.out _).mono ?_;rintro e w' ⟨rfl,hb⟩)
  go_ret
  exact⟨rfl,hb⟩
 by_cases h5:8<n
 ·clear hp
  go_enter Try.func10,Try.ntmps10
  go_wp2_with (go_at_call 22;refine(T.out _).mono ?_;rintro e w' ⟨rfl,hb⟩)
  go_ret
  exact⟨rfl,hb⟩
 by_cases h35:(4000:Int)<(picks.length:Int)
 ·clear hp
  go_enter Try.func10,Try.ntmps10
  go_wp2_with (go_at_call 22;refine(T.out _).mono ?_;rintro e w' ⟨rfl,hb⟩)
  go_ret
  exact⟨rfl,hb⟩
 obtain⟨N,rfl⟩:∃ N:Nat,n=(N:Int):=⟨n.toNat,by omega⟩
 have hp3:picks.length<=4000:=by omega
 have hN8:N<=8:=by omega
 have hN1:1<=N:=by omega
 have Hp:=Lib.hid hp
 clear hp
 go_enter Try.func10,Try.ntmps10
 obtain⟨i0,hi0,hz0,hz1,hz2⟩:=info_parts call_info
 obtain⟨K,hK⟩:∃ K:Nat,(K:Int)=(m:Int) % 5/\K<5:=⟨m % 5,by omega,by omega⟩
 obtain⟨hK1,hK2⟩:=hK
 have wK1:IntKind.i64.wrap (m:Int)=(m:Int):=by rw [IntKind.wrap_i64];omega
 have wK2:IntKind.i64.wrap ((m:Int) % 5)=(K:Int):=by rw [<-hK1,IntKind.wrap_i64];omega
 have wK3:IntKind.i64.wrap (Int.tmod (m:Int) 5)=(K:Int):=by rw [Int.tmod_eq_emod_of_nonneg (by omega),<-hK1,IntKind.wrap_i64];omega
 go_wp2
 rw [<-hK1]
 clear hK1 wK1 wK2 wK3
 go_loopw [8,36] (λv i wr=>∃ k:Nat,k<=K/\i=.int .i64 k/\Below w.heap.size w wr/\wr.ownsRow w.heap.size 46 6 v (2*(k*N)) ((rcs N (k*N)).flatMap callL)) (λ_ i _=>K - (intOf i).toNat)
 case atStart=>exact⟨0,Nat.zero_le _,rfl,Gr.refl _,by rw [Nat.zero_mul];exact World.ownsRow_nil _ _ _ _⟩
 case round=>
  obtain⟨k,hk,rfl,hb,hrow⟩:=hrel
  by_cases hlt:k<K
  ·have l1:(k:Int)<(K:Int):=by omega
   have Hb:=Lib.hid hb;have Hrow:=Lib.hid hrow
   clear hb hrow
   go_wp2
   go_loopw [8,40] (λv i wr=>∃ j:Nat,j<=N/\i=.int .i64 j/\Below w.heap.size w wr/\wr.ownsRow w.heap.size 46 6 v (2*(k*N+j)) ((rcs N (k*N+j)).flatMap callL)) (λ_ i _=>N - (intOf i).toNat)
   case atStart=>exact⟨0,Nat.zero_le _,rfl,Hb.out,Hrow.out⟩
   case round=>
    obtain⟨j,hj,rfl,hb,hrow⟩:=hrel
    by_cases hlj:j<N
    ·have l2:(j:Int)<(N:Int):=by omega
     have hkn:k*N+j<1000:=by
      have h8:k*N<=4*8:=Nat.mul_le_mul (by omega) (by omega)
      omega
     have Hb2:=Lib.hid hb;have Hrow2:=Lib.hid hrow
     have Hat:=Lib.hid (rcs_at (k:=k) hlj)
     have wk:IntKind.u64.wrap (k:Int)=(k:Int):=by rw [IntKind.wrap_u64];omega
     have wk1:IntKind.u64.wrap ((k:Int)+1)=(k:Int)+1:=by rw [IntKind.wrap_u64];omega
     clear hb hrow
     go_wp2_with (at_builtin;refine wpList_append_own _ rfl _ _ 23 rfl w.heap.size 46 i0 (.agg #[.int .i64 0,.int .i64 0,.int .i64 0,.int .u64 0,.int .u64 0,.int .u64 0]) 6 48 Try.underlying23 hi0 hz0 hz1 hz2 rfl (by decide) _ _ _ rfl (Hrow2.out.alloc _) ⟨wr.heap.size,0,none⟩ 2 2 [.int .i64 (j:Int),.int .i64 0,.int .i64 0,.int .u64 ((k:Int)+1),.int .u64 0,.int .u64 0,.int .i64 (j:Int),.int .i64 0,.int .i64 1,.int .u64 0,.int .u64 0,.int .u64 0] rfl rfl ?c1 ?c2 ?c3 ?c4 ?c5 ?_)
     case c1=>exact λq u hq=>news_six _ _ _ q u hq
     case c2=>simp [Value.oneCell']
     case c3=>unfold maxLen;omega
     case c4=>omega
     case c5=>have:=Hb2.out.size;simp;omega
     intro v' wa hown' hgrow _
     have hca:Chg (λb=>w.heap.size<=b) w wa:=(((Chg.of_below (S:=λb=>w.heap.size<=b) Hb2.out).alloc _)).grown hgrow (λq hq=>.inl (Hrow2.out.lt q hq).1)
     have Hown:=Lib.hid hown';have Hca:=Lib.hid hca
     clear hown' hgrow hca
     go_wp2
     go_roundw
     case rel=>
      refine⟨j+1,by omega,by go_num,Hca.out.below (λb h=>h) (Nat.le_refl _),?_⟩
      have h8:=Hown.out
      rw [show k*N+(j+1)=k*N+j+1 by omega,Hat.out,show 2*(k*N+j+1)=2*(k*N+j)+2 by omega]
      exact h8
     case measure=>simp [intOf]<;>omega
    ·have l2:¬ (j:Int)<(N:Int):=by omega
     obtain rfl:j=N:=by omega
     have Hb2:=Lib.hid hb;have Hrow2:=Lib.hid hrow
     clear hb hrow
     go_wp2
     go_roundw
     case rel=>exact⟨k+1,by omega,by go_num,Hb2.out,by rw [Nat.succ_mul k];exact Hrow2.out⟩
     case measure=>simp [intOf]<;>omega
  ·have l1:¬ (k:Int)<(K:Int):=by omega
   obtain rfl:k=K:=by omega
   have hm8:k*N<=4*N:=Nat.mul_le_mul_right N (by omega)
   obtain⟨M,hM⟩:∃ M,M=k*N:=⟨_,rfl⟩
   rw [<-hM] at hrow hm8
   obtain⟨ca,cc,rfl⟩:=row_form hrow
   have hrow':wr.ownsRow w.heap.size 46 6 (.slice ca (rcs N M).length cc) (rcs N M).length ((rcs N M).flatMap callL):=by rw [rcs_len];exact hrow
   have hsl:=row_calls hrow' (by rw [rcs_len];omega)
   have hca:CallsAt noB wr ca (rcs N M):=⟨hsl,λx hx=>by
    obtain⟨x1,x2,x3,x4,x5,x6,x7,x8⟩:=rcs_mem N hN1 M x hx
    obtain⟨xt,xo,xk,xa,xb,xc⟩:=x
    simp only at x1 x2 x3 x4 x5 x6 x7 x8
    subst x3 x7 x8
    exact callOk_small x1 (by omega) x4 (by omega) (by omega) (by decide) (by decide),λ_ _ _ _ h=>h⟩
   have P:=snapPlay_safe noB wr N 5 (rcs N M) picks ca pa cc pc (λb hb=>hb.elim) hca (Hp.out.grown hb)
   have hck:snCheck (N:Int) 5 (rcs N M) picks.length=0:=by
    unfold snCheck
    rw [rcs_check hN1 (by omega) (by omega) (by omega)];rfl
   rw [hck,rcs_len] at P
   simp only [Int.toNat_natCast] at P
   rw [show(5:Int).toNat=5 from rfl] at P
   obtain⟨q1,q2⟩:=sn_rows (n:=N) (Q:=M) (picks:=picks) hN1 (by omega) hm8 (by omega)
   obtain⟨rr,hrr⟩:∃ rr,rr=playD (snapS N 5) snO0 (List.replicate (snSize N 5) 0) (rcs N M) picks:=⟨_,rfl⟩
   rw [<-hrr] at P q1 q2
   have HP:=Lib.hid P;have Hb:=Lib.hid hb;have Q2:=Lib.hid q2;have HC:=Lib.hid hca
   have hM32:M<=32:=by omega
   clear P hb q2 hM hrow hrow' hsl hca hrr hck hm8
   go_wp2_with fail
   refine HP.out.mono ?_
   rintro e w1 ⟨ea,en,ec,va,vn,vc,rp,rfl,hb1,hr⟩
   rcases hr with⟨h0,_⟩|⟨_,hrp,hen,hvn,ers,hrep⟩
   ·exact absurd rfl h0
   subst hrp
   have hen1:en<=4000:=by rw [hen];omega
   obtain⟨w2,hw2⟩:∃ w2,w2=w1.alloc (.cells #[.slice ea en ec,.slice va vn vc,.int .i64 (rp.c.read:Int),.int .i64 (rp.c.write:Int),.int .i64 (rp.c.swap:Int),.int .i64 (rp.c.add:Int),.int .i64 (rp.c.fault:Int),.int .i64 (rp.ticks:Int),.int .i64 (rp.idle:Int)] 32):=⟨_,rfl⟩
   have hb2:Below w1.heap.size w1 w2:=by rw [hw2];exact Gr.new _ _
   have hb02:=Gr.trans Hb.out (Gr.trans hb1 hb2)
   have hrep2:=hrep.grown hb2
   have hlt2:w1.heap.size<w2.heap.size:=by rw [hw2];simp
   have A0:=Lib.hid (show w2.cell? ⟨w1.heap.size,0,none⟩=some (.slice ea en ec) from by rw [hw2,cell_new];rfl)
   have hc2:CallsAt noB w2 ca (rcs N M):=HC.out.grown (Gr.trans hb1 hb2)
   have Hrep:=Lib.hid hrep2;have Hen:=Lib.hid hen;have Hb02:=Lib.hid hb02;have Hw2:=Lib.hid hw2;have Hlt0:=Lib.hid hlt2;have Hc2:=Lib.hid hc2
   have r0:=A0.out
   clear hrep hrep2 hb1 hb2 hen hvn hb02 hw2 hlt2 hc2
   unfold repV
   go_upto_region 15 with fail
   rw [<-Hw2.out]
   go_wp2_with fail
   clear r0
   go_loopw [67] (λi wr=>∃ k:Nat,k<=en/\i=.int .i64 k/\Below w2.heap.size w2 wr) (λi _=>en - (intOf i).toNat)
   case atStart=>exact⟨0,Nat.zero_le _,rfl,Gr.refl _⟩
   case round=>
    obtain⟨k,hk,rfl,hb⟩:=hrel
    obtain⟨wo,rfl⟩:∃ wo,wo=wr:=⟨_,rfl⟩
    have b0:wo.cell? ⟨w1.heap.size,0,none⟩=some (.slice ea en ec):=(hb.cell Hlt0.out).trans A0.out
    have hbw:w1.heap.size<wo.heap.size:=Nat.lt_of_lt_of_le Hlt0.out hb.size
    by_cases hlt:k<en
    ·obtain⟨g,la,lc,ka,kc,rfl,hgl,e0,e1,e2,e3,e4,e5,e6,e7,hls,hks,hknil⟩:=Hrep.out.ev8 Hen.out hlt hb
     have hkl:k<rp.evs.length:=by rw [<-Hen.out];exact hlt
     have hcall:=Q2.out.call k hkl
     have hown:=Q2.out.own k hkl
     have hcmp:=λj hj=>Q2.out.cmp k j hkl hj
     obtain⟨E,hE⟩:∃ E,E=evAt rp.evs k:=⟨_,rfl⟩
     rw [<-hE] at e0 e1 e2 e3 e4 e5 e6 e7 hcall hown hcmp hls
     obtain⟨cI,iv,rs,st,⟨er,vl,li⟩,ky⟩:=E
     unfold kindOf at hown hcmp
     simp only at e0 e1 e2 e3 e4 e5 e6 e7 hcall hown hcmp hls
     obtain⟨ln,hln⟩:∃ ln,ln=li.length:=⟨_,rfl⟩
     obtain⟨kn,hkn⟩:∃ kn,kn=ky.length:=⟨_,rfl⟩
     rw [<-hln] at e6
     rw [<-hkn] at e7
     have hcall2:cI<2*M:=by rw [<-rcs_len N M];exact hcall
     obtain⟨qc,hqc,hqq⟩:=rcs_call hcall
     obtain⟨b9,off,rfl,y0,y1,y2,y3,y4,y5⟩:=call_at Hc2.out.sl hcall hb
     have hb9:=World.block_lt_of_cell? _ _ y0
     have hq1:cI / 2=qc:=by rcases hqq with⟨h9,_⟩|⟨h9,_⟩<;>omega
     have hth:((rcs N M).getD cI Proofs.Ytlepjmnhekeofaa.d0).thread=((qc % N:Nat):Int):=by rcases hqq with⟨_,h9⟩|⟨_,h9⟩<;>rw [h9]
     rw [hth] at y0
     rw [hq1] at hown
     obtain⟨kd,hkd⟩:∃ kd,kd=((rcs N M).getD cI Proofs.Ytlepjmnhekeofaa.d0).kind:=⟨_,rfl⟩
     rw [<-hkd] at y2 hown hcmp
     obtain⟨th,hthh⟩:∃ th,th=qc % N:=⟨_,rfl⟩
     rw [<-hthh] at y0 hown
     have hthl:th<N:=by rw [hthh];exact Nat.mod_lt _ hN1
     obtain⟨kap,hkap⟩:∃ kap,kap=qc / N:=⟨_,rfl⟩
     rw [<-hkap] at hown
     have hkapl:kap<=32:=by rw [hkap];exact Nat.le_trans (Nat.div_le_self _ _) (by omega)
     have hdiv:cI / (2*N)=kap:=by rw [hkap,<-hq1,Nat.div_div_eq_div_mul]
     have l1:(k:Int)<(en:Int):=by omega
     have l2:(cI:Int)<2*(M:Int):=by omega
     have l3:(cI:Int)<((2*M:Nat):Int):=by omega
     have l4:(0:Int)<=(cI:Int):=by omega
     have l6:¬ (cI:Int)<0:=by omega
     have l7:¬ 2*(M:Int)<=(cI:Int):=by omega
     have l8:¬ ((2*M:Nat):Int)<=(cI:Int):=by omega
     have Hb:=Lib.hid hb;have Hown:=Lib.hid hown;have Hcmp:=Lib.hid hcmp;have Hls:=Lib.hid hls;have Hln:=Lib.hid hln;have Hdiv:=Lib.hid hdiv;have Hkdd:=Lib.hid hkd
     clear hls hks hknil hE hb hcall hkn hown hcmp hln hqq hq1 hth hkd hthh hkap hdiv hqc
     obtain⟨w4,hw4⟩:∃ w4,w4=wo.alloc (.cells #[.int .i64 (cI:Int),.int .i64 (iv:Int),.int .i64 (rs:Int),.int .i64 (st:Int),.int .i64 er,.int .u64 (vl:Int),.slice la ln lc,.slice ka kn kc] 44):=⟨_,rfl⟩
     have hb4:Below wo.heap.size wo w4:=by rw [hw4];exact Gr.new _ _
     have hx2:w4.heap[wo.heap.size]?=some (.cells #[.int .i64 (cI:Int),.int .i64 (iv:Int),.int .i64 (rs:Int),.int .i64 (st:Int),.int .i64 er,.int .u64 (vl:Int),.slice la ln lc,.slice ka kn kc] 44 (0,0)):=by rw [hw4];exact heap_alloc_new _ _
     have Hw4:=Lib.hid hw4;have Hb2:=Lib.hid (Gr.trans Hb.out hb4);have Hx2:=Lib.hid hx2
     have z0:w4.cell? ⟨w1.heap.size,0,none⟩=some (.slice (some ⟨g,0,none⟩) en ec):=(hb4.cell hbw).trans b0
     have x0:w4.cell? ⟨wo.heap.size,0,none⟩=some (.int .i64 (cI:Int)):=by rw [cell_blk hx2];rfl
     have x2:w4.cell? ⟨wo.heap.size,2,none⟩=some (.int .i64 (rs:Int)):=by rw [cell_blk hx2];rfl
     have x6:w4.cell? ⟨wo.heap.size,6,none⟩=some (.slice la ln lc):=by rw [cell_blk hx2];rfl
     have k0:=(hb4.cell (World.block_lt_of_cell? _ _ y0)).trans y0
     have k2:=(hb4.cell (World.block_lt_of_cell? _ _ y2)).trans y2
     have Z0:=Lib.hid z0;have X6:=Lib.hid x6;have Hb4:=Lib.hid hb4
     have Lx:=Lib.hid (blk_lt hx2)
     clear hw4 hb4 hx2
     go_upto_region 21 with fail
     rw [<-Hw4.out]
     clear e0 e1 e2 e3 e4 e5 e6 e7 y0 y1 y2 y3 y4 y5 b0 hbw hgl hb9 z0
     by_cases hk1:kd=1
     ·by_cases hr0:rs=0
      ·subst hk1 hr0
       clear x6 k0
       go_wp2
       go_roundw
       case rel=>exact⟨k+1,by omega,by go_num,Hb2.out⟩
       case measure=>simp [intOf]<;>omega
      ·obtain⟨hX,hV⟩:=Hown.out hr0 hk1
       have hr1:¬ ((rs:Int)=0):=by omega
       have hr2:((rs:Int) == 0)=false:=by simpa using hr0
       have hlm:ln=N:=by rw [Hln.out];exact hX
       have LS:=Lib.hid (show SlAt w4 la N 1 (u64G li) from by rw [<-hlm,Hln.out];exact Hls.out.grown Hb4.out)
       have HC9:=Lib.hid (λj hj=>Hcmp.out j hj hr0)
       subst hlm
       obtain⟨lb,lo,rfl,h4⟩:=LS.out.elem (Gr.refl _) hthl
       have c4:w4.cell? ⟨lb,lo+th,none⟩=some (.int .u64 ((kap:Int)+1)):=by have h0:=h4 0 (by omega);rw [Nat.mul_one,Nat.add_zero] at h0;rw [h0];show some (Value.int .u64 ((li.getD th 0:Nat):Int))=_;rw [hV];rw [show((kap+1:Nat):Int)=(kap:Int)+1 by omega]
       have n1:(th:Int)<(ln:Int):=by omega
       have n2:(0:Int)<=(th:Int):=by omega
       obtain⟨N2,hN2⟩:∃ N2,N2=2*ln:=⟨_,rfl⟩
       have n3:IntKind.i64.wrap (2*(ln:Int))=(N2:Int):=by rw [IntKind.wrap_i64];omega
       have n4:((N2:Int) == 0)=false:=by rw [beq_eq_false_iff_ne];omega
       have n5:¬ (N2:Int)=0:=by omega
       have n6:Int.tdiv (cI:Int) (N2:Int)=(kap:Int):=by rw [hN2,<-Int.ofNat_tdiv,Hdiv.out]
       have n7:IntKind.i64.wrap (kap:Int)=(kap:Int):=by rw [IntKind.wrap_i64];omega
       have n8:IntKind.u64.wrap (kap:Int)=(kap:Int):=by rw [IntKind.wrap_u64];omega
       have n9:IntKind.u64.wrap ((kap:Int)+1)=(kap:Int)+1:=by rw [IntKind.wrap_u64];omega
       have Hkd1:=Lib.hid (Hkdd.out.symm.trans hk1)
       subst hk1
       clear hr0 hX hV h4 hN2
       go_upto_region 24 with fail
       go_quiet (fail)
       obtain⟨w5,hw5⟩:∃ w5,w5=w4.drewN nq:=⟨_,rfl⟩
       have hb45:Below w4.heap.size w4 w5:=by rw [hw5];exact below_drewN (Gr.refl w4) nq
       rw [<-hw5]
       have Hb25:=Lib.hid (Gr.trans Hb2.out hb45)
       have Z5:=Lib.hid ((hb45.cell (World.block_lt_of_cell? _ _ Z0.out)).trans Z0.out)
       have X5:=Lib.hid ((hb45.cell Lx.out).trans X6.out)
       have Lx5:=Lib.hid (Nat.lt_of_lt_of_le Lx.out hb45.size)
       have LS5:=Lib.hid (LS.out.grown hb45)
       clear hw5 hb45 c4 n1 n2 n3 n4 n5 n6 n7 n8 n9 k0 k2 x0 x2 x6
       go_wp2_with fail
       go_loopw [125] (λi wq=>∃ q:Nat,q<=k/\i=.int .i64 q/\Below w5.heap.size w5 wq) (λi _=>k - (intOf i).toNat)
       case atStart=>exact⟨0,Nat.zero_le _,rfl,Gr.refl _⟩
       case round=>
        obtain⟨q,hq,rfl,hbq⟩:=hrel
        obtain⟨wi,rfl⟩:∃ wi,wi=wr:=⟨_,rfl⟩
        by_cases hlq:q<k
        ·have b0:wi.cell? ⟨w1.heap.size,0,none⟩=some (.slice (some ⟨g,0,none⟩) en ec):=(hbq.cell (World.block_lt_of_cell? _ _ Z5.out)).trans Z5.out
         have hbw:=World.block_lt_of_cell? _ _ b0
         obtain⟨g',la1,lc1,ka1,kc1,hgg,hgl,e0,e1,e2,e3,e4,e5,e6,e7,hls,hks,hknil⟩:=Hrep.out.ev8 Hen.out (show q<en by omega) (Gr.trans Hb25.out hbq)
         cases hgg
         have hkl:q<rp.evs.length:=by rw [<-Hen.out];omega
         have hcall:=Q2.out.call q hkl
         have hownj:=Q2.out.own q hkl
         have hcj:=HC9.out q hkl
         obtain⟨E,hE⟩:∃ E,E=evAt rp.evs q:=⟨_,rfl⟩
         rw [<-hE] at e0 e1 e2 e3 e4 e5 e6 e7 hcall hownj hcj hls
         obtain⟨cJ,jv,js,jt,⟨jr,jl,lj⟩,ky1⟩:=E
         unfold kindOf at hownj
         simp only at e0 e1 e2 e3 e4 e5 e6 e7 hcall hownj hcj hls
         obtain⟨jln,hjln⟩:∃ jln,jln=lj.length:=⟨_,rfl⟩
         obtain⟨jkn,hjkn⟩:∃ jkn,jkn=ky1.length:=⟨_,rfl⟩
         rw [<-hjln] at e6
         rw [<-hjkn] at e7
         have hcall2:cJ<2*M:=by rw [<-rcs_len ln M];exact hcall
         obtain⟨b8,off8,hcc,y0,y1,y2,y3,y4,y5⟩:=call_at Hc2.out.sl hcall (Gr.trans Hb25.out hbq)
         cases hcc
         obtain⟨kj,hkj⟩:∃ kj,kj=((rcs ln M).getD cJ Proofs.Ytlepjmnhekeofaa.d0).kind:=⟨_,rfl⟩
         rw [<-hkj] at y2 hownj hcj
         have hbc:=World.block_lt_of_cell? _ _ y2
         have m1:(q:Int)<(k:Int):=by omega
         have m2:(q:Int)<(en:Int):=by omega
         have m3:(cJ:Int)<2*(M:Int):=by omega
         have m4:(cJ:Int)<((2*M:Nat):Int):=by omega
         have m5:(0:Int)<=(cJ:Int):=by omega
         have Hbq:=Lib.hid hbq;have Hownj:=Lib.hid hownj;have Hcj:=Lib.hid hcj;have Hlsj:=Lib.hid hls;have Hjln:=Lib.hid hjln;have Hkjj:=Lib.hid hkj
         clear hls hks hknil hE hbq hcall hjkn hownj hcj hjln hkj
         obtain⟨w6,hw6⟩:∃ w6,w6=wi.alloc (.cells #[.int .i64 (cJ:Int),.int .i64 (jv:Int),.int .i64 (js:Int),.int .i64 (jt:Int),.int .i64 jr,.int .u64 (jl:Int),.slice la1 jln lc1,.slice ka1 jkn kc1] 44):=⟨_,rfl⟩
         have hb6:Below wi.heap.size wi w6:=by rw [hw6];exact Gr.new _ _
         have hx6:w6.heap[wi.heap.size]?=some (.cells #[.int .i64 (cJ:Int),.int .i64 (jv:Int),.int .i64 (js:Int),.int .i64 (jt:Int),.int .i64 jr,.int .u64 (jl:Int),.slice la1 jln lc1,.slice ka1 jkn kc1] 44 (0,0)):=by rw [hw6];exact heap_alloc_new _ _
         have Hw6:=Lib.hid hw6;have Hb56:=Lib.hid (Gr.trans Hbq.out hb6)
         have x0:w6.cell? ⟨wi.heap.size,0,none⟩=some (.int .i64 (cJ:Int)):=by rw [cell_blk hx6];rfl
         have x2:w6.cell? ⟨wi.heap.size,2,none⟩=some (.int .i64 (js:Int)):=by rw [cell_blk hx6];rfl
         have x6:w6.cell? ⟨wi.heap.size,6,none⟩=some (.slice la1 jln lc1):=by rw [cell_blk hx6];rfl
         have k2:=(hb6.cell hbc).trans y2
         have XJ:=Lib.hid x6;have Hb6:=Lib.hid hb6
         clear hw6 hb6 hx6
         go_upto_region 30 with fail
         rw [<-Hw6.out]
         clear e0 e1 e2 e3 e4 e5 e6 e7 y0 y1 y2 y3 y4 y5 b0 hbw hgl hbc
         by_cases hj1:kj=1
         ·by_cases hs0:js=0
          ·subst hj1 hs0
           clear x6
           go_wp2
           go_roundw
           case rel=>exact⟨q+1,by omega,by go_num,Hb56.out⟩
           case measure=>simp [intOf]<;>omega
          ·have hs1:¬ ((js:Int)=0):=by omega
           have hs2:((js:Int) == 0)=false:=by simpa using hs0
           obtain⟨hXj,_⟩:=Hownj.out hs0 hj1
           have hor:=Hcj.out hs0 (by first|exact trivial|rfl|exact Hkd1.out) hj1
           have LJ:=Lib.hid (show SlAt w6 la1 ln 1 (u64G lj) from by rw [<-hXj];exact Hlsj.out.grown Hb6.out)
           have LI:=Lib.hid (LS5.out.grown Hb56.out)
           have XI:=Lib.hid ((Hb56.out.cell Lx5.out).trans X5.out)
           have hjl:jln=ln:=by rw [Hjln.out];exact hXj
           have Hor:=Lib.hid hor
           subst hj1
           rw [hjl] at XJ
           clear hs0 hXj hor hjl x6
           go_wp2_with fail
           go_loopw [17,18,146] (λa b i wv=>∃ t:Nat,t<=ln/\i=.int .i64 t/\Below w6.heap.size w6 wv/\a=.bool (leB li lj t)/\b=.bool (leB lj li t)) (λ_ _ i _=>ln - (intOf i).toNat)
           case atStart=>exact⟨0,Nat.zero_le _,rfl,Gr.refl _,rfl,rfl⟩
           case round=>
            obtain⟨t,ht,rfl,hbt,rfl,rfl⟩:=hrel
            obtain⟨wt,rfl⟩:∃ wt,wt=wr:=⟨_,rfl⟩
            obtain⟨A,hA⟩:∃ A,A=leB li lj t:=⟨_,rfl⟩
            obtain⟨C,hC⟩:∃ C,C=leB lj li t:=⟨_,rfl⟩
            rw [<-hA,<-hC]
            by_cases hlt2:t<ln
            ·obtain⟨li0,lo1,hll,h4⟩:=LI.out.elem hbt hlt2
             cases hll
             obtain⟨lj0,lo2,rfl,h5⟩:=LJ.out.elem hbt hlt2
             obtain⟨x,hx⟩:∃ x,x=li.getD t 0:=⟨_,rfl⟩
             obtain⟨y,hy⟩:∃ y,y=lj.getD t 0:=⟨_,rfl⟩
             have h0:=h4 0 (by omega)
             rw [Nat.mul_one,Nat.add_zero] at h0
             have c4:=h0.trans (show some (u64G li t 0)=some (.int .u64 (x:Int)) by rw [hx];rfl)
             have c5:wt.cell? ⟨lj0,lo2+t,none⟩=some (.int .u64 (y:Int)):=by have h0:=h5 0 (by omega);rw [Nat.mul_one,Nat.add_zero] at h0;rw [h0,hy];rfl
             have xi:=(hbt.cell (World.block_lt_of_cell? _ _ XI.out)).trans XI.out
             have xj:=(hbt.cell (World.block_lt_of_cell? _ _ XJ.out)).trans XJ.out
             have t1:(t:Int)<(ln:Int):=by omega
             have t2:(0:Int)<=(t:Int):=by omega
             have HA:=Lib.hid (show leB li lj (t+1)=(A && decide (x<=y)) by rw [hA,hx,hy];rfl)
             have HC:=Lib.hid (show leB lj li (t+1)=(C && decide (y<=x)) by rw [hC,hx,hy];rfl)
             have Hbt:=Lib.hid hbt
             clear h4 h5 h0 hx hy hA hC hbt
             rcases Nat.lt_trichotomy x y with hc|hc|hc
             ·have hxy:x<=y:=by omega
              have hyx:¬ y<=x:=by omega
              have u1:(x:Int)<=(y:Int):=by omega
              have u2:¬ (y:Int)<=(x:Int):=by omega
              clear hc
              cases A with
              | false=>
               cases C with
               | false=>
                have NA:=Lib.hid (show leB li lj (t+1)=false by rw [HA.out];first|rfl|(rw [decide_eq_true hxy];rfl)|(rw [decide_eq_false hxy];rfl))
                have NC:=Lib.hid (show leB lj li (t+1)=false by rw [HC.out];first|rfl|(rw [decide_eq_true hyx];rfl)|(rw [decide_eq_false hyx];rfl))
                have HXY:=Lib.hid hxy;have HYX:=Lib.hid hyx
                clear hxy hyx
                go_wp2_with fail
                go_quiet (fail)
                obtain⟨wt1,hwt1⟩:∃ wt1,wt1=wt.drewN nq:=⟨_,rfl⟩
                have Hbt1:=Lib.hid (show Below wt.heap.size wt wt1 from by rw [hwt1];exact below_drewN (Gr.refl wt) nq)
                replace c4:=(Hbt1.out.cell (World.block_lt_of_cell? _ _ c4)).trans c4
                replace c5:=(Hbt1.out.cell (World.block_lt_of_cell? _ _ c5)).trans c5
                replace xi:=(Hbt1.out.cell (World.block_lt_of_cell? _ _ xi)).trans xi
                replace xj:=(Hbt1.out.cell (World.block_lt_of_cell? _ _ xj)).trans xj
                rw [<-hwt1]
                clear hwt1
                rename_i nq
                go_wp2_with fail
                go_quiet (fail)
                go_wp2
                go_roundw
                case rel=>exact⟨t+1,by omega,by go_num,below_drewN (Gr.trans Hbt.out Hbt1.out) _,by rw [NA.out];first|done|rfl|rw [decide_eq_true HXY.out]|rw [decide_eq_false HXY.out],by rw [NC.out];first|done|rfl|rw [decide_eq_true HYX.out]|rw [decide_eq_false HYX.out]⟩
                case measure=>simp [intOf]<;>omega
               | true=>
                have NA:=Lib.hid (show leB li lj (t+1)=false by rw [HA.out];first|rfl|(rw [decide_eq_true hxy];rfl)|(rw [decide_eq_false hxy];rfl))
                have NC:=Lib.hid (show leB lj li (t+1)=false by rw [HC.out];first|rfl|(rw [decide_eq_true hyx];rfl)|(rw [decide_eq_false hyx];rfl))
                have HXY:=Lib.hid hxy;have HYX:=Lib.hid hyx
                clear hxy hyx
                go_wp2_with fail
                go_quiet (fail)
                obtain⟨wt1,hwt1⟩:∃ wt1,wt1=wt.drewN nq:=⟨_,rfl⟩
                have Hbt1:=Lib.hid (show Below wt.heap.size wt wt1 from by rw [hwt1];exact below_drewN (Gr.refl wt) nq)
                replace c4:=(Hbt1.out.cell (World.block_lt_of_cell? _ _ c4)).trans c4
                replace c5:=(Hbt1.out.cell (World.block_lt_of_cell? _ _ c5)).trans c5
                replace xi:=(Hbt1.out.cell (World.block_lt_of_cell? _ _ xi)).trans xi
                replace xj:=(Hbt1.out.cell (World.block_lt_of_cell? _ _ xj)).trans xj
                rw [<-hwt1]
                clear hwt1
                rename_i nq
                go_wp2_with fail
                go_quiet (fail)
                go_wp2
                go_roundw
                case rel=>exact⟨t+1,by omega,by go_num,below_drewN (Gr.trans Hbt.out Hbt1.out) _,by rw [NA.out];first|done|rfl|rw [decide_eq_true HXY.out]|rw [decide_eq_false HXY.out],by rw [NC.out];first|done|rfl|rw [decide_eq_true HYX.out]|rw [decide_eq_false HYX.out]⟩
                case measure=>simp [intOf]<;>omega
              | true=>
               cases C with
               | false=>
                have NA:=Lib.hid (show leB li lj (t+1)=true by rw [HA.out];first|rfl|(rw [decide_eq_true hxy];rfl)|(rw [decide_eq_false hxy];rfl))
                have NC:=Lib.hid (show leB lj li (t+1)=false by rw [HC.out];first|rfl|(rw [decide_eq_true hyx];rfl)|(rw [decide_eq_false hyx];rfl))
                have HXY:=Lib.hid hxy;have HYX:=Lib.hid hyx
                clear hxy hyx
                go_wp2_with fail
                go_quiet (fail)
                obtain⟨wt1,hwt1⟩:∃ wt1,wt1=wt.drewN nq:=⟨_,rfl⟩
                have Hbt1:=Lib.hid (show Below wt.heap.size wt wt1 from by rw [hwt1];exact below_drewN (Gr.refl wt) nq)
                replace c4:=(Hbt1.out.cell (World.block_lt_of_cell? _ _ c4)).trans c4
                replace c5:=(Hbt1.out.cell (World.block_lt_of_cell? _ _ c5)).trans c5
                replace xi:=(Hbt1.out.cell (World.block_lt_of_cell? _ _ xi)).trans xi
                replace xj:=(Hbt1.out.cell (World.block_lt_of_cell? _ _ xj)).trans xj
                rw [<-hwt1]
                clear hwt1
                rename_i nq
                go_wp2_with fail
                go_quiet (fail)
                go_wp2
                go_roundw
                case rel=>exact⟨t+1,by omega,by go_num,below_drewN (Gr.trans Hbt.out Hbt1.out) _,by rw [NA.out];first|done|rfl|rw [decide_eq_true HXY.out]|rw [decide_eq_false HXY.out],by rw [NC.out];first|done|rfl|rw [decide_eq_true HYX.out]|rw [decide_eq_false HYX.out]⟩
                case measure=>simp [intOf]<;>omega
               | true=>
                have NA:=Lib.hid (show leB li lj (t+1)=true by rw [HA.out];first|rfl|(rw [decide_eq_true hxy];rfl)|(rw [decide_eq_false hxy];rfl))
                have NC:=Lib.hid (show leB lj li (t+1)=false by rw [HC.out];first|rfl|(rw [decide_eq_true hyx];rfl)|(rw [decide_eq_false hyx];rfl))
                have HXY:=Lib.hid hxy;have HYX:=Lib.hid hyx
                clear hxy hyx
                go_wp2_with fail
                go_quiet (fail)
                obtain⟨wt1,hwt1⟩:∃ wt1,wt1=wt.drewN nq:=⟨_,rfl⟩
                have Hbt1:=Lib.hid (show Below wt.heap.size wt wt1 from by rw [hwt1];exact below_drewN (Gr.refl wt) nq)
                replace c4:=(Hbt1.out.cell (World.block_lt_of_cell? _ _ c4)).trans c4
                replace c5:=(Hbt1.out.cell (World.block_lt_of_cell? _ _ c5)).trans c5
                replace xi:=(Hbt1.out.cell (World.block_lt_of_cell? _ _ xi)).trans xi
                replace xj:=(Hbt1.out.cell (World.block_lt_of_cell? _ _ xj)).trans xj
                rw [<-hwt1]
                clear hwt1
                rename_i nq
                go_wp2_with fail
                go_quiet (fail)
                go_wp2
                go_roundw
                case rel=>exact⟨t+1,by omega,by go_num,below_drewN (Gr.trans Hbt.out Hbt1.out) _,by rw [NA.out];first|done|rfl|rw [decide_eq_true HXY.out]|rw [decide_eq_false HXY.out],by rw [NC.out];first|done|rfl|rw [decide_eq_true HYX.out]|rw [decide_eq_false HYX.out]⟩
                case measure=>simp [intOf]<;>omega
             ·have hxy:x<=y:=by omega
              have hyx:y<=x:=by omega
              have u1:(x:Int)<=(y:Int):=by omega
              have u2:(y:Int)<=(x:Int):=by omega
              clear hc
              cases A with
              | false=>
               cases C with
               | false=>
                have NA:=Lib.hid (show leB li lj (t+1)=false by rw [HA.out];first|rfl|(rw [decide_eq_true hxy];rfl)|(rw [decide_eq_false hxy];rfl))
                have NC:=Lib.hid (show leB lj li (t+1)=false by rw [HC.out];first|rfl|(rw [decide_eq_true hyx];rfl)|(rw [decide_eq_false hyx];rfl))
                have HXY:=Lib.hid hxy;have HYX:=Lib.hid hyx
                clear hxy hyx
                go_wp2_with fail
                go_quiet (fail)
                obtain⟨wt1,hwt1⟩:∃ wt1,wt1=wt.drewN nq:=⟨_,rfl⟩
                have Hbt1:=Lib.hid (show Below wt.heap.size wt wt1 from by rw [hwt1];exact below_drewN (Gr.refl wt) nq)
                replace c4:=(Hbt1.out.cell (World.block_lt_of_cell? _ _ c4)).trans c4
                replace c5:=(Hbt1.out.cell (World.block_lt_of_cell? _ _ c5)).trans c5
                replace xi:=(Hbt1.out.cell (World.block_lt_of_cell? _ _ xi)).trans xi
                replace xj:=(Hbt1.out.cell (World.block_lt_of_cell? _ _ xj)).trans xj
                rw [<-hwt1]
                clear hwt1
                rename_i nq
                go_wp2_with fail
                go_quiet (fail)
                go_wp2
                go_roundw
                case rel=>exact⟨t+1,by omega,by go_num,below_drewN (Gr.trans Hbt.out Hbt1.out) _,by rw [NA.out];first|done|rfl|rw [decide_eq_true HXY.out]|rw [decide_eq_false HXY.out],by rw [NC.out];first|done|rfl|rw [decide_eq_true HYX.out]|rw [decide_eq_false HYX.out]⟩
                case measure=>simp [intOf]<;>omega
               | true=>
                have NA:=Lib.hid (show leB li lj (t+1)=false by rw [HA.out];first|rfl|(rw [decide_eq_true hxy];rfl)|(rw [decide_eq_false hxy];rfl))
                have NC:=Lib.hid (show leB lj li (t+1)=true by rw [HC.out];first|rfl|(rw [decide_eq_true hyx];rfl)|(rw [decide_eq_false hyx];rfl))
                have HXY:=Lib.hid hxy;have HYX:=Lib.hid hyx
                clear hxy hyx
                go_wp2_with fail
                go_quiet (fail)
                obtain⟨wt1,hwt1⟩:∃ wt1,wt1=wt.drewN nq:=⟨_,rfl⟩
                have Hbt1:=Lib.hid (show Below wt.heap.size wt wt1 from by rw [hwt1];exact below_drewN (Gr.refl wt) nq)
                replace c4:=(Hbt1.out.cell (World.block_lt_of_cell? _ _ c4)).trans c4
                replace c5:=(Hbt1.out.cell (World.block_lt_of_cell? _ _ c5)).trans c5
                replace xi:=(Hbt1.out.cell (World.block_lt_of_cell? _ _ xi)).trans xi
                replace xj:=(Hbt1.out.cell (World.block_lt_of_cell? _ _ xj)).trans xj
                rw [<-hwt1]
                clear hwt1
                rename_i nq
                go_wp2_with fail
                go_quiet (fail)
                go_wp2
                go_roundw
                case rel=>exact⟨t+1,by omega,by go_num,below_drewN (Gr.trans Hbt.out Hbt1.out) _,by rw [NA.out];first|done|rfl|rw [decide_eq_true HXY.out]|rw [decide_eq_false HXY.out],by rw [NC.out];first|done|rfl|rw [decide_eq_true HYX.out]|rw [decide_eq_false HYX.out]⟩
                case measure=>simp [intOf]<;>omega
              | true=>
               cases C with
               | false=>
                have NA:=Lib.hid (show leB li lj (t+1)=true by rw [HA.out];first|rfl|(rw [decide_eq_true hxy];rfl)|(rw [decide_eq_false hxy];rfl))
                have NC:=Lib.hid (show leB lj li (t+1)=false by rw [HC.out];first|rfl|(rw [decide_eq_true hyx];rfl)|(rw [decide_eq_false hyx];rfl))
                have HXY:=Lib.hid hxy;have HYX:=Lib.hid hyx
                clear hxy hyx
                go_wp2_with fail
                go_quiet (fail)
                obtain⟨wt1,hwt1⟩:∃ wt1,wt1=wt.drewN nq:=⟨_,rfl⟩
                have Hbt1:=Lib.hid (show Below wt.heap.size wt wt1 from by rw [hwt1];exact below_drewN (Gr.refl wt) nq)
                replace c4:=(Hbt1.out.cell (World.block_lt_of_cell? _ _ c4)).trans c4
                replace c5:=(Hbt1.out.cell (World.block_lt_of_cell? _ _ c5)).trans c5
                replace xi:=(Hbt1.out.cell (World.block_lt_of_cell? _ _ xi)).trans xi
                replace xj:=(Hbt1.out.cell (World.block_lt_of_cell? _ _ xj)).trans xj
                rw [<-hwt1]
                clear hwt1
                rename_i nq
                go_wp2_with fail
                go_quiet (fail)
                go_wp2
                go_roundw
                case rel=>exact⟨t+1,by omega,by go_num,below_drewN (Gr.trans Hbt.out Hbt1.out) _,by rw [NA.out];first|done|rfl|rw [decide_eq_true HXY.out]|rw [decide_eq_false HXY.out],by rw [NC.out];first|done|rfl|rw [decide_eq_true HYX.out]|rw [decide_eq_false HYX.out]⟩
                case measure=>simp [intOf]<;>omega
               | true=>
                have NA:=Lib.hid (show leB li lj (t+1)=true by rw [HA.out];first|rfl|(rw [decide_eq_true hxy];rfl)|(rw [decide_eq_false hxy];rfl))
                have NC:=Lib.hid (show leB lj li (t+1)=true by rw [HC.out];first|rfl|(rw [decide_eq_true hyx];rfl)|(rw [decide_eq_false hyx];rfl))
                have HXY:=Lib.hid hxy;have HYX:=Lib.hid hyx
                clear hxy hyx
                go_wp2_with fail
                go_quiet (fail)
                obtain⟨wt1,hwt1⟩:∃ wt1,wt1=wt.drewN nq:=⟨_,rfl⟩
                have Hbt1:=Lib.hid (show Below wt.heap.size wt wt1 from by rw [hwt1];exact below_drewN (Gr.refl wt) nq)
                replace c4:=(Hbt1.out.cell (World.block_lt_of_cell? _ _ c4)).trans c4
                replace c5:=(Hbt1.out.cell (World.block_lt_of_cell? _ _ c5)).trans c5
                replace xi:=(Hbt1.out.cell (World.block_lt_of_cell? _ _ xi)).trans xi
                replace xj:=(Hbt1.out.cell (World.block_lt_of_cell? _ _ xj)).trans xj
                rw [<-hwt1]
                clear hwt1
                rename_i nq
                go_wp2_with fail
                go_quiet (fail)
                go_wp2
                go_roundw
                case rel=>exact⟨t+1,by omega,by go_num,below_drewN (Gr.trans Hbt.out Hbt1.out) _,by rw [NA.out];first|done|rfl|rw [decide_eq_true HXY.out]|rw [decide_eq_false HXY.out],by rw [NC.out];first|done|rfl|rw [decide_eq_true HYX.out]|rw [decide_eq_false HYX.out]⟩
                case measure=>simp [intOf]<;>omega
             ·have hxy:¬ x<=y:=by omega
              have hyx:y<=x:=by omega
              have u1:¬ (x:Int)<=(y:Int):=by omega
              have u2:(y:Int)<=(x:Int):=by omega
              clear hc
              cases A with
              | false=>
               cases C with
               | false=>
                have NA:=Lib.hid (show leB li lj (t+1)=false by rw [HA.out];first|rfl|(rw [decide_eq_true hxy];rfl)|(rw [decide_eq_false hxy];rfl))
                have NC:=Lib.hid (show leB lj li (t+1)=false by rw [HC.out];first|rfl|(rw [decide_eq_true hyx];rfl)|(rw [decide_eq_false hyx];rfl))
                have HXY:=Lib.hid hxy;have HYX:=Lib.hid hyx
                clear hxy hyx
                go_wp2_with fail
                go_quiet (fail)
                obtain⟨wt1,hwt1⟩:∃ wt1,wt1=wt.drewN nq:=⟨_,rfl⟩
                have Hbt1:=Lib.hid (show Below wt.heap.size wt wt1 from by rw [hwt1];exact below_drewN (Gr.refl wt) nq)
                replace c4:=(Hbt1.out.cell (World.block_lt_of_cell? _ _ c4)).trans c4
                replace c5:=(Hbt1.out.cell (World.block_lt_of_cell? _ _ c5)).trans c5
                replace xi:=(Hbt1.out.cell (World.block_lt_of_cell? _ _ xi)).trans xi
                replace xj:=(Hbt1.out.cell (World.block_lt_of_cell? _ _ xj)).trans xj
                rw [<-hwt1]
                clear hwt1
                rename_i nq
                go_wp2_with fail
                go_quiet (fail)
                go_wp2
                go_roundw
                case rel=>exact⟨t+1,by omega,by go_num,below_drewN (Gr.trans Hbt.out Hbt1.out) _,by rw [NA.out];first|done|rfl|rw [decide_eq_true HXY.out]|rw [decide_eq_false HXY.out],by rw [NC.out];first|done|rfl|rw [decide_eq_true HYX.out]|rw [decide_eq_false HYX.out]⟩
                case measure=>simp [intOf]<;>omega
               | true=>
                have NA:=Lib.hid (show leB li lj (t+1)=false by rw [HA.out];first|rfl|(rw [decide_eq_true hxy];rfl)|(rw [decide_eq_false hxy];rfl))
                have NC:=Lib.hid (show leB lj li (t+1)=true by rw [HC.out];first|rfl|(rw [decide_eq_true hyx];rfl)|(rw [decide_eq_false hyx];rfl))
                have HXY:=Lib.hid hxy;have HYX:=Lib.hid hyx
                clear hxy hyx
                go_wp2_with fail
                go_quiet (fail)
                obtain⟨wt1,hwt1⟩:∃ wt1,wt1=wt.drewN nq:=⟨_,rfl⟩
                have Hbt1:=Lib.hid (show Below wt.heap.size wt wt1 from by rw [hwt1];exact below_drewN (Gr.refl wt) nq)
                replace c4:=(Hbt1.out.cell (World.block_lt_of_cell? _ _ c4)).trans c4
                replace c5:=(Hbt1.out.cell (World.block_lt_of_cell? _ _ c5)).trans c5
                replace xi:=(Hbt1.out.cell (World.block_lt_of_cell? _ _ xi)).trans xi
                replace xj:=(Hbt1.out.cell (World.block_lt_of_cell? _ _ xj)).trans xj
                rw [<-hwt1]
                clear hwt1
                rename_i nq
                go_wp2_with fail
                go_quiet (fail)
                go_wp2
                go_roundw
                case rel=>exact⟨t+1,by omega,by go_num,below_drewN (Gr.trans Hbt.out Hbt1.out) _,by rw [NA.out];first|done|rfl|rw [decide_eq_true HXY.out]|rw [decide_eq_false HXY.out],by rw [NC.out];first|done|rfl|rw [decide_eq_true HYX.out]|rw [decide_eq_false HYX.out]⟩
                case measure=>simp [intOf]<;>omega
              | true=>
               cases C with
               | false=>
                have NA:=Lib.hid (show leB li lj (t+1)=false by rw [HA.out];first|rfl|(rw [decide_eq_true hxy];rfl)|(rw [decide_eq_false hxy];rfl))
                have NC:=Lib.hid (show leB lj li (t+1)=false by rw [HC.out];first|rfl|(rw [decide_eq_true hyx];rfl)|(rw [decide_eq_false hyx];rfl))
                have HXY:=Lib.hid hxy;have HYX:=Lib.hid hyx
                clear hxy hyx
                go_wp2_with fail
                go_quiet (fail)
                obtain⟨wt1,hwt1⟩:∃ wt1,wt1=wt.drewN nq:=⟨_,rfl⟩
                have Hbt1:=Lib.hid (show Below wt.heap.size wt wt1 from by rw [hwt1];exact below_drewN (Gr.refl wt) nq)
                replace c4:=(Hbt1.out.cell (World.block_lt_of_cell? _ _ c4)).trans c4
                replace c5:=(Hbt1.out.cell (World.block_lt_of_cell? _ _ c5)).trans c5
                replace xi:=(Hbt1.out.cell (World.block_lt_of_cell? _ _ xi)).trans xi
                replace xj:=(Hbt1.out.cell (World.block_lt_of_cell? _ _ xj)).trans xj
                rw [<-hwt1]
                clear hwt1
                rename_i nq
                go_wp2_with fail
                go_quiet (fail)
                go_wp2
                go_roundw
                case rel=>exact⟨t+1,by omega,by go_num,below_drewN (Gr.trans Hbt.out Hbt1.out) _,by rw [NA.out];first|done|rfl|rw [decide_eq_true HXY.out]|rw [decide_eq_false HXY.out],by rw [NC.out];first|done|rfl|rw [decide_eq_true HYX.out]|rw [decide_eq_false HYX.out]⟩
                case measure=>simp [intOf]<;>omega
               | true=>
                have NA:=Lib.hid (show leB li lj (t+1)=false by rw [HA.out];first|rfl|(rw [decide_eq_true hxy];rfl)|(rw [decide_eq_false hxy];rfl))
                have NC:=Lib.hid (show leB lj li (t+1)=true by rw [HC.out];first|rfl|(rw [decide_eq_true hyx];rfl)|(rw [decide_eq_false hyx];rfl))
                have HXY:=Lib.hid hxy;have HYX:=Lib.hid hyx
                clear hxy hyx
                go_wp2_with fail
                go_quiet (fail)
                obtain⟨wt1,hwt1⟩:∃ wt1,wt1=wt.drewN nq:=⟨_,rfl⟩
                have Hbt1:=Lib.hid (show Below wt.heap.size wt wt1 from by rw [hwt1];exact below_drewN (Gr.refl wt) nq)
                replace c4:=(Hbt1.out.cell (World.block_lt_of_cell? _ _ c4)).trans c4
                replace c5:=(Hbt1.out.cell (World.block_lt_of_cell? _ _ c5)).trans c5
                replace xi:=(Hbt1.out.cell (World.block_lt_of_cell? _ _ xi)).trans xi
                replace xj:=(Hbt1.out.cell (World.block_lt_of_cell? _ _ xj)).trans xj
                rw [<-hwt1]
                clear hwt1
                rename_i nq
                go_wp2_with fail
                go_quiet (fail)
                go_wp2
                go_roundw
                case rel=>exact⟨t+1,by omega,by go_num,below_drewN (Gr.trans Hbt.out Hbt1.out) _,by rw [NA.out];first|done|rfl|rw [decide_eq_true HXY.out]|rw [decide_eq_false HXY.out],by rw [NC.out];first|done|rfl|rw [decide_eq_true HYX.out]|rw [decide_eq_false HYX.out]⟩
                case measure=>simp [intOf]<;>omega
            ·have t1:¬ (t:Int)<(ln:Int):=by omega
             obtain rfl:t=ln:=by omega
             have Hbt:=Lib.hid hbt
             have hAC:A=true∨C=true:=by
              rcases Hor.out with h9|h9
              ·exact .inl (by rw [hA];exact leB_all _ h9)
              ·exact .inr (by rw [hC];exact leB_all _ h9)
             clear hA hC hbt
             rcases hAC with rfl|rfl
             ·cases C <;>
              ·go_wp2
               go_roundw
               case rel=>exact⟨q+1,by omega,by go_num,Gr.trans Hb56.out Hbt.out⟩
               case measure=>simp [intOf]<;>omega
             ·cases A <;>
              ·go_wp2
               go_roundw
               case rel=>exact⟨q+1,by omega,by go_num,Gr.trans Hb56.out Hbt.out⟩
               case measure=>simp [intOf]<;>omega
         ·have q1:(kj != 1)=true:=by simp [hj1]
          clear x6 x2
          go_wp2
          go_roundw
          case rel=>exact⟨q+1,by omega,by go_num,Hb56.out⟩
          case measure=>simp [intOf]<;>omega
        ·have m1:¬ (q:Int)<(k:Int):=by omega
         have Hbq:=Lib.hid hbq
         clear hbq
         go_wp2
         go_roundw
         case rel=>exact⟨k+1,by omega,by go_num,Gr.trans Hb25.out Hbq.out⟩
         case measure=>simp [intOf]<;>omega
     ·have q1:(kd != 1)=true:=by simp [hk1]
      clear x6 k0 x2
      go_wp2
      go_roundw
      case rel=>exact⟨k+1,by omega,by go_num,Hb2.out⟩
      case measure=>simp [intOf]<;>omega
    ·have l1:¬ (k:Int)<(en:Int):=by omega
     have Hb:=Lib.hid hb
     clear hb b0 hbw
     go_wp2_with (go_at_call 22;refine(T.out _).mono ?_;rintro e w' ⟨rfl,hbs⟩)
     go_ret
     exact⟨rfl,Gr.trans Hb02.out (Gr.trans Hb.out hbs)⟩
end Go.Proofs.Ytlepjmnhekeofaa
