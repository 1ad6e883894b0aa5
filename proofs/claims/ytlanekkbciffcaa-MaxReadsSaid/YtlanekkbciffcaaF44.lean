/- The walk of MaxReads. -/
import Derived.Test.YtlanekkbciffcaaF30
import Derived.Test.YtlanekkbciffcaaF43
import Derived.Test.YtlanekkbciffcaaF24
import Derived.Test.YtlanekkbciffcaaF31
import Derived.Test.YtlanekkbciffcaaF16
set_option maxRecDepth 100000
set_option linter.unusedVariables false
set_option linter.unusedSimpArgs false
set_option linter.unnecessarySimpa false
namespace Go.Proofs.Ytlanekkbciffcaa
open Go.RowKit
set_option maxHeartbeats 16000000 in
theorem maxReads_any (q0 q1:Int) (calls:List CallD) (picks:List Int) (ca pa:Option Addr) (cc pc:Nat) (w:World) (hc:CallsAt noB w ca calls) (hp:PicksAt w pa picks) :
  Calls Try.prog 3 #[.agg #[.int .i64 q0,.int .i64 q1],.slice ca calls.length cc,.slice pa picks.length pc] w λe w'=>e=.returned (.bool true)/\Below w.heap.size w w':=by
 have hgb:Below w.heap.size w (w.alloc (.cells #[.int .i64 q0,.int .i64 q1] 22)):=(Gr.new _ _)
 have M:=many_any ca pa calls.length picks.length cc pc (w.alloc (.cells #[.int .i64 q0,.int .i64 q1] 22)) (hc.grown hgb).sl.1 hp.sl.1
 have T:=Lib.hid max_second
 cases hM:manyB calls.length picks.length with
 | true=>
  rw [hM] at M
  have HM:=Lib.hid M;have Hgb:=Lib.hid hgb
  clear M hc hp hM hgb
  go_enter Try.func3,Try.ntmps3
  go_wp2_with (first|(go_at_call 15;refine(HM.out).mono ?_;rintro e w' ⟨rfl,rfl⟩)|(go_at_call 16;refine(T.out _).mono ?_;rintro e w' ⟨rfl,hb⟩))
  go_ret
  exact⟨rfl,Gr.trans Hgb.out hb⟩
 | false=>
  rw [hM] at M
  have HM:=Lib.hid M
  have P:=maxPlay_any noB (w.alloc (.cells #[.int .i64 q0,.int .i64 q1] 22)) q0 q1 calls picks ca pa cc pc (λb hb=>hb.elim) (hc.grown hgb) (hp.grown hgb)
  obtain⟨er,her⟩:∃ er,er=mxCheck q0 q1 calls picks.length:=⟨_,rfl⟩
  rw [<-her] at P
  have HP:=Lib.hid P;have Her:=Lib.hid her;have Hc:=Lib.hid hc;have Hgb:=Lib.hid hgb
  have hcm:=hc.sl.1
  unfold maxLen at hcm
  clear M P hc hp hM her hgb
  by_cases her0:er=0
  ·have hck:mxCheck q0 q1 calls picks.length=0:=by rw [<-Her.out];exact her0
   obtain⟨hck0,hm1,hm2⟩:=mxCheck_zero hck
   obtain⟨z1,z2⟩:=n_ok hck0
   obtain⟨n,rfl⟩:∃ n:Nat,q0=(n:Int):=⟨q0.toNat,by omega⟩
   obtain⟨m,rfl⟩:∃ m:Nat,q1=(m:Int):=⟨q1.toNat,by omega⟩
   simp only [Int.toNat_natCast] at HP
   have hmp:0<m:=by omega
   have hnp:=np_ok hck0
   have q1:MxRep calls (playD (maxS m) () (List.replicate (mxSize m) 0) calls picks):=(mx_report hmp hck0 hnp).2.1
   have q2:(playD (maxS m) () (List.replicate (mxSize m) 0) calls picks).evs.length<=picks.length:=(mx_report hmp hck0 hnp).2.2
   subst her0
   obtain⟨rr,hrr⟩:∃ rr,rr=playD (maxS m) () (List.replicate (mxSize m) 0) calls picks:=⟨_,rfl⟩
   rw [<-hrr] at HP q1 q2
   have Hq1:=Lib.hid q1;have Hq2:=Lib.hid q2;have Hnp:=Lib.hid hnp
   clear hck hck0 hrr Her hnp q1 q2
   go_enter Try.func3,Try.ntmps3
   go_wp2_with (go_at_call 15;refine(HM.out).mono ?_;rintro e w' ⟨rfl,rfl⟩)
   refine HP.out.mono ?_
   rintro e w1 ⟨ea,en,ec,va,vn,vc,rp,rfl,hb1,hr⟩
   rcases hr with⟨h0,_⟩|⟨_,hrp,hen,hvn,ers,hrep⟩
   ·exact absurd rfl h0
   subst hrp
   obtain⟨w2,hw2⟩:∃ w2,w2=w1.alloc (.cells #[.slice ea en ec,.slice va vn vc,.int .i64 (rp.c.read:Int),.int .i64 (rp.c.write:Int),.int .i64 (rp.c.swap:Int),.int .i64 (rp.c.add:Int),.int .i64 (rp.c.fault:Int),.int .i64 (rp.ticks:Int),.int .i64 (rp.idle:Int)] 32):=⟨_,rfl⟩
   have hb2:Below w1.heap.size w1 w2:=by rw [hw2];exact Gr.new _ _
   have hin:RepIn w1 w2 w1.heap.size ea en ec va vn vc rp:=⟨Nat.le_refl _,by rw [hw2];exact heap_alloc_new _ _⟩
   have hb02:=Gr.trans Hgb.out (Gr.trans hb1 hb2)
   have hlt2:w1.heap.size<w2.heap.size:=blk_lt hin.blk
   have p0:w2.cell? ⟨w.heap.size,0,none⟩=some (.int .i64 (n:Int)):=((Gr.trans hb1 hb2).cell (p:=⟨w.heap.size,0,none⟩) (by simp)).trans (by rw [cell_blk (heap_alloc_new w _)];rfl)
   have p1:w2.cell? ⟨w.heap.size,1,none⟩=some (.int .i64 (m:Int)):=((Gr.trans hb1 hb2).cell (p:=⟨w.heap.size,1,none⟩) (by simp)).trans (by rw [cell_blk (heap_alloc_new w _)];rfl)
   have hlen:rp.evs.length<1000000:=by have:=Hq2.out;have:=Hnp.out;omega
   have henl:en<=1000000:=by omega
   have hrep2:=hrep.grown hb2
   have Hrep:=Lib.hid hrep2;have Hen:=Lib.hid hen;have Hin:=Lib.hid hin;have Hb02:=Lib.hid hb02;have Hw2:=Lib.hid hw2
   have hc2:=Hc.out.grown hb02
   have Hc2:=Lib.hid hc2
   have A0:=Lib.hid (hin.cell 0)
   have Hlt0:=Lib.hid hlt2
   have r0:w2.cell? ⟨w1.heap.size,0,none⟩=some (.slice ea en ec):=hin.cell 0
   clear hrep hrep2 hb1 hb2 hin hb02 hw2 hvn hen hc2 p0 p1 hlt2
   unfold repV
   go_upto_region 4 with fail
   rw [<-Hw2.out]
   go_wp2_with fail
   clear r0
   obtain⟨wa,hwa⟩:∃ wa,wa=w2:=⟨_,rfl⟩
   go_loopw [39] (λi wr=>∃ k:Nat,k<=en/\i=.int .i64 k/\Below w2.heap.size w2 wr) (λi _=>en - (intOf i).toNat)
   case atStart=>exact⟨0,Nat.zero_le _,rfl,Gr.refl _⟩
   case round=>
    obtain⟨k,hk,rfl,hb⟩:=hrel
    obtain⟨wo,rfl⟩:∃ wo,wo=wr:=⟨_,rfl⟩
    have b0:wo.cell? ⟨w1.heap.size,0,none⟩=some (.slice ea en ec):=(hb.cell Hlt0.out).trans A0.out
    have hbw:w1.heap.size<wo.heap.size:=Nat.lt_of_lt_of_le Hlt0.out hb.size
    by_cases hlt:k<en
    ·obtain⟨g,la,lc,ka,kc,rfl,hgl,e0,e1,e2,e3,e4,e5,e6,e7,hls,hks,hknil⟩:=Hrep.out.ev8 Hen.out hlt hb
     have hkl:k<rp.evs.length:=by rw [<-Hen.out];exact hlt
     have hcall:=Hq1.out.call k hkl
     have hge:=λj hj=>Hq1.out.ge k j hkl hj
     have hwas:=Hq1.out.was k hkl
     obtain⟨E,hE⟩:∃ E,E=evAt rp.evs k:=⟨_,rfl⟩
     rw [<-hE] at e0 e1 e2 e3 e4 e5 e6 e7 hcall hge hwas
     obtain⟨cI,iv,rs,st,⟨er,vl,li⟩,ky⟩:=E
     unfold objOf kindOf at hge hwas
     simp only at e0 e1 e2 e3 e4 e5 e6 e7 hcall hge hwas
     obtain⟨ln,hln⟩:∃ ln,ln=li.length:=⟨_,rfl⟩
     obtain⟨kn,hkn⟩:∃ kn,kn=ky.length:=⟨_,rfl⟩
     rw [<-hln] at e6
     rw [<-hkn] at e7
     obtain⟨b9,off,rfl,y0,y1,y2,y3,y4,y5⟩:=call_at Hc2.out.sl hcall hb
     have hb9:=World.block_lt_of_cell? _ _ y0
     obtain⟨C,hC⟩:∃ C,C=calls.getD cI Proofs.Ytlanekkbciffcaa.d0:=⟨_,rfl⟩
     rw [<-hC] at y0 y1 y2 y3 y4 y5 hge hwas
     obtain⟨th,ob,kd,ca1,cb1,cc1⟩:=C
     simp only at y0 y1 y2 y3 y4 y5 hge hwas hb9
     have l1:(k:Int)<(en:Int):=by omega
     have l2:(cI:Int)<(calls.length:Int):=by omega
     have l4:(0:Int)<=(cI:Int):=by omega
     have l6:¬ (cI:Int)<0:=by omega
     have l7:¬ (calls.length:Int)<=(cI:Int):=by omega
     have Hb:=Lib.hid hb
     clear hls hks hknil hE hC hb hcall hln hkn
     obtain⟨w4,hw4⟩:∃ w4,w4=wo.alloc (.cells #[.int .i64 (cI:Int),.int .i64 (iv:Int),.int .i64 (rs:Int),.int .i64 (st:Int),.int .i64 er,.int .u64 (vl:Int),.slice la ln lc,.slice ka kn kc] 41):=⟨_,rfl⟩
     have hb4:Below wo.heap.size wo w4:=by rw [hw4];exact Gr.new _ _
     have hx2:w4.heap[wo.heap.size]?=some (.cells #[.int .i64 (cI:Int),.int .i64 (iv:Int),.int .i64 (rs:Int),.int .i64 (st:Int),.int .i64 er,.int .u64 (vl:Int),.slice la ln lc,.slice ka kn kc] 41 (0,0)):=by rw [hw4];exact heap_alloc_new _ _
     have Hw4:=Lib.hid hw4;have Hb2:=Lib.hid (Gr.trans Hb.out hb4);have Hx2:=Lib.hid hx2
     have z0:w4.cell? ⟨w1.heap.size,0,none⟩=some (.slice (some ⟨g,0,none⟩) en ec):=(hb4.cell hbw).trans b0
     have B0:=Lib.hid z0
     have Hbw:=Lib.hid (Nat.lt_of_lt_of_le hbw hb4.size)
     have x0:w4.cell? ⟨wo.heap.size,0,none⟩=some (.int .i64 (cI:Int)):=by rw [cell_blk hx2];rfl
     have x1:w4.cell? ⟨wo.heap.size,1,none⟩=some (.int .i64 (iv:Int)):=by rw [cell_blk hx2];rfl
     have x2:w4.cell? ⟨wo.heap.size,2,none⟩=some (.int .i64 (rs:Int)):=by rw [cell_blk hx2];rfl
     have x5:w4.cell? ⟨wo.heap.size,5,none⟩=some (.int .u64 (vl:Int)):=by rw [cell_blk hx2];rfl
     have k1:=(hb4.cell hb9).trans y1
     have k2:=(hb4.cell (World.block_lt_of_cell? _ _ y2)).trans y2
     clear hw4 hb4 hx2
     go_upto_region 10 with fail
     rw [<-Hw4.out]
     clear e0 e1 e2 e3 e4 e5 e6 e7 y0 y1 y2 y3 y4 y5 b0 hbw hgl hb9
     by_cases ho:ob=0
     ·by_cases hk1:kd=1
      ·by_cases hr0:rs=0
       ·subst ho hk1 hr0
        clear hge hwas hkl
        go_wp2
        go_roundw
        case rel=>exact⟨k+1,by omega,by go_num,Hb2.out⟩
        case measure=>simp [intOf]<;>omega
       ·subst ho hk1
        have R1:=Lib.hid (λj hj=>hge j hj rfl rfl hr0)
        have R2:=Lib.hid (mxWas_true (hwas rfl rfl hr0))
        have hr1:¬ ((rs:Int)=0):=by omega
        have hr2:((rs:Int) == 0)=false:=by simpa using hr0
        clear hge hwas hr0 hkl
        have hW0:((vl:Int) == 0)=mxWas calls rp.evs vl rs 0:=by
         unfold mxWas
         rw [Bool.eq_iff_iff];simp
        go_upto_region 15 with fail
        try rw [hW0]
        clear z0 x0 x1 x2 x5 k1 k2 hW0
        go_loopw [11,85] (λbv i wq=>∃ q:Nat,q<=en/\i=.int .i64 q/\Below w4.heap.size w4 wq/\bv=.bool (mxWas calls rp.evs vl rs q)) (λ_ i _=>en - (intOf i).toNat)
        case atStart=>exact⟨0,Nat.zero_le _,rfl,Gr.refl _,rfl⟩
        case round=>
         obtain⟨q,hq,rfl,hbq,rfl⟩:=hrel
         obtain⟨wi,rfl⟩:∃ wi,wi=wr:=⟨_,rfl⟩
         obtain⟨W,hW⟩:∃ W,W=mxWas calls rp.evs vl rs q:=⟨_,rfl⟩
         rw [<-hW]
         have b0:wi.cell? ⟨w1.heap.size,0,none⟩=some (.slice (some ⟨g,0,none⟩) en ec):=(hbq.cell Hbw.out).trans B0.out
         have hbw:w1.heap.size<wi.heap.size:=Nat.lt_of_lt_of_le Hbw.out hbq.size
         have hx3:=(hbq.block _ (blk_lt Hx2.out)).trans Hx2.out
         have hxl:=blk_lt hx3
         have Hbq:=Lib.hid hbq
         by_cases hlq:q<en
         ·obtain⟨g',la1,lc1,ka1,kc1,hgg,hgl,e0,e1,e2,e3,e4,e5,e6,e7,hls,hks,hknil⟩:=Hrep.out.ev8 Hen.out hlq (Gr.trans Hb2.out hbq)
          cases hgg
          have hql:q<rp.evs.length:=by rw [<-Hen.out];exact hlq
          have hcall:=Hq1.out.call q hql
          have hval:=R1.out q hql
          have hcW:mxWas calls rp.evs vl rs (q+1)=(W || mxWasC calls rp.evs vl rs q):=by rw [hW];rfl
          unfold mxWasC at hcW
          obtain⟨E,hE⟩:∃ E,E=evAt rp.evs q:=⟨_,rfl⟩
          rw [<-hE] at e0 e1 e2 e3 e4 e5 e6 e7 hcall hval hcW
          obtain⟨cJ,jv,js,jt,⟨jr,jl,ji⟩,jy⟩:=E
          simp only at e0 e1 e2 e3 e4 e5 e6 e7 hcall hval hcW
          obtain⟨jln,hln⟩:∃ ln,ln=ji.length:=⟨_,rfl⟩
          obtain⟨jkn,hkn⟩:∃ kn,kn=jy.length:=⟨_,rfl⟩
          rw [<-hln] at e6
          rw [<-hkn] at e7
          obtain⟨b8,off8,hcc,y0,y1,y2,y3,y4,y5⟩:=call_at Hc2.out.sl hcall (Gr.trans Hb2.out hbq)
          cases hcc
          have hb9:=World.block_lt_of_cell? _ _ y1
          obtain⟨C,hC⟩:∃ C,C=calls.getD cJ Proofs.Ytlanekkbciffcaa.d0:=⟨_,rfl⟩
          rw [<-hC] at y0 y1 y2 y3 y4 y5 hval hcW
          obtain⟨th',ob,kd,ca',cb',cc'⟩:=C
          simp only at y0 y1 y2 y3 y4 y5 hval hb9 hcW
          have m1:(q:Int)<(en:Int):=by omega
          have m2:(cJ:Int)<(calls.length:Int):=by omega
          have m4:(0:Int)<=(cJ:Int):=by omega
          obtain⟨w3,hw3⟩:∃ w3,w3=wi.alloc (.cells #[.int .i64 (cJ:Int),.int .i64 (jv:Int),.int .i64 (js:Int),.int .i64 (jt:Int),.int .i64 jr,.int .u64 (jl:Int),.slice la1 jln lc1,.slice ka1 jkn kc1] 41):=⟨_,rfl⟩
          have hb3:Below wi.heap.size wi w3:=by rw [hw3];exact Gr.new _ _
          have hj3:w3.heap[wi.heap.size]?=some (.cells #[.int .i64 (cJ:Int),.int .i64 (jv:Int),.int .i64 (js:Int),.int .i64 (jt:Int),.int .i64 jr,.int .u64 (jl:Int),.slice la1 jln lc1,.slice ka1 jkn kc1] 41 (0,0)):=by rw [hw3];exact heap_alloc_new _ _
          have hx4:=(hb3.block _ hxl).trans hx3
          have j0:w3.cell? ⟨wi.heap.size,0,none⟩=some (.int .i64 (cJ:Int)):=by rw [cell_blk hj3];rfl
          have j4:w3.cell? ⟨wi.heap.size,4,none⟩=some (.int .i64 jr):=by rw [cell_blk hj3];rfl
          have c0:=(hb3.cell (World.block_lt_of_cell? _ _ y0)).trans y0
          have c1:=(hb3.cell (World.block_lt_of_cell? _ _ y1)).trans y1
          have c2:=(hb3.cell (World.block_lt_of_cell? _ _ y2)).trans y2
          have c3:=(hb3.cell (World.block_lt_of_cell? _ _ y3)).trans y3
          have c4:=(hb3.cell (World.block_lt_of_cell? _ _ y4)).trans y4
          have c5:=(hb3.cell (World.block_lt_of_cell? _ _ y5)).trans y5
          have m6:¬ (cJ:Int)<0:=by omega
          have m7:¬ (calls.length:Int)<=(cJ:Int):=by omega
          have Hb3:=Lib.hid (Gr.trans Hbq.out hb3);have Hw3:=Lib.hid hw3;have Hj3:=Lib.hid hj3;have Hx4:=Lib.hid hx4
          clear hls hks hknil hE hC hbq hcall hln hkn hW hql hw3 hj3 hx4 hx3 hb3
          go_upto_region 18 with fail
          rw [<-Hw3.out]
          clear e0 e1 e2 e3 e4 e5 e6 e7 b0 hbw hxl hgl hb9 y0 y1 y2 y3 y4 y5
          by_cases o0:ob=0
          ·by_cases r0:jr=0
           ·subst o0 r0
            obtain⟨w5,hw5⟩:∃ w5,w5=w3.alloc (.cells #[.int .i64 th',.int .i64 0,.int .i64 kd,.int .u64 (ca':Int),.int .u64 (cb':Int),.int .u64 (cc':Int)] 43):=⟨_,rfl⟩
            have hb5:Below w3.heap.size w3 w5:=by rw [hw5];exact Gr.new _ _
            have hc5:w5.heap[w3.heap.size]?=some (.cells #[.int .i64 th',.int .i64 0,.int .i64 kd,.int .u64 (ca':Int),.int .u64 (cb':Int),.int .u64 (cc':Int)] 43 (0,0)):=by rw [hw5];exact heap_alloc_new _ _
            have hj5:=(hb5.block _ (blk_lt Hj3.out)).trans Hj3.out
            have hx5:=(hb5.block _ (blk_lt Hx4.out)).trans Hx4.out
            have x1:w5.cell? ⟨wo.heap.size,1,none⟩=some (.int .i64 (iv:Int)):=by rw [cell_blk hx5];rfl
            have x2:w5.cell? ⟨wo.heap.size,2,none⟩=some (.int .i64 (rs:Int)):=by rw [cell_blk hx5];rfl
            have x5:w5.cell? ⟨wo.heap.size,5,none⟩=some (.int .u64 (vl:Int)):=by rw [cell_blk hx5];rfl
            have j1:w5.cell? ⟨wi.heap.size,1,none⟩=some (.int .i64 (jv:Int)):=by rw [cell_blk hj5];rfl
            have j2:w5.cell? ⟨wi.heap.size,2,none⟩=some (.int .i64 (js:Int)):=by rw [cell_blk hj5];rfl
            have j5:w5.cell? ⟨wi.heap.size,5,none⟩=some (.int .u64 (jl:Int)):=by rw [cell_blk hj5];rfl
            have k2:w5.cell? ⟨w3.heap.size,2,none⟩=some (.int .i64 kd):=by rw [cell_blk hc5];rfl
            have k3:w5.cell? ⟨w3.heap.size,3,none⟩=some (.int .u64 (ca':Int)):=by rw [cell_blk hc5];rfl
            have Hb5:=Lib.hid (Gr.trans Hb3.out hb5);have Hw5:=Lib.hid hw5
            clear hb5 hc5 hj5 hx5 hw5
            go_upto_region 20 with fail
            rw [<-Hw5.out]
            clear j0 j4 c0 c1 c2 c3 c4 c5
            by_cases s0:js=0
            ·subst s0
             by_cases k0:kd=0
             ·subst k0
              by_cases a0:ca'=vl
              ·subst a0
               by_cases f1:jv<rs
               ·have f2:(jv:Int)<(rs:Int):=by omega
                have nW:mxWas calls rp.evs ca' rs (q+1)=true:=by rw [hcW];simp [f1]
                have NW:=Lib.hid nW
                clear hcW nW hval
                cases W
                all_goals
                 as_aux_lemma=>
                  go_wp2
                  go_roundw
                  case rel=>exact⟨q+1,by omega,by go_num,Hb5.out,by rw [NW.out];first|done|rfl⟩
                  case measure=>simp [intOf]<;>omega
               ·have f2:¬ (jv:Int)<(rs:Int):=by omega
                have nW:mxWas calls rp.evs ca' rs (q+1)=W:=by rw [hcW];simp [f1]
                have NW:=Lib.hid nW
                clear hcW nW hval
                cases W
                all_goals
                 as_aux_lemma=>
                  go_wp2
                  go_roundw
                  case rel=>exact⟨q+1,by omega,by go_num,Hb5.out,by rw [NW.out];first|done|rfl⟩
                  case measure=>simp [intOf]<;>omega
              ·have a2:¬ ((ca':Int)=(vl:Int)):=by omega
               have a3:((ca':Int) ==(vl:Int))=false:=beq_eq_false_iff_ne.2 a2
               have nW:mxWas calls rp.evs vl rs (q+1)=W:=by rw [hcW];simp [a0]
               have NW:=Lib.hid nW
               clear hcW nW hval
               cases W
               all_goals
                as_aux_lemma=>
                 go_wp2
                 go_roundw
                 case rel=>exact⟨q+1,by omega,by go_num,Hb5.out,by rw [NW.out];first|done|rfl⟩
                 case measure=>simp [intOf]<;>omega
             ·have q2:(kd == 0)=false:=by simpa using k0
              by_cases k1:kd=1
              ·subst k1
               have nW:mxWas calls rp.evs vl rs (q+1)=W:=by rw [hcW];simp
               have NW:=Lib.hid nW
               clear hcW nW hval
               cases W
               all_goals
                as_aux_lemma=>
                 go_wp2
                 go_roundw
                 case rel=>exact⟨q+1,by omega,by go_num,Hb5.out,by rw [NW.out];first|done|rfl⟩
                 case measure=>simp [intOf]<;>omega
              ·have q3:(kd == 1)=false:=by simpa using k1
               have nW:mxWas calls rp.evs vl rs (q+1)=W:=by rw [hcW];simp [k0]
               have NW:=Lib.hid nW
               clear hcW nW hval
               cases W
               all_goals
                as_aux_lemma=>
                 go_wp2
                 go_roundw
                 case rel=>exact⟨q+1,by omega,by go_num,Hb5.out,by rw [NW.out];first|done|rfl⟩
                 case measure=>simp [intOf]<;>omega
            ·have s2:¬ ((js:Int)=0):=by omega
             have s9:((js:Int) != 0)=true:=by simpa using s0
             by_cases s1:js<iv
             ·have s3:(js:Int)<(iv:Int):=by omega
              by_cases k0:kd=0
              ·subst k0
               have hv:=(hval rfl rfl s0 s1).1 rfl
               have s4:¬ (vl:Int)<(ca':Int):=by omega
               by_cases a0:ca'=vl
               ·subst a0
                by_cases f1:jv<rs
                ·have f2:(jv:Int)<(rs:Int):=by omega
                 have nW:mxWas calls rp.evs ca' rs (q+1)=true:=by rw [hcW];simp [f1]
                 have NW:=Lib.hid nW
                 clear hcW nW hval
                 cases W
                 all_goals
                  as_aux_lemma=>
                   go_wp2
                   go_roundw
                   case rel=>exact⟨q+1,by omega,by go_num,Hb5.out,by rw [NW.out];first|done|rfl⟩
                   case measure=>simp [intOf]<;>omega
                ·have f2:¬ (jv:Int)<(rs:Int):=by omega
                 have nW:mxWas calls rp.evs ca' rs (q+1)=W:=by rw [hcW];simp [f1]
                 have NW:=Lib.hid nW
                 clear hcW nW hval
                 cases W
                 all_goals
                  as_aux_lemma=>
                   go_wp2
                   go_roundw
                   case rel=>exact⟨q+1,by omega,by go_num,Hb5.out,by rw [NW.out];first|done|rfl⟩
                   case measure=>simp [intOf]<;>omega
               ·have a2:¬ ((ca':Int)=(vl:Int)):=by omega
                have a3:((ca':Int) ==(vl:Int))=false:=beq_eq_false_iff_ne.2 a2
                have nW:mxWas calls rp.evs vl rs (q+1)=W:=by rw [hcW];simp [a0]
                have NW:=Lib.hid nW
                clear hcW nW hval
                cases W
                all_goals
                 as_aux_lemma=>
                  go_wp2
                  go_roundw
                  case rel=>exact⟨q+1,by omega,by go_num,Hb5.out,by rw [NW.out];first|done|rfl⟩
                  case measure=>simp [intOf]<;>omega
              ·have q2:(kd == 0)=false:=by simpa using k0
               by_cases k1:kd=1
               ·subst k1
                have hv:=(hval rfl rfl s0 s1).2 rfl
                have s4:¬ (vl:Int)<(jl:Int):=by omega
                have nW:mxWas calls rp.evs vl rs (q+1)=W:=by rw [hcW];simp
                have NW:=Lib.hid nW
                clear hcW nW hval
                cases W
                all_goals
                 as_aux_lemma=>
                  go_wp2
                  go_roundw
                  case rel=>exact⟨q+1,by omega,by go_num,Hb5.out,by rw [NW.out];first|done|rfl⟩
                  case measure=>simp [intOf]<;>omega
               ·have q3:(kd == 1)=false:=by simpa using k1
                have nW:mxWas calls rp.evs vl rs (q+1)=W:=by rw [hcW];simp [k0]
                have NW:=Lib.hid nW
                clear hcW nW hval
                cases W
                all_goals
                 as_aux_lemma=>
                  go_wp2
                  go_roundw
                  case rel=>exact⟨q+1,by omega,by go_num,Hb5.out,by rw [NW.out];first|done|rfl⟩
                  case measure=>simp [intOf]<;>omega
             ·have s3:¬ (js:Int)<(iv:Int):=by omega
              by_cases k0:kd=0
              ·subst k0
               by_cases a0:ca'=vl
               ·subst a0
                by_cases f1:jv<rs
                ·have f2:(jv:Int)<(rs:Int):=by omega
                 have nW:mxWas calls rp.evs ca' rs (q+1)=true:=by rw [hcW];simp [f1]
                 have NW:=Lib.hid nW
                 clear hcW nW hval
                 cases W
                 all_goals
                  as_aux_lemma=>
                   go_wp2
                   go_roundw
                   case rel=>exact⟨q+1,by omega,by go_num,Hb5.out,by rw [NW.out];first|done|rfl⟩
                   case measure=>simp [intOf]<;>omega
                ·have f2:¬ (jv:Int)<(rs:Int):=by omega
                 have nW:mxWas calls rp.evs ca' rs (q+1)=W:=by rw [hcW];simp [f1]
                 have NW:=Lib.hid nW
                 clear hcW nW hval
                 cases W
                 all_goals
                  as_aux_lemma=>
                   go_wp2
                   go_roundw
                   case rel=>exact⟨q+1,by omega,by go_num,Hb5.out,by rw [NW.out];first|done|rfl⟩
                   case measure=>simp [intOf]<;>omega
               ·have a2:¬ ((ca':Int)=(vl:Int)):=by omega
                have a3:((ca':Int) ==(vl:Int))=false:=beq_eq_false_iff_ne.2 a2
                have nW:mxWas calls rp.evs vl rs (q+1)=W:=by rw [hcW];simp [a0]
                have NW:=Lib.hid nW
                clear hcW nW hval
                cases W
                all_goals
                 as_aux_lemma=>
                  go_wp2
                  go_roundw
                  case rel=>exact⟨q+1,by omega,by go_num,Hb5.out,by rw [NW.out];first|done|rfl⟩
                  case measure=>simp [intOf]<;>omega
              ·have q2:(kd == 0)=false:=by simpa using k0
               by_cases k1:kd=1
               ·subst k1
                have nW:mxWas calls rp.evs vl rs (q+1)=W:=by rw [hcW];simp
                have NW:=Lib.hid nW
                clear hcW nW hval
                cases W
                all_goals
                 as_aux_lemma=>
                  go_wp2
                  go_roundw
                  case rel=>exact⟨q+1,by omega,by go_num,Hb5.out,by rw [NW.out];first|done|rfl⟩
                  case measure=>simp [intOf]<;>omega
               ·have q3:(kd == 1)=false:=by simpa using k1
                have nW:mxWas calls rp.evs vl rs (q+1)=W:=by rw [hcW];simp [k0]
                have NW:=Lib.hid nW
                clear hcW nW hval
                cases W
                all_goals
                 as_aux_lemma=>
                  go_wp2
                  go_roundw
                  case rel=>exact⟨q+1,by omega,by go_num,Hb5.out,by rw [NW.out];first|done|rfl⟩
                  case measure=>simp [intOf]<;>omega
           ·have q1:(jr != 0)=true:=by simp [r0]
            subst o0
            have nW:mxWas calls rp.evs vl rs (q+1)=W:=by rw [hcW];simp [r0]
            have NW:=Lib.hid nW
            clear hcW nW hval
            go_wp2
            go_roundw
            case rel=>exact⟨q+1,by omega,by go_num,Hb3.out,by rw [NW.out]⟩
            case measure=>simp [intOf]<;>omega
          ·have q1:(ob != 0)=true:=by simp [o0]
           have nW:mxWas calls rp.evs vl rs (q+1)=W:=by rw [hcW];simp [o0]
           have NW:=Lib.hid nW
           clear hcW nW hval
           go_wp2
           go_roundw
           case rel=>exact⟨q+1,by omega,by go_num,Hb3.out,by rw [NW.out]⟩
           case measure=>simp [intOf]<;>omega
         ·have m1:¬ (q:Int)<(en:Int):=by omega
          obtain rfl:q=en:=by omega
          have hWt:W=true:=by rw [hW];have h9:=R2.out;rw [<-Hen.out] at h9;exact h9
          subst hWt
          clear hW hbq hx3 b0
          go_wp2
          go_roundw
          case rel=>exact⟨k+1,by omega,by go_num,Gr.trans Hb2.out Hbq.out⟩
          case measure=>simp [intOf]<;>omega
      ·subst ho
       have q1:(kd != 1)=true:=by simp [hk1]
       clear hge hwas hkl
       go_wp2
       go_roundw
       case rel=>exact⟨k+1,by omega,by go_num,Hb2.out⟩
       case measure=>simp [intOf]<;>omega
     ·have q1:(ob != 0)=true:=by simp [ho]
      clear hge hwas hkl
      go_wp2
      go_roundw
      case rel=>exact⟨k+1,by omega,by go_num,Hb2.out⟩
      case measure=>simp [intOf]<;>omega
    ·have l1:¬ (k:Int)<(en:Int):=by omega
     have Hb:=Lib.hid hb
     clear hb b0 hbw
     go_wp2_with (go_at_call 16;refine(T.out _).mono ?_;rintro e w' ⟨rfl,hbs⟩)
     go_ret
     exact⟨rfl,Gr.trans Hb02.out (Gr.trans Hb.out hbs)⟩
  ·have hn0:¬ er=0:=her0
   have Hn0:=Lib.hid her0
   go_enter Try.func3,Try.ntmps3
   go_wp2_with (go_at_call 15;refine(HM.out).mono ?_;rintro e w' ⟨rfl,rfl⟩)
   refine HP.out.mono ?_
   rintro e w1 ⟨ea,en,ec,va,vn,vc,rp,rfl,hb1,hr⟩
   rcases hr with⟨_,rfl,rfl,rfl,rfl,rfl,rfl,rfl⟩|⟨h0,_⟩
   ·unfold repV
    have N:=Lib.hid none_true
    go_wp2_with (first|(go_at_call 18;refine(N.out _).mono ?_;rintro e w2 ⟨rfl,hb2⟩)|(go_at_call 16;refine(T.out _).mono ?_;rintro e w' ⟨rfl,hb⟩))
    go_ret
    exact⟨rfl,Gr.trans Hgb.out (Gr.trans hb1 (Gr.trans (Gr.new _ _) (Gr.trans hb2 hb)))⟩
   ·exact absurd h0 her0
end Go.Proofs.Ytlanekkbciffcaa
