/- The walk of PinWhole. -/
import Derived.Test.YtlepjmnhekeofaaP34
import Derived.Test.YtlepjmnhekeofaaP35
import Derived.Test.YtlepjmnhekeofaaP23
import Derived.Test.YtlepjmnhekeofaaP22
set_option maxRecDepth 100000
set_option linter.unusedVariables false
set_option linter.unusedSimpArgs false
set_option linter.unnecessarySimpa false
namespace Go.Proofs.Ytlepjmnhekeofaa
open Go.RowKit
set_option maxHeartbeats 16000000 in
theorem pinWhole_any (q0 q1:Int) (calls:List CallD) (picks:List Int) (ca pa:Option Addr) (cc pc:Nat) (w:World) (hc:CallsAt noB w ca calls) (hp:PicksAt w pa picks) :
  Calls Try.prog 5 #[.agg #[.int .i64 q0,.int .i64 q1],.slice ca calls.length cc,.slice pa picks.length pc] w λe w'=>e=.returned (.bool true)/\Below w.heap.size w w':=by
 have hgb:Below w.heap.size w (w.alloc (.cells #[.int .i64 q0,.int .i64 q1] 22)):=(Gr.new _ _)
 have M:=many_any ca pa calls.length picks.length cc pc (w.alloc (.cells #[.int .i64 q0,.int .i64 q1] 22)) (hc.grown hgb).sl.1 hp.sl.1
 have T:=Lib.hid pin_slow
 cases hM:manyB calls.length picks.length with
 | true=>
  rw [hM] at M
  have HM:=Lib.hid M;have Hgb:=Lib.hid hgb
  clear M hc hp hM hgb
  go_enter Try.func5,Try.ntmps5
  go_wp2_with (first|(go_at_call 13;refine(HM.out).mono ?_;rintro e w' ⟨rfl,rfl⟩)|(go_at_call 19;refine(T.out _).mono ?_;rintro e w' ⟨rfl,hb⟩))
  go_ret
  exact⟨rfl,Gr.trans Hgb.out hb⟩
 | false=>
  rw [hM] at M
  have HM:=Lib.hid M
  have P:=pinPlay_safe noB (w.alloc (.cells #[.int .i64 q0,.int .i64 q1] 22)) q0 q1 calls picks ca pa cc pc (λb hb=>hb.elim) (hc.grown hgb) (hp.grown hgb)
  obtain⟨er,her⟩:∃ er,er=piCheck q0 q1 calls picks.length:=⟨_,rfl⟩
  rw [<-her] at P
  have HP:=Lib.hid P;have Her:=Lib.hid her;have Hc:=Lib.hid hc;have Hgb:=Lib.hid hgb
  have hcm:=hc.sl.1
  unfold maxLen at hcm
  clear M P hc hp hM her hgb
  by_cases her0:er=0
  ·have hck:piCheck q0 q1 calls picks.length=0:=by rw [<-Her.out];exact her0
   obtain⟨hck0,hm1,hm2⟩:=piCheck_zero hck
   obtain⟨z1,z2⟩:=n_ok hck0
   obtain⟨n,rfl⟩:∃ n:Nat,q0=(n:Int):=⟨q0.toNat,by omega⟩
   obtain⟨m,rfl⟩:∃ m:Nat,q1=(m:Int):=⟨q1.toNat,by omega⟩
   simp only [Int.toNat_natCast] at HP
   have hmp:0<m:=by omega
   have hnp:=np_ok hck0
   have q1:PinGood n m calls (playD (pinS n m) (pinO0 n) (List.replicate (1+(n+1)*(m+1)) 0) calls picks).evs:=(pi_report hmp (by omega) hck0).2
   have q2:(playD (pinS n m) (pinO0 n) (List.replicate (1+(n+1)*(m+1)) 0) calls picks).evs.length<=picks.length:=(pi_report hmp (by omega) hck0).1
   subst her0
   obtain⟨rr,hrr⟩:∃ rr,rr=playD (pinS n m) (pinO0 n) (List.replicate (1+(n+1)*(m+1)) 0) calls picks:=⟨_,rfl⟩
   rw [<-hrr] at HP q1 q2
   have Hq1:=Lib.hid q1;have Hq2:=Lib.hid q2;have Hnp:=Lib.hid hnp
   clear hck hck0 hrr Her hnp q1 q2
   go_enter Try.func5,Try.ntmps5
   go_wp2_with (go_at_call 13;refine(HM.out).mono ?_;rintro e w' ⟨rfl,rfl⟩)
   refine HP.out.mono ?_
   rintro e w1 ⟨ea,en,ec,va,vn,vc,rp,rfl,hb1,hr⟩
   rcases hr with⟨h0,_⟩|⟨_,hrp,hen,hvn,ers,hrep⟩
   ·exact absurd rfl h0
   subst hrp
   obtain⟨w2,hw2⟩:∃ w2,w2=w1.alloc (.cells #[.slice ea en ec,.slice va vn vc,.int .i64 (rp.c.read:Int),.int .i64 (rp.c.write:Int),.int .i64 (rp.c.swap:Int),.int .i64 (rp.c.add:Int),.int .i64 (rp.c.fault:Int),.int .i64 (rp.ticks:Int),.int .i64 (rp.idle:Int)] 32):=⟨_,rfl⟩
   have hb2:Below w1.heap.size w1 w2:=by rw [hw2];exact Gr.new _ _
   have hin:RepIn w1 w2 w1.heap.size ea en ec va vn vc rp:=⟨Nat.le_refl _,by rw [hw2];exact heap_alloc_new _ _⟩
   have hb02:=Gr.trans Hgb.out (Gr.trans hb1 hb2)
   have hlt2:w1.heap.size<w2.heap.size:=blk_lt hin.blk
   have p0:w2.cell? ⟨w.heap.size,0,none⟩=some (.int .i64 (n:Int)):=((Gr.trans hb1 hb2).cell (p:=⟨w.heap.size,0,none⟩) (by simp)).trans (by rw [cell_blk (heap_alloc_new w _)];rfl)
   have p1:w2.cell? ⟨w.heap.size,1,none⟩=some (.int .i64 (m:Int)):=((Gr.trans hb1 hb2).cell (p:=⟨w.heap.size,1,none⟩) (by simp)).trans (by rw [cell_blk (heap_alloc_new w _)];rfl)
   have hlen:rp.evs.length<1000000:=by have:=Hq2.out;have:=Hnp.out;omega
   have henl:en<=1000000:=by omega
   have hrep2:=hrep.grown hb2
   have Hrep:=Lib.hid hrep2;have Hen:=Lib.hid hen;have Hin:=Lib.hid hin;have Hb02:=Lib.hid hb02;have Hw2:=Lib.hid hw2
   have hc2:=Hc.out.grown hb02
   have Hc2:=Lib.hid hc2
   have A0:=Lib.hid (hin.cell 0)
   have Hlt0:=Lib.hid hlt2
   have P0:=Lib.hid p0;have P1:=Lib.hid p1
   have Lw:=Lib.hid (show w.heap.size<w2.heap.size from World.block_lt_of_cell? _ _ p0)
   have r0:w2.cell? ⟨w1.heap.size,0,none⟩=some (.slice ea en ec):=hin.cell 0
   clear hrep hrep2 hb1 hb2 hin hb02 hw2 hvn hen hc2 p0 p1 hlt2
   unfold repV
   go_upto_region 4 with fail
   rw [<-Hw2.out]
   go_wp2_with fail
   clear r0
   obtain⟨wa,hwa⟩:∃ wa,wa=w2:=⟨_,rfl⟩
   go_loopw [41] (λi wr=>∃ k:Nat,k<=en/\i=.int .i64 k/\Below w2.heap.size w2 wr) (λi _=>en - (intOf i).toNat)
   case atStart=>exact⟨0,Nat.zero_le _,rfl,Gr.refl _⟩
   case round=>
    obtain⟨k,hk,rfl,hb⟩:=hrel
    obtain⟨wo,rfl⟩:∃ wo,wo=wr:=⟨_,rfl⟩
    have b0:wo.cell? ⟨w1.heap.size,0,none⟩=some (.slice ea en ec):=(hb.cell Hlt0.out).trans A0.out
    have hbw:w1.heap.size<wo.heap.size:=Nat.lt_of_lt_of_le Hlt0.out hb.size
    by_cases hlt:k<en
    ·obtain⟨g,la,lc,ka,kc,rfl,hgl,e0,e1,e2,e3,e4,e5,e6,e7,hls,hks,hknil⟩:=Hrep.out.ev8 Hen.out hlt hb
     have hkl:k<rp.evs.length:=by rw [<-Hen.out];exact hlt
     have hcall:=Hq1.out.call k hkl
     have hX1:=Hq1.out.steps k hkl
     have hX2:=Hq1.out.list k hkl
     obtain⟨E,hE⟩:∃ E,E=evAt rp.evs k:=⟨_,rfl⟩
     rw [<-hE] at e0 e1 e2 e3 e4 e5 e6 e7 hcall hX1 hX2 hls
     obtain⟨cI,iv,rs,st,⟨er,vl,li⟩,ky⟩:=E
     unfold kindOf at hX1 hX2
     unfold objOf at hX2
     simp only at e0 e1 e2 e3 e4 e5 e6 e7 hcall hX1 hX2 hls
     obtain⟨ln,hln⟩:∃ ln,ln=li.length:=⟨_,rfl⟩
     obtain⟨kn,hkn⟩:∃ kn,kn=ky.length:=⟨_,rfl⟩
     rw [<-hln] at e6
     rw [<-hkn] at e7
     obtain⟨b9,off,rfl,y0,y1,y2,y3,y4,y5⟩:=call_at Hc2.out.sl hcall hb
     have hb9:=World.block_lt_of_cell? _ _ y0
     obtain⟨C,hC⟩:∃ C,C=calls.getD cI Proofs.Ytlepjmnhekeofaa.d0:=⟨_,rfl⟩
     rw [<-hC] at y0 y1 y2 y3 y4 y5 hX1 hX2
     obtain⟨th,ob,kd,ca1,cb1,cc1⟩:=C
     simp only at y0 y1 y2 y3 y4 y5 hX1 hX2 hb9
     have l1:(k:Int)<(en:Int):=by omega
     have l2:(cI:Int)<(calls.length:Int):=by omega
     have l4:(0:Int)<=(cI:Int):=by omega
     have l6:¬ (cI:Int)<0:=by omega
     have l7:¬ (calls.length:Int)<=(cI:Int):=by omega
     have Hb:=Lib.hid hb
     have CA:=Lib.hid (show ∀ c,c<calls.length->(calls.getD c Proofs.Ytlepjmnhekeofaa.d0).a<18446744073709551616 from λc hc=>by rw [List.getD_eq_getElem?_getD,List.getElem?_eq_getElem hc];exact(Hc2.out.ok _ (List.getElem_mem hc)).a)
     have Hls:=Lib.hid hls
     have HX2:=Lib.hid hX2
     clear hX1 hX2 hls
     clear hks hknil hE hC hb hcall hkn
     obtain⟨w4,hw4⟩:∃ w4,w4=wo.alloc (.cells #[.int .i64 (cI:Int),.int .i64 (iv:Int),.int .i64 (rs:Int),.int .i64 (st:Int),.int .i64 er,.int .u64 (vl:Int),.slice la ln lc,.slice ka kn kc] 44):=⟨_,rfl⟩
     have hb4:Below wo.heap.size wo w4:=by rw [hw4];exact Gr.new _ _
     have hx2:w4.heap[wo.heap.size]?=some (.cells #[.int .i64 (cI:Int),.int .i64 (iv:Int),.int .i64 (rs:Int),.int .i64 (st:Int),.int .i64 er,.int .u64 (vl:Int),.slice la ln lc,.slice ka kn kc] 44 (0,0)):=by rw [hw4];exact heap_alloc_new _ _
     have Hw4:=Lib.hid hw4;have Hb2:=Lib.hid (Gr.trans Hb.out hb4);have Hx2:=Lib.hid hx2
     have z0:w4.cell? ⟨w1.heap.size,0,none⟩=some (.slice (some ⟨g,0,none⟩) en ec):=(hb4.cell hbw).trans b0
     have x0:w4.cell? ⟨wo.heap.size,0,none⟩=some (.int .i64 (cI:Int)):=by rw [cell_blk hx2];rfl
     have x2:w4.cell? ⟨wo.heap.size,2,none⟩=some (.int .i64 (rs:Int)):=by rw [cell_blk hx2];rfl
     have x6:w4.cell? ⟨wo.heap.size,6,none⟩=some (.slice la ln lc):=by rw [cell_blk hx2];rfl
     have k1:=(hb4.cell (World.block_lt_of_cell? _ _ y1)).trans y1
     have k2:=(hb4.cell (World.block_lt_of_cell? _ _ y2)).trans y2
     have s1:=(Hb2.out.cell Lw.out).trans P1.out
     have Z0:=Lib.hid z0
     have Hln:=Lib.hid hln
     have Hb4:=Lib.hid hb4
     have lclen:=Hc2.out.sl.1
     unfold maxLen at lclen
     clear hw4 hb4 hx2 hln
     go_upto_region 10 with fail
     rw [<-Hw4.out]
     clear e0 e1 e2 e3 e4 e5 e6 e7 y0 y1 y2 y3 y4 y5 b0 hbw hgl hb9 z0
     by_cases ho:ob=0
     ·by_cases hk1:kd=1
      ·by_cases hr0:rs=0
       ·subst ho hk1 hr0
        go_wp2
        go_roundw
        case rel=>exact⟨k+1,by omega,by go_num,Hb2.out⟩
        case measure=>simp [intOf]<;>omega
       ·subst ho hk1
        obtain⟨hX,hG⟩:=HX2.out hr0 rfl rfl
        have hr1:¬ ((rs:Int)=0):=by omega
        have hr2:((rs:Int) == 0)=false:=by simpa using hr0
        have hlm:ln=m:=by rw [Hln.out];exact hX
        subst hlm
        have Was:=Lib.hid (pi_written hmp CA.out hG)
        have LS:=Lib.hid (show SlAt w4 la ln 1 (u64G li) from by rw [Hln.out];exact Hls.out.grown Hb4.out)
        have hm8:ln<=8:=by omega
        clear hr0 hX hG
        go_upto_region 18 with fail
        clear x0 x2 x6 k1 k2 s1
        go_loopw [12,13,90] (λa b i wq=>∃ q:Nat,q<=ln/\i=.int .i64 q/\Below w4.heap.size w4 wq/\a=.bool (piNou li q)/\b=.bool (piRis li q)) (λ_ _ i _=>ln - (intOf i).toNat)
        case atStart=>exact⟨0,Nat.zero_le _,rfl,Gr.refl _,rfl,rfl⟩
        case round=>
         obtain⟨q,hq,rfl,hbq,rfl,rfl⟩:=hrel
         obtain⟨wi,rfl⟩:∃ wi,wi=wr:=⟨_,rfl⟩
         obtain⟨NQ,hNQ⟩:∃ N,N=piNou li q:=⟨_,rfl⟩
         obtain⟨RQ,hRQ⟩:∃ N,N=piRis li q:=⟨_,rfl⟩
         rw [<-hNQ,<-hRQ]
         by_cases hlq:q<ln
         ·obtain⟨lb,lo,rfl,h4⟩:=LS.out.elem hbq hlq
          obtain⟨lb2,lo2,hlb,h5⟩:=LS.out.elem hbq (show 0<ln by omega)
          cases hlb
          obtain⟨x,hx⟩:∃ x,x=li.getD q 0:=⟨_,rfl⟩
          obtain⟨x9,hx9⟩:∃ x,x=li.getD 0 0:=⟨_,rfl⟩
          have c4:wi.cell? ⟨lb,lo+q,none⟩=some (.int .u64 (x:Int)):=by have h0:=h4 0 (by omega);rw [Nat.mul_one,Nat.add_zero] at h0;rw [h0,hx];rfl
          have c5:wi.cell? ⟨lb,lo,none⟩=some (.int .u64 (x9:Int)):=by have h0:wi.cell? ⟨lb,lo,none⟩=_:=h5 0 (by omega);rw [h0,hx9];rfl
          obtain⟨s,hs⟩:∃ s,s=(x9+q) % 18446744073709551616:=⟨_,rfl⟩
          have w1':IntKind.u64.wrap (q:Int)=(q:Int):=by rw [IntKind.wrap_u64];omega
          have w2':IntKind.u64.wrap ((x9:Int)+(q:Int))=(s:Int):=by rw [IntKind.wrap_u64];omega
          have hN':piNou li (q+1)=(NQ && decide (x=0)):=by rw [hNQ,hx];rfl
          have hR':piRis li (q+1)=(RQ && decide (x=s)):=by rw [hRQ,hx,hs,hx9];rfl
          have m1:(q:Int)<(ln:Int):=by omega
          have Hbq:=Lib.hid hbq
          have HN:=Lib.hid hN';have HR:=Lib.hid hR'
          clear h4 h5 hs hx hx9 hNQ hRQ hN' hR' hbq
          cases NQ with
          | false=>
           cases RQ with
           | false=>
            have nN:piNou li (q+1)=false:=by rw [HN.out];first|rfl|(rw [decide_eq_true hx0];rfl)|(rw [decide_eq_false hx0];rfl)|(rw [decide_eq_true hxs];rfl)|(rw [decide_eq_false hxs];rfl)
            have nR:piRis li (q+1)=false:=by rw [HR.out];first|rfl|(rw [decide_eq_true hx0];rfl)|(rw [decide_eq_false hx0];rfl)|(rw [decide_eq_true hxs];rfl)|(rw [decide_eq_false hxs];rfl)
            have NN:=Lib.hid nN;have NR:=Lib.hid nR
            clear nN nR
            try clear hx0
            try clear hxs
            go_wp2_with fail
            go_quiet (fail)
            go_wp2
            go_roundw
            case rel=>exact⟨q+1,by omega,by go_num,below_drewN Hbq.out _,by rw [NN.out];first|done|rfl,by rw [NR.out];first|done|rfl⟩
            case measure=>simp [intOf]<;>omega
           | true=>
            by_cases hxs:x=s
            ·have t2:((x:Int) ==(s:Int))=true:=by rw [beq_iff_eq];omega
             have nN:piNou li (q+1)=false:=by rw [HN.out];first|rfl|(rw [decide_eq_true hx0];rfl)|(rw [decide_eq_false hx0];rfl)|(rw [decide_eq_true hxs];rfl)|(rw [decide_eq_false hxs];rfl)
             have nR:piRis li (q+1)=true:=by rw [HR.out];first|rfl|(rw [decide_eq_true hx0];rfl)|(rw [decide_eq_false hx0];rfl)|(rw [decide_eq_true hxs];rfl)|(rw [decide_eq_false hxs];rfl)
             have NN:=Lib.hid nN;have NR:=Lib.hid nR
             clear nN nR
             try clear hx0
             try clear hxs
             go_wp2_with fail
             go_quiet (fail)
             go_wp2
             go_roundw
             case rel=>exact⟨q+1,by omega,by go_num,below_drewN Hbq.out _,by rw [NN.out];first|done|rfl,by rw [NR.out];first|done|rfl⟩
             case measure=>simp [intOf]<;>omega
            ·have t2:((x:Int) ==(s:Int))=false:=by rw [beq_eq_false_iff_ne];exact λh=>hxs (by omega)
             have nN:piNou li (q+1)=false:=by rw [HN.out];first|rfl|(rw [decide_eq_true hx0];rfl)|(rw [decide_eq_false hx0];rfl)|(rw [decide_eq_true hxs];rfl)|(rw [decide_eq_false hxs];rfl)
             have nR:piRis li (q+1)=false:=by rw [HR.out];first|rfl|(rw [decide_eq_true hx0];rfl)|(rw [decide_eq_false hx0];rfl)|(rw [decide_eq_true hxs];rfl)|(rw [decide_eq_false hxs];rfl)
             have NN:=Lib.hid nN;have NR:=Lib.hid nR
             clear nN nR
             try clear hx0
             try clear hxs
             go_wp2_with fail
             go_quiet (fail)
             go_wp2
             go_roundw
             case rel=>exact⟨q+1,by omega,by go_num,below_drewN Hbq.out _,by rw [NN.out];first|done|rfl,by rw [NR.out];first|done|rfl⟩
             case measure=>simp [intOf]<;>omega
          | true=>
           by_cases hx0:x=0
           ·have t1:((x:Int) == 0)=true:=by simpa using hx0
            cases RQ with
            | false=>
             have nN:piNou li (q+1)=true:=by rw [HN.out];first|rfl|(rw [decide_eq_true hx0];rfl)|(rw [decide_eq_false hx0];rfl)|(rw [decide_eq_true hxs];rfl)|(rw [decide_eq_false hxs];rfl)
             have nR:piRis li (q+1)=false:=by rw [HR.out];first|rfl|(rw [decide_eq_true hx0];rfl)|(rw [decide_eq_false hx0];rfl)|(rw [decide_eq_true hxs];rfl)|(rw [decide_eq_false hxs];rfl)
             have NN:=Lib.hid nN;have NR:=Lib.hid nR
             clear nN nR
             try clear hx0
             try clear hxs
             go_wp2_with fail
             go_quiet (fail)
             go_wp2
             go_roundw
             case rel=>exact⟨q+1,by omega,by go_num,below_drewN Hbq.out _,by rw [NN.out];first|done|rfl,by rw [NR.out];first|done|rfl⟩
             case measure=>simp [intOf]<;>omega
            | true=>
             by_cases hxs:x=s
             ·have t2:((x:Int) ==(s:Int))=true:=by rw [beq_iff_eq];omega
              have nN:piNou li (q+1)=true:=by rw [HN.out];first|rfl|(rw [decide_eq_true hx0];rfl)|(rw [decide_eq_false hx0];rfl)|(rw [decide_eq_true hxs];rfl)|(rw [decide_eq_false hxs];rfl)
              have nR:piRis li (q+1)=true:=by rw [HR.out];first|rfl|(rw [decide_eq_true hx0];rfl)|(rw [decide_eq_false hx0];rfl)|(rw [decide_eq_true hxs];rfl)|(rw [decide_eq_false hxs];rfl)
              have NN:=Lib.hid nN;have NR:=Lib.hid nR
              clear nN nR
              try clear hx0
              try clear hxs
              go_wp2_with fail
              go_quiet (fail)
              go_wp2
              go_roundw
              case rel=>exact⟨q+1,by omega,by go_num,below_drewN Hbq.out _,by rw [NN.out];first|done|rfl,by rw [NR.out];first|done|rfl⟩
              case measure=>simp [intOf]<;>omega
             ·have t2:((x:Int) ==(s:Int))=false:=by rw [beq_eq_false_iff_ne];exact λh=>hxs (by omega)
              have nN:piNou li (q+1)=true:=by rw [HN.out];first|rfl|(rw [decide_eq_true hx0];rfl)|(rw [decide_eq_false hx0];rfl)|(rw [decide_eq_true hxs];rfl)|(rw [decide_eq_false hxs];rfl)
              have nR:piRis li (q+1)=false:=by rw [HR.out];first|rfl|(rw [decide_eq_true hx0];rfl)|(rw [decide_eq_false hx0];rfl)|(rw [decide_eq_true hxs];rfl)|(rw [decide_eq_false hxs];rfl)
              have NN:=Lib.hid nN;have NR:=Lib.hid nR
              clear nN nR
              try clear hx0
              try clear hxs
              go_wp2_with fail
              go_quiet (fail)
              go_wp2
              go_roundw
              case rel=>exact⟨q+1,by omega,by go_num,below_drewN Hbq.out _,by rw [NN.out];first|done|rfl,by rw [NR.out];first|done|rfl⟩
              case measure=>simp [intOf]<;>omega
           ·have t1:((x:Int) == 0)=false:=by rw [beq_eq_false_iff_ne];exact λh=>hx0 (by omega)
            cases RQ with
            | false=>
             have nN:piNou li (q+1)=false:=by rw [HN.out];first|rfl|(rw [decide_eq_true hx0];rfl)|(rw [decide_eq_false hx0];rfl)|(rw [decide_eq_true hxs];rfl)|(rw [decide_eq_false hxs];rfl)
             have nR:piRis li (q+1)=false:=by rw [HR.out];first|rfl|(rw [decide_eq_true hx0];rfl)|(rw [decide_eq_false hx0];rfl)|(rw [decide_eq_true hxs];rfl)|(rw [decide_eq_false hxs];rfl)
             have NN:=Lib.hid nN;have NR:=Lib.hid nR
             clear nN nR
             try clear hx0
             try clear hxs
             go_wp2_with fail
             go_quiet (fail)
             go_wp2
             go_roundw
             case rel=>exact⟨q+1,by omega,by go_num,below_drewN Hbq.out _,by rw [NN.out];first|done|rfl,by rw [NR.out];first|done|rfl⟩
             case measure=>simp [intOf]<;>omega
            | true=>
             by_cases hxs:x=s
             ·have t2:((x:Int) ==(s:Int))=true:=by rw [beq_iff_eq];omega
              have nN:piNou li (q+1)=false:=by rw [HN.out];first|rfl|(rw [decide_eq_true hx0];rfl)|(rw [decide_eq_false hx0];rfl)|(rw [decide_eq_true hxs];rfl)|(rw [decide_eq_false hxs];rfl)
              have nR:piRis li (q+1)=true:=by rw [HR.out];first|rfl|(rw [decide_eq_true hx0];rfl)|(rw [decide_eq_false hx0];rfl)|(rw [decide_eq_true hxs];rfl)|(rw [decide_eq_false hxs];rfl)
              have NN:=Lib.hid nN;have NR:=Lib.hid nR
              clear nN nR
              try clear hx0
              try clear hxs
              go_wp2_with fail
              go_quiet (fail)
              go_wp2
              go_roundw
              case rel=>exact⟨q+1,by omega,by go_num,below_drewN Hbq.out _,by rw [NN.out];first|done|rfl,by rw [NR.out];first|done|rfl⟩
              case measure=>simp [intOf]<;>omega
             ·have t2:((x:Int) ==(s:Int))=false:=by rw [beq_eq_false_iff_ne];exact λh=>hxs (by omega)
              have nN:piNou li (q+1)=false:=by rw [HN.out];first|rfl|(rw [decide_eq_true hx0];rfl)|(rw [decide_eq_false hx0];rfl)|(rw [decide_eq_true hxs];rfl)|(rw [decide_eq_false hxs];rfl)
              have nR:piRis li (q+1)=false:=by rw [HR.out];first|rfl|(rw [decide_eq_true hx0];rfl)|(rw [decide_eq_false hx0];rfl)|(rw [decide_eq_true hxs];rfl)|(rw [decide_eq_false hxs];rfl)
              have NN:=Lib.hid nN;have NR:=Lib.hid nR
              clear nN nR
              try clear hx0
              try clear hxs
              go_wp2_with fail
              go_quiet (fail)
              go_wp2
              go_roundw
              case rel=>exact⟨q+1,by omega,by go_num,below_drewN Hbq.out _,by rw [NN.out];first|done|rfl,by rw [NR.out];first|done|rfl⟩
              case measure=>simp [intOf]<;>omega
         ·have m1:¬ (q:Int)<(ln:Int):=by omega
          obtain rfl:q=ln:=by omega
          have Hbq:=Lib.hid hbq
          have Was2:=Lib.hid (show piWas calls NQ RQ (li.getD 0 0) calls.length=true from by rw [hNQ,hRQ];exact Was.out)
          obtain⟨x9,hx9⟩:∃ x,x=li.getD 0 0:=⟨_,rfl⟩
          have Hx9:=Lib.hid hx9
          have HW0:=Lib.hid (show NQ=piWas calls NQ RQ x9 0 from rfl)
          clear hNQ hRQ hbq hx9
          go_upto_region 25 with fail
          go_loopw [15,119] (λbv i wq=>∃ j:Nat,j<=calls.length/\i=.int .i64 j/\Below w4.heap.size w4 wq/\bv=.bool (piWas calls NQ RQ x9 j)) (λ_ i _=>calls.length - (intOf i).toNat)
          case atStart=>exact⟨0,Nat.zero_le _,rfl,Hbq.out,rfl⟩
          case round=>
           obtain⟨j,hj,rfl,hbj,rfl⟩:=hrel
           obtain⟨wj,rfl⟩:∃ wj,wj=wr:=⟨_,rfl⟩
           obtain⟨W,hW⟩:∃ W,W=piWas calls NQ RQ x9 j:=⟨_,rfl⟩
           rw [<-hW]
           by_cases hlj:j<calls.length
           ·obtain⟨lb2,lo2,rfl,h5⟩:=LS.out.elem hbj (show 0<q by omega)
            have c5:wj.cell? ⟨lb2,lo2,none⟩=some (.int .u64 (x9:Int)):=by have h0:wj.cell? ⟨lb2,lo2,none⟩=_:=h5 0 (by omega);rw [h0,Hx9.out];rfl
            obtain⟨b8,off8,hcc,y0,y1,y2,y3,y4,y5⟩:=call_at Hc2.out.sl hlj (Gr.trans Hb2.out hbj)
            cases hcc
            have hcW:piWas calls NQ RQ x9 (j+1)=(W || RQ && piWasC calls x9 j):=by rw [hW];rfl
            unfold piWasC at hcW
            obtain⟨C,hC⟩:∃ C,C=calls.getD j Proofs.Ytlepjmnhekeofaa.d0:=⟨_,rfl⟩
            rw [<-hC] at y0 y1 y2 y3 y4 y5 hcW
            obtain⟨th,ob,kd,ca',cb',cc'⟩:=C
            simp only at y0 y1 y2 y3 y4 y5 hcW
            have m1:(j:Int)<(calls.length:Int):=by omega
            have Hbj:=Lib.hid hbj
            have HcW:=Lib.hid hcW
            clear hcW hW hC hbj h5
            cases W with
            | true=>
             have nW:piWas calls NQ RQ x9 (j+1)=true:=by rw [HcW.out];first|rfl|simp [a4]|simp [a3]|simp [a2]|simp [a1]|simp
             have NW:=Lib.hid nW
             clear nW
             go_wp2_with fail
             go_quiet (fail)
             go_wp2
             go_roundw
             case rel=>exact⟨j+1,by omega,by go_num,below_drewN Hbj.out _,by rw [NW.out];first|done|rfl⟩
             case measure=>simp [intOf]<;>omega
            | false=>
             cases RQ with
             | false=>
              have nW:piWas calls NQ false x9 (j+1)=false:=by rw [HcW.out];first|rfl|simp [a4]|simp [a3]|simp [a2]|simp [a1]|simp
              have NW:=Lib.hid nW
              clear nW
              go_wp2_with fail
              go_quiet (fail)
              go_wp2
              go_roundw
              case rel=>exact⟨j+1,by omega,by go_num,below_drewN Hbj.out _,by rw [NW.out];first|done|rfl⟩
              case measure=>simp [intOf]<;>omega
             | true=>
              by_cases a4:th=0
              ·subst a4
               by_cases a3:ob=0
               ·subst a3
                by_cases a2:kd=0
                ·subst a2
                 by_cases a1:ca'=x9
                 ·have g1:((ca':Int) ==(x9:Int))=true:=by rw [beq_iff_eq];omega
                  have nW:piWas calls NQ true x9 (j+1)=true:=by rw [HcW.out];first|rfl|simp [a4]|simp [a3]|simp [a2]|simp [a1]|simp
                  have NW:=Lib.hid nW
                  clear nW
                  go_wp2_with fail
                  go_quiet (fail)
                  go_wp2
                  go_roundw
                  case rel=>exact⟨j+1,by omega,by go_num,below_drewN Hbj.out _,by rw [NW.out];first|done|rfl⟩
                  case measure=>simp [intOf]<;>omega
                 ·have g1:((ca':Int) ==(x9:Int))=false:=by rw [beq_eq_false_iff_ne];exact λh=>a1 (by omega)
                  have nW:piWas calls NQ true x9 (j+1)=false:=by rw [HcW.out];first|rfl|simp [a4]|simp [a3]|simp [a2]|simp [a1]|simp
                  have NW:=Lib.hid nW
                  clear nW
                  go_wp2_with fail
                  go_quiet (fail)
                  go_wp2
                  go_roundw
                  case rel=>exact⟨j+1,by omega,by go_num,below_drewN Hbj.out _,by rw [NW.out];first|done|rfl⟩
                  case measure=>simp [intOf]<;>omega
                ·have g1:(kd == 0)=false:=by simpa using a2
                 have nW:piWas calls NQ true x9 (j+1)=false:=by rw [HcW.out];first|rfl|simp [a4]|simp [a3]|simp [a2]|simp [a1]|simp
                 have NW:=Lib.hid nW
                 clear nW
                 go_wp2_with fail
                 go_quiet (fail)
                 go_wp2
                 go_roundw
                 case rel=>exact⟨j+1,by omega,by go_num,below_drewN Hbj.out _,by rw [NW.out];first|done|rfl⟩
                 case measure=>simp [intOf]<;>omega
               ·have g1:(ob == 0)=false:=by simpa using a3
                have nW:piWas calls NQ true x9 (j+1)=false:=by rw [HcW.out];first|rfl|simp [a4]|simp [a3]|simp [a2]|simp [a1]|simp
                have NW:=Lib.hid nW
                clear nW
                go_wp2_with fail
                go_quiet (fail)
                go_wp2
                go_roundw
                case rel=>exact⟨j+1,by omega,by go_num,below_drewN Hbj.out _,by rw [NW.out];first|done|rfl⟩
                case measure=>simp [intOf]<;>omega
              ·have g1:(th == 0)=false:=by simpa using a4
               have nW:piWas calls NQ true x9 (j+1)=false:=by rw [HcW.out];first|rfl|simp [a4]|simp [a3]|simp [a2]|simp [a1]|simp
               have NW:=Lib.hid nW
               clear nW
               go_wp2_with fail
               go_quiet (fail)
               go_wp2
               go_roundw
               case rel=>exact⟨j+1,by omega,by go_num,below_drewN Hbj.out _,by rw [NW.out];first|done|rfl⟩
               case measure=>simp [intOf]<;>omega
           ·have m1:¬ (j:Int)<(calls.length:Int):=by omega
            obtain rfl:j=calls.length:=by omega
            have hWt:W=true:=by rw [hW,Hx9.out];exact Was2.out
            subst hWt
            have Hbj:=Lib.hid hbj
            clear hW hbj
            go_wp2
            go_roundw
            case rel=>exact⟨k+1,by omega,by go_num,Gr.trans Hb2.out Hbj.out⟩
            case measure=>simp [intOf]<;>omega
      ·subst ho
       have q1:(kd != 1)=true:=by simp [hk1]
       go_wp2
       go_roundw
       case rel=>exact⟨k+1,by omega,by go_num,Hb2.out⟩
       case measure=>simp [intOf]<;>omega
     ·have q1:(ob != 0)=true:=by simp [ho]
      go_wp2
      go_roundw
      case rel=>exact⟨k+1,by omega,by go_num,Hb2.out⟩
      case measure=>simp [intOf]<;>omega
    ·have l1:¬ (k:Int)<(en:Int):=by omega
     have Hb:=Lib.hid hb
     clear hb b0 hbw
     go_wp2_with (go_at_call 19;refine(T.out _).mono ?_;rintro e w' ⟨rfl,hbs⟩)
     go_ret
     exact⟨rfl,Gr.trans Hb02.out (Gr.trans Hb.out hbs)⟩
  ·have hn0:¬ er=0:=her0
   have Hn0:=Lib.hid her0
   go_enter Try.func5,Try.ntmps5
   go_wp2_with (go_at_call 13;refine(HM.out).mono ?_;rintro e w' ⟨rfl,rfl⟩)
   refine HP.out.mono ?_
   rintro e w1 ⟨ea,en,ec,va,vn,vc,rp,rfl,hb1,hr⟩
   rcases hr with⟨_,rfl,rfl,rfl,rfl,rfl,rfl,rfl⟩|⟨h0,_⟩
   ·unfold repV
    have N:=Lib.hid none_true
    go_wp2_with (first|(go_at_call 16;refine(N.out _).mono ?_;rintro e w2 ⟨rfl,hb2⟩)|(go_at_call 19;refine(T.out _).mono ?_;rintro e w' ⟨rfl,hb⟩))
    go_ret
    exact⟨rfl,Gr.trans Hgb.out (Gr.trans hb1 (Gr.trans (Gr.new _ _) (Gr.trans hb2 hb)))⟩
   ·exact absurd h0 her0
end Go.Proofs.Ytlepjmnhekeofaa
