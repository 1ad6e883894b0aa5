/- What operations of the kind 1 read, beside those of the kind 0: the walk of roundelayplain.Between. -/
import Derived.Test.YtifhldnmcdbpfaaV40
import Derived.Test.YtifhldnmcdbpfaaV36
set_option maxRecDepth 100000
set_option linter.unusedVariables false
set_option linter.unusedSimpArgs false
set_option linter.unnecessarySimpa false
namespace Go.Proofs.Ytifhldnmcdbpfaa
open Go.RowKit
set_option maxHeartbeats 16000000 in
theorem vW {X Y:Nat->Prop} {B:Nat} (w:World) (calls:List aF) (ca ea va:Option Addr) (cc en ec vn vc:Nat) (ers:List (Value×Value)) (rp:iU) (hrep:iB X B w (.slice ea en ec) (.slice va vn vc) ers rp) (hen:en=rp.evs.length) (hlen:rp.evs.length<1000000) (hc:kH Y w ca calls) (hg:wB calls rp.evs) :
  Calls Try.prog 14 #[kS (.slice ea en ec) (.slice va vn vc) rp,.slice ca calls.length cc] w λe w'=>e=.returned (.bool true)/\Below w.heap.size w w':=by
 obtain⟨wa,hwa⟩:∃ wa,wa=w.alloc (.cells #[.slice ea en ec,.slice va vn vc,.int .i64 (rp.c.read:Int),.int .i64 (rp.c.write:Int),.int .i64 (rp.c.swap:Int),.int .i64 (rp.c.add:Int),.int .i64 (rp.c.fault:Int),.int .i64 (rp.ticks:Int),.int .i64 (rp.idle:Int)] 32):=⟨_,rfl⟩
 have hga:Below w.heap.size w wa:=by rw [hwa];exact Gr.new _ _
 have hba:wa.heap[w.heap.size]?=some (.cells #[.slice ea en ec,.slice va vn vc,.int .i64 (rp.c.read:Int),.int .i64 (rp.c.write:Int),.int .i64 (rp.c.swap:Int),.int .i64 (rp.c.add:Int),.int .i64 (rp.c.fault:Int),.int .i64 (rp.ticks:Int),.int .i64 (rp.idle:Int)] 32 (0,0)):=by rw [hwa];exact heap_alloc_new _ _
 have a0:wa.cell? ⟨w.heap.size,0,none⟩=some (.slice ea en ec):=by rw [aA hba];rfl
 have PT:=aC hba
 have henl:en<=9223372036854775807:=by omega
 have hcm:=hc.sl.1
 unfold maxLen at hcm
 have Hrep:=Lib.hid hrep;have Hen:=Lib.hid hen;have Hg:=Lib.hid hg;have Hga:=Lib.hid hga;have A0:=Lib.hid a0;have Hlt0:=Lib.hid PT;have Hwa:=Lib.hid hwa;have Hc:=Lib.hid hc
 have VI:rp.evs.length<=9223372036854775807:=by omega
 clear hrep hen hg hga hba PT hwa hlen hc
 unfold kS
 go_enter Try.func14,Try.ntmps14
 go_wp2_with fail
 rw [<-Hwa.out]
 go_wp2
 go_loopw [15] (λi wr=>∃ k:Nat,k<=en/\i=.int .i64 k/\Below wa.heap.size wa wr) (λi _=>en - (intOf i).toNat)
 case atStart=>exact⟨0,Nat.zero_le _,rfl,Gr.refl _⟩
 case round=>
  obtain⟨k,hk,rfl,hb⟩:=hrel
  obtain⟨wo,rfl⟩:∃ wo,wo=wr:=⟨_,rfl⟩
  have b0:wo.cell? ⟨w.heap.size,0,none⟩=some (.slice ea en ec):=(hb.cell Hlt0.out).trans A0.out
  have hbw:w.heap.size<wo.heap.size:=Nat.lt_of_lt_of_le Hlt0.out hb.size
  by_cases hlt:k<en
  ·obtain⟨g,la,lc,ka,kc,rfl,hgl,e0,e1,e2,e3,e4,e5,e6,e7,hls,hks,hknil⟩:=Hrep.out.ev8 Hen.out hlt (Gr.trans Hga.out hb)
   have hkl:k<rp.evs.length:=by rw [<-Hen.out];exact hlt
   have hcall:=Hg.out.call k hkl
   have hrd:=Hg.out.reads k hkl
   obtain⟨E,hE⟩:∃ E,E=aD rp.evs k:=⟨_,rfl⟩
   rw [<-hE] at e0 e1 e2 e3 e4 e5 e6 e7 hcall hrd
   obtain⟨cI,iv,rs,st,⟨er,vl,li⟩,ky⟩:=E
   simp only at e0 e1 e2 e3 e4 e5 e6 e7 hcall hrd
   obtain⟨ln,hln⟩:∃ ln,ln=li.length:=⟨_,rfl⟩
   obtain⟨kn,hkn⟩:∃ kn,kn=ky.length:=⟨_,rfl⟩
   rw [<-hln] at e6
   rw [<-hkn] at e7
   obtain⟨b9,off,rfl,y0,y1,y2,y3,y4,y5⟩:=vK Hc.out.sl hcall (Gr.trans Hga.out hb)
   have jO:=World.block_lt_of_cell? _ _ y0
   obtain⟨C,hC⟩:∃ C,C=calls.getD cI Proofs.Ytifhldnmcdbpfaa.d0:=⟨_,rfl⟩
   rw [<-hC] at y0 y1 y2 y3 y4 y5 hrd
   obtain⟨th,ob,kd,TE,TQ,UB⟩:=C
   simp only at y0 y1 y2 y3 y4 y5 hrd jO
   have l1:(k:Int)<(en:Int):=by omega
   have l2:(cI:Int)<(calls.length:Int):=by omega
   have l4:(0:Int)<=(cI:Int):=by omega
   have l5:decide (calls.length<=cI)=false:=decide_eq_false (by omega)
   have l6:decide ((cI:Int)<0)=false:=decide_eq_false (by omega)
   have Hb:=Lib.hid hb
   clear hls hks hknil hE hC hb hcall hln hkn
   obtain⟨w2,hw2⟩:∃ w2,w2=(wo.alloc (.cells #[.int .i64 (cI:Int),.int .i64 (iv:Int),.int .i64 (rs:Int),.int .i64 (st:Int),.int .i64 er,.int .u64 (vl:Int),.slice la ln lc,.slice ka kn kc] 44)).alloc (.cells #[.int .i64 th,.int .i64 ob,.int .i64 kd,.int .u64 (TE:Int),.int .u64 (TQ:Int),.int .u64 (UB:Int)] 46):=⟨_,rfl⟩
   have hb2:Below wo.heap.size wo w2:=by rw [hw2];exact Gr.alloc (Gr.new _ _) _
   have hx2:w2.heap[wo.heap.size]?=some (.cells #[.int .i64 (cI:Int),.int .i64 (iv:Int),.int .i64 (rs:Int),.int .i64 (st:Int),.int .i64 er,.int .u64 (vl:Int),.slice la ln lc,.slice ka kn kc] 44 (0,0)):=by rw [hw2,Below.heap_alloc _ _ _ (by simp)];exact heap_alloc_new _ _
   have hc2:w2.heap[wo.heap.size+1]?=some (.cells #[.int .i64 th,.int .i64 ob,.int .i64 kd,.int .u64 (TE:Int),.int .u64 (TQ:Int),.int .u64 (UB:Int)] 46 (0,0)):=by
    have:=heap_alloc_new (wo.alloc (.cells #[.int .i64 (cI:Int),.int .i64 (iv:Int),.int .i64 (rs:Int),.int .i64 (st:Int),.int .i64 er,.int .u64 (vl:Int),.slice la ln lc,.slice ka kn kc] 44)) (.cells #[.int .i64 th,.int .i64 ob,.int .i64 kd,.int .u64 (TE:Int),.int .u64 (TQ:Int),.int .u64 (UB:Int)] 46 (0,0))
    simp only [World.size_alloc] at this
    rw [hw2];exact this
   have Hw2:=Lib.hid hw2;have Hb2:=Lib.hid (Gr.trans Hb.out hb2);have Hx2:=Lib.hid hx2
   have z0:w2.cell? ⟨w.heap.size,0,none⟩=some (.slice (some ⟨g,0,none⟩) en ec):=(hb2.cell hbw).trans b0
   have B0:=Lib.hid z0
   have Hbw:=Lib.hid (Nat.lt_of_lt_of_le hbw hb2.size)
   have x1:w2.cell? ⟨wo.heap.size,1,none⟩=some (.int .i64 (iv:Int)):=by rw [aA hx2];rfl
   have x2:w2.cell? ⟨wo.heap.size,2,none⟩=some (.int .i64 (rs:Int)):=by rw [aA hx2];rfl
   have x4:w2.cell? ⟨wo.heap.size,4,none⟩=some (.int .i64 er):=by rw [aA hx2];rfl
   have x5:w2.cell? ⟨wo.heap.size,5,none⟩=some (.int .u64 (vl:Int)):=by rw [aA hx2];rfl
   have k1:w2.cell? ⟨wo.heap.size+1,1,none⟩=some (.int .i64 ob):=by rw [aA hc2];rfl
   have k2:w2.cell? ⟨wo.heap.size+1,2,none⟩=some (.int .i64 kd):=by rw [aA hc2];rfl
   clear hw2 hb2 hx2 hc2
   go_upto_region 8 with fail
   rw [<-Hw2.out]
   clear e0 e1 e2 e3 e4 e5 e6 e7 y0 y1 y2 y3 y4 y5 b0 hbw hgl jO
   by_cases ho:ob=0
   ·by_cases hk1:kd=1
    ·by_cases hr0:rs=0
     ·subst ho hk1 hr0
      clear hrd hkl
      go_wp2
      go_roundw
      case rel=>exact⟨k+1,by omega,by go_num,Hb2.out⟩
      case measure=>simp [intOf]<;>omega
     ·by_cases he0:er=0
      ·obtain⟨r1,r2,r3⟩:=hrd ho hk1 hr0 he0
       subst ho hk1 he0
       have R1:=Lib.hid r1;have R2:=Lib.hid r2;have R3:=Lib.hid r3
       have hr1:¬ ((rs:Int)=0):=by omega
       have hr2:((rs:Int) == 0)=false:=by simpa using hr0
       clear hrd r1 r2 r3 hr0 hkl
       go_upto_region 11 with fail
       clear z0 x1 x2 x4 x5 k1 k2
       go_loopw [8,9,60] (λdv bv i wq=>∃ q:Nat,q<=en/\i=.int .i64 q/\Below w2.heap.size w2 wq/\dv=.int .u64 ((cnt (bD calls iv) (rp.evs.take q):Nat):Int)/\bv=.int .u64 ((cnt (bB calls rs) (rp.evs.take q):Nat):Int)) (λ_ _ i _=>en - (intOf i).toNat)
       case atStart=>exact⟨0,Nat.zero_le _,rfl,Gr.refl _,by rw [List.take_zero];rfl,by rw [List.take_zero];rfl⟩
       case round=>
        obtain⟨q,hq,rfl,hbq,rfl,rfl⟩:=hrel
        obtain⟨wi,rfl⟩:∃ wi,wi=wr:=⟨_,rfl⟩
        obtain⟨D,hD⟩:∃ D,D=cnt (bD calls iv) (rp.evs.take q):=⟨_,rfl⟩
        obtain⟨F,hF⟩:∃ F,F=cnt (bB calls rs) (rp.evs.take q):=⟨_,rfl⟩
        rw [<-hD,<-hF]
        have hDl:D<=9223372036854775807:=by have:=BG (bD calls iv) (rp.evs.take q);rw [List.length_take] at this;omega
        have hFl:F<=9223372036854775807:=by have:=BG (bB calls rs) (rp.evs.take q);rw [List.length_take] at this;omega
        have b0:wi.cell? ⟨w.heap.size,0,none⟩=some (.slice (some ⟨g,0,none⟩) en ec):=(hbq.cell Hbw.out).trans B0.out
        have hbw:w.heap.size<wi.heap.size:=Nat.lt_of_lt_of_le Hbw.out hbq.size
        have hx3:=(hbq.block _ (aC Hx2.out)).trans Hx2.out
        have hxl:=aC hx3
        have Hbq:=Lib.hid hbq
        by_cases hlq:q<en
        ·obtain⟨g',VH,VN,VF,UX,hgg,hgl,e0,e1,e2,e3,e4,e5,e6,e7,hls,hks,hknil⟩:=Hrep.out.ev8 Hen.out hlq (Gr.trans Hga.out (Gr.trans Hb2.out hbq))
         cases hgg
         have hql:q<rp.evs.length:=by rw [<-Hen.out];exact hlq
         have hcall:=Hg.out.call q hql
         have hval:=R1.out q hql
         have hcD:=mF (bD calls iv) rp.evs q hql
         have hcF:=mF (bB calls rs) rp.evs q hql
         rw [<-hD] at hcD
         rw [<-hF] at hcF
         obtain⟨E,hE⟩:∃ E,E=aD rp.evs q:=⟨_,rfl⟩
         rw [<-hE] at e0 e1 e2 e3 e4 e5 e6 e7 hcall hval hcD hcF
         obtain⟨cJ,jv,js,jt,⟨jr,jl,ji⟩,jy⟩:=E
         simp only at e0 e1 e2 e3 e4 e5 e6 e7 hcall hval
         obtain⟨jln,hln⟩:∃ ln,ln=ji.length:=⟨_,rfl⟩
         obtain⟨jkn,hkn⟩:∃ kn,kn=jy.length:=⟨_,rfl⟩
         rw [<-hln] at e6
         rw [<-hkn] at e7
         obtain⟨b8,WJ,hcc,y0,y1,y2,y3,y4,y5⟩:=vK Hc.out.sl hcall (Gr.trans Hga.out (Gr.trans Hb2.out hbq))
         cases hcc
         have jO:=World.block_lt_of_cell? _ _ y1
         have hcD':cnt (bD calls iv) (rp.evs.take (q+1))=D+(if (decide (jr=0) && decide ((calls.getD cJ Proofs.Ytifhldnmcdbpfaa.d0).obj=0) && decide ((calls.getD cJ Proofs.Ytifhldnmcdbpfaa.d0).kind=0) && decide (js≠0) && decide (js<iv))=true then 1 else 0):=hcD
         have hcF':cnt (bB calls rs) (rp.evs.take (q+1))=F+(if (decide (jr=0) && decide ((calls.getD cJ Proofs.Ytifhldnmcdbpfaa.d0).obj=0) && decide ((calls.getD cJ Proofs.Ytifhldnmcdbpfaa.d0).kind=0) && decide (jv<rs))=true then 1 else 0):=hcF
         obtain⟨C,hC⟩:∃ C,C=calls.getD cJ Proofs.Ytifhldnmcdbpfaa.d0:=⟨_,rfl⟩
         rw [<-hC] at y1 y2 hval hcD' hcF'
         obtain⟨th',ob,kd,ca',cb',cc'⟩:=C
         simp only at y1 y2 hval jO hcD' hcF'
         have m1:(q:Int)<(en:Int):=by omega
         have m2:(cJ:Int)<(calls.length:Int):=by omega
         have m4:(0:Int)<=(cJ:Int):=by omega
         obtain⟨w3,hw3⟩:∃ w3,w3=wi.alloc (.cells #[.int .i64 (cJ:Int),.int .i64 (jv:Int),.int .i64 (js:Int),.int .i64 (jt:Int),.int .i64 jr,.int .u64 (jl:Int),.slice VH jln VN,.slice VF jkn UX] 44):=⟨_,rfl⟩
         have hb3:Below wi.heap.size wi w3:=by rw [hw3];exact Gr.new _ _
         have PN:w3.heap[wi.heap.size]?=some (.cells #[.int .i64 (cJ:Int),.int .i64 (jv:Int),.int .i64 (js:Int),.int .i64 (jt:Int),.int .i64 jr,.int .u64 (jl:Int),.slice VH jln VN,.slice VF jkn UX] 44 (0,0)):=by rw [hw3];exact heap_alloc_new _ _
         have hx4:=(hb3.block _ hxl).trans hx3
         have x1:w3.cell? ⟨wo.heap.size,1,none⟩=some (.int .i64 (iv:Int)):=by rw [aA hx4];rfl
         have x2:w3.cell? ⟨wo.heap.size,2,none⟩=some (.int .i64 (rs:Int)):=by rw [aA hx4];rfl
         have x5:w3.cell? ⟨wo.heap.size,5,none⟩=some (.int .u64 (vl:Int)):=by rw [aA hx4];rfl
         have j0:w3.cell? ⟨wi.heap.size,0,none⟩=some (.int .i64 (cJ:Int)):=by rw [aA PN];rfl
         have j1:w3.cell? ⟨wi.heap.size,1,none⟩=some (.int .i64 (jv:Int)):=by rw [aA PN];rfl
         have j2:w3.cell? ⟨wi.heap.size,2,none⟩=some (.int .i64 (js:Int)):=by rw [aA PN];rfl
         have j4:w3.cell? ⟨wi.heap.size,4,none⟩=some (.int .i64 jr):=by rw [aA PN];rfl
         have j5:w3.cell? ⟨wi.heap.size,5,none⟩=some (.int .u64 (jl:Int)):=by rw [aA PN];rfl
         have c1:=(hb3.cell jO).trans y1
         have c2:=(hb3.cell (World.block_lt_of_cell? _ _ y2)).trans y2
         have Hb3:=Lib.hid (Gr.trans Hbq.out hb3);have Hw3:=Lib.hid hw3
         clear hls hks hknil hE hC hbq hcall hln hkn hcD hcF hD hF hql hw3 PN hx4 hx3 hb3
         go_upto_region 14 with fail
         rw [<-Hw3.out]
         clear e0 e1 e2 e3 e4 e5 e6 e7 b0 hbw hxl hgl jO y0 y1 y2 y3 y4 y5
         by_cases r0:jr=0
         ·subst r0
          by_cases o0:ob=0
          ·subst o0
           by_cases k1:kd=1
           ·subst k1
            by_cases s0:js=0
            ·subst s0
             have nD:cnt (bD calls iv) (rp.evs.take (q+1))=D:=hcD'.trans (bD0 (λh=>absurd h.2.2.1 (by decide)))
             have nF:cnt (bB calls rs) (rp.evs.take (q+1))=F:=hcF'.trans (bB0 (λh=>absurd h.2.2.1 (by decide)))
             have ND:=Lib.hid nD;have NF:=Lib.hid nF
             clear hcD' hcF' nD nF hval
             go_wp2
             go_roundw
             case rel=>
              exact⟨q+1,by omega,by go_num,Hb3.out,by rw [ND.out];first|done|rfl,by rw [NF.out];first|done|rfl⟩
             case measure=>simp [intOf]<;>omega
            ·by_cases s1:js<iv
             ·have hv:=hval rfl rfl rfl s0 s1
              have nD:cnt (bD calls iv) (rp.evs.take (q+1))=D:=hcD'.trans (bD0 (λh=>absurd h.2.2.1 (by decide)))
              have nF:cnt (bB calls rs) (rp.evs.take (q+1))=F:=hcF'.trans (bB0 (λh=>absurd h.2.2.1 (by decide)))
              have ND:=Lib.hid nD;have NF:=Lib.hid nF
              clear hcD' hcF' nD nF hval
              have s2:¬ ((js:Int)=0):=by omega
              have s3:(js:Int)<(iv:Int):=by omega
              have s4:¬ (vl:Int)<(jl:Int):=by omega
              clear hv s0 s1
              go_wp2
              go_roundw
              case rel=>
               exact⟨q+1,by omega,by go_num,Hb3.out,by rw [ND.out];first|done|rfl,by rw [NF.out];first|done|rfl⟩
              case measure=>simp [intOf]<;>omega
             ·skip
              have nD:cnt (bD calls iv) (rp.evs.take (q+1))=D:=hcD'.trans (bD0 (λh=>absurd h.2.2.1 (by decide)))
              have nF:cnt (bB calls rs) (rp.evs.take (q+1))=F:=hcF'.trans (bB0 (λh=>absurd h.2.2.1 (by decide)))
              have ND:=Lib.hid nD;have NF:=Lib.hid nF
              clear hcD' hcF' nD nF hval
              have s2:¬ ((js:Int)=0):=by omega
              have s3:¬ (js:Int)<(iv:Int):=by omega
              clear s0 s1
              go_wp2
              go_roundw
              case rel=>
               exact⟨q+1,by omega,by go_num,Hb3.out,by rw [ND.out];first|done|rfl,by rw [NF.out];first|done|rfl⟩
              case measure=>simp [intOf]<;>omega
           ·by_cases k0:kd=0
            ·subst k0
             by_cases f1:jv<rs
             ·have f2:(jv:Int)<(rs:Int):=by omega
              by_cases s0:js=0
              ·subst s0
               have nD:cnt (bD calls iv) (rp.evs.take (q+1))=D:=hcD'.trans (bD0 (λh=>h.2.2.2.1 rfl))
               have nF:cnt (bB calls rs) (rp.evs.take (q+1))=F+1:=hcF'.trans (bB1 ⟨rfl,rfl,rfl,f1⟩)
               have ND:=Lib.hid nD;have NF:=Lib.hid nF
               clear hcD' hcF' nD nF hval
               clear f1
               go_wp2
               go_roundw
               case rel=>
                exact⟨q+1,by omega,by go_num,Hb3.out,by rw [ND.out];first|done|rfl,by rw [NF.out];first|done|rfl⟩
               case measure=>simp [intOf]<;>omega
              ·have s2:¬ ((js:Int)=0):=by omega
               by_cases s1:js<iv
               ·have s3:(js:Int)<(iv:Int):=by omega
                have nD:cnt (bD calls iv) (rp.evs.take (q+1))=D+1:=hcD'.trans (bD1 ⟨rfl,rfl,rfl,s0,s1⟩)
                have nF:cnt (bB calls rs) (rp.evs.take (q+1))=F+1:=hcF'.trans (bB1 ⟨rfl,rfl,rfl,f1⟩)
                have ND:=Lib.hid nD;have NF:=Lib.hid nF
                clear hcD' hcF' nD nF hval
                clear f1 s0 s1
                go_wp2
                go_roundw
                case rel=>
                 exact⟨q+1,by omega,by go_num,Hb3.out,by rw [ND.out];first|done|rfl,by rw [NF.out];first|done|rfl⟩
                case measure=>simp [intOf]<;>omega
               ·have s3:¬ (js:Int)<(iv:Int):=by omega
                have nD:cnt (bD calls iv) (rp.evs.take (q+1))=D:=hcD'.trans (bD0 (λh=>s1 h.2.2.2.2))
                have nF:cnt (bB calls rs) (rp.evs.take (q+1))=F+1:=hcF'.trans (bB1 ⟨rfl,rfl,rfl,f1⟩)
                have ND:=Lib.hid nD;have NF:=Lib.hid nF
                clear hcD' hcF' nD nF hval
                clear f1 s0 s1
                go_wp2
                go_roundw
                case rel=>
                 exact⟨q+1,by omega,by go_num,Hb3.out,by rw [ND.out];first|done|rfl,by rw [NF.out];first|done|rfl⟩
                case measure=>simp [intOf]<;>omega
             ·have f2:¬ (jv:Int)<(rs:Int):=by omega
              by_cases s0:js=0
              ·subst s0
               have nD:cnt (bD calls iv) (rp.evs.take (q+1))=D:=hcD'.trans (bD0 (λh=>h.2.2.2.1 rfl))
               have nF:cnt (bB calls rs) (rp.evs.take (q+1))=F:=hcF'.trans (bB0 (λh=>f1 h.2.2.2))
               have ND:=Lib.hid nD;have NF:=Lib.hid nF
               clear hcD' hcF' nD nF hval
               clear f1
               go_wp2
               go_roundw
               case rel=>
                exact⟨q+1,by omega,by go_num,Hb3.out,by rw [ND.out];first|done|rfl,by rw [NF.out];first|done|rfl⟩
               case measure=>simp [intOf]<;>omega
              ·have s2:¬ ((js:Int)=0):=by omega
               by_cases s1:js<iv
               ·have s3:(js:Int)<(iv:Int):=by omega
                have nD:cnt (bD calls iv) (rp.evs.take (q+1))=D+1:=hcD'.trans (bD1 ⟨rfl,rfl,rfl,s0,s1⟩)
                have nF:cnt (bB calls rs) (rp.evs.take (q+1))=F:=hcF'.trans (bB0 (λh=>f1 h.2.2.2))
                have ND:=Lib.hid nD;have NF:=Lib.hid nF
                clear hcD' hcF' nD nF hval
                clear f1 s0 s1
                go_wp2
                go_roundw
                case rel=>
                 exact⟨q+1,by omega,by go_num,Hb3.out,by rw [ND.out];first|done|rfl,by rw [NF.out];first|done|rfl⟩
                case measure=>simp [intOf]<;>omega
               ·have s3:¬ (js:Int)<(iv:Int):=by omega
                have nD:cnt (bD calls iv) (rp.evs.take (q+1))=D:=hcD'.trans (bD0 (λh=>s1 h.2.2.2.2))
                have nF:cnt (bB calls rs) (rp.evs.take (q+1))=F:=hcF'.trans (bB0 (λh=>f1 h.2.2.2))
                have ND:=Lib.hid nD;have NF:=Lib.hid nF
                clear hcD' hcF' nD nF hval
                clear f1 s0 s1
                go_wp2
                go_roundw
                case rel=>
                 exact⟨q+1,by omega,by go_num,Hb3.out,by rw [ND.out];first|done|rfl,by rw [NF.out];first|done|rfl⟩
                case measure=>simp [intOf]<;>omega
            ·skip
             have nD:cnt (bD calls iv) (rp.evs.take (q+1))=D:=hcD'.trans (bD0 (λh=>k0 h.2.2.1))
             have nF:cnt (bB calls rs) (rp.evs.take (q+1))=F:=hcF'.trans (bB0 (λh=>k0 h.2.2.1))
             have ND:=Lib.hid nD;have NF:=Lib.hid nF
             clear hcD' hcF' nD nF hval
             have q1:(kd != 0)=true:=by simp [k0]
             have q2:decide (kd=1)=false:=by simp [k1]
             go_wp2
             go_roundw
             case rel=>
              exact⟨q+1,by omega,by go_num,Hb3.out,by rw [ND.out];first|done|rfl,by rw [NF.out];first|done|rfl⟩
             case measure=>simp [intOf]<;>omega
          ·skip
           have nD:cnt (bD calls iv) (rp.evs.take (q+1))=D:=hcD'.trans (bD0 (λh=>o0 h.2.1))
           have nF:cnt (bB calls rs) (rp.evs.take (q+1))=F:=hcF'.trans (bB0 (λh=>o0 h.2.1))
           have ND:=Lib.hid nD;have NF:=Lib.hid nF
           clear hcD' hcF' nD nF hval
           have q1:(ob != 0)=true:=by simp [o0]
           go_wp2
           go_roundw
           case rel=>
            exact⟨q+1,by omega,by go_num,Hb3.out,by rw [ND.out];first|done|rfl,by rw [NF.out];first|done|rfl⟩
           case measure=>simp [intOf]<;>omega
         ·skip
          have nD:cnt (bD calls iv) (rp.evs.take (q+1))=D:=hcD'.trans (bD0 (λh=>r0 h.1))
          have nF:cnt (bB calls rs) (rp.evs.take (q+1))=F:=hcF'.trans (bB0 (λh=>r0 h.1))
          have ND:=Lib.hid nD;have NF:=Lib.hid nF
          clear hcD' hcF' nD nF hval
          have q1:(jr != 0)=true:=by simp [r0]
          go_wp2
          go_roundw
          case rel=>
           exact⟨q+1,by omega,by go_num,Hb3.out,by rw [ND.out];first|done|rfl,by rw [NF.out];first|done|rfl⟩
          case measure=>simp [intOf]<;>omega
        ·have m1:¬ (q:Int)<(en:Int):=by omega
         obtain rfl:q=en:=by omega
         have x5:wi.cell? ⟨wo.heap.size,5,none⟩=some (.int .u64 (vl:Int)):=by rw [aA hx3];rfl
         have hD2:D=cnt (bD calls iv) rp.evs:=by rw [hD,List.take_of_length_le (by rw [<-Hen.out];exact Nat.le_refl _)]
         have hF2:F=cnt (bB calls rs) rp.evs:=by rw [hF,List.take_of_length_le (by rw [<-Hen.out];exact Nat.le_refl _)]
         have n1:¬ (vl:Int)<(D:Int):=by have:=R2.out;omega
         have n2:¬ (F:Int)<(vl:Int):=by have:=R3.out;omega
         clear hD hF hD2 hF2 hbq hDl hFl hx3
         go_wp2
         go_roundw
         case rel=>exact⟨k+1,by omega,by go_num,Gr.trans Hb2.out Hbq.out⟩
         case measure=>simp [intOf]<;>omega
      ·subst ho hk1
       have hr1:¬ ((rs:Int)=0):=by omega
       have q1:(er != 0)=true:=by simp [he0]
       clear hrd hkl hr0
       go_wp2
       go_roundw
       case rel=>exact⟨k+1,by omega,by go_num,Hb2.out⟩
       case measure=>simp [intOf]<;>omega
    ·subst ho
     have q1:(kd != 1)=true:=by simp [hk1]
     clear hrd hkl
     go_wp2
     go_roundw
     case rel=>exact⟨k+1,by omega,by go_num,Hb2.out⟩
     case measure=>simp [intOf]<;>omega
   ·have q1:(ob != 0)=true:=by simp [ho]
    clear hrd hkl
    go_wp2
    go_roundw
    case rel=>exact⟨k+1,by omega,by go_num,Hb2.out⟩
    case measure=>simp [intOf]<;>omega
  ·have l1:¬ (k:Int)<(en:Int):=by omega
   have Hb:=Lib.hid hb
   clear hb
   go_wp2
   go_ret
   exact⟨rfl,Gr.trans Hga.out Hb.out⟩
end Go.Proofs.Ytifhldnmcdbpfaa
