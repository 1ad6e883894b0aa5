/- The walk of CountSteps. -/
import Derived.Test.YtifhldnmcdbpfaaW45
import Derived.Test.YtifhldnmcdbpfaaW19
import Derived.Test.YtifhldnmcdbpfaaW02
import Derived.Test.YtifhldnmcdbpfaaW04
import Derived.Test.YtifhldnmcdbpfaaW01
import Derived.Test.YtifhldnmcdbpfaaW05
set_option maxRecDepth 100000
set_option linter.unusedVariables false
set_option linter.unusedSimpArgs false
set_option linter.unnecessarySimpa false
namespace Go.Proofs.Ytifhldnmcdbpfaa
section
open Go.RowKit
set_option maxHeartbeats 16000000 in
theorem countSteps_any (q0 q1:Int) (calls:List aF) (picks:List Int) (ca pa:Option Addr) (cc pc:Nat) (w:World) (hc:lS noB w ca calls) (hp:lT w pa picks) :
  Calls Try.prog 4 #[.agg #[.int .i64 q0,.int .i64 q1],.slice ca calls.length cc,.slice pa picks.length pc] w λe w'=>e=.returned (.bool true)/\Below w.heap.size w w':=by
 have hgb:Below w.heap.size w (w.alloc (.cells #[.int .i64 q0,.int .i64 q1] 22)):=(Gr.new _ _)
 have M:=GQ ca pa calls.length picks.length cc pc (w.alloc (.cells #[.int .i64 q0,.int .i64 q1] 22)) (hc.grown hgb).sl.1 hp.sl.1
 have T:=Lib.hid KX
 cases hM:FL calls.length picks.length with
 | true=>
  rw [hM] at M
  have HM:=Lib.hid M;have Hgb:=Lib.hid hgb
  clear M hc hp hM hgb
  go_enter Try.func4,Try.ntmps4
  go_wp2_with (first|(go_at_call 10;refine(HM.out).mono ?_;rintro e w' ⟨rfl,rfl⟩)|(go_at_call 11;refine(T.out _).mono ?_;rintro e w' ⟨rfl,hb⟩))
  go_ret
  exact⟨rfl,Gr.trans Hgb.out hb⟩
 | false=>
  rw [hM] at M
  have HM:=Lib.hid M
  have P:=oD noB (w.alloc (.cells #[.int .i64 q0,.int .i64 q1] 22)) q0 q1 calls picks ca pa cc pc (λb hb=>hb.elim) (hc.grown hgb) (hp.grown hgb)
  obtain⟨er,her⟩:∃ er,er=fO q0 q1 calls picks.length:=⟨_,rfl⟩
  rw [<-her] at P
  have HP:=Lib.hid P;have Her:=Lib.hid her;have Hc:=Lib.hid hc;have Hgb:=Lib.hid hgb
  have hcm:=hc.sl.1
  unfold maxLen at hcm
  clear M P hc hp hM her hgb
  by_cases wK:er=0
  ·have hck:fO q0 q1 calls picks.length=0:=by rw [<-Her.out];exact wK
   obtain⟨DX,hm1,hm2⟩:=LW hck
   obtain⟨z1,z2⟩:=DZ DX
   obtain⟨n,rfl⟩:∃ n:Nat,q0=(n:Int):=⟨q0.toNat,by omega⟩
   obtain⟨m,rfl⟩:∃ m:Nat,q1=(m:Int):=⟨q1.toNat,by omega⟩
   simp only [Int.toNat_natCast] at HP
   have hmp:0<m:=by omega
   have hnp:=MP DX
   have q1:ED n m calls (iO (bH n m) (List.replicate n 0) (List.replicate (fV n m) 0) calls picks).evs:=⟨(oU (by omega) (by omega) DX picks).2.1.call,(oU (by omega) (by omega) DX picks).2.2⟩
   have q2:(iO (bH n m) (List.replicate n 0) (List.replicate (fV n m) 0) calls picks).evs.length<=picks.length:=(oU (by omega) (by omega) DX picks).1
   subst wK
   obtain⟨rr,hrr⟩:∃ rr,rr=iO (bH n m) (List.replicate n 0) (List.replicate (fV n m) 0) calls picks:=⟨_,rfl⟩
   rw [<-hrr] at HP q1 q2
   have Hq1:=Lib.hid q1;have Hq2:=Lib.hid q2;have Hnp:=Lib.hid hnp
   clear hck DX hrr Her hnp q1 q2
   go_enter Try.func4,Try.ntmps4
   go_wp2_with (go_at_call 10;refine(HM.out).mono ?_;rintro e w' ⟨rfl,rfl⟩)
   refine HP.out.mono ?_
   rintro e w1 ⟨ea,en,ec,va,vn,vc,rp,rfl,hb1,hr⟩
   rcases hr with⟨h0,_⟩|⟨_,hrp,hen,hvn,ers,hrep⟩
   ·exact absurd rfl h0
   subst hrp
   obtain⟨w2,hw2⟩:∃ w2,w2=w1.alloc (.cells #[.slice ea en ec,.slice va vn vc,.int .i64 (rp.c.read:Int),.int .i64 (rp.c.write:Int),.int .i64 (rp.c.swap:Int),.int .i64 (rp.c.add:Int),.int .i64 (rp.c.fault:Int),.int .i64 (rp.ticks:Int),.int .i64 (rp.idle:Int)] 32):=⟨_,rfl⟩
   have hb2:Below w1.heap.size w1 w2:=by rw [hw2];exact Gr.new _ _
   have hin:uW w1 w2 w1.heap.size ea en ec va vn vc rp:=⟨Nat.le_refl _,by rw [hw2];exact heap_alloc_new _ _⟩
   have NH:=Gr.trans Hgb.out (Gr.trans hb1 hb2)
   have hlt2:w1.heap.size<w2.heap.size:=aC hin.blk
   have p0:w2.cell? ⟨w.heap.size,0,none⟩=some (.int .i64 (n:Int)):=((Gr.trans hb1 hb2).cell (p:=⟨w.heap.size,0,none⟩) (by simp)).trans (by rw [aA (heap_alloc_new w _)];rfl)
   have p1:w2.cell? ⟨w.heap.size,1,none⟩=some (.int .i64 (m:Int)):=((Gr.trans hb1 hb2).cell (p:=⟨w.heap.size,1,none⟩) (by simp)).trans (by rw [aA (heap_alloc_new w _)];rfl)
   have hlen:rp.evs.length<1000000:=by have:=Hq2.out;have:=Hnp.out;omega
   have henl:en<=1000000:=by omega
   have MW:=hrep.grown hb2
   have Hrep:=Lib.hid MW;have Hen:=Lib.hid hen;have Hin:=Lib.hid hin;have Hb02:=Lib.hid NH;have Hw2:=Lib.hid hw2
   have hc2:=Hc.out.grown NH
   have Hc2:=Lib.hid hc2
   have A0:=Lib.hid (hin.cell 0)
   have Hlt0:=Lib.hid hlt2
   have P0:=Lib.hid p0;have P1:=Lib.hid p1
   have Lw:=Lib.hid (show w.heap.size<w2.heap.size from World.block_lt_of_cell? _ _ p0)
   have r0:w2.cell? ⟨w1.heap.size,0,none⟩=some (.slice ea en ec):=hin.cell 0
   have LV:=Lib.hid (BF n (by omega))
   have hL1:=(bL (n:=n) (by omega)).2
   obtain⟨Lv,hLv⟩:∃ Lv,Lv=aJ n:=⟨_,rfl⟩
   have hmost:1+lev Lv*(3*m)=fF n m:=by rw [hLv];rfl
   rw [<-hLv] at LV hL1
   obtain⟨bd,hbd⟩:∃ bd,bd=fF n m:=⟨_,rfl⟩
   have hbl:bd<=100000:=by
    have h1:lev Lv<=4:=OJ Lv
    have h2:lev Lv*(3*m)<=4*24:=Nat.mul_le_mul h1 (by omega)
    omega
   rw [<-hbd] at hmost
   have Hbd:=Lib.hid hbd
   have hq0:=Lib.hid hmost
   clear hrep MW hb1 hb2 hin NH hw2 hvn hen hc2 hlt2 hLv hbd hmost
   unfold mQ
   go_upto_region 4 with fail
   rw [<-Hw2.out]
   go_wp2_with fail
   refine(LV.out _).mono ?_
   rintro e w3 ⟨rfl,hw3⟩
   subst hw3
   go_wp2_with fail
   go_loopw [9,10] (λmo lo wr=>∃ Mo L:Nat,mo=.int .i64 (Mo:Int)/\lo=.int .i64 (L:Int)/\wr=w2/\1<=L/\L<=16/\Mo+lev L*(3*m)=bd) (λ_ lo _=>(intOf lo).toNat)
   case atStart=>exact⟨1,Lv,rfl,rfl,(by first|rfl|trivial),hL1.1,hL1.2,hq0.out⟩
   case round=>
    obtain⟨Mo,L,rfl,rfl,hwr,hL9,hL16,hbud⟩:=hrel
    have hwr2:=hwr.symm
    clear hwr
    subst hwr2
    by_cases hgt:1<L
    ·have l1:(1:Int)<(L:Int):=by omega
     obtain⟨v,hv⟩:∃ v,v=L / 2:=⟨_,rfl⟩
     have e1:(L:Int).tdiv 2=(v:Int):=by rw [hv,Int.tdiv_eq_ediv_of_nonneg (by omega)];omega
     have hlev:=yZ (v:=L) (by omega) (by omega)
     rw [<-hv] at hlev
     rw [<-hlev,Nat.add_mul,Nat.one_mul] at hbud
     have wv:IntKind.i64.wrap (v:Int)=(v:Int):=by rw [IntKind.wrap_i64];omega
     have w3m:IntKind.i64.wrap (3*(m:Int))=3*(m:Int):=by rw [IntKind.wrap_i64];omega
     have wmo:IntKind.i64.wrap ((Mo:Int)+3*(m:Int))=(Mo:Int)+3*(m:Int):=by rw [IntKind.wrap_i64];omega
     have hv1:1<=v/\v<=16/\v<L:=by omega
     have Hb9:=Lib.hid (show Mo+3*m+lev v*(3*m)=bd by omega)
     clear hlev hv hbud
     go_wp2
     go_roundw
     case rel=>exact⟨Mo+3*m,v,by go_num,by go_num,(by first|rfl|trivial),hv1.1,hv1.2.1,Hb9.out⟩
     case measure=>simp [intOf]<;>omega
    ·have l1:¬ (1:Int)<(L:Int):=by omega
     have e1:L=1:=by omega
     have e2:Mo=bd:=by
      subst e1
      have e3:lev 1=0:=rfl
      rw [e3,Nat.zero_mul] at hbud
      omega
     subst e2
     clear hbud
     go_wp2_with fail
     clear r0 p0 p1
     obtain⟨wa,hwa⟩:∃ wa,wa=w2:=⟨_,rfl⟩
     go_loopw [49] (λi wr=>∃ k:Nat,k<=en/\i=.int .i64 k/\Below w2.heap.size w2 wr) (λi _=>en - (intOf i).toNat)
     case atStart=>exact⟨0,Nat.zero_le _,rfl,Gr.refl _⟩
     case round=>
      obtain⟨k,hk,rfl,hb⟩:=hrel
      obtain⟨wo,rfl⟩:∃ wo,wo=wr:=⟨_,rfl⟩
      have b0:wo.cell? ⟨w1.heap.size,0,none⟩=some (.slice ea en ec):=(hb.cell Hlt0.out).trans A0.out
      have hbw:w1.heap.size<wo.heap.size:=Nat.lt_of_lt_of_le Hlt0.out hb.size
      by_cases hlt:k<en
      ·obtain⟨g,la,lc,ka,kc,rfl,hgl,e0,e1,e2,e3,e4,e5,e6,e7,hls,hks,hknil⟩:=Hrep.out.ev8 Hen.out hlt hb
       have hkl:k<rp.evs.length:=by rw [<-Hen.out];exact hlt
       have hcall:=Hq1.out.call k hkl
       have hX1:=Hq1.out.steps k hkl
       rw [<-Hbd.out] at hX1
       obtain⟨E,hE⟩:∃ E,E=aD rp.evs k:=⟨_,rfl⟩
       rw [<-hE] at e0 e1 e2 e3 e4 e5 e6 e7 hcall hX1 hls
       obtain⟨cI,iv,rs,st,⟨er,vl,li⟩,ky⟩:=E
       unfold kindOf at hX1
       simp only at e0 e1 e2 e3 e4 e5 e6 e7 hcall hX1 hls
       obtain⟨ln,hln⟩:∃ ln,ln=li.length:=⟨_,rfl⟩
       obtain⟨kn,hkn⟩:∃ kn,kn=ky.length:=⟨_,rfl⟩
       rw [<-hln] at e6
       rw [<-hkn] at e7
       obtain⟨b9,off,rfl,y0,y1,y2,y3,y4,y5⟩:=BN Hc2.out.sl hcall hb
       have kQ:=World.block_lt_of_cell? _ _ y0
       obtain⟨C,hC⟩:∃ C,C=calls.getD cI Proofs.Ytifhldnmcdbpfaa.d0:=⟨_,rfl⟩
       rw [<-hC] at y0 y1 y2 y3 y4 y5 hX1
       obtain⟨th,ob,kd,XG,XM,XC⟩:=C
       simp only at y0 y1 y2 y3 y4 y5 hX1 kQ
       have l1:(k:Int)<(en:Int):=by omega
       have l2:(cI:Int)<(calls.length:Int):=by omega
       have l4:(0:Int)<=(cI:Int):=by omega
       have l6:¬ (cI:Int)<0:=by omega
       have l7:¬ (calls.length:Int)<=(cI:Int):=by omega
       have Hb:=Lib.hid hb
       have g4:¬ (Mo:Int)<(st:Int):=by have:=hX1.1;omega
       have g5:kd=1->¬ (m:Int)<(st:Int):=λe=>by have:=hX1.2 e;omega
       have G5:=Lib.hid g5
       clear hX1 g5 hls hln
       clear hks hknil hE hC hb hcall hkn
       obtain⟨w4,hw4⟩:∃ w4,w4=wo.alloc (.cells #[.int .i64 (cI:Int),.int .i64 (iv:Int),.int .i64 (rs:Int),.int .i64 (st:Int),.int .i64 er,.int .u64 (vl:Int),.slice la ln lc,.slice ka kn kc] 44):=⟨_,rfl⟩
       have hb4:Below wo.heap.size wo w4:=by rw [hw4];exact Gr.new _ _
       have hx2:w4.heap[wo.heap.size]?=some (.cells #[.int .i64 (cI:Int),.int .i64 (iv:Int),.int .i64 (rs:Int),.int .i64 (st:Int),.int .i64 er,.int .u64 (vl:Int),.slice la ln lc,.slice ka kn kc] 44 (0,0)):=by rw [hw4];exact heap_alloc_new _ _
       have Hw4:=Lib.hid hw4;have Hb2:=Lib.hid (Gr.trans Hb.out hb4);have Hx2:=Lib.hid hx2
       have z0:w4.cell? ⟨w1.heap.size,0,none⟩=some (.slice (some ⟨g,0,none⟩) en ec):=(hb4.cell hbw).trans b0
       have x0:w4.cell? ⟨wo.heap.size,0,none⟩=some (.int .i64 (cI:Int)):=by rw [aA hx2];rfl
       have x3:w4.cell? ⟨wo.heap.size,3,none⟩=some (.int .i64 (st:Int)):=by rw [aA hx2];rfl
       have k2:=(hb4.cell (World.block_lt_of_cell? _ _ y2)).trans y2
       have pm:w4.cell? ⟨w.heap.size,1,none⟩=some (.int .i64 (m:Int)):=(Hb2.out.cell (p:=⟨w.heap.size,1,none⟩) Lw.out).trans P1.out
       clear hw4 hb4 hx2
       go_upto_region 15 with fail
       rw [<-Hw4.out]
       clear e0 e1 e2 e3 e4 e5 e6 e7 y0 y1 y2 y3 y4 y5 b0 hbw hgl kQ z0
       by_cases hk1:kd=1
       ·have g5:=G5.out hk1
        subst hk1
        go_wp2
        go_roundw
        case rel=>exact⟨k+1,by omega,by go_num,Hb2.out⟩
        case measure=>simp [intOf]<;>omega
       ·have q1:(kd == 1)=false:=by simpa using hk1
        go_wp2
        go_roundw
        case rel=>exact⟨k+1,by omega,by go_num,Hb2.out⟩
        case measure=>simp [intOf]<;>omega
      ·have l1:¬ (k:Int)<(en:Int):=by omega
       have Hb:=Lib.hid hb
       clear hb b0 hbw
       go_wp2_with (go_at_call 11;refine(T.out _).mono ?_;rintro e w' ⟨rfl,hbs⟩)
       go_ret
       exact⟨rfl,Gr.trans Hb02.out (Gr.trans Hb.out hbs)⟩
  ·have hn0:¬ er=0:=wK
   have Hn0:=Lib.hid wK
   go_enter Try.func4,Try.ntmps4
   go_wp2_with (go_at_call 10;refine(HM.out).mono ?_;rintro e w' ⟨rfl,rfl⟩)
   refine HP.out.mono ?_
   rintro e w1 ⟨ea,en,ec,va,vn,vc,rp,rfl,hb1,hr⟩
   rcases hr with⟨_,rfl,rfl,rfl,rfl,rfl,rfl,rfl⟩|⟨h0,_⟩
   ·unfold mQ
    have N:=Lib.hid none_true
    go_wp2_with (first|(go_at_call 13;refine(N.out _).mono ?_;rintro e w2 ⟨rfl,hb2⟩)|(go_at_call 11;refine(T.out _).mono ?_;rintro e w' ⟨rfl,hb⟩))
    go_ret
    exact⟨rfl,Gr.trans Hgb.out (Gr.trans hb1 (Gr.trans (Gr.new _ _) (Gr.trans hb2 hb)))⟩
   ·exact absurd h0 wK
end
section
open Go.ChangeShapes Go.WideShapes Go.ChangeAt Go.RowKit
def IW (x:aF) (f:Nat):Value:=
 if f=0 then .int .i64 x.thread else if f=1 then .int .i64 x.obj else if f=2 then .int .i64 x.kind else if f=3 then .int .u64 (x.a:Int) else if f=4 then .int .u64 (x.b:Int) else .int .u64 (x.c:Int)
structure BD (x:aF):Prop where
 thread:(Lit.int .i64 x.thread).wf=true
 obj:(Lit.int .i64 x.obj).wf=true
 kind:(Lit.int .i64 x.kind).wf=true
 a:U64 x.a
 b:U64 x.b
 c:U64 x.c
theorem MH {H:Type} {enc:TypeId×Value->H} {W:World} {n:Nat} {cs:List Value} {x:DataW H×List MemPlace} (hx:DataW.trod enc Try.prog W 0 (λ_=>true) true n 46 cs=some x) :
  ∃ y:aF,(∀ f,f<6->cs[f]?=some (IW y f))/\cs.length=6/\BD y:=by
 have hu:=Try.underlying46
 have hi:=Try.underlying3
 have hq:=Try.underlying40
 have ci:Try.prog.cellsOf 3=1:=by kernel_rfl
 have cq:Try.prog.cellsOf 40=1:=by kernel_rfl
 have hl:=qQ hu hx
 have hc:Try.prog.cellsOf 46=6:=by kernel_rfl
 rw [hc] at hl
 obtain⟨t0,e0,w0⟩:=fA hu hx (List.getElem_mem (n:=0) (by decide)) hi ci
 obtain⟨t1,e1,w1⟩:=fA hu hx (List.getElem_mem (n:=1) (by decide)) hi ci
 obtain⟨t2,e2,w2⟩:=fA hu hx (List.getElem_mem (n:=2) (by decide)) hi ci
 obtain⟨t3,e3,w3⟩:=fA hu hx (List.getElem_mem (n:=3) (by decide)) hq cq
 obtain⟨t4,e4,w4⟩:=fA hu hx (List.getElem_mem (n:=4) (by decide)) hq cq
 obtain⟨t5,e5,w5⟩:=fA hu hx (List.getElem_mem (n:=5) (by decide)) hq cq
 obtain⟨n3,rfl,u3⟩:=AO w3
 obtain⟨n4,rfl,u4⟩:=AO w4
 obtain⟨n5,rfl,u5⟩:=AO w5
 refine⟨⟨t0,t1,t2,n3,n4,n5⟩,λf hf=>?_,hl,⟨w0,w1,w2,u3,u4,u5⟩⟩
 obtain rfl|rfl|rfl|rfl|rfl|rfl:f=0∨f=1∨f=2∨f=3∨f=4∨f=5:=by omega
 ·exact e0
 ·exact e1
 ·exact e2
 ·exact e3
 ·exact e4
 ·exact e5
theorem open_calls {H:Type} {enc:TypeId×Value->H} {W:World} {base:Nat} {v:Value} {d:DataW H} {ps:List MemPlace}
  (hv:Value.okWide Try.prog W .any base 23 v) (h:DataW.Trod enc Try.prog W 0 (λ_=>true) true 23 v d ps) (hlt:∀ p∈ps,p.block<W.heap.size) :
  ∃(a:Option Addr) (c:Nat) (l:List aF),v=.slice a l.length c/\bS W a l.length 6 (gJ l)/\(∀ y∈l,BD y):=by
 have hc:Try.prog.cellsOf 46=6:=by kernel_rfl
 obtain⟨a,c,l,h1,h2,h3⟩:=BX Try.underlying23 hv h hlt (by rw [hc];omega) (⟨0,0,0,0,0,0⟩:aF) (λy cs=>(∀ f,f<6->cs[f]?=some (IW y f))/\cs.length=6/\BD y)
  (λn cs x hx=>MH hx) IW (λy cs hy=>by rw [hc];exact⟨hy.2.1,hy.1⟩)
 rw [hc] at h2
 exact⟨a,c,l,h1,h2,λy hy=>by obtain⟨cs,_,_,hw⟩:=h3 y hy;exact hw⟩
end
section
open Go.ChangeShapes Go.WideShapes Go.ChangeAt Go.RowKit
end
section
open Go.ChangeShapes Go.WideShapes Go.ChangeAt Go.RowKit
theorem open_arr2_int {H:Type} {enc:TypeId×Value->H} {W:World} {base:Nat} {v:Value} {d:DataW H} {ps:List MemPlace}
  (hv:Value.okWide Try.prog W .any base 22 v) (h:DataW.Trod enc Try.prog W 0 (λ_=>true) true 22 v d ps) :
  ∃ x y:Int,v=.agg #[.int .i64 x,.int .i64 y]/\(Lit.int .i64 x).wf=true/\(Lit.int .i64 y).wf=true:=by
 obtain⟨fuel,hf⟩:=h
 have hc:Try.prog.cellsOf 22=2:=by kernel_rfl
 have hc1:Try.prog.cellsOf 3=1:=by kernel_rfl
 unfold Value.okWide at hv
 rw [Try.underlying22] at hv
 obtain⟨cs,rfl,hsz,_⟩:=hv
 rw [hc] at hsz
 obtain⟨xs,m,hfu,hd,hps,hlen,hel⟩:=DataW.trod_array Try.underlying22 hf
 simp only [hc1] at hel
 match cs,hsz with
 | ⟨[c0,c1]⟩,_=>
  match xs,hlen with
  | [x0,x1],_=>
   have h0:DataW.trod enc Try.prog W 0 (λ_=>true) true m 3 [c0]=some x0:=by simpa [Value.cells] using hel 0 (by omega)
   have h1:DataW.trod enc Try.prog W 0 (λ_=>true) true m 3 [c1]=some x1:=by simpa [Value.cells] using hel 1 (by omega)
   obtain⟨n0,e0,_,w0⟩:=DataW.trod_int Try.underlying3 h0
   obtain⟨n1,e1,_,w1⟩:=DataW.trod_int Try.underlying3 h1
   simp only [List.cons.injEq,and_true] at e0 e1
   exact⟨n0,n1,by rw [e0,e1],w0,w1⟩
end
end Go.Proofs.Ytifhldnmcdbpfaa
