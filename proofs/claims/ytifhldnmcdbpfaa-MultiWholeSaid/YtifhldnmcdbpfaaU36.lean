/- The walk of MultiSteps. -/
import Derived.Test.YtifhldnmcdbpfaaU35
import Derived.Test.YtifhldnmcdbpfaaU16
import Derived.Test.YtifhldnmcdbpfaaU22
import Derived.Test.YtifhldnmcdbpfaaU15
import Derived.Test.YtifhldnmcdbpfaaU02
import Derived.Test.YtifhldnmcdbpfaaU03
import Derived.Test.YtifhldnmcdbpfaaU23
set_option maxRecDepth 100000
set_option linter.unusedVariables false
set_option linter.unusedSimpArgs false
set_option linter.unnecessarySimpa false
namespace Go.Proofs.Ytifhldnmcdbpfaa
section
open Go.RowKit
set_option maxHeartbeats 16000000 in
theorem multiSteps_any (q0 q1 q2:Int) (calls:List aF) (picks:List Int) (ca pa:Option Addr) (cc pc:Nat) (w:World) (hc:iX noB w ca calls) (hp:lT w pa picks) :
  Calls Try.prog 6 #[.agg #[.int .i64 q0,.int .i64 q1,.int .i64 q2],.slice ca calls.length cc,.slice pa picks.length pc] w λe w'=>e=.returned (.bool true)/\Below w.heap.size w w':=by
 have hgb:Below w.heap.size w (w.alloc (.cells #[.int .i64 q0,.int .i64 q1,.int .i64 q2] 47)):=(Gr.new _ _)
 have M:=yB ca pa calls.length picks.length cc pc (w.alloc (.cells #[.int .i64 q0,.int .i64 q1,.int .i64 q2] 47)) (hc.grown hgb).sl.1 hp.sl.1
 have T:=Lib.hid vS
 cases hM:DU calls.length picks.length with
 | true=>
  rw [hM] at M
  have HM:=Lib.hid M;have Hgb:=Lib.hid hgb
  clear M hc hp hM hgb
  go_enter Try.func6,Try.ntmps6
  go_wp2_with (first|(go_at_call 10;refine(HM.out).mono ?_;rintro e w' ⟨rfl,rfl⟩)|(go_at_call 16;refine(T.out _).mono ?_;rintro e w' ⟨rfl,hb⟩))
  go_ret
  exact⟨rfl,Gr.trans Hgb.out hb⟩
 | false=>
  rw [hM] at M
  have HM:=Lib.hid M
  have P:=lH noB (w.alloc (.cells #[.int .i64 q0,.int .i64 q1,.int .i64 q2] 47)) q0 q1 q2 calls picks ca pa cc pc (λb hb=>hb.elim) (hc.grown hgb) (hp.grown hgb)
  obtain⟨er,her⟩:∃ er,er=fM q0 q1 q2 calls picks.length:=⟨_,rfl⟩
  rw [<-her] at P
  have HP:=Lib.hid P;have Her:=Lib.hid her;have Hc:=Lib.hid hc;have Hgb:=Lib.hid hgb
  have hcm:=hc.sl.1
  unfold maxLen at hcm
  clear M P hc hp hM her hgb
  by_cases oO:er=0
  ·have hck:fM q0 q1 q2 calls picks.length=0:=by rw [<-Her.out];exact oO
   obtain⟨uH,hm1,hm2,UR,NL⟩:=pE hck
   obtain⟨z1,z2⟩:=zD uH
   obtain⟨n,rfl⟩:∃ n:Nat,q0=(n:Int):=⟨q0.toNat,by omega⟩
   obtain⟨m,rfl⟩:∃ m:Nat,q1=(m:Int):=⟨q1.toNat,by omega⟩
   obtain⟨q,rfl⟩:∃ q:Nat,q2=(q:Int):=⟨q2.toNat,by omega⟩
   simp only [Int.toNat_natCast] at HP
   have hmp:0<m:=by omega
   have hnp:=zN uH
   have q1:JA n m calls (iM (aR n m q) fA (List.replicate (bF n m q) 0) calls picks).evs:=(qD (by omega) (by omega) (by omega) (by omega) uH).2
   have q2:(iM (aR n m q) fA (List.replicate (bF n m q) 0) calls picks).evs.length<=picks.length:=(qD (by omega) (by omega) (by omega) (by omega) uH).1
   subst oO
   obtain⟨rr,hrr⟩:∃ rr,rr=iM (aR n m q) fA (List.replicate (bF n m q) 0) calls picks:=⟨_,rfl⟩
   rw [<-hrr] at HP q1 q2
   have Hq1:=Lib.hid q1;have Hq2:=Lib.hid q2;have Hnp:=Lib.hid hnp
   clear hck uH hrr Her hnp q1 q2
   go_enter Try.func6,Try.ntmps6
   go_wp2_with (go_at_call 10;refine(HM.out).mono ?_;rintro e w' ⟨rfl,rfl⟩)
   refine HP.out.mono ?_
   rintro e w1 ⟨ea,en,ec,va,vn,vc,rp,rfl,hb1,hr⟩
   rcases hr with⟨h0,_⟩|⟨_,hrp,hen,hvn,ers,hrep⟩
   ·exact absurd rfl h0
   subst hrp
   obtain⟨w2,hw2⟩:∃ w2,w2=w1.alloc (.cells #[.slice ea en ec,.slice va vn vc,.int .i64 (rp.c.read:Int),.int .i64 (rp.c.write:Int),.int .i64 (rp.c.swap:Int),.int .i64 (rp.c.add:Int),.int .i64 (rp.c.fault:Int),.int .i64 (rp.ticks:Int),.int .i64 (rp.idle:Int)] 32):=⟨_,rfl⟩
   have hb2:Below w1.heap.size w1 w2:=by rw [hw2];exact Gr.new _ _
   have hin:qX w1 w2 w1.heap.size ea en ec va vn vc rp:=⟨Nat.le_refl _,by rw [hw2];exact heap_alloc_new _ _⟩
   have EM:=Gr.trans Hgb.out (Gr.trans hb1 hb2)
   have hlt2:w1.heap.size<w2.heap.size:=aH hin.blk
   have p0:w2.cell? ⟨w.heap.size,0,none⟩=some (.int .i64 (n:Int)):=((Gr.trans hb1 hb2).cell (p:=⟨w.heap.size,0,none⟩) (by simp)).trans (by rw [aA (heap_alloc_new w _)];rfl)
   have p1:w2.cell? ⟨w.heap.size,1,none⟩=some (.int .i64 (m:Int)):=((Gr.trans hb1 hb2).cell (p:=⟨w.heap.size,1,none⟩) (by simp)).trans (by rw [aA (heap_alloc_new w _)];rfl)
   have hlen:rp.evs.length<1000000:=by have:=Hq2.out;have:=Hnp.out;omega
   have henl:en<=1000000:=by omega
   have QB:=hrep.grown hb2
   have Hrep:=Lib.hid QB;have Hen:=Lib.hid hen;have Hin:=Lib.hid hin;have Hb02:=Lib.hid EM;have Hw2:=Lib.hid hw2
   have hc2:=Hc.out.grown EM
   have Hc2:=Lib.hid hc2
   have A0:=Lib.hid (hin.cell 0)
   have Hlt0:=Lib.hid hlt2
   have P0:=Lib.hid p0;have P1:=Lib.hid p1
   have Lw:=Lib.hid (show w.heap.size<w2.heap.size from World.block_lt_of_cell? _ _ p0)
   have r0:w2.cell? ⟨w1.heap.size,0,none⟩=some (.slice ea en ec):=hin.cell 0
   clear hrep QB hb1 hb2 hin EM hw2 hvn hen hc2 hlt2
   unfold jL
   go_upto_region 4 with fail
   rw [<-Hw2.out]
   go_upto_region 6 with fail
   go_quiet (fail)
   obtain⟨wx,hwx⟩:∃ wx,wx=w2.drewN nq:=⟨_,rfl⟩
   have hbx:Below w2.heap.size w2 wx:=by rw [hwx];exact below_drewN (Gr.refl w2) nq
   have rx:wx.cell? ⟨w1.heap.size,0,none⟩=some (.slice ea en ec):=by rw [hwx];exact r0
   rw [<-hwx]
   have Hbx:=Lib.hid hbx
   clear r0 p0 p1 hwx hbx
   go_wp2_with fail
   clear rx
   obtain⟨wa,hwa⟩:∃ wa,wa=w2:=⟨_,rfl⟩
   go_loopw [43] (λi wr=>∃ k:Nat,k<=en/\i=.int .i64 k/\Below w2.heap.size w2 wr) (λi _=>en - (intOf i).toNat)
   case atStart=>exact⟨0,Nat.zero_le _,rfl,Hbx.out⟩
   case round=>
    obtain⟨k,hk,rfl,hb⟩:=hrel
    obtain⟨wo,rfl⟩:∃ wo,wo=wr:=⟨_,rfl⟩
    have b0:wo.cell? ⟨w1.heap.size,0,none⟩=some (.slice ea en ec):=(hb.cell Hlt0.out).trans A0.out
    have hbw:w1.heap.size<wo.heap.size:=Nat.lt_of_lt_of_le Hlt0.out hb.size
    by_cases hlt:k<en
    ·obtain⟨g,la,lc,ka,kc,rfl,hgl,e0,e1,e2,e3,e4,e5,e6,e7,hls,hks,hknil⟩:=Hrep.out.ev8 Hen.out hlt hb
     have hkl:k<rp.evs.length:=by rw [<-Hen.out];exact hlt
     have hcall:=Hq1.out.call k hkl
     have hX1:=Hq1.out.steps k hkl
     obtain⟨E,hE⟩:∃ E,E=aB rp.evs k:=⟨_,rfl⟩
     rw [<-hE] at e0 e1 e2 e3 e4 e5 e6 e7 hcall hX1 hls
     obtain⟨cI,iv,rs,st,⟨er,vl,li⟩,ky⟩:=E
     unfold kindOf at hX1
     simp only at e0 e1 e2 e3 e4 e5 e6 e7 hcall hX1 hls
     obtain⟨ln,hln⟩:∃ ln,ln=li.length:=⟨_,rfl⟩
     obtain⟨kn,hkn⟩:∃ kn,kn=ky.length:=⟨_,rfl⟩
     rw [<-hln] at e6
     rw [<-hkn] at e7
     obtain⟨b9,off,rfl,y0,y1,y2,y3,y4,y5⟩:=oZ Hc2.out.sl hcall hb
     have IG:=World.block_lt_of_cell? _ _ y0
     obtain⟨C,hC⟩:∃ C,C=calls.getD cI Proofs.Ytifhldnmcdbpfaa.d0:=⟨_,rfl⟩
     rw [<-hC] at y0 y1 y2 y3 y4 y5 hX1
     obtain⟨th,ob,kd,Ba,Bn,Ak⟩:=C
     simp only at y0 y1 y2 y3 y4 y5 hX1 IG
     have l1:(k:Int)<(en:Int):=by omega
     have l2:(cI:Int)<(calls.length:Int):=by omega
     have l4:(0:Int)<=(cI:Int):=by omega
     have l6:¬ (cI:Int)<0:=by omega
     have l7:¬ (calls.length:Int)<=(cI:Int):=by omega
     have Hb:=Lib.hid hb
     have hn16:n<=16:=by omega
     obtain⟨n2,hn2⟩:∃ n2,n2=m*(n+2):=⟨_,rfl⟩
     have hn2l:n2<=1000:=by
      have:m*(n+2)<=16*18:=Nat.mul_le_mul (by omega) (by omega)
      omega
     have e22:(m:Int)*((n:Int)+2)=(n2:Int):=by rw [hn2];simp
     rw [<-hn2] at hX1
     have dF:m<=16:=by omega
     have g1:IntKind.i64.wrap ((n:Int)+2)=(n:Int)+2:=by rw [IntKind.wrap_i64];omega
     have g2:IntKind.i64.wrap ((m:Int)*((n:Int)+2))=(n2:Int):=by rw [e22,IntKind.wrap_i64];omega
     have g3:IntKind.i64.wrap ((n2:Int)+(m:Int))=(n2:Int)+(m:Int):=by rw [IntKind.wrap_i64];omega
     have g6:IntKind.i64.wrap ((n2:Int)+(m:Int)+2)=(n2:Int)+(m:Int)+2:=by rw [IntKind.wrap_i64];omega
     have g4:¬ (n2:Int)+(m:Int)+2<(st:Int):=by have:=hX1.1;omega
     have g5:kd=1->¬ (n2:Int)<(st:Int):=λe=>by have:=hX1.2 e;omega
     have G5:=Lib.hid g5
     clear hn2 hn2l e22 dF hX1 g5 hls hln hn16
     clear hks hknil hE hC hb hcall hkn
     obtain⟨w4,hw4⟩:∃ w4,w4=wo.alloc (.cells #[.int .i64 (cI:Int),.int .i64 (iv:Int),.int .i64 (rs:Int),.int .i64 (st:Int),.int .i64 er,.int .u64 (vl:Int),.slice la ln lc,.slice ka kn kc] 44):=⟨_,rfl⟩
     have hb4:Below wo.heap.size wo w4:=by rw [hw4];exact Gr.new _ _
     have hx2:w4.heap[wo.heap.size]?=some (.cells #[.int .i64 (cI:Int),.int .i64 (iv:Int),.int .i64 (rs:Int),.int .i64 (st:Int),.int .i64 er,.int .u64 (vl:Int),.slice la ln lc,.slice ka kn kc] 44 (0,0)):=by rw [hw4];exact heap_alloc_new _ _
     have Hw4:=Lib.hid hw4;have Hb2:=Lib.hid (Gr.trans Hb.out hb4);have Hx2:=Lib.hid hx2
     have z0:w4.cell? ⟨w1.heap.size,0,none⟩=some (.slice (some ⟨g,0,none⟩) en ec):=(hb4.cell hbw).trans b0
     have x0:w4.cell? ⟨wo.heap.size,0,none⟩=some (.int .i64 (cI:Int)):=by rw [aA hx2];rfl
     have x3:w4.cell? ⟨wo.heap.size,3,none⟩=some (.int .i64 (st:Int)):=by rw [aA hx2];rfl
     have k2:=(hb4.cell (World.block_lt_of_cell? _ _ y2)).trans y2
     clear hw4 hb4 hx2
     go_upto_region 11 with fail
     rw [<-Hw4.out]
     clear e0 e1 e2 e3 e4 e5 e6 e7 y0 y1 y2 y3 y4 y5 b0 hbw hgl IG z0
     by_cases hk1:kd=1
     ·have g5:=G5.out hk1
      subst hk1
      go_wp2
      go_roundw
      case rel=>exact⟨k+1,by omega,by go_num,Hb2.out⟩
      case measure=>simp [intOf]<;>omega
     ·have q1:(kd == 1)=false:=by simpa using hk1
      go_wp2
      go_roundw
      case rel=>exact⟨k+1,by omega,by go_num,Hb2.out⟩
      case measure=>simp [intOf]<;>omega
    ·have l1:¬ (k:Int)<(en:Int):=by omega
     have Hb:=Lib.hid hb
     clear hb b0 hbw
     go_wp2_with (go_at_call 16;refine(T.out _).mono ?_;rintro e w' ⟨rfl,hbs⟩)
     go_ret
     exact⟨rfl,Gr.trans Hb02.out (Gr.trans Hb.out hbs)⟩
  ·have hn0:¬ er=0:=oO
   have Hn0:=Lib.hid oO
   go_enter Try.func6,Try.ntmps6
   go_wp2_with (go_at_call 10;refine(HM.out).mono ?_;rintro e w' ⟨rfl,rfl⟩)
   refine HP.out.mono ?_
   rintro e w1 ⟨ea,en,ec,va,vn,vc,rp,rfl,hb1,hr⟩
   rcases hr with⟨_,rfl,rfl,rfl,rfl,rfl,rfl,rfl⟩|⟨h0,_⟩
   ·unfold jL
    have N:=Lib.hid none_true
    go_wp2_with (first|(go_at_call 13;refine(N.out _).mono ?_;rintro e w2 ⟨rfl,hb2⟩)|(go_at_call 16;refine(T.out _).mono ?_;rintro e w' ⟨rfl,hb⟩))
    go_ret
    exact⟨rfl,Gr.trans Hgb.out (Gr.trans hb1 (Gr.trans (Gr.new _ _) (Gr.trans hb2 hb)))⟩
   ·exact absurd h0 oO
end
section
open Go.ChangeShapes Go.WideShapes Go.ChangeAt Go.RowKit
def IU (x:aF) (f:Nat):Value:=
 if f=0 then .int .i64 x.thread else if f=1 then .int .i64 x.obj else if f=2 then .int .i64 x.kind else if f=3 then .int .u64 (x.a:Int) else if f=4 then .int .u64 (x.b:Int) else .int .u64 (x.c:Int)
structure BZ (x:aF):Prop where
 thread:(Lit.int .i64 x.thread).wf=true
 obj:(Lit.int .i64 x.obj).wf=true
 kind:(Lit.int .i64 x.kind).wf=true
 a:U64 x.a
 b:U64 x.b
 c:U64 x.c
theorem OX {H:Type} {enc:TypeId×Value->H} {W:World} {n:Nat} {cs:List Value} {x:DataW H×List MemPlace} (hx:DataW.trod enc Try.prog W 0 (λ_=>true) true n 46 cs=some x) :
  ∃ y:aF,(∀ f,f<6->cs[f]?=some (IU y f))/\cs.length=6/\BZ y:=by
 have hu:=Try.underlying46
 have hi:=Try.underlying3
 have hq:=Try.underlying40
 have ci:Try.prog.cellsOf 3=1:=by kernel_rfl
 have cq:Try.prog.cellsOf 40=1:=by kernel_rfl
 have hl:=rZ hu hx
 have hc:Try.prog.cellsOf 46=6:=by kernel_rfl
 rw [hc] at hl
 obtain⟨t0,e0,w0⟩:=eY hu hx (List.getElem_mem (n:=0) (by decide)) hi ci
 obtain⟨t1,e1,w1⟩:=eY hu hx (List.getElem_mem (n:=1) (by decide)) hi ci
 obtain⟨t2,e2,w2⟩:=eY hu hx (List.getElem_mem (n:=2) (by decide)) hi ci
 obtain⟨t3,e3,w3⟩:=eY hu hx (List.getElem_mem (n:=3) (by decide)) hq cq
 obtain⟨t4,e4,w4⟩:=eY hu hx (List.getElem_mem (n:=4) (by decide)) hq cq
 obtain⟨t5,e5,w5⟩:=eY hu hx (List.getElem_mem (n:=5) (by decide)) hq cq
 obtain⟨n3,rfl,u3⟩:=AL w3
 obtain⟨n4,rfl,u4⟩:=AL w4
 obtain⟨n5,rfl,u5⟩:=AL w5
 refine⟨⟨t0,t1,t2,n3,n4,n5⟩,λf hf=>?_,hl,⟨w0,w1,w2,u3,u4,u5⟩⟩
 obtain rfl|rfl|rfl|rfl|rfl|rfl:f=0∨f=1∨f=2∨f=3∨f=4∨f=5:=by omega
 ·exact e0
 ·exact e1
 ·exact e2
 ·exact e3
 ·exact e4
 ·exact e5
theorem open_calls {H:Type} {enc:TypeId×Value->H} {W:World} {base:Nat} {v:Value} {d:DataW H} {ps:List MemPlace}
  (hv:Value.okWide Try.prog W .any base 23 v) (h:DataW.Trod enc Try.prog W 0 (λ_=>true) true 23 v d ps) (hlt:∀ p∈ps,p.block<W.heap.size) :
  ∃(a:Option Addr) (c:Nat) (l:List aF),v=.slice a l.length c/\aW W a l.length 6 (iE l)/\(∀ y∈l,BZ y):=by
 have hc:Try.prog.cellsOf 46=6:=by kernel_rfl
 obtain⟨a,c,l,h1,h2,h3⟩:=EL Try.underlying23 hv h hlt (by rw [hc];omega) (⟨0,0,0,0,0,0⟩:aF) (λy cs=>(∀ f,f<6->cs[f]?=some (IU y f))/\cs.length=6/\BZ y)
  (λn cs x hx=>OX hx) IU (λy cs hy=>by rw [hc];exact⟨hy.2.1,hy.1⟩)
 rw [hc] at h2
 exact⟨a,c,l,h1,h2,λy hy=>by obtain⟨cs,_,_,hw⟩:=h3 y hy;exact hw⟩
end
section
open Go.ChangeShapes Go.WideShapes Go.ChangeAt Go.RowKit
theorem open_arr3_int {H:Type} {enc:TypeId×Value->H} {W:World} {base:Nat} {v:Value} {d:DataW H} {ps:List MemPlace}
  (hv:Value.okWide Try.prog W .any base 47 v) (h:DataW.Trod enc Try.prog W 0 (λ_=>true) true 47 v d ps) :
  ∃ x y z:Int,v=.agg #[.int .i64 x,.int .i64 y,.int .i64 z]:=by
 obtain⟨fuel,hf⟩:=h
 have hc:Try.prog.cellsOf 47=3:=by kernel_rfl
 have hc1:Try.prog.cellsOf 3=1:=by kernel_rfl
 unfold Value.okWide at hv
 rw [Try.underlying47] at hv
 obtain⟨cs,rfl,hsz,_⟩:=hv
 rw [hc] at hsz
 obtain⟨xs,m,hfu,hd,hps,hlen,hel⟩:=DataW.trod_array Try.underlying47 hf
 simp only [hc1] at hel
 match cs,hsz with
 | ⟨[c0,c1,c2]⟩,_=>
  match xs,hlen with
  | [x0,x1,x2],_=>
   have h0:DataW.trod enc Try.prog W 0 (λ_=>true) true m 3 [c0]=some x0:=by simpa [Value.cells] using hel 0 (by omega)
   have h1:DataW.trod enc Try.prog W 0 (λ_=>true) true m 3 [c1]=some x1:=by simpa [Value.cells] using hel 1 (by omega)
   have h2:DataW.trod enc Try.prog W 0 (λ_=>true) true m 3 [c2]=some x2:=by simpa [Value.cells] using hel 2 (by omega)
   obtain⟨n0,e0,_,w0⟩:=DataW.trod_int Try.underlying3 h0
   obtain⟨n1,e1,_,w1⟩:=DataW.trod_int Try.underlying3 h1
   obtain⟨n2,e2,_,w2⟩:=DataW.trod_int Try.underlying3 h2
   simp only [List.cons.injEq,and_true] at e0 e1 e2
   exact⟨n0,n1,n2,by rw [e0,e1,e2]⟩
end
section
open Go.RowKit
theorem yY (r iv:Nat) (a0 a1 a3 a4 a5 a6 a7 b0 b2 b3 b4 b5 b6 b7:Value) (w:World) :
  Calls Try.prog 53 #[.agg #[a0,a1,.int .i64 (r:Int),a3,a4,a5,a6,a7],.agg #[b0,.int .i64 (iv:Int),b2,b3,b4,b5,b6,b7]] w λe w'=>e=.returned (.bool (decide (r≠0) && decide (r<iv)))/\Below w.heap.size w w':=by
 by_cases h0:r=0
 ·subst h0
  go_enter Try.func53,Try.ntmps53
  go_wp2
  go_ret
  exact⟨rfl,Gr.alloc (Gr.new _ _) _⟩
 ·have q0:((r:Int) != 0)=true:=by simpa using h0
  have q1:¬ (r:Int)=0:=by omega
  by_cases h1:r<iv
  ·have e1:(decide (r≠0) && decide (r<iv))=true:=by simp [h0,h1]
   rw [e1]
   have q2:(r:Int)<(iv:Int):=by omega
   go_enter Try.func53,Try.ntmps53
   go_wp2
   go_ret
   exact⟨rfl,Gr.alloc (Gr.new _ _) _⟩
  ·have e1:(decide (r≠0) && decide (r<iv))=false:=by simp [h1]
   rw [e1]
   have q2:¬ (r:Int)<(iv:Int):=by omega
   go_enter Try.func53,Try.ntmps53
   go_wp2
   go_ret
   exact⟨rfl,Gr.alloc (Gr.new _ _) _⟩
set_option maxHeartbeats 8000000 in
theorem yK {X:Nat->Prop} {B:Nat} (w:World) (ea va:Option Addr) (en ec vn vc:Nat) (ers:List (Value×Value)) (rp:gT) (hrep:fB X B w (.slice ea en ec) (.slice va vn vc) ers rp) (hen:en=rp.evs.length) (hlen:rp.evs.length<1000000)
  (hg:∀ i k,i<rp.evs.length->k<rp.evs.length->(aB rp.evs i).resp≠0->(aB rp.evs i).resp<(aB rp.evs k).inv->kAt rp.evs k≠[]->kAt rp.evs i≠[]/\bT (kAt rp.evs i) (kAt rp.evs k)=true) (hr:∀ i,i<rp.evs.length->(aB rp.evs i).resp≠0->kAt rp.evs i≠[]) :
  Calls Try.prog 35 #[.slice ea en ec] w λe w'=>e=.returned (.bool true)/\Below w.heap.size w w':=by
 have henl:en<=9223372036854775807:=by omega
 have Hrep:=Lib.hid hrep;have Hen:=Lib.hid hen;have Hg:=Lib.hid hg;have Hr:=Lib.hid hr
 clear hrep hen hg hr hlen
 go_enter Try.func35,Try.ntmps35
 go_wp2
 go_loopw [7] (λi wr=>∃ k:Nat,k<=en/\i=.int .i64 k/\Below w.heap.size w wr) (λi _=>en - (intOf i).toNat)
 case atStart=>exact⟨0,Nat.zero_le _,rfl,Gr.refl _⟩
 case round=>
  obtain⟨k,hk,rfl,hb⟩:=hrel
  obtain⟨wo,rfl⟩:∃ wo,wo=wr:=⟨_,rfl⟩
  by_cases hlt:k<en
  ·have l1:(k:Int)<(en:Int):=by omega
   have Hb:=Lib.hid hb
   clear hb
   go_wp2
   go_loopw [12] (λi wq=>∃ q:Nat,q<=en/\i=.int .i64 q/\Below w.heap.size w wq) (λi _=>en - (intOf i).toNat)
   case atStart=>exact⟨0,Nat.zero_le _,rfl,Hb.out⟩
   case round=>
    obtain⟨q,hq,rfl,hb⟩:=hrel
    obtain⟨wi,rfl⟩:∃ wi,wi=wr:=⟨_,rfl⟩
    by_cases hlq:q<en
    ·obtain⟨g,la,lc,ka,kc,rfl,hgl,e0,e1,e2,e3,e4,e5,e6,e7,hls,hks,hknil⟩:=Hrep.out.ev8 Hen.out hlt hb
     obtain⟨g2,SA,RZ,SY,TB,hgg,RQ,f0,f1,f2,f3,f4,f5,f6,f7,VS,IX,RP⟩:=Hrep.out.ev8 Hen.out hlq hb
     cases hgg
     have G:=Hg.out k q (by rw [<-Hen.out];exact hlt) (by rw [<-Hen.out];exact hlq)
     have R:=Hr.out k (by rw [<-Hen.out];exact hlt)
     have A4:=Lib.hid (λ(u:World) (h:Below wi.heap.size wi u)=>BK (aB rp.evs k).key (aB rp.evs q).key ka SY kc TB u (hks.grown h) (IX.grown h))
     unfold kAt at G R
     obtain⟨E,hE⟩:∃ E,E=aB rp.evs k:=⟨_,rfl⟩
     obtain⟨F,hF⟩:∃ F,F=aB rp.evs q:=⟨_,rfl⟩
     rw [<-hE,<-hF] at G A4
     rw [<-hE] at e0 e1 e2 e3 e4 e5 e6 e7 R
     rw [<-hF] at f0 f1 f2 f3 f4 f5 f6 f7
     obtain⟨cI,iv,rs,st,⟨er,vl,li⟩,ky⟩:=E
     obtain⟨cJ,jv,js,jt,⟨jr,jl,ji⟩,jy⟩:=F
     simp only at e0 e1 e2 e3 e4 e5 e6 e7 f0 f1 f2 f3 f4 f5 f6 f7 G R A4
     obtain⟨ln,hln⟩:∃ ln,ln=li.length:=⟨_,rfl⟩
     obtain⟨kn,hkn⟩:∃ kn,kn=ky.length:=⟨_,rfl⟩
     obtain⟨jln,hjln⟩:∃ ln,ln=ji.length:=⟨_,rfl⟩
     obtain⟨jkn,hjkn⟩:∃ kn,kn=jy.length:=⟨_,rfl⟩
     rw [<-hln] at e6
     rw [<-hkn] at e7 A4
     rw [<-hjln] at f6
     rw [<-hjkn] at f7 A4
     have m1:(q:Int)<(en:Int):=by omega
     have Hb:=Lib.hid hb
     obtain⟨c26,OM⟩:∃ c26,c26=(decide (rs≠0) && decide (rs<jv)):=⟨_,rfl⟩
     have A26:=Lib.hid (λ(u:World)=>yY rs jv (.int .i64 (cI:Int)) (.int .i64 (iv:Int)) (.int .i64 (st:Int)) (.int .i64 er) (.int .u64 (vl:Int)) (.slice la ln lc) (.slice ka kn kc) (.int .i64 (cJ:Int)) (.int .i64 (js:Int)) (.int .i64 (jt:Int)) (.int .i64 jr) (.int .u64 (jl:Int)) (.slice SA jln RZ) (.slice SY jkn TB) u)
     rw [<-OM] at A26
     have G2:c26=true->jy≠[]->ky≠[]/\bT ky jy=true:=λh hj=>by
      rw [OM] at h
      simp only [ne_eq,Bool.and_eq_true,decide_eq_true_eq] at h
      exact G h.1 h.2 hj
     have R2:c26=true->ky≠[]:=λh=>by
      rw [OM] at h
      simp only [ne_eq,Bool.and_eq_true,decide_eq_true_eq] at h
      exact R h.1
     clear hls hks hknil VS IX RP G R hE hF hb OM hln hjln hgl RQ
     have E0:=bG e0;have E1:=bG e1;have E2:=bG e2;have E3:=bG e3;have E4:=bG e4;have E5:=bG e5;have E6:=bG e6;have E7:=bG e7
     have F0:=bG f0;have F1:=bG f1;have F2:=bG f2;have F3:=bG f3;have F4:=bG f4;have F5:=bG f5;have F6:=bG f6;have F7:=bG f7
     clear e0 e1 e2 e3 e4 e5 e6 e7 f0 f1 f2 f3 f4 f5 f6 f7
     cases c26 with
     | false=>
      clear G2 R2 A4 hkn hjkn
      go_wp2_with fail
      ((with_reducible refine dA (by kernel_rfl) (by kernel_rfl) ?_);(repeat ((with_reducible refine wpQuiet_step (λK hK=>?_));go_simp;first|((with_reducible refine hK _ ?_);clear hK K)|((with_reducible apply Exists.intro);(with_reducible refine⟨λ_=>?_,hK _ ?_⟩);((go_at_call 53;first|exact oF (A26.out _)|exact lW (A26.out _)));clear hK K)));(with_reducible refine wpQuiet_nil ?_);intro _ hw';obtain⟨nq,hw''⟩:=hw';subst hw'')
      clear E0 E1 E2 E3 E4 E5 E6 E7 F0 F1 F2 F3 F4 F5 F6 F7
      have Hq:=Lib.hid (Gr.trans Hb.out nq.below)
      go_wp2
      go_roundw
      case rel=>exact⟨q+1,by omega,by go_num,Hq.out⟩
      case measure=>simp [intOf]<;>omega
     | true=>
      have hky:=R2 rfl
      have l2:(0:Int)<(kn:Int):=by
       have:kn≠0:=by rw [hkn];intro h;exact hky (List.eq_nil_of_length_eq_zero h)
       omega
      have l2n:0<kn:=by omega
      by_cases hjy:jy=[]
      ·have l3:jkn=0:=by rw [hjkn,hjy];rfl
       subst l3
       clear G2 R2 A4 hkn hjkn hky hjy
       go_wp2_with fail
       ((with_reducible refine dA (by kernel_rfl) (by kernel_rfl) ?_);(repeat ((with_reducible refine wpQuiet_step (λK hK=>?_));go_simp;first|((with_reducible refine hK _ ?_);clear hK K)|((with_reducible apply Exists.intro);(with_reducible refine⟨λ_=>?_,hK _ ?_⟩);((go_at_call 53;first|exact oF (A26.out _)|exact lW (A26.out _)));clear hK K)));(with_reducible refine wpQuiet_nil ?_);intro _ hw';obtain⟨nq,hw''⟩:=hw';subst hw'')
       clear E0 E1 E2 E3 E4 E5 E6 E7 F0 F1 F2 F3 F4 F5 F6 F7
       have Hq:=Lib.hid (Gr.trans Hb.out nq.below)
       go_wp2
       go_roundw
       case rel=>exact⟨q+1,by omega,by go_num,Hq.out⟩
       case measure=>simp [intOf]<;>omega
      ·have l3:(0:Int)<(jkn:Int):=by
        have:jkn≠0:=by rw [hjkn];intro h;exact hjy (List.eq_nil_of_length_eq_zero h)
        omega
       have l3n:0<jkn:=by omega
       have hG:=(G2 rfl hjy).2
       rw [hG] at A4
       have A4n:=Lib.hid (λ(n:gL wi)=>A4.out n.u n.below)
       clear G2 R2 hkn hjkn hky hjy hG A4
       go_wp2_with fail
       ((with_reducible refine dA (by kernel_rfl) (by kernel_rfl) ?_);(repeat ((with_reducible refine wpQuiet_step (λK hK=>?_));go_simp;first|((with_reducible refine hK _ ?_);clear hK K)|((with_reducible apply Exists.intro);(with_reducible refine⟨λ_=>?_,hK _ ?_⟩);((first|(go_at_call 53;first|exact oF (A26.out _)|exact lW (A26.out _))|(go_at_call 54;first|exact oF (A4n.out _)|exact lW (A4n.out _))));clear hK K)));(with_reducible refine wpQuiet_nil ?_);intro _ hw';obtain⟨nq,hw''⟩:=hw';subst hw'')
       clear E0 E1 E2 E3 E4 E5 E6 E7 F0 F1 F2 F3 F4 F5 F6 F7
       have Hq:=Lib.hid (Gr.trans Hb.out nq.below)
       go_wp2
       go_roundw
       case rel=>exact⟨q+1,by omega,by go_num,Hq.out⟩
       case measure=>simp [intOf]<;>omega
    ·have l2:¬ (q:Int)<(en:Int):=by omega
     have Hb2:=Lib.hid hb
     clear hb
     go_wp2
     go_roundw
     case rel=>exact⟨k+1,by omega,by go_num,Hb2.out⟩
     case measure=>simp [intOf]<;>omega
  ·have l1:¬ (k:Int)<(en:Int):=by omega
   have Hb:=Lib.hid hb
   clear hb
   go_wp2
   go_ret
   exact⟨rfl,Hb.out⟩
end
section
open Go.RowKit
instance TW (evs:List EvD) (i j:Nat):Decidable (jB evs i j):=inferInstanceAs (Decidable (_∨_))
theorem uD (P:EvD->Bool):∀ l:List EvD,cnt P l=(l.filter P).length
 | []=>rfl
 | e::l=>by
  rw [mK,uD P l,List.filter_cons]
  split
  ·rw [List.length_cons];omega
  ·omega
theorem IA (evs:List EvD):evs=(List.range evs.length).map (aB evs):=by
 apply List.ext_getElem
 ·simp
 ·intro i h1 h2
  simp [aB,List.getD_eq_getElem?_getD,h1]
theorem GY (P:EvD->Bool) (evs:List EvD):cnt P evs=((List.range evs.length).filter λi=>P (aB evs i)).length:=by
 rw [uD]
 have h:=IA evs
 have h2:(evs.filter P).length=(((List.range evs.length).map (aB evs)).filter P).length:=by rw [<-h]
 rw [h2,List.filter_map,List.length_map];rfl
theorem rD (evs:List EvD) (Q:Nat->Bool):∀ k,((bV evs k).filter Q).length=((List.range k).filter λi=>Q i && decide (kAt evs i≠[])).length
 | 0=>rfl
 | k+1=>by
  rw [List.range_succ,List.filter_append,List.length_append,<-rD evs Q k]
  have hK:bV evs (k+1)=if kAt evs k=[] then bV evs k else wS evs (bV evs k) k:=rfl
  rw [hK]
  split
  ·rename_i h;simp [h]
  ·rename_i h
   have e:((bV evs k).filter Q).length=(((bV evs k).take (gD evs (bV evs k) k (bV evs k).length)).filter Q).length+(((bV evs k).drop (gD evs (bV evs k) k (bV evs k).length)).filter Q).length:=by
    rw [<-List.length_append,<-List.filter_append,List.take_append_drop]
   unfold wS
   rw [List.filter_append,List.filter_cons,List.length_append,e]
   cases hq:Q k<;>simp [hq,h]<;>omega
theorem FV {evs:List EvD} {l m:List Nat} {i:Nat} (h:dD evs=l++i::m) (Q:Nat->Bool):(l.filter Q).length=((List.range evs.length).filter λj=>Q j && decide (jB evs j i) && decide (kAt evs j≠[])).length:=by
 have h0:=rD evs (λj=>Q j && decide (jB evs j i)) evs.length
 rw [<-h0]
 show _=((dD evs).filter _).length
 have hs:(dD evs).Pairwise (jB evs):=(iD evs evs.length).1
 rw [h] at hs ⊢
 obtain⟨_,p2,p3⟩:=List.pairwise_append.1 hs
 obtain⟨p4,_⟩:=List.pairwise_cons.1 p2
 rw [List.filter_append,List.length_append]
 have e1:l.filter (λj=>Q j && decide (jB evs j i))=l.filter Q:=List.filter_congr λj hj=>by
  rw [decide_eq_true (p3 j hj i (by simp)),Bool.and_true]
 have e2:(i::m).filter (λj=>Q j && decide (jB evs j i))=[]:=by
  rw [List.filter_eq_nil_iff]
  intro j hj
  rcases List.mem_cons.1 hj with rfl|hj
  ·rw [decide_eq_false (mU evs j)];simp
  ·rw [decide_eq_false (uA (p4 j hj))];simp
 rw [e1,e2,List.length_nil,Nat.add_zero]
theorem xB {ap:List Nat->aF->List Nat×lU} {calls:List aF} {evs:List EvD}:∀(L:List Nat) (st:List Nat),
  (∀ l i m,L=l++i::m->(aB evs i).resp≠0->(aB evs i).ans=if (calls.getD (aB evs i).call d0).obj≠0 then ⟨12,0,[]⟩ else (ap (iT ap calls evs st l) (calls.getD (aB evs i).call d0)).2)->Fold ap calls evs st L
 | [],_,_=>trivial
 | i::L,st,h=>by
  have h0:=h [] i L rfl
  unfold Fold
  split
  ·rename_i ho
   refine⟨λhr=>(h0 hr).trans (if_pos ho),xB L st λl j m hL hr=>?_⟩
   have:=h (i::l) j m (by rw [hL];rfl) hr
   rw [this,show iT ap calls evs st (i::l)=iT ap calls evs (if (calls.getD (aB evs i).call d0).obj≠0 then st else (ap st (calls.getD (aB evs i).call d0)).1) l from rfl,if_pos ho]
  ·rename_i ho
   refine⟨λhr=>(h0 hr).trans (if_neg ho),xB L _ λl j m hL hr=>?_⟩
   have:=h (i::l) j m (by rw [hL];rfl) hr
   rw [this,show iT ap calls evs st (i::l)=iT ap calls evs (if (calls.getD (aB evs i).call d0).obj≠0 then st else (ap st (calls.getD (aB evs i).call d0)).1) l from rfl,if_neg ho]
structure nK (ap:List Nat->aF->List Nat×lU) (s0:List Nat) (calls:List aF) (n:Nat) (r:gT):Prop where
 rows:mW calls n r
 fold:Fold ap calls r.evs s0 (dD r.evs)
theorem BQ {calls:List aF} {n:Nat} {r:gT} (h:mW calls n r) {i k:Nat} (hi:i<r.evs.length) (hk:k<r.evs.length) (hr:(aB r.evs i).resp≠0) (hlt:(aB r.evs i).resp<(aB r.evs k).inv) (hne:kAt r.evs k≠[]):kAt r.evs i≠[]/\bT (kAt r.evs i) (kAt r.evs k)=true:=by
 obtain⟨_,_,_,w1,w2,w3⟩:=(h.ev i hi).resp hr
 have hk2:2*((aB r.evs k).inv:Int)<=(kAt r.evs k).headD 0:=by
  by_cases hr2:(aB r.evs k).resp=0
  ·rcases(h.ev k hk).open_ hr2 with h1|h1
   ·exact absurd h1 hne
   ·exact h1.2.1
  ·exact((h.ev k hk).resp hr2).2.2.2.2.1
 exact⟨w1,AY w1 hne (by unfold kAt at *;omega)⟩
end
end Go.Proofs.Ytifhldnmcdbpfaa
