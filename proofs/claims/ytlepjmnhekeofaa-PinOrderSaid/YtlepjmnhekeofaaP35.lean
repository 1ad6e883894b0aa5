/- The walk of PinSteps. -/
import Derived.Test.YtlepjmnhekeofaaP34
import Derived.Test.YtlepjmnhekeofaaP23
import Derived.Test.YtlepjmnhekeofaaP22
import Derived.Test.YtlepjmnhekeofaaP03
import Derived.Test.YtlepjmnhekeofaaP05
import Derived.Test.YtlepjmnhekeofaaP01
import Derived.Test.YtlepjmnhekeofaaP07
set_option maxRecDepth 100000
set_option linter.unusedVariables false
set_option linter.unusedSimpArgs false
set_option linter.unnecessarySimpa false
namespace Go.Proofs.Ytlepjmnhekeofaa
section
open Go.RowKit
set_option maxHeartbeats 16000000 in
theorem pinSteps_any (q0 q1:Int) (calls:List CallD) (picks:List Int) (ca pa:Option Addr) (cc pc:Nat) (w:World) (hc:CallsAt noB w ca calls) (hp:PicksAt w pa picks) :
  Calls Try.prog 6 #[.agg #[.int .i64 q0,.int .i64 q1],.slice ca calls.length cc,.slice pa picks.length pc] w λe w'=>e=.returned (.bool true)/\Below w.heap.size w w':=by
 have hgb:Below w.heap.size w (w.alloc (.cells #[.int .i64 q0,.int .i64 q1] 22)):=(Gr.new _ _)
 have M:=many_any ca pa calls.length picks.length cc pc (w.alloc (.cells #[.int .i64 q0,.int .i64 q1] 22)) (hc.grown hgb).sl.1 hp.sl.1
 have T:=Lib.hid pin_slow
 cases hM:manyB calls.length picks.length with
 | true=>
  rw [hM] at M
  have HM:=Lib.hid M;have Hgb:=Lib.hid hgb
  clear M hc hp hM hgb
  go_enter Try.func6,Try.ntmps6
  go_wp2_with (first|(go_at_call 13;refine(HM.out).mono ?_;rintro e w' ⟨rfl,rfl⟩)|(go_at_call 19;refine(T.out _).mono ?_;rintro e w' ⟨rfl,hb⟩))
  go_ret
  exact⟨rfl,Gr.trans Hgb.out hb⟩
 | false=>
  rw [hM] at M
  have HM:=Lib.hid M
  have P:=pinPlay_safe noB (w.alloc (.cells #[.int .i64 q0,.int .i64 q1] 22)) q0 q1 calls picks ca pa cc pc (λb hb=>hb.elim) (hc.grown hgb) (hp.grown hgb)
  obtain⟨er,her⟩:∃ er,er=piCheck q0 q1 calls picks.length:=⟨_,rfl⟩
  rw [<-her] at P
  have HP:=Lib.hid P;have Her:=Lib.hid her;have Hc:=Lib.hid hc;have Hgb:=Lib.hid hgb
  have hcm:=hc.sl.1
  unfold maxLen at hcm
  clear M P hc hp hM her hgb
  by_cases her0:er=0
  ·have hck:piCheck q0 q1 calls picks.length=0:=by rw [<-Her.out];exact her0
   obtain⟨hck0,hm1,hm2⟩:=piCheck_zero hck
   obtain⟨z1,z2⟩:=n_ok hck0
   obtain⟨n,rfl⟩:∃ n:Nat,q0=(n:Int):=⟨q0.toNat,by omega⟩
   obtain⟨m,rfl⟩:∃ m:Nat,q1=(m:Int):=⟨q1.toNat,by omega⟩
   simp only [Int.toNat_natCast] at HP
   have hmp:0<m:=by omega
   have hnp:=np_ok hck0
   have q1:PinGood n m calls (playD (pinS n m) (pinO0 n) (List.replicate (1+(n+1)*(m+1)) 0) calls picks).evs:=(pi_report hmp (by omega) hck0).2
   have q2:(playD (pinS n m) (pinO0 n) (List.replicate (1+(n+1)*(m+1)) 0) calls picks).evs.length<=picks.length:=(pi_report hmp (by omega) hck0).1
   subst her0
   obtain⟨rr,hrr⟩:∃ rr,rr=playD (pinS n m) (pinO0 n) (List.replicate (1+(n+1)*(m+1)) 0) calls picks:=⟨_,rfl⟩
   rw [<-hrr] at HP q1 q2
   have Hq1:=Lib.hid q1;have Hq2:=Lib.hid q2;have Hnp:=Lib.hid hnp
   clear hck hck0 hrr Her hnp q1 q2
   go_enter Try.func6,Try.ntmps6
   go_wp2_with (go_at_call 13;refine(HM.out).mono ?_;rintro e w' ⟨rfl,rfl⟩)
   refine HP.out.mono ?_
   rintro e w1 ⟨ea,en,ec,va,vn,vc,rp,rfl,hb1,hr⟩
   rcases hr with⟨h0,_⟩|⟨_,hrp,hen,hvn,ers,hrep⟩
   ·exact absurd rfl h0
   subst hrp
   obtain⟨w2,hw2⟩:∃ w2,w2=w1.alloc (.cells #[.slice ea en ec,.slice va vn vc,.int .i64 (rp.c.read:Int),.int .i64 (rp.c.write:Int),.int .i64 (rp.c.swap:Int),.int .i64 (rp.c.add:Int),.int .i64 (rp.c.fault:Int),.int .i64 (rp.ticks:Int),.int .i64 (rp.idle:Int)] 32):=⟨_,rfl⟩
   have hb2:Below w1.heap.size w1 w2:=by rw [hw2];exact Gr.new _ _
   have hin:RepIn w1 w2 w1.heap.size ea en ec va vn vc rp:=⟨Nat.le_refl _,by rw [hw2];exact heap_alloc_new _ _⟩
   have hb02:=Gr.trans Hgb.out (Gr.trans hb1 hb2)
   have hlt2:w1.heap.size<w2.heap.size:=blk_lt hin.blk
   have p0:w2.cell? ⟨w.heap.size,0,none⟩=some (.int .i64 (n:Int)):=((Gr.trans hb1 hb2).cell (p:=⟨w.heap.size,0,none⟩) (by simp)).trans (by rw [cell_blk (heap_alloc_new w _)];rfl)
   have p1:w2.cell? ⟨w.heap.size,1,none⟩=some (.int .i64 (m:Int)):=((Gr.trans hb1 hb2).cell (p:=⟨w.heap.size,1,none⟩) (by simp)).trans (by rw [cell_blk (heap_alloc_new w _)];rfl)
   have hlen:rp.evs.length<1000000:=by have:=Hq2.out;have:=Hnp.out;omega
   have henl:en<=1000000:=by omega
   have hrep2:=hrep.grown hb2
   have Hrep:=Lib.hid hrep2;have Hen:=Lib.hid hen;have Hin:=Lib.hid hin;have Hb02:=Lib.hid hb02;have Hw2:=Lib.hid hw2
   have hc2:=Hc.out.grown hb02
   have Hc2:=Lib.hid hc2
   have A0:=Lib.hid (hin.cell 0)
   have Hlt0:=Lib.hid hlt2
   have P0:=Lib.hid p0;have P1:=Lib.hid p1
   have Lw:=Lib.hid (show w.heap.size<w2.heap.size from World.block_lt_of_cell? _ _ p0)
   have r0:w2.cell? ⟨w1.heap.size,0,none⟩=some (.slice ea en ec):=hin.cell 0
   clear hrep hrep2 hb1 hb2 hin hb02 hw2 hvn hen hc2 p0 p1 hlt2
   unfold repV
   go_upto_region 4 with fail
   rw [<-Hw2.out]
   go_wp2_with fail
   clear r0
   obtain⟨wa,hwa⟩:∃ wa,wa=w2:=⟨_,rfl⟩
   go_loopw [35] (λi wr=>∃ k:Nat,k<=en/\i=.int .i64 k/\Below w2.heap.size w2 wr) (λi _=>en - (intOf i).toNat)
   case atStart=>exact⟨0,Nat.zero_le _,rfl,Gr.refl _⟩
   case round=>
    obtain⟨k,hk,rfl,hb⟩:=hrel
    obtain⟨wo,rfl⟩:∃ wo,wo=wr:=⟨_,rfl⟩
    have b0:wo.cell? ⟨w1.heap.size,0,none⟩=some (.slice ea en ec):=(hb.cell Hlt0.out).trans A0.out
    have hbw:w1.heap.size<wo.heap.size:=Nat.lt_of_lt_of_le Hlt0.out hb.size
    by_cases hlt:k<en
    ·obtain⟨g,la,lc,ka,kc,rfl,hgl,e0,e1,e2,e3,e4,e5,e6,e7,hls,hks,hknil⟩:=Hrep.out.ev8 Hen.out hlt hb
     have hkl:k<rp.evs.length:=by rw [<-Hen.out];exact hlt
     have hcall:=Hq1.out.call k hkl
     have hX1:=Hq1.out.steps k hkl
     have hX2:=Hq1.out.list k hkl
     obtain⟨E,hE⟩:∃ E,E=evAt rp.evs k:=⟨_,rfl⟩
     rw [<-hE] at e0 e1 e2 e3 e4 e5 e6 e7 hcall hX1 hX2 hls
     obtain⟨cI,iv,rs,st,⟨er,vl,li⟩,ky⟩:=E
     unfold kindOf at hX1 hX2
     unfold objOf at hX2
     simp only at e0 e1 e2 e3 e4 e5 e6 e7 hcall hX1 hX2 hls
     obtain⟨ln,hln⟩:∃ ln,ln=li.length:=⟨_,rfl⟩
     obtain⟨kn,hkn⟩:∃ kn,kn=ky.length:=⟨_,rfl⟩
     rw [<-hln] at e6
     rw [<-hkn] at e7
     obtain⟨b9,off,rfl,y0,y1,y2,y3,y4,y5⟩:=call_at Hc2.out.sl hcall hb
     have hb9:=World.block_lt_of_cell? _ _ y0
     obtain⟨C,hC⟩:∃ C,C=calls.getD cI Proofs.Ytlepjmnhekeofaa.d0:=⟨_,rfl⟩
     rw [<-hC] at y0 y1 y2 y3 y4 y5 hX1 hX2
     obtain⟨th,ob,kd,ca1,cb1,cc1⟩:=C
     simp only at y0 y1 y2 y3 y4 y5 hX1 hX2 hb9
     have l1:(k:Int)<(en:Int):=by omega
     have l2:(cI:Int)<(calls.length:Int):=by omega
     have l4:(0:Int)<=(cI:Int):=by omega
     have l6:¬ (cI:Int)<0:=by omega
     have l7:¬ (calls.length:Int)<=(cI:Int):=by omega
     have Hb:=Lib.hid hb
     obtain⟨nm,hnm⟩:∃ nm,nm=n+m:=⟨_,rfl⟩
     have g1:IntKind.i64.wrap ((n:Int)+(m:Int))=(nm:Int):=by rw [IntKind.wrap_i64];omega
     have g2:IntKind.i64.wrap ((nm:Int)+1)=(nm:Int)+1:=by rw [IntKind.wrap_i64];omega
     have g3:IntKind.i64.wrap ((m:Int)+2)=(m:Int)+2:=by rw [IntKind.wrap_i64];omega
     have g4:¬ (nm:Int)+1<(st:Int):=by have:=hX1.1;omega
     have g5:kd=1->¬ (m:Int)+2<(st:Int):=λe=>by have:=hX1.2 e;omega
     have G5:=Lib.hid g5
     clear hnm hX1 hX2 g5 hls hln
     clear hks hknil hE hC hb hcall hkn
     obtain⟨w4,hw4⟩:∃ w4,w4=wo.alloc (.cells #[.int .i64 (cI:Int),.int .i64 (iv:Int),.int .i64 (rs:Int),.int .i64 (st:Int),.int .i64 er,.int .u64 (vl:Int),.slice la ln lc,.slice ka kn kc] 44):=⟨_,rfl⟩
     have hb4:Below wo.heap.size wo w4:=by rw [hw4];exact Gr.new _ _
     have hx2:w4.heap[wo.heap.size]?=some (.cells #[.int .i64 (cI:Int),.int .i64 (iv:Int),.int .i64 (rs:Int),.int .i64 (st:Int),.int .i64 er,.int .u64 (vl:Int),.slice la ln lc,.slice ka kn kc] 44 (0,0)):=by rw [hw4];exact heap_alloc_new _ _
     have Hw4:=Lib.hid hw4;have Hb2:=Lib.hid (Gr.trans Hb.out hb4);have Hx2:=Lib.hid hx2
     have z0:w4.cell? ⟨w1.heap.size,0,none⟩=some (.slice (some ⟨g,0,none⟩) en ec):=(hb4.cell hbw).trans b0
     have x0:w4.cell? ⟨wo.heap.size,0,none⟩=some (.int .i64 (cI:Int)):=by rw [cell_blk hx2];rfl
     have x3:w4.cell? ⟨wo.heap.size,3,none⟩=some (.int .i64 (st:Int)):=by rw [cell_blk hx2];rfl
     have k2:=(hb4.cell (World.block_lt_of_cell? _ _ y2)).trans y2
     have s0:=(Hb2.out.cell Lw.out).trans P0.out
     have s1:=(Hb2.out.cell Lw.out).trans P1.out
     clear hw4 hb4 hx2
     go_upto_region 10 with fail
     rw [<-Hw4.out]
     clear e0 e1 e2 e3 e4 e5 e6 e7 y0 y1 y2 y3 y4 y5 b0 hbw hgl hb9 z0
     by_cases hk1:kd=1
     ·have g5:=G5.out hk1
      subst hk1
      go_wp2
      go_roundw
      case rel=>exact⟨k+1,by omega,by go_num,Hb2.out⟩
      case measure=>simp [intOf]<;>omega
     ·have q1:(kd == 1)=false:=by simpa using hk1
      go_wp2
      go_roundw
      case rel=>exact⟨k+1,by omega,by go_num,Hb2.out⟩
      case measure=>simp [intOf]<;>omega
    ·have l1:¬ (k:Int)<(en:Int):=by omega
     have Hb:=Lib.hid hb
     clear hb b0 hbw
     go_wp2_with (go_at_call 19;refine(T.out _).mono ?_;rintro e w' ⟨rfl,hbs⟩)
     go_ret
     exact⟨rfl,Gr.trans Hb02.out (Gr.trans Hb.out hbs)⟩
  ·have hn0:¬ er=0:=her0
   have Hn0:=Lib.hid her0
   go_enter Try.func6,Try.ntmps6
   go_wp2_with (go_at_call 13;refine(HM.out).mono ?_;rintro e w' ⟨rfl,rfl⟩)
   refine HP.out.mono ?_
   rintro e w1 ⟨ea,en,ec,va,vn,vc,rp,rfl,hb1,hr⟩
   rcases hr with⟨_,rfl,rfl,rfl,rfl,rfl,rfl,rfl⟩|⟨h0,_⟩
   ·unfold repV
    have N:=Lib.hid none_true
    go_wp2_with (first|(go_at_call 16;refine(N.out _).mono ?_;rintro e w2 ⟨rfl,hb2⟩)|(go_at_call 19;refine(T.out _).mono ?_;rintro e w' ⟨rfl,hb⟩))
    go_ret
    exact⟨rfl,Gr.trans Hgb.out (Gr.trans hb1 (Gr.trans (Gr.new _ _) (Gr.trans hb2 hb)))⟩
   ·exact absurd h0 her0
end
section

/- What the laws' arguments come as: calls. -/
open Go.ChangeShapes Go.WideShapes Go.ChangeAt Go.RowKit
def callV (x:CallD) (f:Nat):Value:=
 if f=0 then .int .i64 x.thread else if f=1 then .int .i64 x.obj else if f=2 then .int .i64 x.kind else if f=3 then .int .u64 (x.a:Int) else if f=4 then .int .u64 (x.b:Int) else .int .u64 (x.c:Int)
structure CallWf (x:CallD):Prop where
 thread:(Lit.int .i64 x.thread).wf=true
 obj:(Lit.int .i64 x.obj).wf=true
 kind:(Lit.int .i64 x.kind).wf=true
 a:U64 x.a
 b:U64 x.b
 c:U64 x.c
theorem call_of {H:Type} {enc:TypeId×Value->H} {W:World} {n:Nat} {cs:List Value} {x:DataW H×List MemPlace} (hx:DataW.trod enc Try.prog W 0 (λ_=>true) true n 46 cs=some x) :
  ∃ y:CallD,(∀ f,f<6->cs[f]?=some (callV y f))/\cs.length=6/\CallWf y:=by
 have hu:=Try.underlying46
 have hi:=Try.underlying3
 have hq:=Try.underlying40
 have ci:Try.prog.cellsOf 3=1:=by kernel_rfl
 have cq:Try.prog.cellsOf 40=1:=by kernel_rfl
 have hl:=trod_len_struct hu hx
 have hc:Try.prog.cellsOf 46=6:=by kernel_rfl
 rw [hc] at hl
 obtain⟨t0,e0,w0⟩:=trod_field_int hu hx (List.getElem_mem (n:=0) (by decide)) hi ci
 obtain⟨t1,e1,w1⟩:=trod_field_int hu hx (List.getElem_mem (n:=1) (by decide)) hi ci
 obtain⟨t2,e2,w2⟩:=trod_field_int hu hx (List.getElem_mem (n:=2) (by decide)) hi ci
 obtain⟨t3,e3,w3⟩:=trod_field_int hu hx (List.getElem_mem (n:=3) (by decide)) hq cq
 obtain⟨t4,e4,w4⟩:=trod_field_int hu hx (List.getElem_mem (n:=4) (by decide)) hq cq
 obtain⟨t5,e5,w5⟩:=trod_field_int hu hx (List.getElem_mem (n:=5) (by decide)) hq cq
 obtain⟨n3,rfl,u3⟩:=u64_of w3
 obtain⟨n4,rfl,u4⟩:=u64_of w4
 obtain⟨n5,rfl,u5⟩:=u64_of w5
 refine⟨⟨t0,t1,t2,n3,n4,n5⟩,λf hf=>?_,hl,⟨w0,w1,w2,u3,u4,u5⟩⟩
 obtain rfl|rfl|rfl|rfl|rfl|rfl:f=0∨f=1∨f=2∨f=3∨f=4∨f=5:=by omega
 ·exact e0
 ·exact e1
 ·exact e2
 ·exact e3
 ·exact e4
 ·exact e5
theorem open_calls {H:Type} {enc:TypeId×Value->H} {W:World} {base:Nat} {v:Value} {d:DataW H} {ps:List MemPlace}
  (hv:Value.okWide Try.prog W .any base 23 v) (h:DataW.Trod enc Try.prog W 0 (λ_=>true) true 23 v d ps) (hlt:∀ p∈ps,p.block<W.heap.size) :
  ∃(a:Option Addr) (c:Nat) (l:List CallD),v=.slice a l.length c/\SlAt W a l.length 6 (callG l)/\(∀ y∈l,CallWf y):=by
 have hc:Try.prog.cellsOf 46=6:=by kernel_rfl
 obtain⟨a,c,l,h1,h2,h3⟩:=open_sl Try.underlying23 hv h hlt (by rw [hc];omega) (⟨0,0,0,0,0,0⟩:CallD) (λy cs=>(∀ f,f<6->cs[f]?=some (callV y f))/\cs.length=6/\CallWf y)
  (λn cs x hx=>call_of hx) callV (λy cs hy=>by rw [hc];exact⟨hy.2.1,hy.1⟩)
 rw [hc] at h2
 exact⟨a,c,l,h1,h2,λy hy=>by obtain⟨cs,_,_,hw⟩:=h3 y hy;exact hw⟩
end
section

/- What the laws' arguments come as: slices of words, pairs, accesses. -/
open Go.ChangeShapes Go.WideShapes Go.ChangeAt Go.RowKit
end
section

/- What the laws' arguments come as: two ints. -/
open Go.ChangeShapes Go.WideShapes Go.ChangeAt Go.RowKit
theorem open_arr2_int {H:Type} {enc:TypeId×Value->H} {W:World} {base:Nat} {v:Value} {d:DataW H} {ps:List MemPlace}
  (hv:Value.okWide Try.prog W .any base 22 v) (h:DataW.Trod enc Try.prog W 0 (λ_=>true) true 22 v d ps) :
  ∃ x y:Int,v=.agg #[.int .i64 x,.int .i64 y]/\(Lit.int .i64 x).wf=true/\(Lit.int .i64 y).wf=true:=by
 obtain⟨fuel,hf⟩:=h
 have hc:Try.prog.cellsOf 22=2:=by kernel_rfl
 have hc1:Try.prog.cellsOf 3=1:=by kernel_rfl
 unfold Value.okWide at hv
 rw [Try.underlying22] at hv
 obtain⟨cs,rfl,hsz,_⟩:=hv
 rw [hc] at hsz
 obtain⟨xs,m,hfu,hd,hps,hlen,hel⟩:=DataW.trod_array Try.underlying22 hf
 simp only [hc1] at hel
 match cs,hsz with
 | ⟨[c0,c1]⟩,_=>
  match xs,hlen with
  | [x0,x1],_=>
   have h0:DataW.trod enc Try.prog W 0 (λ_=>true) true m 3 [c0]=some x0:=by simpa [Value.cells] using hel 0 (by omega)
   have h1:DataW.trod enc Try.prog W 0 (λ_=>true) true m 3 [c1]=some x1:=by simpa [Value.cells] using hel 1 (by omega)
   obtain⟨n0,e0,_,w0⟩:=DataW.trod_int Try.underlying3 h0
   obtain⟨n1,e1,_,w1⟩:=DataW.trod_int Try.underlying3 h1
   simp only [List.cons.injEq,and_true] at e0 e1
   exact⟨n0,n1,by rw [e0,e1],w0,w1⟩
end
section

/- Layer 14: is what was read nought, or what one call wrote: as loops find it. -/
open Go.RowKit
def piNou (l:List Nat):Nat->Bool
 | 0=>true
 | q+1=>piNou l q && decide (l.getD q 0=0)
def piRis (l:List Nat):Nat->Bool
 | 0=>true
 | q+1=>piRis l q && decide (l.getD q 0=(l.getD 0 0+q) % 18446744073709551616)
def piWasC (calls:List CallD) (l0 j:Nat):Bool:=decide ((calls.getD j d0).thread=0) && (decide ((calls.getD j d0).obj=0) && (decide ((calls.getD j d0).kind=0) && decide ((calls.getD j d0).a=l0)))
def piWas (calls:List CallD) (nou ris:Bool) (l0:Nat):Nat->Bool
 | 0=>nou
 | q+1=>piWas calls nou ris l0 q || ris && piWasC calls l0 q
theorem piWas_mono {calls:List CallD} {nou ris:Bool} {l0 q:Nat} (h:piWas calls nou ris l0 q=true):∀ n,piWas calls nou ris l0 (q+n)=true
 | 0=>h
 | n+1=>by
  show(piWas calls nou ris l0 (q+n) || _)=true
  rw [piWas_mono h n];rfl
theorem piNou_all {l:List Nat}:∀ k,(∀ a,a<k->l.getD a 0=0)->piNou l k=true
 | 0,_=>rfl
 | k+1,h=>by
  show(piNou l k && _)=true
  rw [piNou_all k (λa ha=>h a (by omega)),decide_eq_true (h k (by omega))];rfl
theorem piRis_all {l:List Nat}:∀ k,(∀ a,a<k->l.getD a 0=(l.getD 0 0+a) % 18446744073709551616)->piRis l k=true
 | 0,_=>rfl
 | k+1,h=>by
  show(piRis l k && _)=true
  rw [piRis_all k (λa ha=>h a (by omega)),decide_eq_true (h k (by omega))];rfl
theorem pi_written {k:Nat} {calls:List CallD} {l:List Nat} (hk:1<=k) (hA:∀ c,c<calls.length->(calls.getD c d0).a<18446744073709551616) (h:piGood k calls (λa=>l.getD a 0)):piWas calls (piNou l k) (piRis l k) (l.getD 0 0) calls.length=true:=by
 rcases h with h|⟨c,c1,c2,c3,c4,c5⟩
 ·have h0:piWas calls (piNou l k) (piRis l k) (l.getD 0 0) 0=true:=piNou_all k h
  have:=piWas_mono h0 calls.length
  rw [Nat.zero_add] at this;exact this
 ·have a1:=hA c c1
  have c5:∀ a,a<k->l.getD a 0=((calls.getD c d0).a+a) % 18446744073709551616:=c5
  have e0:l.getD 0 0=(calls.getD c d0).a:=by rw [c5 0 (by omega),Nat.add_zero,Nat.mod_eq_of_lt a1]
  have hr:piRis l k=true:=piRis_all k (λa ha=>by rw [c5 a ha,e0])
  have hc:piWasC calls (l.getD 0 0) c=true:=by
   unfold piWasC
   rw [decide_eq_true c2,decide_eq_true c3,decide_eq_true c4,decide_eq_true e0.symm];rfl
  have h0:piWas calls (piNou l k) (piRis l k) (l.getD 0 0) (c+1)=true:=by
   show(piWas calls (piNou l k) (piRis l k) (l.getD 0 0) c || piRis l k && _)=true
   rw [hr,hc];simp
  have:=piWas_mono h0 (calls.length - (c+1))
  rw [show c+1+(calls.length - (c+1))=calls.length by omega] at this;exact this
end
end Go.Proofs.Ytlepjmnhekeofaa
