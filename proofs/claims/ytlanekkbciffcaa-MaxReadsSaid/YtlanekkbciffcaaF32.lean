/- The walk of MaxSteps. -/
import Derived.Test.YtlanekkbciffcaaF30
import Derived.Test.YtlanekkbciffcaaF31
import Derived.Test.YtlanekkbciffcaaF16
import Derived.Test.YtlanekkbciffcaaF24
import Derived.Test.YtlanekkbciffcaaF02
import Derived.Test.YtlanekkbciffcaaF04
import Derived.Test.YtlanekkbciffcaaF01
import Derived.Test.YtlanekkbciffcaaF05
set_option maxRecDepth 100000
set_option linter.unusedVariables false
set_option linter.unusedSimpArgs false
set_option linter.unnecessarySimpa false
namespace Go.Proofs.Ytlanekkbciffcaa
section
open Go.RowKit
set_option maxHeartbeats 16000000 in
theorem maxSteps_any (q0 q1:Int) (calls:List CallD) (picks:List Int) (ca pa:Option Addr) (cc pc:Nat) (w:World) (hc:CallsAt noB w ca calls) (hp:PicksAt w pa picks) :
  Calls Try.prog 4 #[.agg #[.int .i64 q0,.int .i64 q1],.slice ca calls.length cc,.slice pa picks.length pc] w λe w'=>e=.returned (.bool true)/\Below w.heap.size w w':=by
 have hgb:Below w.heap.size w (w.alloc (.cells #[.int .i64 q0,.int .i64 q1] 22)):=(Gr.new _ _)
 have M:=many_any ca pa calls.length picks.length cc pc (w.alloc (.cells #[.int .i64 q0,.int .i64 q1] 22)) (hc.grown hgb).sl.1 hp.sl.1
 have T:=Lib.hid max_second
 cases hM:manyB calls.length picks.length with
 | true=>
  rw [hM] at M
  have HM:=Lib.hid M;have Hgb:=Lib.hid hgb
  clear M hc hp hM hgb
  go_enter Try.func4,Try.ntmps4
  go_wp2_with (first|(go_at_call 15;refine(HM.out).mono ?_;rintro e w' ⟨rfl,rfl⟩)|(go_at_call 16;refine(T.out _).mono ?_;rintro e w' ⟨rfl,hb⟩))
  go_ret
  exact⟨rfl,Gr.trans Hgb.out hb⟩
 | false=>
  rw [hM] at M
  have HM:=Lib.hid M
  have P:=maxPlay_any noB (w.alloc (.cells #[.int .i64 q0,.int .i64 q1] 22)) q0 q1 calls picks ca pa cc pc (λb hb=>hb.elim) (hc.grown hgb) (hp.grown hgb)
  obtain⟨er,her⟩:∃ er,er=mxCheck q0 q1 calls picks.length:=⟨_,rfl⟩
  rw [<-her] at P
  have HP:=Lib.hid P;have Her:=Lib.hid her;have Hc:=Lib.hid hc;have Hgb:=Lib.hid hgb
  have hcm:=hc.sl.1
  unfold maxLen at hcm
  clear M P hc hp hM her hgb
  by_cases her0:er=0
  ·have hck:mxCheck q0 q1 calls picks.length=0:=by rw [<-Her.out];exact her0
   obtain⟨hck0,hm1,hm2⟩:=mxCheck_zero hck
   obtain⟨z1,z2⟩:=n_ok hck0
   obtain⟨n,rfl⟩:∃ n:Nat,q0=(n:Int):=⟨q0.toNat,by omega⟩
   obtain⟨m,rfl⟩:∃ m:Nat,q1=(m:Int):=⟨q1.toNat,by omega⟩
   simp only [Int.toNat_natCast] at HP
   have hmp:0<m:=by omega
   have hnp:=np_ok hck0
   have q1:∀ x,x∈(playD (maxS m) () (List.replicate (mxSize m) 0) calls picks).words->x<=1:=(mxSt_report hmp hck0).1
   have q2:∀ j,j<(playD (maxS m) () (List.replicate (mxSize m) 0) calls picks).evs.length->(evAt (playD (maxS m) () (List.replicate (mxSize m) 0) calls picks).evs j).steps<=m:=(mxSt_report hmp hck0).2.1
   have q3:(playD (maxS m) () (List.replicate (mxSize m) 0) calls picks).evs.length<=picks.length:=(mxSt_report hmp hck0).2.2.1
   have q4:(playD (maxS m) () (List.replicate (mxSize m) 0) calls picks).words.length<=4096:=by rw [show(playD (maxS m) () (List.replicate (mxSize m) 0) calls picks).words.length=2^m - 1 from(mxSt_report hmp hck0).2.2.2];have:=Nat.pow_le_pow_right (n:=2) (by decide) (show m<=12 by omega);omega
   subst her0
   obtain⟨rr,hrr⟩:∃ rr,rr=playD (maxS m) () (List.replicate (mxSize m) 0) calls picks:=⟨_,rfl⟩
   rw [<-hrr] at HP q1 q2 q3 q4
   have Hq1:=Lib.hid q1;have Hq2:=Lib.hid q2;have Hq3:=Lib.hid q3;have Hq4:=Lib.hid q4;have Hnp:=Lib.hid hnp
   clear hck hck0 hrr Her hnp q1 q2 q3 q4
   go_enter Try.func4,Try.ntmps4
   go_wp2_with (go_at_call 15;refine(HM.out).mono ?_;rintro e w' ⟨rfl,rfl⟩)
   refine HP.out.mono ?_
   rintro e w1 ⟨ea,en,ec,va,vn,vc,rp,rfl,hb1,hr⟩
   rcases hr with⟨h0,_⟩|⟨_,hrp,hen,hvn,ers,hrep⟩
   ·exact absurd rfl h0
   subst hrp
   obtain⟨w2,hw2⟩:∃ w2,w2=w1.alloc (.cells #[.slice ea en ec,.slice va vn vc,.int .i64 (rp.c.read:Int),.int .i64 (rp.c.write:Int),.int .i64 (rp.c.swap:Int),.int .i64 (rp.c.add:Int),.int .i64 (rp.c.fault:Int),.int .i64 (rp.ticks:Int),.int .i64 (rp.idle:Int)] 32):=⟨_,rfl⟩
   have hb2:Below w1.heap.size w1 w2:=by rw [hw2];exact Gr.new _ _
   have hin:RepIn w1 w2 w1.heap.size ea en ec va vn vc rp:=⟨Nat.le_refl _,by rw [hw2];exact heap_alloc_new _ _⟩
   have hb02:=Gr.trans Hgb.out (Gr.trans hb1 hb2)
   have hlt2:w1.heap.size<w2.heap.size:=blk_lt hin.blk
   have p0:w2.cell? ⟨w.heap.size,0,none⟩=some (.int .i64 (n:Int)):=((Gr.trans hb1 hb2).cell (p:=⟨w.heap.size,0,none⟩) (by simp)).trans (by rw [cell_blk (heap_alloc_new w _)];rfl)
   have p1:w2.cell? ⟨w.heap.size,1,none⟩=some (.int .i64 (m:Int)):=((Gr.trans hb1 hb2).cell (p:=⟨w.heap.size,1,none⟩) (by simp)).trans (by rw [cell_blk (heap_alloc_new w _)];rfl)
   have hlen:rp.evs.length<1000000:=by have:=Hq3.out;have:=Hnp.out;omega
   have henl:en<=1000000:=by omega
   have Hrep:=Lib.hid hrep;have Hen:=Lib.hid hen;have Hvn:=Lib.hid hvn;have Hin:=Lib.hid hin;have Hb02:=Lib.hid hb02;have Hw2:=Lib.hid hw2;have Hb2:=Lib.hid hb2
   have MT:=Lib.hid (λ(u:World) (h:Below w2.heap.size w2 u)=>most_true u m ea va en ec vn vc ers rp (hrep.grown (Gr.trans hb2 h)) hen hlen Hq2.out)
   have A1:=Lib.hid (hin.cell 1)
   have P1:=Lib.hid p1
   have Hlt2:=Lib.hid hlt2
   have Lw:=Lib.hid (show w.heap.size<w2.heap.size from World.block_lt_of_cell? _ _ p0)
   have hvl:vn<=1000000:=by have h9:=Hq4.out;omega
   have WS:=Lib.hid (λ(h0:0<vn)=>(hrep.grown hb2).word hvn h0)
   have r1:w2.cell? ⟨w1.heap.size,1,none⟩=some (.slice va vn vc):=hin.cell 1
   clear hrep hb1 hb2 hin hb02 hw2 p0 p1 hen hvn hlen
   unfold repV
   go_upto_region 4 with fail
   rw [<-Hw2.out]
   go_wp2_with fail
   clear r1
   obtain⟨wa,hwa⟩:∃ wa,wa=w2:=⟨_,rfl⟩
   go_loopw [34] (λi wr=>∃ k:Nat,k<=vn/\i=.int .i64 k/\Below w2.heap.size w2 wr) (λi _=>vn - (intOf i).toNat)
   case atStart=>exact⟨0,Nat.zero_le _,rfl,Gr.refl _⟩
   case round=>
    obtain⟨k,hk,rfl,hb⟩:=hrel
    obtain⟨wo,rfl⟩:∃ wo,wo=wr:=⟨_,rfl⟩
    have b1:wo.cell? ⟨w1.heap.size,1,none⟩=some (.slice va vn vc):=(hb.cell Hlt2.out).trans A1.out
    have Hb:=Lib.hid hb
    by_cases hlt:k<vn
    ·obtain⟨g,rfl,hgl,hcell⟩:=WS.out (by omega)
     have h0:=(hb.cell (p:=⟨g,k,none⟩) hgl).trans (hcell k hlt)
     obtain⟨x,hx⟩:∃ x:Nat,x=rp.words.getD k 0:=⟨_,rfl⟩
     have hx1:x<=1:=by
      have hk':k<rp.words.length:=by rw [<-Hvn.out];exact hlt
      rw [hx,List.getD_eq_getElem?_getD,List.getElem?_eq_getElem hk']
      exact Hq1.out _ (List.getElem_mem hk')
     have h0':wo.cell? ⟨g,k,none⟩=some (.int .u64 (x:Int)):=by rw [h0,hx]
     have l1:(k:Int)<(vn:Int):=by omega
     have l2:¬ (1:Int)<(x:Int):=by omega
     clear hb hx hcell h0 hgl
     go_wp2
     go_roundw
     case rel=>exact⟨k+1,by omega,by go_num,Hb.out⟩
     case measure=>simp [intOf]<;>omega
    ·have l1:¬ (k:Int)<(vn:Int):=by omega
     obtain⟨wz,hwz⟩:∃ wz,wz=wo:=⟨_,rfl⟩
     have hin3:=Hin.out.grown hb
     have r0:wo.cell? ⟨w1.heap.size,0,none⟩=some (.slice ea en ec):=hin3.cell 0
     have r2:wo.cell? ⟨w1.heap.size,2,none⟩=some (.int .i64 (rp.c.read:Int)):=hin3.cell 2
     have r3:wo.cell? ⟨w1.heap.size,3,none⟩=some (.int .i64 (rp.c.write:Int)):=hin3.cell 3
     have r4:wo.cell? ⟨w1.heap.size,4,none⟩=some (.int .i64 (rp.c.swap:Int)):=hin3.cell 4
     have r5:wo.cell? ⟨w1.heap.size,5,none⟩=some (.int .i64 (rp.c.add:Int)):=hin3.cell 5
     have r6:wo.cell? ⟨w1.heap.size,6,none⟩=some (.int .i64 (rp.c.fault:Int)):=hin3.cell 6
     have r7:wo.cell? ⟨w1.heap.size,7,none⟩=some (.int .i64 (rp.ticks:Int)):=hin3.cell 7
     have r8:wo.cell? ⟨w1.heap.size,8,none⟩=some (.int .i64 (rp.idle:Int)):=hin3.cell 8
     have p1:wo.cell? ⟨w.heap.size,1,none⟩=some (.int .i64 (m:Int)):=(hb.cell Lw.out).trans P1.out
     have MT3:=MT.out wo hb
     unfold repV at MT3
     have HMT:=Lib.hid MT3
     clear hb MT3 hin3
     go_wp2_with (first|(go_at_call 19;refine(HMT.out).mono ?_;rintro e w4 ⟨rfl,hb4⟩)|(go_at_call 16;refine(T.out _).mono ?_;rintro e w' ⟨rfl,hbs⟩))
     go_ret
     exact⟨rfl,Gr.trans Hb02.out (Gr.trans Hb.out (Gr.trans hb4 hbs))⟩
  ·have hn0:¬ er=0:=her0
   have Hn0:=Lib.hid her0
   go_enter Try.func4,Try.ntmps4
   go_wp2_with (go_at_call 15;refine(HM.out).mono ?_;rintro e w' ⟨rfl,rfl⟩)
   refine HP.out.mono ?_
   rintro e w1 ⟨ea,en,ec,va,vn,vc,rp,rfl,hb1,hr⟩
   rcases hr with⟨_,rfl,rfl,rfl,rfl,rfl,rfl,rfl⟩|⟨h0,_⟩
   ·unfold repV
    have N:=Lib.hid none_true
    go_wp2_with (first|(go_at_call 18;refine(N.out _).mono ?_;rintro e w2 ⟨rfl,hb2⟩)|(go_at_call 16;refine(T.out _).mono ?_;rintro e w' ⟨rfl,hb⟩))
    go_ret
    exact⟨rfl,Gr.trans Hgb.out (Gr.trans hb1 (Gr.trans (Gr.new _ _) (Gr.trans hb2 hb)))⟩
   ·exact absurd h0 her0
end
section

/- What the laws' arguments come as: calls. -/
open Go.ChangeShapes Go.WideShapes Go.ChangeAt Go.RowKit
def callV (x:CallD) (f:Nat):Value:=
 if f=0 then .int .i64 x.thread else if f=1 then .int .i64 x.obj else if f=2 then .int .i64 x.kind else if f=3 then .int .u64 (x.a:Int) else if f=4 then .int .u64 (x.b:Int) else .int .u64 (x.c:Int)
structure CallWf (x:CallD):Prop where
 thread:(Lit.int .i64 x.thread).wf=true
 obj:(Lit.int .i64 x.obj).wf=true
 kind:(Lit.int .i64 x.kind).wf=true
 a:U64 x.a
 b:U64 x.b
 c:U64 x.c
theorem call_of {H:Type} {enc:TypeId×Value->H} {W:World} {n:Nat} {cs:List Value} {x:DataW H×List MemPlace} (hx:DataW.trod enc Try.prog W 0 (λ_=>true) true n 43 cs=some x) :
  ∃ y:CallD,(∀ f,f<6->cs[f]?=some (callV y f))/\cs.length=6/\CallWf y:=by
 have hu:=Try.underlying43
 have hi:=Try.underlying3
 have hq:=Try.underlying37
 have ci:Try.prog.cellsOf 3=1:=by kernel_rfl
 have cq:Try.prog.cellsOf 37=1:=by kernel_rfl
 have hl:=trod_len_struct hu hx
 have hc:Try.prog.cellsOf 43=6:=by kernel_rfl
 rw [hc] at hl
 obtain⟨t0,e0,w0⟩:=trod_field_int hu hx (List.getElem_mem (n:=0) (by decide)) hi ci
 obtain⟨t1,e1,w1⟩:=trod_field_int hu hx (List.getElem_mem (n:=1) (by decide)) hi ci
 obtain⟨t2,e2,w2⟩:=trod_field_int hu hx (List.getElem_mem (n:=2) (by decide)) hi ci
 obtain⟨t3,e3,w3⟩:=trod_field_int hu hx (List.getElem_mem (n:=3) (by decide)) hq cq
 obtain⟨t4,e4,w4⟩:=trod_field_int hu hx (List.getElem_mem (n:=4) (by decide)) hq cq
 obtain⟨t5,e5,w5⟩:=trod_field_int hu hx (List.getElem_mem (n:=5) (by decide)) hq cq
 obtain⟨n3,rfl,u3⟩:=u64_of w3
 obtain⟨n4,rfl,u4⟩:=u64_of w4
 obtain⟨n5,rfl,u5⟩:=u64_of w5
 refine⟨⟨t0,t1,t2,n3,n4,n5⟩,λf hf=>?_,hl,⟨w0,w1,w2,u3,u4,u5⟩⟩
 obtain rfl|rfl|rfl|rfl|rfl|rfl:f=0∨f=1∨f=2∨f=3∨f=4∨f=5:=by omega
 ·exact e0
 ·exact e1
 ·exact e2
 ·exact e3
 ·exact e4
 ·exact e5
theorem open_calls {H:Type} {enc:TypeId×Value->H} {W:World} {base:Nat} {v:Value} {d:DataW H} {ps:List MemPlace}
  (hv:Value.okWide Try.prog W .any base 23 v) (h:DataW.Trod enc Try.prog W 0 (λ_=>true) true 23 v d ps) (hlt:∀ p∈ps,p.block<W.heap.size) :
  ∃(a:Option Addr) (c:Nat) (l:List CallD),v=.slice a l.length c/\SlAt W a l.length 6 (callG l)/\(∀ y∈l,CallWf y):=by
 have hc:Try.prog.cellsOf 43=6:=by kernel_rfl
 obtain⟨a,c,l,h1,h2,h3⟩:=open_sl Try.underlying23 hv h hlt (by rw [hc];omega) (⟨0,0,0,0,0,0⟩:CallD) (λy cs=>(∀ f,f<6->cs[f]?=some (callV y f))/\cs.length=6/\CallWf y)
  (λn cs x hx=>call_of hx) callV (λy cs hy=>by rw [hc];exact⟨hy.2.1,hy.1⟩)
 rw [hc] at h2
 exact⟨a,c,l,h1,h2,λy hy=>by obtain⟨cs,_,_,hw⟩:=h3 y hy;exact hw⟩
end
section

/- What the laws' arguments come as: slices of words, pairs, accesses. -/
open Go.ChangeShapes Go.WideShapes Go.ChangeAt Go.RowKit
end
section

/- What the laws' arguments come as: two ints. -/
open Go.ChangeShapes Go.WideShapes Go.ChangeAt Go.RowKit
theorem open_arr2_int {H:Type} {enc:TypeId×Value->H} {W:World} {base:Nat} {v:Value} {d:DataW H} {ps:List MemPlace}
  (hv:Value.okWide Try.prog W .any base 22 v) (h:DataW.Trod enc Try.prog W 0 (λ_=>true) true 22 v d ps) :
  ∃ x y:Int,v=.agg #[.int .i64 x,.int .i64 y]/\(Lit.int .i64 x).wf=true/\(Lit.int .i64 y).wf=true:=by
 obtain⟨fuel,hf⟩:=h
 have hc:Try.prog.cellsOf 22=2:=by kernel_rfl
 have hc1:Try.prog.cellsOf 3=1:=by kernel_rfl
 unfold Value.okWide at hv
 rw [Try.underlying22] at hv
 obtain⟨cs,rfl,hsz,_⟩:=hv
 rw [hc] at hsz
 obtain⟨xs,m,hfu,hd,hps,hlen,hel⟩:=DataW.trod_array Try.underlying22 hf
 simp only [hc1] at hel
 match cs,hsz with
 | ⟨[c0,c1]⟩,_=>
  match xs,hlen with
  | [x0,x1],_=>
   have h0:DataW.trod enc Try.prog W 0 (λ_=>true) true m 3 [c0]=some x0:=by simpa [Value.cells] using hel 0 (by omega)
   have h1:DataW.trod enc Try.prog W 0 (λ_=>true) true m 3 [c1]=some x1:=by simpa [Value.cells] using hel 1 (by omega)
   obtain⟨n0,e0,_,w0⟩:=DataW.trod_int Try.underlying3 h0
   obtain⟨n1,e1,_,w1⟩:=DataW.trod_int Try.underlying3 h1
   simp only [List.cons.injEq,and_true] at e0 e1
   exact⟨n0,n1,by rw [e0,e1],w0,w1⟩
end
end Go.Proofs.Ytlanekkbciffcaa
