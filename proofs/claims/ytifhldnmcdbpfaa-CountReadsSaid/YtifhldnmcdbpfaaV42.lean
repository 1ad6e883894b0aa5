/- The walk of CountReads. -/
import Derived.Test.YtifhldnmcdbpfaaV40
import Derived.Test.YtifhldnmcdbpfaaV41
import Derived.Test.YtifhldnmcdbpfaaV17
import Derived.Test.YtifhldnmcdbpfaaV02
import Derived.Test.YtifhldnmcdbpfaaV04
import Derived.Test.YtifhldnmcdbpfaaV01
import Derived.Test.YtifhldnmcdbpfaaV05
set_option maxRecDepth 100000
set_option linter.unusedVariables false
set_option linter.unusedSimpArgs false
set_option linter.unnecessarySimpa false
namespace Go.Proofs.Ytifhldnmcdbpfaa
section
open Go.RowKit
set_option maxHeartbeats 16000000 in
theorem countReads_any (q0 q1:Int) (calls:List aF) (picks:List Int) (ca pa:Option Addr) (cc pc:Nat) (w:World) (hc:kH noB w ca calls) (hp:lX w pa picks) :
  Calls Try.prog 3 #[.agg #[.int .i64 q0,.int .i64 q1],.slice ca calls.length cc,.slice pa picks.length pc] w λe w'=>e=.returned (.bool true)/\Below w.heap.size w w':=by
 have hgb:Below w.heap.size w (w.alloc (.cells #[.int .i64 q0,.int .i64 q1] 22)):=(Gr.new _ _)
 have M:=FX ca pa calls.length picks.length cc pc (w.alloc (.cells #[.int .i64 q0,.int .i64 q1] 22)) (hc.grown hgb).sl.1 hp.sl.1
 have T:=Lib.hid KW
 cases hM:JN calls.length picks.length with
 | true=>
  rw [hM] at M
  have HM:=Lib.hid M;have Hgb:=Lib.hid hgb
  clear M hc hp hM hgb
  go_enter Try.func3,Try.ntmps3
  go_wp2_with (first|(go_at_call 10;refine(HM.out).mono ?_;rintro e w' ⟨rfl,rfl⟩)|(go_at_call 11;refine(T.out _).mono ?_;rintro e w' ⟨rfl,hb⟩))
  go_ret
  exact⟨rfl,Gr.trans Hgb.out hb⟩
 | false=>
  rw [hM] at M
  have HM:=Lib.hid M
  have P:=oL noB (w.alloc (.cells #[.int .i64 q0,.int .i64 q1] 22)) q0 q1 calls picks ca pa cc pc (λb hb=>hb.elim) (hc.grown hgb) (hp.grown hgb)
  obtain⟨er,her⟩:∃ er,er=fO q0 q1 calls picks.length:=⟨_,rfl⟩
  rw [<-her] at P
  have HP:=Lib.hid P;have Her:=Lib.hid her;have Hc:=Lib.hid hc;have Hgb:=Lib.hid hgb
  have hcm:=hc.sl.1
  unfold maxLen at hcm
  clear M P hc hp hM her hgb
  by_cases xR:er=0
  ·have hck:fO q0 q1 calls picks.length=0:=by rw [<-Her.out];exact xR
   obtain⟨JL,hm1,hm2⟩:=KH hck
   obtain⟨z1,z2⟩:=EI JL
   obtain⟨n,rfl⟩:∃ n:Nat,q0=(n:Int):=⟨q0.toNat,by omega⟩
   obtain⟨m,rfl⟩:∃ m:Nat,q1=(m:Int):=⟨q1.toNat,by omega⟩
   simp only [Int.toNat_natCast] at HP
   have hmp:0<m:=by omega
   have hnp:=MW JL
   have q1:wB calls (iM (bH n m) (List.replicate n 0) (List.replicate (fT n m) 0) calls picks).evs:=(uM (by omega) (by omega) JL picks).2.1
   have q2:(iM (bH n m) (List.replicate n 0) (List.replicate (fT n m) 0) calls picks).evs.length<=picks.length:=(uM (by omega) (by omega) JL picks).1
   subst xR
   obtain⟨rr,hrr⟩:∃ rr,rr=iM (bH n m) (List.replicate n 0) (List.replicate (fT n m) 0) calls picks:=⟨_,rfl⟩
   rw [<-hrr] at HP q1 q2
   have Hq1:=Lib.hid q1;have Hq2:=Lib.hid q2;have Hnp:=Lib.hid hnp
   clear hck JL hrr Her hnp q1 q2
   go_enter Try.func3,Try.ntmps3
   go_wp2_with (go_at_call 10;refine(HM.out).mono ?_;rintro e w' ⟨rfl,rfl⟩)
   refine HP.out.mono ?_
   rintro e w1 ⟨ea,en,ec,va,vn,vc,rp,rfl,hb1,hr⟩
   rcases hr with⟨h0,_⟩|⟨_,hrp,hen,hvn,ers,hrep⟩
   ·exact absurd rfl h0
   subst hrp
   obtain⟨w2,hw2⟩:∃ w2,w2=w1.alloc (.cells #[.slice ea en ec,.slice va vn vc,.int .i64 (rp.c.read:Int),.int .i64 (rp.c.write:Int),.int .i64 (rp.c.swap:Int),.int .i64 (rp.c.add:Int),.int .i64 (rp.c.fault:Int),.int .i64 (rp.ticks:Int),.int .i64 (rp.idle:Int)] 32):=⟨_,rfl⟩
   have hb2:Below w1.heap.size w1 w2:=by rw [hw2];exact Gr.new _ _
   have hin:uT w1 w2 w1.heap.size ea en ec va vn vc rp:=⟨Nat.le_refl _,by rw [hw2];exact heap_alloc_new _ _⟩
   have OZ:=Gr.trans Hgb.out (Gr.trans hb1 hb2)
   have hlt2:w1.heap.size<w2.heap.size:=aC hin.blk
   have p0:w2.cell? ⟨w.heap.size,0,none⟩=some (.int .i64 (n:Int)):=((Gr.trans hb1 hb2).cell (p:=⟨w.heap.size,0,none⟩) (by simp)).trans (by rw [aA (heap_alloc_new w _)];rfl)
   have p1:w2.cell? ⟨w.heap.size,1,none⟩=some (.int .i64 (m:Int)):=((Gr.trans hb1 hb2).cell (p:=⟨w.heap.size,1,none⟩) (by simp)).trans (by rw [aA (heap_alloc_new w _)];rfl)
   have hlen:rp.evs.length<1000000:=by have:=Hq2.out;have:=Hnp.out;omega
   have BT:=Lib.hid (vW w2 calls ca ea va cc en ec vn vc ers rp (hrep.grown hb2) hen hlen (Hc.out.grown OZ) Hq1.out)
   have Hb02:=Lib.hid OZ;have Hw2:=Lib.hid hw2
   have r0:w2.cell? ⟨w1.heap.size,0,none⟩=some (.slice ea en ec):=hin.cell 0
   have r1:w2.cell? ⟨w1.heap.size,1,none⟩=some (.slice va vn vc):=hin.cell 1
   have r2:w2.cell? ⟨w1.heap.size,2,none⟩=some (.int .i64 (rp.c.read:Int)):=hin.cell 2
   have r3:w2.cell? ⟨w1.heap.size,3,none⟩=some (.int .i64 (rp.c.write:Int)):=hin.cell 3
   have r4:w2.cell? ⟨w1.heap.size,4,none⟩=some (.int .i64 (rp.c.swap:Int)):=hin.cell 4
   have r5:w2.cell? ⟨w1.heap.size,5,none⟩=some (.int .i64 (rp.c.add:Int)):=hin.cell 5
   have r6:w2.cell? ⟨w1.heap.size,6,none⟩=some (.int .i64 (rp.c.fault:Int)):=hin.cell 6
   have r7:w2.cell? ⟨w1.heap.size,7,none⟩=some (.int .i64 (rp.ticks:Int)):=hin.cell 7
   have r8:w2.cell? ⟨w1.heap.size,8,none⟩=some (.int .i64 (rp.idle:Int)):=hin.cell 8
   clear hrep hb1 hb2 hin OZ hw2 hvn hen hlen p0 p1 hlt2
   unfold kS
   unfold kS at BT
   go_upto_region 4 with fail
   rw [<-Hw2.out]
   go_wp2_with fail
   refine BT.out.mono ?_
   rintro e w3 ⟨rfl,hb3⟩
   have Hb3:=Lib.hid hb3
   clear r0 r1 r2 r3 r4 r5 r6 r7 r8 hb3
   go_wp2_with (go_at_call 11;refine(T.out _).mono ?_;rintro e w' ⟨rfl,hb⟩)
   go_ret
   exact⟨rfl,Gr.trans Hb02.out (Gr.trans Hb3.out hb)⟩
  ·have hn0:¬ er=0:=xR
   have Hn0:=Lib.hid xR
   go_enter Try.func3,Try.ntmps3
   go_wp2_with (go_at_call 10;refine(HM.out).mono ?_;rintro e w' ⟨rfl,rfl⟩)
   refine HP.out.mono ?_
   rintro e w1 ⟨ea,en,ec,va,vn,vc,rp,rfl,hb1,hr⟩
   rcases hr with⟨_,rfl,rfl,rfl,rfl,rfl,rfl,rfl⟩|⟨h0,_⟩
   ·unfold kS
    have N:=Lib.hid none_true
    go_wp2_with (first|(go_at_call 13;refine(N.out _).mono ?_;rintro e w2 ⟨rfl,hb2⟩)|(go_at_call 11;refine(T.out _).mono ?_;rintro e w' ⟨rfl,hb⟩))
    go_ret
    exact⟨rfl,Gr.trans Hgb.out (Gr.trans hb1 (Gr.trans (Gr.new _ _) (Gr.trans hb2 hb)))⟩
   ·exact absurd h0 xR
end
section
open Go.ChangeShapes Go.WideShapes Go.ChangeAt Go.RowKit
def JG (x:aF) (f:Nat):Value:=
 if f=0 then .int .i64 x.thread else if f=1 then .int .i64 x.obj else if f=2 then .int .i64 x.kind else if f=3 then .int .u64 (x.a:Int) else if f=4 then .int .u64 (x.b:Int) else .int .u64 (x.c:Int)
structure AX (x:aF):Prop where
 thread:(Lit.int .i64 x.thread).wf=true
 obj:(Lit.int .i64 x.obj).wf=true
 kind:(Lit.int .i64 x.kind).wf=true
 a:U64 x.a
 b:U64 x.b
 c:U64 x.c
theorem LZ {H:Type} {enc:TypeId×Value->H} {W:World} {n:Nat} {cs:List Value} {x:DataW H×List MemPlace} (hx:DataW.trod enc Try.prog W 0 (λ_=>true) true n 46 cs=some x) :
  ∃ y:aF,(∀ f,f<6->cs[f]?=some (JG y f))/\cs.length=6/\AX y:=by
 have hu:=Try.underlying46
 have hi:=Try.underlying3
 have hq:=Try.underlying40
 have ci:Try.prog.cellsOf 3=1:=by kernel_rfl
 have cq:Try.prog.cellsOf 40=1:=by kernel_rfl
 have hl:=qU hu hx
 have hc:Try.prog.cellsOf 46=6:=by kernel_rfl
 rw [hc] at hl
 obtain⟨t0,e0,w0⟩:=eY hu hx (List.getElem_mem (n:=0) (by decide)) hi ci
 obtain⟨t1,e1,w1⟩:=eY hu hx (List.getElem_mem (n:=1) (by decide)) hi ci
 obtain⟨t2,e2,w2⟩:=eY hu hx (List.getElem_mem (n:=2) (by decide)) hi ci
 obtain⟨t3,e3,w3⟩:=eY hu hx (List.getElem_mem (n:=3) (by decide)) hq cq
 obtain⟨t4,e4,w4⟩:=eY hu hx (List.getElem_mem (n:=4) (by decide)) hq cq
 obtain⟨t5,e5,w5⟩:=eY hu hx (List.getElem_mem (n:=5) (by decide)) hq cq
 obtain⟨n3,rfl,u3⟩:=zW w3
 obtain⟨n4,rfl,u4⟩:=zW w4
 obtain⟨n5,rfl,u5⟩:=zW w5
 refine⟨⟨t0,t1,t2,n3,n4,n5⟩,λf hf=>?_,hl,⟨w0,w1,w2,u3,u4,u5⟩⟩
 obtain rfl|rfl|rfl|rfl|rfl|rfl:f=0∨f=1∨f=2∨f=3∨f=4∨f=5:=by omega
 ·exact e0
 ·exact e1
 ·exact e2
 ·exact e3
 ·exact e4
 ·exact e5
theorem open_calls {H:Type} {enc:TypeId×Value->H} {W:World} {base:Nat} {v:Value} {d:DataW H} {ps:List MemPlace}
  (hv:Value.okWide Try.prog W .any base 23 v) (h:DataW.Trod enc Try.prog W 0 (λ_=>true) true 23 v d ps) (hlt:∀ p∈ps,p.block<W.heap.size) :
  ∃(a:Option Addr) (c:Nat) (l:List aF),v=.slice a l.length c/\bQ W a l.length 6 (gK l)/\(∀ y∈l,AX y):=by
 have hc:Try.prog.cellsOf 46=6:=by kernel_rfl
 obtain⟨a,c,l,h1,h2,h3⟩:=BM Try.underlying23 hv h hlt (by rw [hc];omega) (⟨0,0,0,0,0,0⟩:aF) (λy cs=>(∀ f,f<6->cs[f]?=some (JG y f))/\cs.length=6/\AX y)
  (λn cs x hx=>LZ hx) JG (λy cs hy=>by rw [hc];exact⟨hy.2.1,hy.1⟩)
 rw [hc] at h2
 exact⟨a,c,l,h1,h2,λy hy=>by obtain⟨cs,_,_,hw⟩:=h3 y hy;exact hw⟩
end
section
open Go.ChangeShapes Go.WideShapes Go.ChangeAt Go.RowKit
end
section
open Go.ChangeShapes Go.WideShapes Go.ChangeAt Go.RowKit
theorem open_arr2_int {H:Type} {enc:TypeId×Value->H} {W:World} {base:Nat} {v:Value} {d:DataW H} {ps:List MemPlace}
  (hv:Value.okWide Try.prog W .any base 22 v) (h:DataW.Trod enc Try.prog W 0 (λ_=>true) true 22 v d ps) :
  ∃ x y:Int,v=.agg #[.int .i64 x,.int .i64 y]/\(Lit.int .i64 x).wf=true/\(Lit.int .i64 y).wf=true:=by
 obtain⟨fuel,hf⟩:=h
 have hc:Try.prog.cellsOf 22=2:=by kernel_rfl
 have hc1:Try.prog.cellsOf 3=1:=by kernel_rfl
 unfold Value.okWide at hv
 rw [Try.underlying22] at hv
 obtain⟨cs,rfl,hsz,_⟩:=hv
 rw [hc] at hsz
 obtain⟨xs,m,hfu,hd,hps,hlen,hel⟩:=DataW.trod_array Try.underlying22 hf
 simp only [hc1] at hel
 match cs,hsz with
 | ⟨[c0,c1]⟩,_=>
  match xs,hlen with
  | [x0,x1],_=>
   have h0:DataW.trod enc Try.prog W 0 (λ_=>true) true m 3 [c0]=some x0:=by simpa [Value.cells] using hel 0 (by omega)
   have h1:DataW.trod enc Try.prog W 0 (λ_=>true) true m 3 [c1]=some x1:=by simpa [Value.cells] using hel 1 (by omega)
   obtain⟨n0,e0,_,w0⟩:=DataW.trod_int Try.underlying3 h0
   obtain⟨n1,e1,_,w1⟩:=DataW.trod_int Try.underlying3 h1
   simp only [List.cons.injEq,and_true] at e0 e1
   exact⟨n0,n1,by rw [e0,e1],w0,w1⟩
end
end Go.Proofs.Ytifhldnmcdbpfaa
