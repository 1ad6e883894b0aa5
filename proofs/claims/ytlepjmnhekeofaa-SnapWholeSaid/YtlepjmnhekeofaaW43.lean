/- Operations done one by one: the walk of roundelayplain.Whole, of one object, whatever its kind. -/
import Derived.Test.YtlepjmnhekeofaaW38
import Derived.Test.YtlepjmnhekeofaaW42
import Derived.Test.YtlepjmnhekeofaaW20
import Derived.Test.YtlepjmnhekeofaaW35
import Derived.Test.YtlepjmnhekeofaaW41
import Derived.Test.YtlepjmnhekeofaaW19
import Derived.Test.YtlepjmnhekeofaaW02
import Derived.Test.YtlepjmnhekeofaaW04
import Derived.Test.YtlepjmnhekeofaaW01
import Derived.Test.YtlepjmnhekeofaaW05
set_option maxRecDepth 100000
set_option linter.unusedVariables false
set_option linter.unusedSimpArgs false
set_option linter.unnecessarySimpa false
namespace Go.Proofs.Ytlepjmnhekeofaa
section
open Go.RowKit
set_option maxHeartbeats 4000000 in
theorem whole_ok {X Y:Nat->Prop} {B:Nat} {kd P Q:Int} {n:Nat} {ap:List Nat->CallD->List Nat×AnsD} {s0:List Nat} {inv:List Nat->Prop} (K:SpecOk kd P Q n ap s0 inv) (w:World) (calls:List CallD) (ca ea va:Option Addr) (cc en ec vn vc bs os sc:Nat) (ers:List (Value×Value)) (rp:RepD)
  (hq0:w.cell? ⟨bs,os,none⟩=some (.int .i64 kd)) (hq1:w.cell? ⟨bs,os+1,none⟩=some (.int .i64 P)) (hq2:w.cell? ⟨bs,os+2,none⟩=some (.int .i64 Q))
  (hrep:RepAt X B w (.slice ea en ec) (.slice va vn vc) ers rp) (hen:en=rp.evs.length) (hlen:rp.evs.length<1000000) (hc:CallsAt Y w ca calls) (hg:WholeGood ap s0 calls n rp) :
  Calls Try.prog 21 #[.int .i64 (n:Int),.slice (some ⟨bs,os,none⟩) 1 sc,.slice ca calls.length cc,repV (.slice ea en ec) (.slice va vn vc) rp] w λe w'=>e=.returned (.bool true)/\Below w.heap.size w w':=by
 obtain⟨wa,hwa⟩:∃ wa,wa=w.alloc (.cells #[.slice ea en ec,.slice va vn vc,.int .i64 (rp.c.read:Int),.int .i64 (rp.c.write:Int),.int .i64 (rp.c.swap:Int),.int .i64 (rp.c.add:Int),.int .i64 (rp.c.fault:Int),.int .i64 (rp.ticks:Int),.int .i64 (rp.idle:Int)] 32):=⟨_,rfl⟩
 have hga:Below w.heap.size w wa:=by rw [hwa];exact Gr.new _ _
 have hin:RepIn w wa w.heap.size ea en ec va vn vc rp:=⟨Nat.le_refl _,by rw [hwa];exact heap_alloc_new _ _⟩
 have gc:=λ(p:Addr) (v:Value) (h:w.cell? p=some v) (u:World) (hu:Below w.heap.size w u)=>(hu.cell (World.block_lt_of_cell? _ _ h)).trans h
 have RT:=Lib.hid (λ(u:World) (h:Below w.heap.size w u)=>rows_true u calls n ca ea va cc en ec vn vc ers rp (hrep.grown h) hen hlen (hc.grown h) hg.rows)
 have WR:=Lib.hid (λ(u:World) (h:Below w.heap.size w u)=>wrong_ok K u calls ca ea va cc en ec vn vc bs os sc ers rp (gc _ _ hq0 u h) (gc _ _ hq1 u h) (gc _ _ hq2 u h) (hrep.grown h) hen hlen (hc.grown h) hg)
 have AH:=Lib.hid (λ(u:World) (h:Below w.heap.size w u)=>aheads_true u ea va en ec vn vc ers rp (hrep.grown h) hen hlen (λi k hi hk h1 h2 h3=>rows_ahead hg.rows hi hk h1 h2 h3) (λi hi h1=>((hg.rows.ev i hi).resp h1).2.2.2.1))
 have r0:wa.cell? ⟨w.heap.size,0,none⟩=some (.slice ea en ec):=hin.cell 0
 have r1:wa.cell? ⟨w.heap.size,1,none⟩=some (.slice va vn vc):=hin.cell 1
 have r2:wa.cell? ⟨w.heap.size,2,none⟩=some (.int .i64 (rp.c.read:Int)):=hin.cell 2
 have r3:wa.cell? ⟨w.heap.size,3,none⟩=some (.int .i64 (rp.c.write:Int)):=hin.cell 3
 have r4:wa.cell? ⟨w.heap.size,4,none⟩=some (.int .i64 (rp.c.swap:Int)):=hin.cell 4
 have r5:wa.cell? ⟨w.heap.size,5,none⟩=some (.int .i64 (rp.c.add:Int)):=hin.cell 5
 have r6:wa.cell? ⟨w.heap.size,6,none⟩=some (.int .i64 (rp.c.fault:Int)):=hin.cell 6
 have r7:wa.cell? ⟨w.heap.size,7,none⟩=some (.int .i64 (rp.ticks:Int)):=hin.cell 7
 have r8:wa.cell? ⟨w.heap.size,8,none⟩=some (.int .i64 (rp.idle:Int)):=hin.cell 8
 have Hwa:=Lib.hid hwa;have Hga:=Lib.hid hga;have Hin:=Lib.hid hin
 clear hwa hga hin gc hq0 hq1 hq2 hrep hen hlen hc hg K
 unfold repV at RT ⊢
 go_enter Try.func21,Try.ntmps21
 go_wp2_with fail
 rw [<-Hwa.out]
 go_wp2_with fail
 refine(RT.out _ Hga.out).mono ?_
 rintro e w1 ⟨rfl,hb1⟩
 have hin1:=Hin.out.grown hb1
 clear r0 r1 r2 r3 r4 r5 r6 r7 r8
 have r0:w1.cell? ⟨w.heap.size,0,none⟩=some (.slice ea en ec):=hin1.cell 0
 have Hin1:=Lib.hid hin1
 have Hb1:=Lib.hid (Gr.trans Hga.out hb1)
 clear hb1 hin1
 go_wp2_with fail
 refine(WR.out _ Hb1.out).mono ?_
 rintro e w2 ⟨rfl,hb2⟩
 have hin2:=Hin1.out.grown hb2
 clear r0
 have r0:w2.cell? ⟨w.heap.size,0,none⟩=some (.slice ea en ec):=hin2.cell 0
 have Hb2:=Lib.hid (Gr.trans Hb1.out hb2)
 clear hb2 hin2
 go_wp2_with fail
 refine(AH.out _ Hb2.out).mono ?_
 rintro e w3 ⟨rfl,hb3⟩
 have Hb3:=Lib.hid (Gr.trans Hb2.out hb3)
 clear hb3 r0
 go_wp2
 go_ret
 exact⟨rfl,Hb3.out⟩
end
section

/- The walk of SnapWhole. -/
open Go.RowKit
set_option maxHeartbeats 16000000 in
theorem snapWhole_any (q0 q1:Int) (calls:List CallD) (picks:List Int) (ca pa:Option Addr) (cc pc:Nat) (w:World) (hc:CallsAt noB w ca calls) (hp:PicksAt w pa picks) :
  Calls Try.prog 8 #[.agg #[.int .i64 q0,.int .i64 q1],.slice ca calls.length cc,.slice pa picks.length pc] w λe w'=>e=.returned (.bool true)/\Below w.heap.size w w':=by
 have hgb:Below w.heap.size w (w.alloc (.cells #[.int .i64 q0,.int .i64 q1] 22)):=(Gr.new _ _)
 have M:=many_any ca pa calls.length picks.length cc pc (w.alloc (.cells #[.int .i64 q0,.int .i64 q1] 22)) (hc.grown hgb).sl.1 hp.sl.1
 have T:=Lib.hid snap_five
 cases hM:manyB calls.length picks.length with
 | true=>
  rw [hM] at M
  have HM:=Lib.hid M;have Hgb:=Lib.hid hgb
  clear M hc hp hM hgb
  go_enter Try.func8,Try.ntmps8
  go_wp2_with (first|(go_at_call 13;refine(HM.out).mono ?_;rintro e w' ⟨rfl,rfl⟩)|(go_at_call 22;refine(T.out _).mono ?_;rintro e w' ⟨rfl,hb⟩))
  go_ret
  exact⟨rfl,Gr.trans Hgb.out hb⟩
 | false=>
  rw [hM] at M
  have HM:=Lib.hid M
  have P:=snapPlay_safe noB (w.alloc (.cells #[.int .i64 q0,.int .i64 q1] 22)) q0 q1 calls picks ca pa cc pc (λb hb=>hb.elim) (hc.grown hgb) (hp.grown hgb)
  obtain⟨er,her⟩:∃ er,er=snCheck q0 q1 calls picks.length:=⟨_,rfl⟩
  rw [<-her] at P
  have HP:=Lib.hid P;have Her:=Lib.hid her;have Hc:=Lib.hid hc;have Hgb:=Lib.hid hgb
  have hcm:=hc.sl.1
  unfold maxLen at hcm
  clear M P hc hp hM her hgb
  by_cases her0:er=0
  ·have hck:snCheck q0 q1 calls picks.length=0:=by rw [<-Her.out];exact her0
   obtain⟨hck0,hm1,hm2⟩:=snCheck_zero hck
   obtain⟨z1,z2⟩:=n_ok hck0
   obtain⟨n,rfl⟩:∃ n:Nat,q0=(n:Int):=⟨q0.toNat,by omega⟩
   obtain⟨m,rfl⟩:∃ m:Nat,q1=(m:Int):=⟨q1.toNat,by omega⟩
   simp only [Int.toNat_natCast] at HP
   have hmp:0<m:=by omega
   have hnp:=np_ok hck0
   have q1:WholeGood (snapAp n m) (List.replicate (2*n) 0) calls n (playD (snapS n m) snO0 (List.replicate (snSize n m) 0) calls picks):=snap_whole (by omega) hck0
   have q2:(playD (snapS n m) snO0 (List.replicate (snSize n m) 0) calls picks).evs.length<=picks.length:=snap_evs_len (by omega) hck0
   subst her0
   obtain⟨rr,hrr⟩:∃ rr,rr=playD (snapS n m) snO0 (List.replicate (snSize n m) 0) calls picks:=⟨_,rfl⟩
   rw [<-hrr] at HP q1 q2
   have Hq1:=Lib.hid q1;have Hq2:=Lib.hid q2;have Hnp:=Lib.hid hnp
   clear hck hck0 hrr Her hnp q1 q2
   go_enter Try.func8,Try.ntmps8
   go_wp2_with (go_at_call 13;refine(HM.out).mono ?_;rintro e w' ⟨rfl,rfl⟩)
   refine HP.out.mono ?_
   rintro e w1 ⟨ea,en,ec,va,vn,vc,rp,rfl,hb1,hr⟩
   rcases hr with⟨h0,_⟩|⟨_,hrp,hen,hvn,ers,hrep⟩
   ·exact absurd rfl h0
   subst hrp
   obtain⟨w2,hw2⟩:∃ w2,w2=w1.alloc (.cells #[.slice ea en ec,.slice va vn vc,.int .i64 (rp.c.read:Int),.int .i64 (rp.c.write:Int),.int .i64 (rp.c.swap:Int),.int .i64 (rp.c.add:Int),.int .i64 (rp.c.fault:Int),.int .i64 (rp.ticks:Int),.int .i64 (rp.idle:Int)] 32):=⟨_,rfl⟩
   have hb2:Below w1.heap.size w1 w2:=by rw [hw2];exact Gr.new _ _
   have hin:RepIn w1 w2 w1.heap.size ea en ec va vn vc rp:=⟨Nat.le_refl _,by rw [hw2];exact heap_alloc_new _ _⟩
   have hb02:=Gr.trans Hgb.out (Gr.trans hb1 hb2)
   have hlt2:w1.heap.size<w2.heap.size:=blk_lt hin.blk
   have p0:w2.cell? ⟨w.heap.size,0,none⟩=some (.int .i64 (n:Int)):=((Gr.trans hb1 hb2).cell (p:=⟨w.heap.size,0,none⟩) (by simp)).trans (by rw [cell_blk (heap_alloc_new w _)];rfl)
   have p1:w2.cell? ⟨w.heap.size,1,none⟩=some (.int .i64 (m:Int)):=((Gr.trans hb1 hb2).cell (p:=⟨w.heap.size,1,none⟩) (by simp)).trans (by rw [cell_blk (heap_alloc_new w _)];rfl)
   have hlen:rp.evs.length<1000000:=by have:=Hq2.out;have:=Hnp.out;omega
   obtain⟨w3,hw3⟩:∃ w3,w3=w2.alloc (.cells #[.int .i64 5,.int .i64 (m:Int),.int .i64 0] 49):=⟨_,rfl⟩
   have hb3:Below w2.heap.size w2 w3:=by rw [hw3];exact Gr.new _ _
   have hsp:w3.heap[w2.heap.size]?=some (.cells #[.int .i64 5,.int .i64 (m:Int),.int .i64 0] 49 (0,0)):=by rw [hw3];exact heap_alloc_new _ _
   have hb03:=Gr.trans hb02 hb3
   have K:=snap_spec n m (by omega) (by omega) hmp (by omega)
   have WH:=Lib.hid (whole_ok K w3 calls ca ea va cc en ec vn vc w2.heap.size 0 1 ers rp (by rw [cell_blk hsp];rfl) (by rw [cell_blk hsp];rfl) (by rw [cell_blk hsp];rfl) (hrep.grown (Gr.trans hb2 hb3)) hen hlen (Hc.out.grown hb03) Hq1.out)
   have Hb03:=Lib.hid hb03;have Hw2:=Lib.hid hw2;have Hw3:=Lib.hid hw3
   have q0':w3.cell? ⟨w.heap.size,0,none⟩=some (.int .i64 (n:Int)):=(hb3.cell (World.block_lt_of_cell? _ _ p0)).trans p0
   have r0:w2.cell? ⟨w1.heap.size,0,none⟩=some (.slice ea en ec):=hin.cell 0
   have r1:w2.cell? ⟨w1.heap.size,1,none⟩=some (.slice va vn vc):=hin.cell 1
   have r2:w2.cell? ⟨w1.heap.size,2,none⟩=some (.int .i64 (rp.c.read:Int)):=hin.cell 2
   have r3:w2.cell? ⟨w1.heap.size,3,none⟩=some (.int .i64 (rp.c.write:Int)):=hin.cell 3
   have r4:w2.cell? ⟨w1.heap.size,4,none⟩=some (.int .i64 (rp.c.swap:Int)):=hin.cell 4
   have r5:w2.cell? ⟨w1.heap.size,5,none⟩=some (.int .i64 (rp.c.add:Int)):=hin.cell 5
   have r6:w2.cell? ⟨w1.heap.size,6,none⟩=some (.int .i64 (rp.c.fault:Int)):=hin.cell 6
   have r7:w2.cell? ⟨w1.heap.size,7,none⟩=some (.int .i64 (rp.ticks:Int)):=hin.cell 7
   have r8:w2.cell? ⟨w1.heap.size,8,none⟩=some (.int .i64 (rp.idle:Int)):=hin.cell 8
   clear hrep hb1 hb2 hb3 hin hsp hb02 hb03 hw2 hw3 hvn hen hlen K
   unfold repV
   unfold repV at WH
   go_upto_region 4 with fail
   rw [<-Hw2.out]
   go_wp2_with fail
   rw [<-Hw3.out]
   refine WH.out.mono ?_
   rintro e w4 ⟨rfl,hb4⟩
   have Hb4:=Lib.hid hb4
   clear hb4 r0 r1 r2 r3 r4 r5 r6 r7 r8
   go_wp2_with (go_at_call 22;refine(T.out _).mono ?_;rintro e w' ⟨rfl,hb⟩)
   go_ret
   exact⟨rfl,Gr.trans Hb03.out (Gr.trans Hb4.out hb)⟩
  ·have hn0:¬ er=0:=her0
   have Hn0:=Lib.hid her0
   go_enter Try.func8,Try.ntmps8
   go_wp2_with (go_at_call 13;refine(HM.out).mono ?_;rintro e w' ⟨rfl,rfl⟩)
   refine HP.out.mono ?_
   rintro e w1 ⟨ea,en,ec,va,vn,vc,rp,rfl,hb1,hr⟩
   rcases hr with⟨_,rfl,rfl,rfl,rfl,rfl,rfl,rfl⟩|⟨h0,_⟩
   ·unfold repV
    have N:=Lib.hid none_true
    go_wp2_with (first|(go_at_call 16;refine(N.out _).mono ?_;rintro e w2 ⟨rfl,hb2⟩)|(go_at_call 22;refine(T.out _).mono ?_;rintro e w' ⟨rfl,hb⟩))
    go_ret
    exact⟨rfl,Gr.trans Hgb.out (Gr.trans hb1 (Gr.trans (Gr.new _ _) (Gr.trans hb2 hb)))⟩
   ·exact absurd h0 her0
end
section

/- What the laws' arguments come as: calls. -/
open Go.ChangeShapes Go.WideShapes Go.ChangeAt Go.RowKit
def callV (x:CallD) (f:Nat):Value:=
 if f=0 then .int .i64 x.thread else if f=1 then .int .i64 x.obj else if f=2 then .int .i64 x.kind else if f=3 then .int .u64 (x.a:Int) else if f=4 then .int .u64 (x.b:Int) else .int .u64 (x.c:Int)
structure CallWf (x:CallD):Prop where
 thread:(Lit.int .i64 x.thread).wf=true
 obj:(Lit.int .i64 x.obj).wf=true
 kind:(Lit.int .i64 x.kind).wf=true
 a:U64 x.a
 b:U64 x.b
 c:U64 x.c
theorem call_of {H:Type} {enc:TypeId×Value->H} {W:World} {n:Nat} {cs:List Value} {x:DataW H×List MemPlace} (hx:DataW.trod enc Try.prog W 0 (λ_=>true) true n 46 cs=some x) :
  ∃ y:CallD,(∀ f,f<6->cs[f]?=some (callV y f))/\cs.length=6/\CallWf y:=by
 have hu:=Try.underlying46
 have hi:=Try.underlying3
 have hq:=Try.underlying40
 have ci:Try.prog.cellsOf 3=1:=by kernel_rfl
 have cq:Try.prog.cellsOf 40=1:=by kernel_rfl
 have hl:=trod_len_struct hu hx
 have hc:Try.prog.cellsOf 46=6:=by kernel_rfl
 rw [hc] at hl
 obtain⟨t0,e0,w0⟩:=trod_field_int hu hx (List.getElem_mem (n:=0) (by decide)) hi ci
 obtain⟨t1,e1,w1⟩:=trod_field_int hu hx (List.getElem_mem (n:=1) (by decide)) hi ci
 obtain⟨t2,e2,w2⟩:=trod_field_int hu hx (List.getElem_mem (n:=2) (by decide)) hi ci
 obtain⟨t3,e3,w3⟩:=trod_field_int hu hx (List.getElem_mem (n:=3) (by decide)) hq cq
 obtain⟨t4,e4,w4⟩:=trod_field_int hu hx (List.getElem_mem (n:=4) (by decide)) hq cq
 obtain⟨t5,e5,w5⟩:=trod_field_int hu hx (List.getElem_mem (n:=5) (by decide)) hq cq
 obtain⟨n3,rfl,u3⟩:=u64_of w3
 obtain⟨n4,rfl,u4⟩:=u64_of w4
 obtain⟨n5,rfl,u5⟩:=u64_of w5
 refine⟨⟨t0,t1,t2,n3,n4,n5⟩,λf hf=>?_,hl,⟨w0,w1,w2,u3,u4,u5⟩⟩
 obtain rfl|rfl|rfl|rfl|rfl|rfl:f=0∨f=1∨f=2∨f=3∨f=4∨f=5:=by omega
 ·exact e0
 ·exact e1
 ·exact e2
 ·exact e3
 ·exact e4
 ·exact e5
theorem open_calls {H:Type} {enc:TypeId×Value->H} {W:World} {base:Nat} {v:Value} {d:DataW H} {ps:List MemPlace}
  (hv:Value.okWide Try.prog W .any base 23 v) (h:DataW.Trod enc Try.prog W 0 (λ_=>true) true 23 v d ps) (hlt:∀ p∈ps,p.block<W.heap.size) :
  ∃(a:Option Addr) (c:Nat) (l:List CallD),v=.slice a l.length c/\SlAt W a l.length 6 (callG l)/\(∀ y∈l,CallWf y):=by
 have hc:Try.prog.cellsOf 46=6:=by kernel_rfl
 obtain⟨a,c,l,h1,h2,h3⟩:=open_sl Try.underlying23 hv h hlt (by rw [hc];omega) (⟨0,0,0,0,0,0⟩:CallD) (λy cs=>(∀ f,f<6->cs[f]?=some (callV y f))/\cs.length=6/\CallWf y)
  (λn cs x hx=>call_of hx) callV (λy cs hy=>by rw [hc];exact⟨hy.2.1,hy.1⟩)
 rw [hc] at h2
 exact⟨a,c,l,h1,h2,λy hy=>by obtain⟨cs,_,_,hw⟩:=h3 y hy;exact hw⟩
end
section

/- What the laws' arguments come as: slices of words, pairs, accesses. -/
open Go.ChangeShapes Go.WideShapes Go.ChangeAt Go.RowKit
end
section

/- What the laws' arguments come as: two ints. -/
open Go.ChangeShapes Go.WideShapes Go.ChangeAt Go.RowKit
theorem open_arr2_int {H:Type} {enc:TypeId×Value->H} {W:World} {base:Nat} {v:Value} {d:DataW H} {ps:List MemPlace}
  (hv:Value.okWide Try.prog W .any base 22 v) (h:DataW.Trod enc Try.prog W 0 (λ_=>true) true 22 v d ps) :
  ∃ x y:Int,v=.agg #[.int .i64 x,.int .i64 y]/\(Lit.int .i64 x).wf=true/\(Lit.int .i64 y).wf=true:=by
 obtain⟨fuel,hf⟩:=h
 have hc:Try.prog.cellsOf 22=2:=by kernel_rfl
 have hc1:Try.prog.cellsOf 3=1:=by kernel_rfl
 unfold Value.okWide at hv
 rw [Try.underlying22] at hv
 obtain⟨cs,rfl,hsz,_⟩:=hv
 rw [hc] at hsz
 obtain⟨xs,m,hfu,hd,hps,hlen,hel⟩:=DataW.trod_array Try.underlying22 hf
 simp only [hc1] at hel
 match cs,hsz with
 | ⟨[c0,c1]⟩,_=>
  match xs,hlen with
  | [x0,x1],_=>
   have h0:DataW.trod enc Try.prog W 0 (λ_=>true) true m 3 [c0]=some x0:=by simpa [Value.cells] using hel 0 (by omega)
   have h1:DataW.trod enc Try.prog W 0 (λ_=>true) true m 3 [c1]=some x1:=by simpa [Value.cells] using hel 1 (by omega)
   obtain⟨n0,e0,_,w0⟩:=DataW.trod_int Try.underlying3 h0
   obtain⟨n1,e1,_,w1⟩:=DataW.trod_int Try.underlying3 h1
   simp only [List.cons.injEq,and_true] at e0 e1
   exact⟨n0,n1,by rw [e0,e1],w0,w1⟩
end
end Go.Proofs.Ytlepjmnhekeofaa
