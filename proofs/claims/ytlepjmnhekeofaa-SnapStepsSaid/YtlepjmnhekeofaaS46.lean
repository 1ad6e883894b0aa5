/- What the laws' arguments come as: calls. -/
import Derived.Test.YtlepjmnhekeofaaS03
import Derived.Test.YtlepjmnhekeofaaS05
import Derived.Test.YtlepjmnhekeofaaS01
import Derived.Test.YtlepjmnhekeofaaS07
set_option maxRecDepth 100000
set_option linter.unusedVariables false
set_option linter.unusedSimpArgs false
set_option linter.unnecessarySimpa false
namespace Go.Proofs.Ytlepjmnhekeofaa
section
open Go.ChangeShapes Go.WideShapes Go.ChangeAt Go.RowKit
def callV (x:CallD) (f:Nat):Value:=
 if f=0 then .int .i64 x.thread else if f=1 then .int .i64 x.obj else if f=2 then .int .i64 x.kind else if f=3 then .int .u64 (x.a:Int) else if f=4 then .int .u64 (x.b:Int) else .int .u64 (x.c:Int)
structure CallWf (x:CallD):Prop where
 thread:(Lit.int .i64 x.thread).wf=true
 obj:(Lit.int .i64 x.obj).wf=true
 kind:(Lit.int .i64 x.kind).wf=true
 a:U64 x.a
 b:U64 x.b
 c:U64 x.c
theorem call_of {H:Type} {enc:TypeId×Value->H} {W:World} {n:Nat} {cs:List Value} {x:DataW H×List MemPlace} (hx:DataW.trod enc Try.prog W 0 (λ_=>true) true n 46 cs=some x) :
  ∃ y:CallD,(∀ f,f<6->cs[f]?=some (callV y f))/\cs.length=6/\CallWf y:=by
 have hu:=Try.underlying46
 have hi:=Try.underlying3
 have hq:=Try.underlying40
 have ci:Try.prog.cellsOf 3=1:=by kernel_rfl
 have cq:Try.prog.cellsOf 40=1:=by kernel_rfl
 have hl:=trod_len_struct hu hx
 have hc:Try.prog.cellsOf 46=6:=by kernel_rfl
 rw [hc] at hl
 obtain⟨t0,e0,w0⟩:=trod_field_int hu hx (List.getElem_mem (n:=0) (by decide)) hi ci
 obtain⟨t1,e1,w1⟩:=trod_field_int hu hx (List.getElem_mem (n:=1) (by decide)) hi ci
 obtain⟨t2,e2,w2⟩:=trod_field_int hu hx (List.getElem_mem (n:=2) (by decide)) hi ci
 obtain⟨t3,e3,w3⟩:=trod_field_int hu hx (List.getElem_mem (n:=3) (by decide)) hq cq
 obtain⟨t4,e4,w4⟩:=trod_field_int hu hx (List.getElem_mem (n:=4) (by decide)) hq cq
 obtain⟨t5,e5,w5⟩:=trod_field_int hu hx (List.getElem_mem (n:=5) (by decide)) hq cq
 obtain⟨n3,rfl,u3⟩:=u64_of w3
 obtain⟨n4,rfl,u4⟩:=u64_of w4
 obtain⟨n5,rfl,u5⟩:=u64_of w5
 refine⟨⟨t0,t1,t2,n3,n4,n5⟩,λf hf=>?_,hl,⟨w0,w1,w2,u3,u4,u5⟩⟩
 obtain rfl|rfl|rfl|rfl|rfl|rfl:f=0∨f=1∨f=2∨f=3∨f=4∨f=5:=by omega
 ·exact e0
 ·exact e1
 ·exact e2
 ·exact e3
 ·exact e4
 ·exact e5
theorem open_calls {H:Type} {enc:TypeId×Value->H} {W:World} {base:Nat} {v:Value} {d:DataW H} {ps:List MemPlace}
  (hv:Value.okWide Try.prog W .any base 23 v) (h:DataW.Trod enc Try.prog W 0 (λ_=>true) true 23 v d ps) (hlt:∀ p∈ps,p.block<W.heap.size) :
  ∃(a:Option Addr) (c:Nat) (l:List CallD),v=.slice a l.length c/\SlAt W a l.length 6 (callG l)/\(∀ y∈l,CallWf y):=by
 have hc:Try.prog.cellsOf 46=6:=by kernel_rfl
 obtain⟨a,c,l,h1,h2,h3⟩:=open_sl Try.underlying23 hv h hlt (by rw [hc];omega) (⟨0,0,0,0,0,0⟩:CallD) (λy cs=>(∀ f,f<6->cs[f]?=some (callV y f))/\cs.length=6/\CallWf y)
  (λn cs x hx=>call_of hx) callV (λy cs hy=>by rw [hc];exact⟨hy.2.1,hy.1⟩)
 rw [hc] at h2
 exact⟨a,c,l,h1,h2,λy hy=>by obtain⟨cs,_,_,hw⟩:=h3 y hy;exact hw⟩
end
section

/- What the laws' arguments come as: slices of words, pairs, accesses. -/
open Go.ChangeShapes Go.WideShapes Go.ChangeAt Go.RowKit
end
section

/- What the laws' arguments come as: two ints. -/
open Go.ChangeShapes Go.WideShapes Go.ChangeAt Go.RowKit
theorem open_arr2_int {H:Type} {enc:TypeId×Value->H} {W:World} {base:Nat} {v:Value} {d:DataW H} {ps:List MemPlace}
  (hv:Value.okWide Try.prog W .any base 22 v) (h:DataW.Trod enc Try.prog W 0 (λ_=>true) true 22 v d ps) :
  ∃ x y:Int,v=.agg #[.int .i64 x,.int .i64 y]/\(Lit.int .i64 x).wf=true/\(Lit.int .i64 y).wf=true:=by
 obtain⟨fuel,hf⟩:=h
 have hc:Try.prog.cellsOf 22=2:=by kernel_rfl
 have hc1:Try.prog.cellsOf 3=1:=by kernel_rfl
 unfold Value.okWide at hv
 rw [Try.underlying22] at hv
 obtain⟨cs,rfl,hsz,_⟩:=hv
 rw [hc] at hsz
 obtain⟨xs,m,hfu,hd,hps,hlen,hel⟩:=DataW.trod_array Try.underlying22 hf
 simp only [hc1] at hel
 match cs,hsz with
 | ⟨[c0,c1]⟩,_=>
  match xs,hlen with
  | [x0,x1],_=>
   have h0:DataW.trod enc Try.prog W 0 (λ_=>true) true m 3 [c0]=some x0:=by simpa [Value.cells] using hel 0 (by omega)
   have h1:DataW.trod enc Try.prog W 0 (λ_=>true) true m 3 [c1]=some x1:=by simpa [Value.cells] using hel 1 (by omega)
   obtain⟨n0,e0,_,w0⟩:=DataW.trod_int Try.underlying3 h0
   obtain⟨n1,e1,_,w1⟩:=DataW.trod_int Try.underlying3 h1
   simp only [List.cons.injEq,and_true] at e0 e1
   exact⟨n0,n1,by rw [e0,e1],w0,w1⟩
end
end Go.Proofs.Ytlepjmnhekeofaa
