/- What the laws' arguments come as: two ints. -/
import Derived.Test.YtfkokppncipgnaaGreatW45
set_option maxRecDepth 100000
set_option linter.unusedVariables false
set_option linter.unusedSimpArgs false
set_option linter.unnecessarySimpa false
namespace Go.Proofs.YtfkokppncipgnaaGreat
open Go.ChangeShapes Go.WideShapes Go.ChangeAt Go.RowKit
theorem open_arr2_int {H:Type} {enc:TypeId×Value->H} {W:World} {base:Nat} {v:Value} {d:DataW H} {ps:List MemPlace}
  (hv:Value.okWide Tryz.prog W .any base 22 v) (h:DataW.Trod enc Tryz.prog W 0 (λ_=>true) true 22 v d ps) :
  ∃ x y:Int,v=.agg #[.int .i64 x,.int .i64 y]/\(Lit.int .i64 x).wf=true/\(Lit.int .i64 y).wf=true:=by
 obtain⟨fuel,hf⟩:=h
 have hc:Tryz.prog.cellsOf 22=2:=by kernel_rfl
 have hc1:Tryz.prog.cellsOf 3=1:=by kernel_rfl
 unfold Value.okWide at hv
 rw [Tryz.underlying22] at hv
 obtain⟨cs,rfl,hsz,_⟩:=hv
 rw [hc] at hsz
 obtain⟨xs,m,hfu,hd,hps,hlen,hel⟩:=DataW.trod_array Tryz.underlying22 hf
 simp only [hc1] at hel
 match cs,hsz with
 | ⟨[c0,c1]⟩,_=>
  match xs,hlen with
  | [x0,x1],_=>
   have h0:DataW.trod enc Tryz.prog W 0 (λ_=>true) true m 3 [c0]=some x0:=by simpa [Value.cells] using hel 0 (by omega)
   have h1:DataW.trod enc Tryz.prog W 0 (λ_=>true) true m 3 [c1]=some x1:=by simpa [Value.cells] using hel 1 (by omega)
   obtain⟨n0,e0,_,w0⟩:=DataW.trod_int Tryz.underlying3 h0
   obtain⟨n1,e1,_,w1⟩:=DataW.trod_int Tryz.underlying3 h1
   simp only [List.cons.injEq,and_true] at e0 e1
   exact⟨n0,n1,by rw [e0,e1],w0,w1⟩
end Go.Proofs.YtfkokppncipgnaaGreat
