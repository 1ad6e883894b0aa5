/- What the laws' arguments come as: slices of words, pairs, accesses. -/
import Derived.Test.YtlanekkbciffcaaG02
import Derived.Test.YtlanekkbciffcaaG07
set_option maxRecDepth 100000
set_option linter.unusedVariables false
set_option linter.unusedSimpArgs false
set_option linter.unnecessarySimpa false
namespace Go.Proofs.Ytlanekkbciffcaa
open Go.ChangeShapes Go.WideShapes Go.ChangeAt Go.RowKit
theorem open_sl_u64 {H:Type} {enc:TypeId×Value->H} {W:World} {base:Nat} {v:Value} {d:DataW H} {ps:List MemPlace}
  (hv:Value.okWide Try.prog W .any base 28 v) (h:DataW.Trod enc Try.prog W 0 (λ_=>true) true 28 v d ps) (hlt:∀ p∈ps,p.block<W.heap.size) :
  ∃(a:Option Addr) (c:Nat) (l:List Nat),v=.slice a l.length c/\SlAt W a l.length 1 (u64G l)/\(∀ y∈l,y<18446744073709551616)/\(a=none->c=0):=by
 have hc:Try.prog.cellsOf 37=1:=by kernel_rfl
 obtain⟨a,c,l,h1,h2,h3,h4⟩:=open_sl0 Try.underlying28 hv h hlt (by rw [hc];omega) (0:Nat) (λy cs=>cs=[.int .u64 (y:Int)]/\y<18446744073709551616)
  (λn cs x hx=>by obtain⟨y,h1,_,h2⟩:=DataW.trod_int Try.underlying37 hx;obtain⟨z,rfl,hz⟩:=u64_of h2;exact⟨z,h1,hz⟩) (λy _=>.int .u64 (y:Int))
  (λy cs hy=>by obtain⟨rfl,_⟩:=hy;rw [hc];exact⟨rfl,λf hf=>by obtain rfl:f=0:=(by omega);rfl⟩)
 rw [hc] at h2
 exact⟨a,c,l,h1,h2,(λy hy=>by obtain⟨cs,_,hw⟩:=h3 y hy;exact hw),h4⟩
end Go.Proofs.Ytlanekkbciffcaa
