/- Layer 6: a report's rows: the walk of roundelayplain.Rows. -/
import Derived.Test.YtlepjmnhekeofaaP21
import Derived.Test.YtlepjmnhekeofaaP22
set_option maxRecDepth 100000
set_option linter.unusedVariables false
set_option linter.unusedSimpArgs false
set_option linter.unnecessarySimpa false
namespace Go.Proofs.Ytlepjmnhekeofaa
open Go.RowKit
set_option maxHeartbeats 4000000 in
theorem within_true (ks:List Int) (iv rs:Nat) (a:Option Addr) (c:Nat) (w:World) (hs:SlAt w a ks.length 1 (intG ks)) (hk:Within ks iv rs) (hr:rs<1000000) :
  Calls Try.prog 47 #[.slice a ks.length c,.int .i64 (iv:Int),.int .i64 (rs:Int)] w λe w'=>e=.returned (.bool true)/\Below w.heap.size w w':=by
 obtain⟨h1,h2,h3⟩:=hk
 match ks,h1 with
 | k::ks,_=>
  simp only [List.headD_cons] at h2 h3
  obtain⟨b,o,rfl,_,h4⟩:=hs.2 0 (by simp)
  have hm:=hs.1
  have e4:w.cell? ⟨b,o,none⟩=some (.int .i64 k):=by have h0:=h4 0 (by omega);rw [Nat.zero_mul,Nat.add_zero] at h0;simpa [intG] using h0
  obtain⟨n,hn⟩:∃ n,n=(k::ks).length:=⟨_,rfl⟩
  have hn0:0<n:=by rw [hn];simp
  rw [<-hn] at hm ⊢
  unfold maxLen at hm
  have l0:(0:Int)<(n:Int):=by omega
  have l1:(iv:Int)<=k.tdiv 2:=by rw [Int.tdiv_eq_ediv_of_nonneg (by omega)];omega
  have l2:(k+1).tdiv 2<=(rs:Int):=by rw [Int.tdiv_eq_ediv_of_nonneg (by omega)];omega
  have l3:0<=k/\k<2000000:=by omega
  have w1:IntKind.i64.wrap (k.tdiv 2)=k.tdiv 2:=by rw [IntKind.wrap_i64,Int.tdiv_eq_ediv_of_nonneg (by omega)];omega
  have w2:IntKind.i64.wrap ((k+1).tdiv 2)=(k+1).tdiv 2:=by rw [IntKind.wrap_i64,Int.tdiv_eq_ediv_of_nonneg (by omega)];omega
  have w3:IntKind.i64.wrap (k+1)=k+1:=by rw [IntKind.wrap_i64];omega
  clear hs h4 h2 h3 hn hn0 hr
  go_enter Try.func47,Try.ntmps47
  go_wp2
  go_ret
  exact⟨rfl,Gr.refl _⟩
end Go.Proofs.Ytlepjmnhekeofaa
