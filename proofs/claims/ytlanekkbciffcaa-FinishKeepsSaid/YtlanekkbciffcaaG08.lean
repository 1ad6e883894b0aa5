/- Layer 21: where a queue's words stand: contracts of finish.Queue and finish.Fresh. -/
import Derived.Test.YtlanekkbciffcaaG03
import Derived.Test.YtlanekkbciffcaaG04
import Derived.Test.YtlanekkbciffcaaG07
set_option maxRecDepth 100000
set_option linter.unusedVariables false
set_option linter.unusedSimpArgs false
set_option linter.unnecessarySimpa false
namespace Go.Proofs.Ytlanekkbciffcaa
open Go.RowKit
def queueV (n k:Nat):Value:=.agg #[.int .i64 0,.int .i64 (n:Int),.int .i64 (k:Int)]
def fOk (n k ref f:Nat):Bool:=atB (n:Int) (k:Int) ((ref % 1024:Nat):Int) (f:Int)
def fAt (n k ref f:Nat):Int:=if fOk n k ref f=true then 2+(n:Int)+4*(((ref % 1024:Nat):Int) - 1)+(f:Int) else 0
theorem queue_head (n k:Nat) (w:World):Calls Try.prog 152 #[queueV n k] w λe w'=>e=.returned (.int .i64 0)/\Below w.heap.size w w':=by
 unfold queueV
 go_enter Try.func152,Try.ntmps152
 go_wp2
 go_ret
 exact⟨rfl,Gr.new _ _⟩
theorem queue_tail (n k:Nat) (w:World):Calls Try.prog 154 #[queueV n k] w λe w'=>e=.returned (.int .i64 1)/\Below w.heap.size w w':=by
 unfold queueV
 go_enter Try.func154,Try.ntmps154
 go_wp2
 go_ret
 exact⟨rfl,Gr.new _ _⟩
theorem queue_desc (n k t:Nat) (ht:t<=100) (w:World):Calls Try.prog 159 #[queueV n k,.int .i64 (t:Int)] w λe w'=>e=.returned (.int .i64 ((2+t:Nat):Int))/\Below w.heap.size w w':=by
 have w1:IntKind.i64.wrap (2+(t:Int))=2+(t:Int):=by rw [IntKind.wrap_i64];omega
 have w2:IntKind.i64.wrap (0+2+(t:Int))=2+(t:Int):=by rw [IntKind.wrap_i64];omega
 have e:((2+t:Nat):Int)=2+(t:Int):=by omega
 rw [e]
 unfold queueV
 go_enter Try.func159,Try.ntmps159
 go_wp2
 go_ret
 exact⟨rfl,Gr.new _ _⟩
theorem queue_field (n k ref f:Nat) (hn:n<=100) (hU:U64 ref) (hf:f<4) (w:World):Calls Try.prog 155 #[queueV n k,.int .u64 (ref:Int),.int .i64 (f:Int)] w λe w'=>e=.returned (.tuple #[.int .i64 (fAt n k ref f),.bool (fOk n k ref f)])/\Below w.heap.size w w':=by
 obtain⟨i,hi⟩:∃ i,i=ref % 1024:=⟨_,rfl⟩
 have hi2:i<1024:=by rw [hi];exact Nat.mod_lt _ (by decide)
 have AT:∀ u,Calls Try.prog 163 #[.int .i64 (n:Int),.int .i64 (k:Int),.int .i64 (i:Int),.int .i64 (f:Int)] u λe w'=>e=.returned (.tuple #[.int .i64 (fAt n k ref f),.bool (fOk n k ref f)])/\Below u.heap.size u w':=λu=>by
  unfold fAt fOk
  rw [<-hi]
  cases hb:atB (n:Int) (k:Int) (i:Int) (f:Int) with
  | true=>rw [if_pos rfl];exact at_yes _ _ _ _ u hb
  | false=>rw [if_neg Bool.false_ne_true];exact at_no _ _ _ _ u hb
 obtain⟨a,ha⟩:∃ a,a=fAt n k ref f:=⟨_,rfl⟩
 obtain⟨b,hb⟩:∃ b,b=fOk n k ref f:=⟨_,rfl⟩
 have haw:IntKind.i64.wrap (0+a)=a:=by
  rw [ha,IntKind.wrap_i64];unfold fAt;split<;>omega
 have haw2:IntKind.i64.wrap a=a:=by
  rw [ha,IntKind.wrap_i64];unfold fAt;split<;>omega
 rw [<-ha,<-hb] at AT ⊢
 have HA:=Lib.hid AT;have Hi:=Lib.hid hi
 have SP:=Lib.hid (λu=>split_any ref u hU)
 clear AT hi hi2 ha hb
 unfold queueV
 go_enter Try.func155,Try.ntmps155
 go_wp2_with fail
 refine(SP.out _).mono ?_
 rintro e w1 ⟨x,y,rfl,rfl,hx,hy⟩
 obtain rfl:x=i:=hx.out.trans Hi.out.symm
 clear hx hy
 go_wp2_with fail
 refine(HA.out _).mono ?_
 rintro e w2 ⟨rfl,hb2⟩
 have k0:=box_cell hb2 0
 simp only [List.getElem?_toArray,List.getElem?_cons_zero] at k0
 have Hb2:=Lib.hid hb2
 clear hb2
 go_wp2
 go_ret2
 exact⟨rfl,Gr.trans (Gr.new _ _) Hb2.out⟩
theorem fresh_any (wv ref:Nat) (hw:U64 wv) (hr:U64 ref) (w:World):Calls Try.prog 156 #[.int .u64 (wv:Int),.int .u64 (ref:Int)] w λe w'=>e=.returned (.tuple #[.int .u64 ((wv % 1073741824:Nat):Int),.bool (decide (wv / 1073741824=ref / 1024))])/\w=w':=by
 have US:=Lib.hid (λu=>unstamp_any wv u hw)
 have SP:=Lib.hid (λu=>split_any ref u hr)
 obtain⟨a',ha'⟩:∃ a',a'=wv / 1073741824:=⟨_,rfl⟩
 obtain⟨d',hd'⟩:∃ d',d'=ref / 1024:=⟨_,rfl⟩
 obtain⟨b',hb'⟩:∃ b',b'=wv % 1073741824:=⟨_,rfl⟩
 have hq:decide (a'=d')=((a':Int) ==(d':Int)):=by rw [Bool.eq_iff_iff];simp;omega
 rw [<-ha',<-hd',<-hb',hq]
 have HA:=Lib.hid ha';have HB:=Lib.hid hb';have HD:=Lib.hid hd'
 clear ha' hb' hd' hq
 go_enter Try.func156,Try.ntmps156
 go_wp2_with fail
 refine(US.out _).mono ?_
 rintro e w1 ⟨a,b,rfl,rfl,ha,hb⟩
 obtain rfl:a=a':=ha.out.trans HA.out.symm
 obtain rfl:b=b':=hb.out.trans HB.out.symm
 clear ha hb
 go_wp2_with fail
 refine(SP.out _).mono ?_
 rintro e w1 ⟨c,d,rfl,rfl,hc,hd⟩
 obtain rfl:d=d':=hd.out.trans HD.out.symm
 clear hc hd
 go_wp2
 go_ret2
 exact⟨rfl,rfl⟩
end Go.Proofs.Ytlanekkbciffcaa
