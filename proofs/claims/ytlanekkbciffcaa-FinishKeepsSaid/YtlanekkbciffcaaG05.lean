/- Layer 2: contracts of package mem. -/
import Derived.Test.YtlanekkbciffcaaG02
import Derived.Test.YtlanekkbciffcaaG04
import Derived.Test.YtlanekkbciffcaaG01
import Derived.StillTailTactics
set_option maxRecDepth 100000
set_option linter.unusedVariables false
set_option linter.unusedSimpArgs false
set_option linter.unnecessarySimpa false
namespace Go.Proofs.Ytlanekkbciffcaa
section
open Go.RowKit
theorem cell_set_other {w:World} {p q:Addr} (v:Value) (h:q.block≠p.block):(w.setCell p v).cell? q=w.cell? q:=World.cell?_of_block (w:=w) (Below.heap_setCell _ _ _ _ h)
theorem frozen_set_other {w:World} {p q:Addr} (v:Value) (h:q.block≠p.block):(w.setCell p v).frozen? q=w.frozen? q:=by
 have:=Below.heap_setCell w p v _ h
 simp only [World.frozen?,this]
theorem cnt_read (b:Nat) (w:World):Calls Try.prog 139 #[.pointer (some ⟨b,1,none⟩)] w λe w'=>e=.returned (.pointer (some ⟨b,1,none⟩))/\w=w':=by
 go_enter Try.func139,Try.ntmps139
 go_wp2
 go_ret
 exact⟨rfl,rfl⟩
theorem do_read (b j b2 j2:Nat) (x o:Int) (w:World) (h:w.cell? ⟨b,j,none⟩=some (.int .u64 x)) (ho:w.cell? ⟨b2,j2,none⟩=some (.int .u64 o)) (hf:w.frozen? ⟨b2,j2,none⟩=false) :
  Calls Try.prog 140 #[.pointer (some ⟨b,j,none⟩),.pointer (some ⟨b2,j2,none⟩)] w λe w'=>e=.returned (.tuple #[])/\w'=w.setCell ⟨b2,j2,none⟩ (.int .u64 x):=by
 go_enter Try.func140,Try.ntmps140
 go_wp2
 go_end0
 exact⟨rfl,rfl⟩
theorem neq_nilFunc (u:World):Sem.run Try.prog (binOp BinOp.neq 150 Value.nilFunc Value.nilFunc) u=Result.ok (.bool false) u:=by
 first
 | kernel_rfl
 | rfl
theorem access_read (bm bw j b2 j2:Nat) (len cap:Nat) (n x o:Int) (w:World) (h0:w.cell? ⟨bm,0,none⟩=some (.slice (some ⟨bw,0,none⟩) len cap)) (h1:w.cell? ⟨bm,1,none⟩=some (.int .i64 n)) (hn:0<=n) (hn2:n<1000000000000)
  (h6:w.cell? ⟨bm,6,none⟩=some .nilFunc) (hw:w.cell? ⟨bw,j,none⟩=some (.int .u64 x)) (hj:j<len) (hlen:len<=1048576) (hbw:bw≠bm) (ho:w.cell? ⟨b2,j2,none⟩=some (.int .u64 o)) (hf:w.frozen? ⟨b2,j2,none⟩=false) (hf1:w.frozen? ⟨bm,1,none⟩=false) (hb2:b2≠bm) (hb3:b2≠bw) :
  Calls Try.prog 138 #[.pointer (some ⟨bm,0,none⟩),.int .i64 0,.int .i64 (j:Int),.func (.func 139) #[] #[],.func (.func 140) #[] #[.pointer (some ⟨b2,j2,none⟩)]] w λe w'=>
   e=.returned (.tuple #[])/\w'=(w.setCell ⟨bm,1,none⟩ (.int .i64 (n+1))).setCell ⟨b2,j2,none⟩ (.int .u64 x):=by
 have hj1:(j:Int)<len:=by omega
 have C:=Lib.hid (cnt_read bm)
 have hnn:=neq_nilFunc
 go_enter Try.func138,Try.ntmps138
 go_wp2_with fail
 refine(C.out _).mono ?_
 rintro e w1 ⟨rfl,rfl⟩
 have ho2:(w.setCell ⟨bm,1,none⟩ (.int .i64 (n+1))).cell? ⟨b2,j2,none⟩=some (.int .u64 o):=by rw [cell_set_other _ (by exact hb2)];exact ho
 have hf2:(w.setCell ⟨bm,1,none⟩ (.int .i64 (n+1))).frozen? ⟨b2,j2,none⟩=false:=by rw [frozen_set_other _ (by exact hb2)];exact hf
 have hw2:(w.setCell ⟨bm,1,none⟩ (.int .i64 (n+1))).cell? ⟨bw,j,none⟩=some (.int .u64 x):=by rw [cell_set_other _ (by exact hbw)];exact hw
 go_wp2_with fail
 refine(do_read bw j b2 j2 x o _ hw2 ho2 hf2).mono ?_
 rintro e w1 ⟨rfl,rfl⟩
 go_wp2
 go_end0
 exact⟨rfl,rfl⟩
theorem cnt_swap (b:Nat) (w:World):Calls Try.prog 167 #[.pointer (some ⟨b,1,none⟩)] w λe w'=>e=.returned (.pointer (some ⟨b,3,none⟩))/\w=w':=by
 go_enter Try.func167,Try.ntmps167
 go_wp2
 go_ret
 exact⟨rfl,rfl⟩
theorem do_swap (b j b2 b3 b4:Nat) (o old fresh:Int) (w:World) (h:w.cell? ⟨b,j,none⟩=some (.int .u64 o)) (hf:w.frozen? ⟨b,j,none⟩=false) (h2:w.cell? ⟨b2,0,none⟩=some (.int .u64 old)) (h3:w.cell? ⟨b3,0,none⟩=some (.int .u64 fresh)) (h4:w.cell? ⟨b4,0,none⟩=some (.bool false)) (hf4:w.frozen? ⟨b4,0,none⟩=false) (hb4:b4≠b) :
  Calls Try.prog 168 #[.pointer (some ⟨b,j,none⟩),.pointer (some ⟨b2,0,none⟩),.pointer (some ⟨b3,0,none⟩),.pointer (some ⟨b4,0,none⟩)] w λe w'=>e=.returned (.tuple #[])/\
   ∃ nq,w'=if o=old then ((w.drewN nq).setCell ⟨b,j,none⟩ (.int .u64 fresh)).setCell ⟨b4,0,none⟩ (.bool true) else w.drewN nq:=by
 have h5:∀ nq,((w.drewN nq).setCell ⟨b,j,none⟩ (.int .u64 fresh)).cell? ⟨b4,0,none⟩=some (.bool false):=λnq=>by rw [cell_set_other _ (by exact hb4)];exact h4
 have h6:∀ nq,((w.drewN nq).setCell ⟨b,j,none⟩ (.int .u64 fresh)).frozen? ⟨b4,0,none⟩=false:=λnq=>by rw [frozen_set_other _ (by exact hb4)];exact hf4
 by_cases ho:o=old
 ·simp only [if_pos ho]
  subst ho
  go_enter Try.func168,Try.ntmps168
  go_wp2_with fail
  go_quiet (fail)
  have g0:(w.drewN nq).cell? ⟨b,j,none⟩=some (.int .u64 o):=h
  have g1:(w.drewN nq).frozen? ⟨b,j,none⟩=false:=hf
  have g3:(w.drewN nq).cell? ⟨b3,0,none⟩=some (.int .u64 fresh):=h3
  have g5:=h5 nq;have g6:=h6 nq
  clear h5 h6
  go_wp2
  go_end0
  exact⟨rfl,nq,rfl⟩
 ·simp only [if_neg ho]
  have hne:(o == old)=false:=by simpa using ho
  go_enter Try.func168,Try.ntmps168
  go_wp2_with fail
  go_quiet (fail)
  go_wp2
  go_end0
  exact⟨rfl,nq,rfl⟩
set_option maxHeartbeats 1000000 in
theorem access_swap (bm bw j b2 b3 b4:Nat) (len cap:Nat) (n x old fresh:Int) (w:World) (h0:w.cell? ⟨bm,0,none⟩=some (.slice (some ⟨bw,0,none⟩) len cap)) (h1:w.cell? ⟨bm,3,none⟩=some (.int .i64 n)) (hn:0<=n) (hn2:n<1000000000000)
  (h6:w.cell? ⟨bm,6,none⟩=some .nilFunc) (hw:w.cell? ⟨bw,j,none⟩=some (.int .u64 x)) (hfw:w.frozen? ⟨bw,j,none⟩=false) (hj:j<len) (hlen:len<=1048576) (hbw:bw≠bm) (hold:w.cell? ⟨b2,0,none⟩=some (.int .u64 old)) (hfresh:w.cell? ⟨b3,0,none⟩=some (.int .u64 fresh)) (hb:w.cell? ⟨b4,0,none⟩=some (.bool false)) (hfb:w.frozen? ⟨b4,0,none⟩=false) (hf1:w.frozen? ⟨bm,3,none⟩=false) (hb2:b2≠bm) (hb3:b3≠bm) (hb4:b4≠bm) (hb4w:b4≠bw) :
  Calls Try.prog 138 #[.pointer (some ⟨bm,0,none⟩),.int .i64 2,.int .i64 (j:Int),.func (.func 167) #[] #[],.func (.func 168) #[] #[.pointer (some ⟨b2,0,none⟩),.pointer (some ⟨b3,0,none⟩),.pointer (some ⟨b4,0,none⟩)]] w λe w'=>
   e=.returned (.tuple #[])/\∃ nq,w'=if x=old then (((w.setCell ⟨bm,3,none⟩ (.int .i64 (n+1))).drewN nq).setCell ⟨bw,j,none⟩ (.int .u64 fresh)).setCell ⟨b4,0,none⟩ (.bool true) else (w.setCell ⟨bm,3,none⟩ (.int .i64 (n+1))).drewN nq:=by
 have hj1:(j:Int)<len:=by omega
 have C:=Lib.hid (cnt_swap bm)
 have hnn:=neq_nilFunc
 obtain⟨w2,hw2e⟩:∃ w2,w2=w.setCell ⟨bm,3,none⟩ (.int .i64 (n+1)):=⟨_,rfl⟩
 have e0:w2.cell? ⟨bm,0,none⟩=some (.slice (some ⟨bw,0,none⟩) len cap):=by rw [hw2e,World.cell?_setCell_other _ _ _ _ (by simp)];exact h0
 have e6:w2.cell? ⟨bm,6,none⟩=some .nilFunc:=by rw [hw2e,World.cell?_setCell_other _ _ _ _ (by simp)];exact h6
 have e2:w2.cell? ⟨b2,0,none⟩=some (.int .u64 old):=by rw [hw2e,cell_set_other _ (by exact hb2)];exact hold
 have e3:w2.cell? ⟨b3,0,none⟩=some (.int .u64 fresh):=by rw [hw2e,cell_set_other _ (by exact hb3)];exact hfresh
 have e4:w2.cell? ⟨b4,0,none⟩=some (.bool false):=by rw [hw2e,cell_set_other _ (by exact hb4)];exact hb
 have e5:w2.frozen? ⟨b4,0,none⟩=false:=by rw [hw2e,frozen_set_other _ (by exact hb4)];exact hfb
 have ew:w2.cell? ⟨bw,j,none⟩=some (.int .u64 x):=by rw [hw2e,cell_set_other _ (by exact hbw)];exact hw
 have ef:w2.frozen? ⟨bw,j,none⟩=false:=by rw [hw2e,frozen_set_other _ (by exact hbw)];exact hfw
 have D:=Lib.hid (do_swap bw j b2 b3 b4 x old fresh w2 ew ef e2 e3 e4 e5 hb4w)
 have HW:=Lib.hid hw2e
 rw [<-hw2e]
 by_cases hx:x=old
 ·simp only [if_pos hx] at D ⊢
  clear hx hw2e
  go_enter Try.func138,Try.ntmps138
  go_wp2_with fail
  refine(C.out _).mono ?_
  rintro e w1 ⟨rfl,rfl⟩
  go_wp2_with fail
  rw [<-HW.out]
  refine D.out.mono ?_
  rintro e w1 ⟨rfl,nq,hw1⟩
  have a6:w1.cell? ⟨bm,6,none⟩=some .nilFunc:=by rw [hw1,cell_set_other _ (by exact hb4.symm),cell_set_other _ (by exact hbw.symm)];exact e6
  have H1:=Lib.hid hw1;clear hw1
  go_wp2
  go_end0
  exact⟨rfl,nq,H1.out⟩
 ·simp only [if_neg hx] at D ⊢
  clear hx hw2e
  go_enter Try.func138,Try.ntmps138
  go_wp2_with fail
  refine(C.out _).mono ?_
  rintro e w1 ⟨rfl,rfl⟩
  go_wp2_with fail
  rw [<-HW.out]
  refine D.out.mono ?_
  rintro e w1 ⟨rfl,nq,hw1⟩
  have a6:w1.cell? ⟨bm,6,none⟩=some .nilFunc:=by rw [hw1];exact e6
  have H1:=Lib.hid hw1;clear hw1
  go_wp2
  go_end0
  exact⟨rfl,nq,H1.out⟩
end
section

/- slices.Clone at []uint64 and at []int. -/
open Go.RowKit
theorem uint64_info0:(Try.prog.info? 37).map (λi=>(i.zero,i.size,i.bytes))=some (some (.int .u64 0),1,8):=by kernel_rfl
theorem clone_u64 (a:Option Addr) (n c:Nat) (g:Nat->Nat->Value) (w:World) (hs:SlAt w a n 1 g) (h1:∀ j,(g j 0).oneCell'=true) (hn:n<=1000000000) (hc:a=none->c=0) :
  Calls Try.prog 93 #[.slice a n c] w λe w'=>∃ v,e=.returned v/\w'.ownsRow w.heap.size 37 1 v n ((List.range n).map λj=>g j 0)/\Below w.heap.size w w'/\(v=.slice none 0 0↔a=none):=by
 have Hs:=Lib.hid hs;have H1:=Lib.hid h1
 obtain⟨i0,hi,hz0,hz1,hz2⟩:=info_parts uint64_info0
 have hnl:∀ u:World,(binOp .eql 28 (.slice a n c) (.slice none 0 0)).run Try.prog u=.ok (.bool a.isNone) u:=λu=>Lib.run_eql_slice_nil u _ 37 _ _ _ _ _ Try.underlying28
 clear hs h1
 cases a with
 | none=>
  obtain rfl:n=0:=by
   rcases Nat.eq_zero_or_pos n with h|h
   ·exact h
   ·obtain⟨b,off,h0,_⟩:=Hs.out.2 0 h;cases h0
  obtain rfl:=hc rfl
  simp only [Option.isNone_none] at hnl
  clear hc
  go_enter Try.func93,Try.ntmps93
  go_wp2
  go_ret
  exact⟨_,rfl,World.ownsRow_nil _ _ _ _,Gr.refl _,by simp⟩
 | some ad=>
  simp only [Option.isNone_some] at hnl
  clear hc
  have hown:(w.alloc (.cells #[] 37)).ownsRow w.heap.size 37 1 (.slice (some ⟨w.heap.size,0,none⟩) 0 0) 0 []:=World.ownsRow_made w #[] 0 (Nat.le_refl _) (Nat.zero_le _) rfl
  have hnew:∀ j u,((List.range n).map λj=>g j 0)[j]?=some u->(w.alloc (.cells #[] 37)).cell? (ad.add j)=some u:=by
   intro j u hu
   simp only [List.getElem?_map,Option.map_eq_some_iff] at hu
   obtain⟨i,hi2,rfl⟩:=hu
   rw [List.getElem?_eq_some_iff] at hi2
   obtain⟨hj,rfl⟩:=hi2
   simp only [List.length_range] at hj
   rw [List.getElem_range]
   obtain⟨b,off,h0,hb,hcell⟩:=(Hs.out.grown (Gr.new w (.cells #[] 37))).2 j hj
   cases h0
   have:=hcell 0 (by omega)
   rw [Nat.mul_one,Nat.add_zero] at this
   rw [<-this]
   unfold Addr.add
   split
   ·rename_i h;rw [h];rfl
   ·rfl
  have Hnew:=Lib.hid hnew;have Hown:=Lib.hid hown
  clear hnew hown
  go_enter Try.func93,Try.ntmps93
  go_wp2_with (at_builtin;refine wpList_append_own _ rfl (.tmp 5) (.tmp 6) 28 rfl w.heap.size 37 i0 (.int .u64 0) 1 8 Try.underlying28 hi hz0 hz1 hz2 rfl (by decide) (.slice (some ⟨w.heap.size,0,none⟩) 0 0) 0 [] rfl Hown.out ad n c ((List.range n).map λj=>g j 0) rfl ?c1 Hnew.out ?c2 ?c3 ?c4 ?c5 ?_)
  case c1=>simp
  case c2=>
   intro u hu
   obtain⟨j,_,rfl⟩:=List.mem_map.1 hu
   exact H1.out j
  case c3=>unfold maxLen;omega
  case c4=>omega
  case c5=>simp
  intro v w1 hown1 hgrow hnil
  have Hg:=Lib.hid hgrow;have Ho:=Lib.hid hown1;have Hn:=Lib.hid hnil
  clear hgrow hown1 hnil
  go_wp2
  go_ret
  refine⟨v,rfl,?_,(Gr.new w _).grown Hg.out (by simp) (λk hk=>by simp only [Value.ownBlock,Option.some.injEq] at hk;omega),?_⟩
  ·have h5:=Ho.out
   simpa using h5
  ·constructor
   ·intro h;exact absurd h (by simpa using Hn.out)
   ·intro h;cases h
end
end Go.Proofs.Ytlanekkbciffcaa
