/- The reference's play, whatever its object is: an event that has responded: roundelayplain.done. -/
import Derived.Test.YtfkokppncipgnaaGreatV21
set_option maxRecDepth 100000
set_option linter.unusedVariables false
set_option linter.unusedSimpArgs false
set_option linter.unnecessarySimpa false
namespace Go.Proofs.YtfkokppncipgnaaGreat
open List renaming getElem_toArray → zq1, getElem_cons_zero → zq2, getElem_cons_succ → zq3, setIfInBounds_toArray → zq4, set_cons_zero → zq5, set_cons_succ → zq6
open Go.RowKit
set_option maxHeartbeats 8000000 in
theorem done_key (w:World) (bH bW bM mc p now n c iv st vl vl0 rs n0 k0 n1 k1 ln lc kn kc:Nat) (er er0:Int) (a0 a1 la ka:Option Addr) (MV:Value) (pre post ms:List Value) (x0 x1 x4 x5 x6 x7 x8 x9 x10 x15:Value) (hH:w.heap[bH]?=some (.cells (pre++([x0,x1,.pointer (some ⟨bW,0,none⟩),.int .i64 (p:Int),x4,x5,x6,x7,x8,x9,x10,.int .i64 er,.int .u64 (vl:Int),.slice la ln lc,.slice ka kn kc,x15]++post)).toArray 100 (0,0)))
  (hM:w.heap[bM]?=some (.cells ms.toArray 24 (0,0))) (hMv:ms[p]?=some (MV)) (hp:p<n) (hn:n<=16) (hnow:now<=1000000) (hk:0<kn) (hk9:kn<=9223372036854775807) (c6:w.cell? ⟨bW,6,none⟩=some (.int .i64 (now:Int))) (c7:w.cell? ⟨bW,7,none⟩=some (.slice (some ⟨bM,0,none⟩) n mc)) :
  Calls Tryz.prog 43 #[.pointer (some ⟨bH,pre.length,none⟩),.agg #[.int .i64 (c:Int),.int .i64 (iv:Int),.int .i64 (rs:Int),.int .i64 (st:Int),.int .i64 er0,.int .u64 (vl0:Int),.slice a0 n0 k0,.slice a1 n1 k1]] w λe w'=>e=.returned (.agg #[.int .i64 (c:Int),.int .i64 (iv:Int),.int .i64 (now:Int),.int .i64 (st:Int),.int .i64 er,.int .u64 (vl:Int),.slice la ln lc,.slice ka kn kc])/\Below w.heap.size w w':=by
 obtain⟨wb,hwb⟩:∃ wb,wb=(w.alloc (.cells #[.int .i64 (c:Int),.int .i64 (iv:Int),.int .i64 (rs:Int),.int .i64 (st:Int),.int .i64 er0,.int .u64 (vl0:Int),.slice a0 n0 k0,.slice a1 n1 k1] 52)).alloc (.cells #[.int .i64 0,.int .i64 0,.int .i64 0,.int .i64 0,.int .i64 0,.int .u64 0,.slice none 0 0,.slice none 0 0] 52):=⟨_,rfl⟩
 have gb:Below w.heap.size w wb:=by rw [hwb];exact Gr.alloc (Gr.new _ _) _
 have hB1:wb.heap[w.heap.size]?=some (.cells #[.int .i64 (c:Int),.int .i64 (iv:Int),.int .i64 (rs:Int),.int .i64 (st:Int),.int .i64 er0,.int .u64 (vl0:Int),.slice a0 n0 k0,.slice a1 n1 k1] 52 (0,0)):=by rw [hwb,Below.heap_alloc _ _ _ (by simp)];exact heap_alloc_new _ _
 have hB2:wb.heap[w.heap.size+1]?=some (.cells #[.int .i64 0,.int .i64 0,.int .i64 0,.int .i64 0,.int .i64 0,.int .u64 0,.slice none 0 0,.slice none 0 0] 52 (0,0)):=by
  rw [hwb]
  have:=heap_alloc_new (w.alloc (.cells #[.int .i64 (c:Int),.int .i64 (iv:Int),.int .i64 (rs:Int),.int .i64 (st:Int),.int .i64 er0,.int .u64 (vl0:Int),.slice a0 n0 k0,.slice a1 n1 k1] 52)) (.cells #[.int .i64 0,.int .i64 0,.int .i64 0,.int .i64 0,.int .i64 0,.int .u64 0,.slice none 0 0,.slice none 0 0] 52 (0,0))
  simp only [World.size_alloc] at this
  exact this
 have hcell:∀ i,i<16->w.cell? ⟨bH,pre.length+i,none⟩=([x0,x1,.pointer (some ⟨bW,0,none⟩),.int .i64 (p:Int),x4,x5,x6,x7,x8,x9,x10,.int .i64 er,.int .u64 (vl:Int),.slice la ln lc,.slice ka kn kc,x15]:List Value)[i]?:=λi hi=>by rw [cell_blk hH];exact mid_get (by simpa using hi)
 have hHl:=blk_lt hH
 have hWl:bW<w.heap.size:=World.block_lt_of_cell? _ _ c6
 have hMl:=blk_lt hM
 have m1:w.cell? ⟨bM,p,none⟩=some (MV):=by rw [cell_blk hM];simpa using hMv
 have l1:(p:Int)<(n:Int):=by omega
 have lw:IntKind.i64.wrap (p:Int)=(p:Int):=by rw [IntKind.wrap_i64];omega
 have lm:IntKind.i64.wrap (2*(now:Int))=2*(now:Int):=by rw [IntKind.wrap_i64];omega
 have lm2:wrap64 (2*(now:Int))=2*(now:Int):=by unfold wrap64;omega
 have l3:(((kn:Nat):Int) == 0)=false:=by simp;omega
 have l4:¬ ((kn:Nat):Int)=0:=by omega
 have HC:=Lib.hid hcell;have K6:=Lib.hid c6;have K7:=Lib.hid c7;have M1:=Lib.hid m1;have Gb:=Lib.hid gb;have B1:=Lib.hid hB1;have B2:=Lib.hid hB2;have Hwb:=Lib.hid hwb
 have keep:∀(u:World),Chg (λb=>w.heap.size<=b) w u->u.cell? ⟨bH,pre.length+2,none⟩=some (.pointer (some ⟨bW,0,none⟩))/\u.cell? ⟨bH,pre.length+3,none⟩=some (.int .i64 (p:Int))/\u.cell? ⟨bH,pre.length+11,none⟩=some (.int .i64 er)/\u.cell? ⟨bH,pre.length+12,none⟩=some (.int .u64 (vl:Int))/\u.cell? ⟨bH,pre.length+13,none⟩=some (.slice la ln lc)/\u.cell? ⟨bH,pre.length+14,none⟩=some (.slice ka kn kc)/\u.cell? ⟨bW,6,none⟩=some (.int .i64 (now:Int))/\u.cell? ⟨bW,7,none⟩=some (.slice (some ⟨bM,0,none⟩) n mc)/\u.cell? ⟨bM,p,none⟩=some (MV):=λu hc=>
  ⟨(hc.cell hHl (by simpa using hHl)).trans (HC.out 2 (by decide)),(hc.cell hHl (by simpa using hHl)).trans (HC.out 3 (by decide)),(hc.cell hHl (by simpa using hHl)).trans (HC.out 11 (by decide)),(hc.cell hHl (by simpa using hHl)).trans (HC.out 12 (by decide)),(hc.cell hHl (by simpa using hHl)).trans (HC.out 13 (by decide)),(hc.cell hHl (by simpa using hHl)).trans (HC.out 14 (by decide)),(hc.cell hWl (by simpa using hWl)).trans (K6.out),(hc.cell hWl (by simpa using hWl)).trans (K7.out),(hc.cell hMl (by simpa using hMl)).trans (M1.out)⟩
 have Keep:=Lib.hid keep
 have gcb:Chg (λb=>w.heap.size<=b) w wb:=Chg.of_below gb
 have Gc:=Lib.hid gcb
 obtain⟨c2,c3,c11,c12,c13,c14,k6,k7,m1'⟩:=keep wb gcb
 have e2:wb.cell? ⟨w.heap.size,2,none⟩=some (.int .i64 (rs:Int)):=by rw [cell_blk hB1];rfl
 have ef2:wb.frozen? ⟨w.heap.size,2,none⟩=false:=frozen_blk hB1 _
 clear hcell c6 c7 m1 gb hB1 hB2 hwb keep gcb hH hM hMv c3 c11 c12 c13 c14 k7 m1'
 go_enter Tryz.func43,Tryz.ntmps43
 go_upto_region 1 with fail
 rw [<-Hwb.out]
 go_upto_region 3 with fail
 obtain⟨w1,hw1⟩:∃ w1,w1=wb.setCell ⟨w.heap.size,2,none⟩ (.int .i64 (now:Int)):=⟨_,rfl⟩
 rw [<-hw1]
 have h1:w1.heap[w.heap.size]?=some (.cells #[.int .i64 (c:Int),.int .i64 (iv:Int),.int .i64 (now:Int),.int .i64 (st:Int),.int .i64 er0,.int .u64 (vl0:Int),.slice a0 n0 k0,.slice a1 n1 k1] 52 (0,0)):=by rw [hw1];exact blk_set B1.out _ _
 have g1:Chg (λb=>w.heap.size<=b) w w1:=by rw [hw1];exact Gc.out.setCell (p:=⟨w.heap.size,2,none⟩) (.inr (Nat.le_refl _)) _
 have z1:w1.heap[w.heap.size+1]?=some (.cells #[.int .i64 0,.int .i64 0,.int .i64 0,.int .i64 0,.int .i64 0,.int .u64 0,.slice none 0 0,.slice none 0 0] 52 (0,0)):=by rw [hw1];exact(blk_set_other (by simp) _ _).trans B2.out
 obtain⟨c2,c3,c11,c12,c13,c14,k6,k7,m1⟩:=Keep.out w1 g1
 have G1:=Lib.hid g1;have Z1:=Lib.hid z1;have H1:=Lib.hid h1
 have hl1:=blk_lt h1
 have e4:w1.cell? ⟨w.heap.size,4,none⟩=some (.int .i64 er0):=by rw [cell_blk h1];rfl
 have ef4:w1.frozen? ⟨w.heap.size,4,none⟩=false:=frozen_blk h1 _
 have e5:w1.cell? ⟨w.heap.size,5,none⟩=some (.int .u64 (vl0:Int)):=by rw [cell_blk h1];rfl
 have ef5:w1.frozen? ⟨w.heap.size,5,none⟩=false:=frozen_blk h1 _
 have e6:w1.cell? ⟨w.heap.size,6,none⟩=some (.slice a0 n0 k0):=by rw [cell_blk h1];rfl
 have ef6:w1.frozen? ⟨w.heap.size,6,none⟩=false:=frozen_blk h1 _
 clear e2 ef2 hw1 g1 z1 h1 c2 c3 c14 k6 k7 m1
 refine wp_region_L ((λu=>u.cell? ⟨bH,pre.length+11,none⟩=some (.int .i64 er)/\u.cell? ⟨bH,pre.length+12,none⟩=some (.int .u64 (vl:Int))/\u.cell? ⟨bH,pre.length+13,none⟩=some (.slice la ln lc))) 14 (by kernel_rfl) ?hS0L1 ?_
 case hS0L1=>
  exact⟨c11,c12,c13⟩
 intro hS hcl
 refine wpAnyL_take (i:=0) (v:=?tv0L1) 15 rfl (by kernel_rfl) (by kernel_rfl) (by kernel_rfl) (by kernel_rfl) (by kernel_rfl) hcl (by exact λ_ _ _ h=>h) (Or.inl ⟨by rfl,?th0L1⟩) hS ?tr0L1
 (case th0L1=>(intro w hSw;go_simp;with_reducible rfl))
 clear hcl;intro hcl
 (simp only [Act.put,zq1,zq2,zq3,zq4,zq5,zq6])
 refine wpAnyL_take (i:=1) (v:=?tv1L1) 15 rfl (by kernel_rfl) (by kernel_rfl) (by kernel_rfl) (by kernel_rfl) (by kernel_rfl) hcl (by exact λ_ _ _ h=>h) (Or.inl ⟨by rfl,?th1L1⟩) hS ?tr1L1
 (case th1L1=>(intro w hSw;go_simp;with_reducible rfl))
 clear hcl;intro hcl
 (simp only [Act.put,zq1,zq2,zq3,zq4,zq5,zq6])
 refine wpAnyL_take (i:=2) (v:=?tv2L1) 15 rfl (by kernel_rfl) (by kernel_rfl) (by kernel_rfl) (by kernel_rfl) (by kernel_rfl) hcl (by exact λ_ _ _ h=>h) (Or.inl ⟨by rfl,?th2L1⟩) hS ?tr2L1
 (case th2L1=>(intro w hSw;go_simp;with_reducible rfl))
 clear hcl;intro hcl
 (simp only [Act.put,zq1,zq2,zq3,zq4,zq5,zq6])
 refine wpAnyL_take (i:=3) (v:=?tv3L1) 15 rfl (by kernel_rfl) (by kernel_rfl) (by kernel_rfl) (by kernel_rfl) (by kernel_rfl) hcl (by exact λ_ _ _ h=>h) (Or.inl ⟨by rfl,?th3L1⟩) hS ?tr3L1
 (case th3L1=>(intro w hSw;go_simp;with_reducible rfl))
 clear hcl;intro hcl
 (simp only [Act.put,zq1,zq2,zq3,zq4,zq5,zq6])
 refine wpAnyL_take (i:=4) (v:=?tv4L1) 15 rfl (by kernel_rfl) (by kernel_rfl) (by kernel_rfl) (by kernel_rfl) (by kernel_rfl) hcl (by exact λ_ _ _ h=>h) (Or.inl ⟨by rfl,?th4L1⟩) hS ?tr4L1
 (case th4L1=>(intro w hSw;go_simp;with_reducible rfl))
 clear hcl;intro hcl
 (simp only [Act.put,zq1,zq2,zq3,zq4,zq5,zq6])
 refine wpAnyL_take (i:=5) (v:=?tv5L1) 15 rfl (by kernel_rfl) (by kernel_rfl) (by kernel_rfl) (by kernel_rfl) (by kernel_rfl) hcl (by exact λ_ _ _ h=>h) (Or.inl ⟨by rfl,?th5L1⟩) hS ?tr5L1
 (case th5L1=>(intro w hSw;go_simp;with_reducible rfl))
 clear hcl;intro hcl
 (simp only [Act.put,zq1,zq2,zq3,zq4,zq5,zq6])
 refine wpAnyL_take (i:=6) (v:=?tv6L1) 15 rfl (by kernel_rfl) (by kernel_rfl) (by kernel_rfl) (by kernel_rfl) (by kernel_rfl) hcl (by exact λ_ _ _ h=>h) (Or.inl ⟨by rfl,?th6L1⟩) hS ?tr6L1
 (case th6L1=>(intro w hSw;go_simp;with_reducible rfl))
 clear hcl;intro hcl
 (simp only [Act.put,zq1,zq2,zq3,zq4,zq5,zq6])
 refine wpAnyL_take (i:=7) (v:=?tv7L1) 15 rfl (by kernel_rfl) (by kernel_rfl) (by kernel_rfl) (by kernel_rfl) (by kernel_rfl) hcl (by exact λ_ _ _ h=>h) (Or.inl ⟨by rfl,?th7L1⟩) hS ?tr7L1
 (case th7L1=>(intro w hSw;go_simp;with_reducible rfl))
 clear hcl;intro hcl
 (simp only [Act.put,zq1,zq2,zq3,zq4,zq5,zq6])
 refine wpAnyL_take (i:=8) (v:=?tv8L1) 15 rfl (by kernel_rfl) (by kernel_rfl) (by kernel_rfl) (by kernel_rfl) (by kernel_rfl) hcl (by exact λ_ _ _ h=>h) (Or.inl ⟨by rfl,?th8L1⟩) hS ?tr8L1
 (case th8L1=>(intro w hSw;go_simp;with_reducible rfl))
 clear hcl;intro hcl
 (simp only [Act.put,zq1,zq2,zq3,zq4,zq5,zq6])
 refine wpAnyL_take (i:=9) (v:=?tv9L1) 15 rfl (by kernel_rfl) (by kernel_rfl) (by kernel_rfl) (by kernel_rfl) (by kernel_rfl) hcl (by exact λ_ _ _ h=>h) (Or.inl ⟨by rfl,?th9L1⟩) hS ?tr9L1
 (case th9L1=>(intro w hSw;go_simp;with_reducible rfl))
 clear hcl;intro hcl
 (simp only [Act.put,zq1,zq2,zq3,zq4,zq5,zq6])
 refine wpAnyL_take (i:=10) (v:=?tv10L1) 15 rfl (by kernel_rfl) (by kernel_rfl) (by kernel_rfl) (by kernel_rfl) (by kernel_rfl) hcl (by exact λ_ _ _ h=>h) (Or.inl ⟨by rfl,?th10L1⟩) hS ?tr10L1
 (case th10L1=>(intro w hSw;go_simp;with_reducible rfl))
 clear hcl;intro hcl
 (simp only [Act.put,zq1,zq2,zq3,zq4,zq5,zq6])
 refine wpAnyL_take (i:=11) (v:=?tv11L1) 15 rfl (by kernel_rfl) (by kernel_rfl) (by kernel_rfl) (by kernel_rfl) (by kernel_rfl) hcl (by exact λ_ _ _ h=>h) (Or.inl ⟨by rfl,?th11L1⟩) hS ?tr11L1
 (case th11L1=>(intro w hSw;go_simp;with_reducible rfl))
 clear hcl;intro hcl
 (simp only [Act.put,zq1,zq2,zq3,zq4,zq5,zq6])
 refine wpAnyL_take (i:=12) (v:=?tv12L1) 15 rfl (by kernel_rfl) (by kernel_rfl) (by kernel_rfl) (by kernel_rfl) (by kernel_rfl) hcl (by exact λ_ _ _ h=>h) (Or.inl ⟨by rfl,?th12L1⟩) hS ?tr12L1
 (case th12L1=>(intro w hSw;go_simp;with_reducible rfl))
 clear hcl;intro hcl
 (simp only [Act.put,zq1,zq2,zq3,zq4,zq5,zq6])
 refine wpAnyL_take (i:=13) (v:=?tv13L1) 15 rfl (by kernel_rfl) (by kernel_rfl) (by kernel_rfl) (by kernel_rfl) (by kernel_rfl) hcl (by exact λ_ _ _ h=>h) (Or.inl ⟨by rfl,?th13L1⟩) hS ?tr13L1
 (case th13L1=>(intro w hSw;go_simp;with_reducible rfl))
 clear hcl;intro hcl
 (simp only [Act.put,zq1,zq2,zq3,zq4,zq5,zq6])
 refine wpAnyL_one (i:=14) (by kernel_rfl) rfl hcl (λK' hK=>?_)
 have HK:=Lib.hid hK;clear hK
 ((rw [if_pos (by kernel_rfl)]);(simp only [zq1,zq2,zq3]);go_big_op)
 refine HK.out _ _ (λh=>by cases h.symm.trans (by kernel_rfl:_=true)) (λ_=>wpAnyL_done (by kernel_rfl) ?_ _)
 clear HK
 (clear hS)
 obtain⟨w2,hw2⟩:∃ w2,w2=(((w1.setCell ⟨w.heap.size,4,none⟩ (.int .i64 er)).setCell ⟨w.heap.size,5,none⟩ (.int .u64 (vl:Int))).setCell ⟨w.heap.size,6,none⟩ (.slice la ln lc)).drew:=⟨_,rfl⟩
 rw [<-hw2]
 have h2:w2.heap[w.heap.size]?=some (.cells #[.int .i64 (c:Int),.int .i64 (iv:Int),.int .i64 (now:Int),.int .i64 (st:Int),.int .i64 er,.int .u64 (vl:Int),.slice la ln lc,.slice a1 n1 k1] 52 (0,0)):=by rw [hw2];exact blk_set (blk_set (blk_set H1.out _ _) _ _) _ _
 have g2:Chg (λb=>w.heap.size<=b) w w2:=by rw [hw2];exact(((G1.out.setCell (p:=⟨w.heap.size,4,none⟩) (.inr (Nat.le_refl _)) _).setCell (p:=⟨w.heap.size,5,none⟩) (.inr (Nat.le_refl _)) _).setCell (p:=⟨w.heap.size,6,none⟩) (.inr (Nat.le_refl _)) _).drew
 have z2:w2.heap[w.heap.size+1]?=some (.cells #[.int .i64 0,.int .i64 0,.int .i64 0,.int .i64 0,.int .i64 0,.int .u64 0,.slice none 0 0,.slice none 0 0] 52 (0,0)):=by rw [hw2];exact(blk_set_other (by simp) _ _).trans ((blk_set_other (by simp) _ _).trans ((blk_set_other (by simp) _ _).trans Z1.out))
 obtain⟨c2,c3,_,_,_,c14,k6,k7,m1⟩:=Keep.out w2 g2
 have G2:=Lib.hid g2;have Z2:=Lib.hid z2;have H2:=Lib.hid h2
 have e7:w2.cell? ⟨w.heap.size,7,none⟩=some (.slice a1 n1 k1):=by rw [cell_blk h2];rfl
 have ef7:w2.frozen? ⟨w.heap.size,7,none⟩=false:=frozen_blk h2 _
 clear e4 ef4 e5 ef5 e6 ef6 c11 c12 c13 hw2 g2 z2 h2
 go_upto_region 5 with fail
 obtain⟨w3,hw3⟩:∃ w3,w3=w2.setCell ⟨w.heap.size,7,none⟩ (.slice ka kn kc):=⟨_,rfl⟩
 rw [<-hw3]
 have h3:w3.heap[w.heap.size]?=some (.cells #[.int .i64 (c:Int),.int .i64 (iv:Int),.int .i64 (now:Int),.int .i64 (st:Int),.int .i64 er,.int .u64 (vl:Int),.slice la ln lc,.slice ka kn kc] 52 (0,0)):=by rw [hw3];exact blk_set H2.out _ _
 have g3:Chg (λb=>w.heap.size<=b) w w3:=by rw [hw3];exact G2.out.setCell (p:=⟨w.heap.size,7,none⟩) (.inr (Nat.le_refl _)) _
 have z3:w3.heap[w.heap.size+1]?=some (.cells #[.int .i64 0,.int .i64 0,.int .i64 0,.int .i64 0,.int .i64 0,.int .u64 0,.slice none 0 0,.slice none 0 0] 52 (0,0)):=by rw [hw3];exact(blk_set_other (by simp) _ _).trans Z2.out
 obtain⟨c2,c3,_,_,_,_,k6,k7,m1⟩:=Keep.out w3 g3
 have G3:=Lib.hid g3;have Z3:=Lib.hid z3;have H3:=Lib.hid h3
 clear e7 ef7
 have e0:w3.cell? ⟨w.heap.size,0,none⟩=some (.int .i64 (c:Int)):=by rw [cell_blk h3];rfl
 have ef0:w3.frozen? ⟨w.heap.size,0,none⟩=false:=frozen_blk h3 _
 have e1:w3.cell? ⟨w.heap.size,1,none⟩=some (.int .i64 (iv:Int)):=by rw [cell_blk h3];rfl
 have ef1:w3.frozen? ⟨w.heap.size,1,none⟩=false:=frozen_blk h3 _
 have e2:w3.cell? ⟨w.heap.size,2,none⟩=some (.int .i64 (now:Int)):=by rw [cell_blk h3];rfl
 have ef2:w3.frozen? ⟨w.heap.size,2,none⟩=false:=frozen_blk h3 _
 have e3:w3.cell? ⟨w.heap.size,3,none⟩=some (.int .i64 (st:Int)):=by rw [cell_blk h3];rfl
 have ef3:w3.frozen? ⟨w.heap.size,3,none⟩=false:=frozen_blk h3 _
 have e4:w3.cell? ⟨w.heap.size,4,none⟩=some (.int .i64 er):=by rw [cell_blk h3];rfl
 have ef4:w3.frozen? ⟨w.heap.size,4,none⟩=false:=frozen_blk h3 _
 have e5:w3.cell? ⟨w.heap.size,5,none⟩=some (.int .u64 (vl:Int)):=by rw [cell_blk h3];rfl
 have ef5:w3.frozen? ⟨w.heap.size,5,none⟩=false:=frozen_blk h3 _
 have e6:w3.cell? ⟨w.heap.size,6,none⟩=some (.slice la ln lc):=by rw [cell_blk h3];rfl
 have ef6:w3.frozen? ⟨w.heap.size,6,none⟩=false:=frozen_blk h3 _
 have e7:w3.cell? ⟨w.heap.size,7,none⟩=some (.slice ka kn kc):=by rw [cell_blk h3];rfl
 have ef7:w3.frozen? ⟨w.heap.size,7,none⟩=false:=frozen_blk h3 _
 have zc0:w3.cell? ⟨w.heap.size+1,0,none⟩=some (.int .i64 0):=by rw [cell_blk z3];rfl
 have zcf0:w3.frozen? ⟨w.heap.size+1,0,none⟩=false:=frozen_blk z3 _
 have zc1:w3.cell? ⟨w.heap.size+1,1,none⟩=some (.int .i64 0):=by rw [cell_blk z3];rfl
 have zcf1:w3.frozen? ⟨w.heap.size+1,1,none⟩=false:=frozen_blk z3 _
 have zc2:w3.cell? ⟨w.heap.size+1,2,none⟩=some (.int .i64 0):=by rw [cell_blk z3];rfl
 have zcf2:w3.frozen? ⟨w.heap.size+1,2,none⟩=false:=frozen_blk z3 _
 have zc3:w3.cell? ⟨w.heap.size+1,3,none⟩=some (.int .i64 0):=by rw [cell_blk z3];rfl
 have zcf3:w3.frozen? ⟨w.heap.size+1,3,none⟩=false:=frozen_blk z3 _
 have zc4:w3.cell? ⟨w.heap.size+1,4,none⟩=some (.int .i64 0):=by rw [cell_blk z3];rfl
 have zcf4:w3.frozen? ⟨w.heap.size+1,4,none⟩=false:=frozen_blk z3 _
 have zc5:w3.cell? ⟨w.heap.size+1,5,none⟩=some (.int .u64 0):=by rw [cell_blk z3];rfl
 have zcf5:w3.frozen? ⟨w.heap.size+1,5,none⟩=false:=frozen_blk z3 _
 have zc6:w3.cell? ⟨w.heap.size+1,6,none⟩=some (.slice none 0 0):=by rw [cell_blk z3];rfl
 have zcf6:w3.frozen? ⟨w.heap.size+1,6,none⟩=false:=frozen_blk z3 _
 have zc7:w3.cell? ⟨w.heap.size+1,7,none⟩=some (.slice none 0 0):=by rw [cell_blk z3];rfl
 have zcf7:w3.frozen? ⟨w.heap.size+1,7,none⟩=false:=frozen_blk z3 _
 clear hw3 g3 z3 h3 c2 c3 c14 k6 k7 m1 ef0 ef1 ef2 ef3 ef4 ef5 ef6 ef7
 go_wp2
 obtain⟨w6,hw6⟩:∃ w6,w6=((((((((w3.setCell ⟨w.heap.size+1,0,none⟩ (.int .i64 (c:Int))).setCell ⟨w.heap.size+1,1,none⟩ (.int .i64 (iv:Int))).setCell ⟨w.heap.size+1,2,none⟩ (.int .i64 (now:Int))).setCell ⟨w.heap.size+1,3,none⟩ (.int .i64 (st:Int))).setCell ⟨w.heap.size+1,4,none⟩ (.int .i64 er)).setCell ⟨w.heap.size+1,5,none⟩ (.int .u64 (vl:Int))).setCell ⟨w.heap.size+1,6,none⟩ (.slice la ln lc)).setCell ⟨w.heap.size+1,7,none⟩ (.slice ka kn kc)):=⟨_,rfl⟩
 rw [<-hw6]
 have h6:w6.heap[w.heap.size+1]?=some (.cells #[.int .i64 (c:Int),.int .i64 (iv:Int),.int .i64 (now:Int),.int .i64 (st:Int),.int .i64 er,.int .u64 (vl:Int),.slice la ln lc,.slice ka kn kc] 52 (0,0)):=by rw [hw6];exact(blk_set (blk_set (blk_set (blk_set (blk_set (blk_set (blk_set (blk_set Z3.out 0 (.int .i64 (c:Int))) 1 (.int .i64 (iv:Int))) 2 (.int .i64 (now:Int))) 3 (.int .i64 (st:Int))) 4 (.int .i64 er)) 5 (.int .u64 (vl:Int))) 6 (.slice la ln lc)) 7 (.slice ka kn kc))
 have g6:Chg (λb=>w.heap.size<=b) w w6:=by rw [hw6];exact((((((((G3.out.setCell (p:=⟨w.heap.size+1,0,none⟩) (.inr (Nat.le_succ _)) _).setCell (p:=⟨w.heap.size+1,1,none⟩) (.inr (Nat.le_succ _)) _).setCell (p:=⟨w.heap.size+1,2,none⟩) (.inr (Nat.le_succ _)) _).setCell (p:=⟨w.heap.size+1,3,none⟩) (.inr (Nat.le_succ _)) _).setCell (p:=⟨w.heap.size+1,4,none⟩) (.inr (Nat.le_succ _)) _).setCell (p:=⟨w.heap.size+1,5,none⟩) (.inr (Nat.le_succ _)) _).setCell (p:=⟨w.heap.size+1,6,none⟩) (.inr (Nat.le_succ _)) _).setCell (p:=⟨w.heap.size+1,7,none⟩) (.inr (Nat.le_succ _)) _)
 clear hw6 zc0 zcf0 e0 zc1 zcf1 e1 zc2 zcf2 e2 zc3 zcf3 e3 zc4 zcf4 e4 zc5 zcf5 e5 zc6 zcf6 e6 zc7 zcf7 e7
 have hld:=event_load w6 _ _ h6 rfl
 refine bodyPost_ret (v:=.agg #[.int .i64 (c:Int),.int .i64 (iv:Int),.int .i64 (now:Int),.int .i64 (st:Int),.int .i64 er,.int .u64 (vl:Int),.slice la ln lc,.slice ka kn kc]) (by simp [results,Tryz.results43 ,Sem.run_bind,Sem.run_pure,asAddr,hld]) rfl ?_
 exact⟨rfl,g6.below (λb h=>h) (Nat.le_refl _)⟩
set_option maxHeartbeats 8000000 in
theorem done_mark (w:World) (bH bW bM mc p now n c iv st vl vl0 rs n0 k0 n1 k1 ln lc mn mk:Nat) (er er0:Int) (a0 a1 la ma:Option Addr) (pre post ms:List Value) (x0 x1 x4 x5 x6 x7 x8 x9 x10 x15:Value) (hH:w.heap[bH]?=some (.cells (pre++([x0,x1,.pointer (some ⟨bW,0,none⟩),.int .i64 (p:Int),x4,x5,x6,x7,x8,x9,x10,.int .i64 er,.int .u64 (vl:Int),.slice la ln lc,.slice none 0 0,x15]++post)).toArray 100 (0,0)))
  (hM:w.heap[bM]?=some (.cells ms.toArray 24 (0,0))) (hMv:ms[p]?=some (.slice ma mn mk)) (hp:p<n) (hn:n<=16) (hnow:now<=1000000) (hk:0<mn) (hk9:mn<=9223372036854775807) (c6:w.cell? ⟨bW,6,none⟩=some (.int .i64 (now:Int))) (c7:w.cell? ⟨bW,7,none⟩=some (.slice (some ⟨bM,0,none⟩) n mc)) :
  Calls Tryz.prog 43 #[.pointer (some ⟨bH,pre.length,none⟩),.agg #[.int .i64 (c:Int),.int .i64 (iv:Int),.int .i64 (rs:Int),.int .i64 (st:Int),.int .i64 er0,.int .u64 (vl0:Int),.slice a0 n0 k0,.slice a1 n1 k1]] w λe w'=>e=.returned (.agg #[.int .i64 (c:Int),.int .i64 (iv:Int),.int .i64 (now:Int),.int .i64 (st:Int),.int .i64 er,.int .u64 (vl:Int),.slice la ln lc,.slice ma mn mk])/\Below w.heap.size w w':=by
 obtain⟨wb,hwb⟩:∃ wb,wb=(w.alloc (.cells #[.int .i64 (c:Int),.int .i64 (iv:Int),.int .i64 (rs:Int),.int .i64 (st:Int),.int .i64 er0,.int .u64 (vl0:Int),.slice a0 n0 k0,.slice a1 n1 k1] 52)).alloc (.cells #[.int .i64 0,.int .i64 0,.int .i64 0,.int .i64 0,.int .i64 0,.int .u64 0,.slice none 0 0,.slice none 0 0] 52):=⟨_,rfl⟩
 have gb:Below w.heap.size w wb:=by rw [hwb];exact Gr.alloc (Gr.new _ _) _
 have hB1:wb.heap[w.heap.size]?=some (.cells #[.int .i64 (c:Int),.int .i64 (iv:Int),.int .i64 (rs:Int),.int .i64 (st:Int),.int .i64 er0,.int .u64 (vl0:Int),.slice a0 n0 k0,.slice a1 n1 k1] 52 (0,0)):=by rw [hwb,Below.heap_alloc _ _ _ (by simp)];exact heap_alloc_new _ _
 have hB2:wb.heap[w.heap.size+1]?=some (.cells #[.int .i64 0,.int .i64 0,.int .i64 0,.int .i64 0,.int .i64 0,.int .u64 0,.slice none 0 0,.slice none 0 0] 52 (0,0)):=by
  rw [hwb]
  have:=heap_alloc_new (w.alloc (.cells #[.int .i64 (c:Int),.int .i64 (iv:Int),.int .i64 (rs:Int),.int .i64 (st:Int),.int .i64 er0,.int .u64 (vl0:Int),.slice a0 n0 k0,.slice a1 n1 k1] 52)) (.cells #[.int .i64 0,.int .i64 0,.int .i64 0,.int .i64 0,.int .i64 0,.int .u64 0,.slice none 0 0,.slice none 0 0] 52 (0,0))
  simp only [World.size_alloc] at this
  exact this
 have hcell:∀ i,i<16->w.cell? ⟨bH,pre.length+i,none⟩=([x0,x1,.pointer (some ⟨bW,0,none⟩),.int .i64 (p:Int),x4,x5,x6,x7,x8,x9,x10,.int .i64 er,.int .u64 (vl:Int),.slice la ln lc,.slice none 0 0,x15]:List Value)[i]?:=λi hi=>by rw [cell_blk hH];exact mid_get (by simpa using hi)
 have hHl:=blk_lt hH
 have hWl:bW<w.heap.size:=World.block_lt_of_cell? _ _ c6
 have hMl:=blk_lt hM
 have m1:w.cell? ⟨bM,p,none⟩=some (.slice ma mn mk):=by rw [cell_blk hM];simpa using hMv
 have l1:(p:Int)<(n:Int):=by omega
 have lw:IntKind.i64.wrap (p:Int)=(p:Int):=by rw [IntKind.wrap_i64];omega
 have lm:IntKind.i64.wrap (2*(now:Int))=2*(now:Int):=by rw [IntKind.wrap_i64];omega
 have lm2:wrap64 (2*(now:Int))=2*(now:Int):=by unfold wrap64;omega
 have l3:(((mn:Nat):Int) == 0)=false:=by simp;omega
 have l4:¬ ((mn:Nat):Int)=0:=by omega
 have HC:=Lib.hid hcell;have K6:=Lib.hid c6;have K7:=Lib.hid c7;have M1:=Lib.hid m1;have Gb:=Lib.hid gb;have B1:=Lib.hid hB1;have B2:=Lib.hid hB2;have Hwb:=Lib.hid hwb
 have keep:∀(u:World),Chg (λb=>w.heap.size<=b) w u->u.cell? ⟨bH,pre.length+2,none⟩=some (.pointer (some ⟨bW,0,none⟩))/\u.cell? ⟨bH,pre.length+3,none⟩=some (.int .i64 (p:Int))/\u.cell? ⟨bH,pre.length+11,none⟩=some (.int .i64 er)/\u.cell? ⟨bH,pre.length+12,none⟩=some (.int .u64 (vl:Int))/\u.cell? ⟨bH,pre.length+13,none⟩=some (.slice la ln lc)/\u.cell? ⟨bH,pre.length+14,none⟩=some (.slice none 0 0)/\u.cell? ⟨bW,6,none⟩=some (.int .i64 (now:Int))/\u.cell? ⟨bW,7,none⟩=some (.slice (some ⟨bM,0,none⟩) n mc)/\u.cell? ⟨bM,p,none⟩=some (.slice ma mn mk):=λu hc=>
  ⟨(hc.cell hHl (by simpa using hHl)).trans (HC.out 2 (by decide)),(hc.cell hHl (by simpa using hHl)).trans (HC.out 3 (by decide)),(hc.cell hHl (by simpa using hHl)).trans (HC.out 11 (by decide)),(hc.cell hHl (by simpa using hHl)).trans (HC.out 12 (by decide)),(hc.cell hHl (by simpa using hHl)).trans (HC.out 13 (by decide)),(hc.cell hHl (by simpa using hHl)).trans (HC.out 14 (by decide)),(hc.cell hWl (by simpa using hWl)).trans (K6.out),(hc.cell hWl (by simpa using hWl)).trans (K7.out),(hc.cell hMl (by simpa using hMl)).trans (M1.out)⟩
 have Keep:=Lib.hid keep
 have gcb:Chg (λb=>w.heap.size<=b) w wb:=Chg.of_below gb
 have Gc:=Lib.hid gcb
 obtain⟨c2,c3,c11,c12,c13,c14,k6,k7,m1'⟩:=keep wb gcb
 have e2:wb.cell? ⟨w.heap.size,2,none⟩=some (.int .i64 (rs:Int)):=by rw [cell_blk hB1];rfl
 have ef2:wb.frozen? ⟨w.heap.size,2,none⟩=false:=frozen_blk hB1 _
 clear hcell c6 c7 m1 gb hB1 hB2 hwb keep gcb hH hM hMv c3 c11 c12 c13 c14 k7 m1'
 go_enter Tryz.func43,Tryz.ntmps43
 go_upto_region 1 with fail
 rw [<-Hwb.out]
 go_upto_region 3 with fail
 obtain⟨w1,hw1⟩:∃ w1,w1=wb.setCell ⟨w.heap.size,2,none⟩ (.int .i64 (now:Int)):=⟨_,rfl⟩
 rw [<-hw1]
 have h1:w1.heap[w.heap.size]?=some (.cells #[.int .i64 (c:Int),.int .i64 (iv:Int),.int .i64 (now:Int),.int .i64 (st:Int),.int .i64 er0,.int .u64 (vl0:Int),.slice a0 n0 k0,.slice a1 n1 k1] 52 (0,0)):=by rw [hw1];exact blk_set B1.out _ _
 have g1:Chg (λb=>w.heap.size<=b) w w1:=by rw [hw1];exact Gc.out.setCell (p:=⟨w.heap.size,2,none⟩) (.inr (Nat.le_refl _)) _
 have z1:w1.heap[w.heap.size+1]?=some (.cells #[.int .i64 0,.int .i64 0,.int .i64 0,.int .i64 0,.int .i64 0,.int .u64 0,.slice none 0 0,.slice none 0 0] 52 (0,0)):=by rw [hw1];exact(blk_set_other (by simp) _ _).trans B2.out
 obtain⟨c2,c3,c11,c12,c13,c14,k6,k7,m1⟩:=Keep.out w1 g1
 have G1:=Lib.hid g1;have Z1:=Lib.hid z1;have H1:=Lib.hid h1
 have hl1:=blk_lt h1
 have e4:w1.cell? ⟨w.heap.size,4,none⟩=some (.int .i64 er0):=by rw [cell_blk h1];rfl
 have ef4:w1.frozen? ⟨w.heap.size,4,none⟩=false:=frozen_blk h1 _
 have e5:w1.cell? ⟨w.heap.size,5,none⟩=some (.int .u64 (vl0:Int)):=by rw [cell_blk h1];rfl
 have ef5:w1.frozen? ⟨w.heap.size,5,none⟩=false:=frozen_blk h1 _
 have e6:w1.cell? ⟨w.heap.size,6,none⟩=some (.slice a0 n0 k0):=by rw [cell_blk h1];rfl
 have ef6:w1.frozen? ⟨w.heap.size,6,none⟩=false:=frozen_blk h1 _
 clear e2 ef2 hw1 g1 z1 h1 c2 c3 c14 k6 k7 m1
 refine wp_region_L ((λu=>u.cell? ⟨bH,pre.length+11,none⟩=some (.int .i64 er)/\u.cell? ⟨bH,pre.length+12,none⟩=some (.int .u64 (vl:Int))/\u.cell? ⟨bH,pre.length+13,none⟩=some (.slice la ln lc))) 14 (by kernel_rfl) ?hS0L2 ?_
 case hS0L2=>
  exact⟨c11,c12,c13⟩
 intro hS hcl
 refine wpAnyL_take (i:=0) (v:=?tv0L2) 15 rfl (by kernel_rfl) (by kernel_rfl) (by kernel_rfl) (by kernel_rfl) (by kernel_rfl) hcl (by exact λ_ _ _ h=>h) (Or.inl ⟨by rfl,?th0L2⟩) hS ?tr0L2
 (case th0L2=>(intro w hSw;go_simp;with_reducible rfl))
 clear hcl;intro hcl
 (simp only [Act.put,zq1,zq2,zq3,zq4,zq5,zq6])
 refine wpAnyL_take (i:=1) (v:=?tv1L2) 15 rfl (by kernel_rfl) (by kernel_rfl) (by kernel_rfl) (by kernel_rfl) (by kernel_rfl) hcl (by exact λ_ _ _ h=>h) (Or.inl ⟨by rfl,?th1L2⟩) hS ?tr1L2
 (case th1L2=>(intro w hSw;go_simp;with_reducible rfl))
 clear hcl;intro hcl
 (simp only [Act.put,zq1,zq2,zq3,zq4,zq5,zq6])
 refine wpAnyL_take (i:=2) (v:=?tv2L2) 15 rfl (by kernel_rfl) (by kernel_rfl) (by kernel_rfl) (by kernel_rfl) (by kernel_rfl) hcl (by exact λ_ _ _ h=>h) (Or.inl ⟨by rfl,?th2L2⟩) hS ?tr2L2
 (case th2L2=>(intro w hSw;go_simp;with_reducible rfl))
 clear hcl;intro hcl
 (simp only [Act.put,zq1,zq2,zq3,zq4,zq5,zq6])
 refine wpAnyL_take (i:=3) (v:=?tv3L2) 15 rfl (by kernel_rfl) (by kernel_rfl) (by kernel_rfl) (by kernel_rfl) (by kernel_rfl) hcl (by exact λ_ _ _ h=>h) (Or.inl ⟨by rfl,?th3L2⟩) hS ?tr3L2
 (case th3L2=>(intro w hSw;go_simp;with_reducible rfl))
 clear hcl;intro hcl
 (simp only [Act.put,zq1,zq2,zq3,zq4,zq5,zq6])
 refine wpAnyL_take (i:=4) (v:=?tv4L2) 15 rfl (by kernel_rfl) (by kernel_rfl) (by kernel_rfl) (by kernel_rfl) (by kernel_rfl) hcl (by exact λ_ _ _ h=>h) (Or.inl ⟨by rfl,?th4L2⟩) hS ?tr4L2
 (case th4L2=>(intro w hSw;go_simp;with_reducible rfl))
 clear hcl;intro hcl
 (simp only [Act.put,zq1,zq2,zq3,zq4,zq5,zq6])
 refine wpAnyL_take (i:=5) (v:=?tv5L2) 15 rfl (by kernel_rfl) (by kernel_rfl) (by kernel_rfl) (by kernel_rfl) (by kernel_rfl) hcl (by exact λ_ _ _ h=>h) (Or.inl ⟨by rfl,?th5L2⟩) hS ?tr5L2
 (case th5L2=>(intro w hSw;go_simp;with_reducible rfl))
 clear hcl;intro hcl
 (simp only [Act.put,zq1,zq2,zq3,zq4,zq5,zq6])
 refine wpAnyL_take (i:=6) (v:=?tv6L2) 15 rfl (by kernel_rfl) (by kernel_rfl) (by kernel_rfl) (by kernel_rfl) (by kernel_rfl) hcl (by exact λ_ _ _ h=>h) (Or.inl ⟨by rfl,?th6L2⟩) hS ?tr6L2
 (case th6L2=>(intro w hSw;go_simp;with_reducible rfl))
 clear hcl;intro hcl
 (simp only [Act.put,zq1,zq2,zq3,zq4,zq5,zq6])
 refine wpAnyL_take (i:=7) (v:=?tv7L2) 15 rfl (by kernel_rfl) (by kernel_rfl) (by kernel_rfl) (by kernel_rfl) (by kernel_rfl) hcl (by exact λ_ _ _ h=>h) (Or.inl ⟨by rfl,?th7L2⟩) hS ?tr7L2
 (case th7L2=>(intro w hSw;go_simp;with_reducible rfl))
 clear hcl;intro hcl
 (simp only [Act.put,zq1,zq2,zq3,zq4,zq5,zq6])
 refine wpAnyL_take (i:=8) (v:=?tv8L2) 15 rfl (by kernel_rfl) (by kernel_rfl) (by kernel_rfl) (by kernel_rfl) (by kernel_rfl) hcl (by exact λ_ _ _ h=>h) (Or.inl ⟨by rfl,?th8L2⟩) hS ?tr8L2
 (case th8L2=>(intro w hSw;go_simp;with_reducible rfl))
 clear hcl;intro hcl
 (simp only [Act.put,zq1,zq2,zq3,zq4,zq5,zq6])
 refine wpAnyL_take (i:=9) (v:=?tv9L2) 15 rfl (by kernel_rfl) (by kernel_rfl) (by kernel_rfl) (by kernel_rfl) (by kernel_rfl) hcl (by exact λ_ _ _ h=>h) (Or.inl ⟨by rfl,?th9L2⟩) hS ?tr9L2
 (case th9L2=>(intro w hSw;go_simp;with_reducible rfl))
 clear hcl;intro hcl
 (simp only [Act.put,zq1,zq2,zq3,zq4,zq5,zq6])
 refine wpAnyL_take (i:=10) (v:=?tv10L2) 15 rfl (by kernel_rfl) (by kernel_rfl) (by kernel_rfl) (by kernel_rfl) (by kernel_rfl) hcl (by exact λ_ _ _ h=>h) (Or.inl ⟨by rfl,?th10L2⟩) hS ?tr10L2
 (case th10L2=>(intro w hSw;go_simp;with_reducible rfl))
 clear hcl;intro hcl
 (simp only [Act.put,zq1,zq2,zq3,zq4,zq5,zq6])
 refine wpAnyL_take (i:=11) (v:=?tv11L2) 15 rfl (by kernel_rfl) (by kernel_rfl) (by kernel_rfl) (by kernel_rfl) (by kernel_rfl) hcl (by exact λ_ _ _ h=>h) (Or.inl ⟨by rfl,?th11L2⟩) hS ?tr11L2
 (case th11L2=>(intro w hSw;go_simp;with_reducible rfl))
 clear hcl;intro hcl
 (simp only [Act.put,zq1,zq2,zq3,zq4,zq5,zq6])
 refine wpAnyL_take (i:=12) (v:=?tv12L2) 15 rfl (by kernel_rfl) (by kernel_rfl) (by kernel_rfl) (by kernel_rfl) (by kernel_rfl) hcl (by exact λ_ _ _ h=>h) (Or.inl ⟨by rfl,?th12L2⟩) hS ?tr12L2
 (case th12L2=>(intro w hSw;go_simp;with_reducible rfl))
 clear hcl;intro hcl
 (simp only [Act.put,zq1,zq2,zq3,zq4,zq5,zq6])
 refine wpAnyL_take (i:=13) (v:=?tv13L2) 15 rfl (by kernel_rfl) (by kernel_rfl) (by kernel_rfl) (by kernel_rfl) (by kernel_rfl) hcl (by exact λ_ _ _ h=>h) (Or.inl ⟨by rfl,?th13L2⟩) hS ?tr13L2
 (case th13L2=>(intro w hSw;go_simp;with_reducible rfl))
 clear hcl;intro hcl
 (simp only [Act.put,zq1,zq2,zq3,zq4,zq5,zq6])
 refine wpAnyL_one (i:=14) (by kernel_rfl) rfl hcl (λK' hK=>?_)
 have HK:=Lib.hid hK;clear hK
 ((rw [if_pos (by kernel_rfl)]);(simp only [zq1,zq2,zq3]);go_big_op)
 refine HK.out _ _ (λh=>by cases h.symm.trans (by kernel_rfl:_=true)) (λ_=>wpAnyL_done (by kernel_rfl) ?_ _)
 clear HK
 (clear hS)
 obtain⟨w2,hw2⟩:∃ w2,w2=(((w1.setCell ⟨w.heap.size,4,none⟩ (.int .i64 er)).setCell ⟨w.heap.size,5,none⟩ (.int .u64 (vl:Int))).setCell ⟨w.heap.size,6,none⟩ (.slice la ln lc)).drew:=⟨_,rfl⟩
 rw [<-hw2]
 have h2:w2.heap[w.heap.size]?=some (.cells #[.int .i64 (c:Int),.int .i64 (iv:Int),.int .i64 (now:Int),.int .i64 (st:Int),.int .i64 er,.int .u64 (vl:Int),.slice la ln lc,.slice a1 n1 k1] 52 (0,0)):=by rw [hw2];exact blk_set (blk_set (blk_set H1.out _ _) _ _) _ _
 have g2:Chg (λb=>w.heap.size<=b) w w2:=by rw [hw2];exact(((G1.out.setCell (p:=⟨w.heap.size,4,none⟩) (.inr (Nat.le_refl _)) _).setCell (p:=⟨w.heap.size,5,none⟩) (.inr (Nat.le_refl _)) _).setCell (p:=⟨w.heap.size,6,none⟩) (.inr (Nat.le_refl _)) _).drew
 have z2:w2.heap[w.heap.size+1]?=some (.cells #[.int .i64 0,.int .i64 0,.int .i64 0,.int .i64 0,.int .i64 0,.int .u64 0,.slice none 0 0,.slice none 0 0] 52 (0,0)):=by rw [hw2];exact(blk_set_other (by simp) _ _).trans ((blk_set_other (by simp) _ _).trans ((blk_set_other (by simp) _ _).trans Z1.out))
 obtain⟨c2,c3,_,_,_,c14,k6,k7,m1⟩:=Keep.out w2 g2
 have G2:=Lib.hid g2;have Z2:=Lib.hid z2;have H2:=Lib.hid h2
 have e7:w2.cell? ⟨w.heap.size,7,none⟩=some (.slice a1 n1 k1):=by rw [cell_blk h2];rfl
 have ef7:w2.frozen? ⟨w.heap.size,7,none⟩=false:=frozen_blk h2 _
 clear e4 ef4 e5 ef5 e6 ef6 c11 c12 c13 hw2 g2 z2 h2
 go_upto_region 6 with fail
 obtain⟨w3,hw3⟩:∃ w3,w3=w2.setCell ⟨w.heap.size,7,none⟩ (.slice none 0 0):=⟨_,rfl⟩
 rw [<-hw3]
 have h3:w3.heap[w.heap.size]?=some (.cells #[.int .i64 (c:Int),.int .i64 (iv:Int),.int .i64 (now:Int),.int .i64 (st:Int),.int .i64 er,.int .u64 (vl:Int),.slice la ln lc,.slice none 0 0] 52 (0,0)):=by rw [hw3];exact blk_set H2.out _ _
 have g3:Chg (λb=>w.heap.size<=b) w w3:=by rw [hw3];exact G2.out.setCell (p:=⟨w.heap.size,7,none⟩) (.inr (Nat.le_refl _)) _
 have z3:w3.heap[w.heap.size+1]?=some (.cells #[.int .i64 0,.int .i64 0,.int .i64 0,.int .i64 0,.int .i64 0,.int .u64 0,.slice none 0 0,.slice none 0 0] 52 (0,0)):=by rw [hw3];exact(blk_set_other (by simp) _ _).trans Z2.out
 obtain⟨c2,c3,_,_,_,_,k6,k7,m1⟩:=Keep.out w3 g3
 have G3:=Lib.hid g3;have Z3:=Lib.hid z3;have H3:=Lib.hid h3
 have e7:w3.cell? ⟨w.heap.size,7,none⟩=some (.slice none 0 0):=by rw [cell_blk h3];rfl
 have ef7:w3.frozen? ⟨w.heap.size,7,none⟩=false:=frozen_blk h3 _
 clear c14 hw3 g3 z3 h3 k6
 refine wp_region_L ((λu=>u.cell? ⟨bH,pre.length+2,none⟩=some (.pointer (some ⟨bW,0,none⟩))/\u.cell? ⟨bH,pre.length+3,none⟩=some (.int .i64 (p:Int))/\u.cell? ⟨bW,7,none⟩=some (.slice (some ⟨bM,0,none⟩) n mc)/\u.cell? ⟨bM,p,none⟩=some (.slice ma mn mk))) 14 (by kernel_rfl) ?hS0L3 ?_
 case hS0L3=>
  exact⟨c2,c3,k7,m1⟩
 intro hS hcl
 refine wpAnyL_take (i:=0) (v:=?tv0L3) 15 rfl (by kernel_rfl) (by kernel_rfl) (by kernel_rfl) (by kernel_rfl) (by kernel_rfl) hcl (by exact λ_ _ _ h=>h) (Or.inl ⟨by rfl,?th0L3⟩) hS ?tr0L3
 (case th0L3=>(intro w hSw;go_simp;with_reducible rfl))
 clear hcl;intro hcl
 (simp only [Act.put,zq1,zq2,zq3,zq4,zq5,zq6])
 refine wpAnyL_take (i:=1) (v:=?tv1L3) 15 rfl (by kernel_rfl) (by kernel_rfl) (by kernel_rfl) (by kernel_rfl) (by kernel_rfl) hcl (by exact λ_ _ _ h=>h) (Or.inl ⟨by rfl,?th1L3⟩) hS ?tr1L3
 (case th1L3=>(intro w hSw;go_simp;with_reducible rfl))
 clear hcl;intro hcl
 (simp only [Act.put,zq1,zq2,zq3,zq4,zq5,zq6])
 refine wpAnyL_take (i:=2) (v:=?tv2L3) 15 rfl (by kernel_rfl) (by kernel_rfl) (by kernel_rfl) (by kernel_rfl) (by kernel_rfl) hcl (by exact λ_ _ _ h=>h) (Or.inl ⟨by rfl,?th2L3⟩) hS ?tr2L3
 (case th2L3=>(intro w hSw;go_simp;with_reducible rfl))
 clear hcl;intro hcl
 (simp only [Act.put,zq1,zq2,zq3,zq4,zq5,zq6])
 refine wpAnyL_take (i:=3) (v:=?tv3L3) 15 rfl (by kernel_rfl) (by kernel_rfl) (by kernel_rfl) (by kernel_rfl) (by kernel_rfl) hcl (by exact λ_ _ _ h=>h) (Or.inl ⟨by rfl,?th3L3⟩) hS ?tr3L3
 (case th3L3=>(intro w hSw;go_simp;with_reducible rfl))
 clear hcl;intro hcl
 (simp only [Act.put,zq1,zq2,zq3,zq4,zq5,zq6])
 refine wpAnyL_take (i:=4) (v:=?tv4L3) 15 rfl (by kernel_rfl) (by kernel_rfl) (by kernel_rfl) (by kernel_rfl) (by kernel_rfl) hcl (by exact λ_ _ _ h=>h) (Or.inl ⟨by rfl,?th4L3⟩) hS ?tr4L3
 (case th4L3=>(intro w hSw;go_simp;with_reducible rfl))
 clear hcl;intro hcl
 (simp only [Act.put,zq1,zq2,zq3,zq4,zq5,zq6])
 refine wpAnyL_take (i:=5) (v:=?tv5L3) 15 rfl (by kernel_rfl) (by kernel_rfl) (by kernel_rfl) (by kernel_rfl) (by kernel_rfl) hcl (by exact λ_ _ _ h=>h) (Or.inl ⟨by rfl,?th5L3⟩) hS ?tr5L3
 (case th5L3=>(intro w hSw;go_simp;with_reducible rfl))
 clear hcl;intro hcl
 (simp only [Act.put,zq1,zq2,zq3,zq4,zq5,zq6])
 refine wpAnyL_take (i:=6) (v:=?tv6L3) 15 rfl (by kernel_rfl) (by kernel_rfl) (by kernel_rfl) (by kernel_rfl) (by kernel_rfl) hcl (by exact λ_ _ _ h=>h) (Or.inl ⟨by rfl,?th6L3⟩) hS ?tr6L3
 (case th6L3=>(intro w hSw;go_simp;with_reducible rfl))
 clear hcl;intro hcl
 (simp only [Act.put,zq1,zq2,zq3,zq4,zq5,zq6])
 refine wpAnyL_take (i:=7) (v:=?tv7L3) 15 rfl (by kernel_rfl) (by kernel_rfl) (by kernel_rfl) (by kernel_rfl) (by kernel_rfl) hcl (by exact λ_ _ _ h=>h) (Or.inl ⟨by rfl,?th7L3⟩) hS ?tr7L3
 (case th7L3=>(intro w hSw;go_simp;with_reducible rfl))
 clear hcl;intro hcl
 (simp only [Act.put,zq1,zq2,zq3,zq4,zq5,zq6])
 refine wpAnyL_take (i:=8) (v:=?tv8L3) 15 rfl (by kernel_rfl) (by kernel_rfl) (by kernel_rfl) (by kernel_rfl) (by kernel_rfl) hcl (by exact λ_ _ _ h=>h) (Or.inl ⟨by rfl,?th8L3⟩) hS ?tr8L3
 (case th8L3=>(intro w hSw;go_simp;with_reducible rfl))
 clear hcl;intro hcl
 (simp only [Act.put,zq1,zq2,zq3,zq4,zq5,zq6])
 refine wpAnyL_take (i:=9) (v:=?tv9L3) 15 rfl (by kernel_rfl) (by kernel_rfl) (by kernel_rfl) (by kernel_rfl) (by kernel_rfl) hcl (by exact λ_ _ _ h=>h) (Or.inl ⟨by rfl,?th9L3⟩) hS ?tr9L3
 (case th9L3=>(intro w hSw;go_simp;with_reducible rfl))
 clear hcl;intro hcl
 (simp only [Act.put,zq1,zq2,zq3,zq4,zq5,zq6])
 refine wpAnyL_take (i:=10) (v:=?tv10L3) 15 rfl (by kernel_rfl) (by kernel_rfl) (by kernel_rfl) (by kernel_rfl) (by kernel_rfl) hcl (by exact λ_ _ _ h=>h) (Or.inl ⟨by rfl,?th10L3⟩) hS ?tr10L3
 (case th10L3=>(intro w hSw;go_simp;with_reducible rfl))
 clear hcl;intro hcl
 (simp only [Act.put,zq1,zq2,zq3,zq4,zq5,zq6])
 refine wpAnyL_take (i:=11) (v:=?tv11L3) 15 rfl (by kernel_rfl) (by kernel_rfl) (by kernel_rfl) (by kernel_rfl) (by kernel_rfl) hcl (by exact λ_ _ _ h=>h) (Or.inl ⟨by rfl,?th11L3⟩) hS ?tr11L3
 (case th11L3=>(intro w hSw;go_simp;with_reducible rfl))
 clear hcl;intro hcl
 (simp only [Act.put,zq1,zq2,zq3,zq4,zq5,zq6])
 refine wpAnyL_take (i:=12) (v:=?tv12L3) 15 rfl (by kernel_rfl) (by kernel_rfl) (by kernel_rfl) (by kernel_rfl) (by kernel_rfl) hcl (by exact λ_ _ _ h=>h) (Or.inl ⟨by rfl,?th12L3⟩) hS ?tr12L3
 (case th12L3=>(intro w hSw;go_simp;with_reducible rfl))
 clear hcl;intro hcl
 (simp only [Act.put,zq1,zq2,zq3,zq4,zq5,zq6])
 refine wpAnyL_take (i:=13) (v:=?tv13L3) 15 rfl (by kernel_rfl) (by kernel_rfl) (by kernel_rfl) (by kernel_rfl) (by kernel_rfl) hcl (by exact λ_ _ _ h=>h) (Or.inl ⟨by rfl,?th13L3⟩) hS ?tr13L3
 (case th13L3=>(intro w hSw;go_simp;with_reducible rfl))
 clear hcl;intro hcl
 (simp only [Act.put,zq1,zq2,zq3,zq4,zq5,zq6])
 refine wpAnyL_one (i:=14) (by kernel_rfl) rfl hcl (λK' hK=>?_)
 have HK:=Lib.hid hK;clear hK
 ((rw [if_pos (by kernel_rfl)]);(simp only [zq1,zq2,zq3]);go_big_op)
 refine HK.out _ _ (λh=>by cases h.symm.trans (by kernel_rfl:_=true)) (λ_=>wpAnyL_done (by kernel_rfl) ?_ _)
 clear HK
 (clear hS)
 obtain⟨w4,hw4⟩:∃ w4,w4=(w3.setCell ⟨w.heap.size,7,none⟩ (.slice ma mn mk)).drew:=⟨_,rfl⟩
 rw [<-hw4]
 have h4:w4.heap[w.heap.size]?=some (.cells #[.int .i64 (c:Int),.int .i64 (iv:Int),.int .i64 (now:Int),.int .i64 (st:Int),.int .i64 er,.int .u64 (vl:Int),.slice la ln lc,.slice ma mn mk] 52 (0,0)):=by rw [hw4];exact blk_set H3.out _ _
 have g4:Chg (λb=>w.heap.size<=b) w w4:=by rw [hw4];exact(G3.out.setCell (p:=⟨w.heap.size,7,none⟩) (.inr (Nat.le_refl _)) _).drew
 have z4:w4.heap[w.heap.size+1]?=some (.cells #[.int .i64 0,.int .i64 0,.int .i64 0,.int .i64 0,.int .i64 0,.int .u64 0,.slice none 0 0,.slice none 0 0] 52 (0,0)):=by rw [hw4];exact(blk_set_other (by simp) _ _).trans Z3.out
 obtain⟨c2,c3,_,_,_,_,k6,k7,m1⟩:=Keep.out w4 g4
 have G4:=Lib.hid g4;have Z4:=Lib.hid z4;have H4:=Lib.hid h4
 have hl4:w.heap.size<w4.heap.size:=blk_lt h4
 have hz4:w.heap.size+1<w4.heap.size:=blk_lt z4
 clear e7 ef7
 have e0:w4.cell? ⟨w.heap.size,0,none⟩=some (.int .i64 (c:Int)):=by rw [cell_blk h4];rfl
 have ef0:w4.frozen? ⟨w.heap.size,0,none⟩=false:=frozen_blk h4 _
 have e1:w4.cell? ⟨w.heap.size,1,none⟩=some (.int .i64 (iv:Int)):=by rw [cell_blk h4];rfl
 have ef1:w4.frozen? ⟨w.heap.size,1,none⟩=false:=frozen_blk h4 _
 have e2:w4.cell? ⟨w.heap.size,2,none⟩=some (.int .i64 (now:Int)):=by rw [cell_blk h4];rfl
 have ef2:w4.frozen? ⟨w.heap.size,2,none⟩=false:=frozen_blk h4 _
 have e3:w4.cell? ⟨w.heap.size,3,none⟩=some (.int .i64 (st:Int)):=by rw [cell_blk h4];rfl
 have ef3:w4.frozen? ⟨w.heap.size,3,none⟩=false:=frozen_blk h4 _
 have e4:w4.cell? ⟨w.heap.size,4,none⟩=some (.int .i64 er):=by rw [cell_blk h4];rfl
 have ef4:w4.frozen? ⟨w.heap.size,4,none⟩=false:=frozen_blk h4 _
 have e5:w4.cell? ⟨w.heap.size,5,none⟩=some (.int .u64 (vl:Int)):=by rw [cell_blk h4];rfl
 have ef5:w4.frozen? ⟨w.heap.size,5,none⟩=false:=frozen_blk h4 _
 have e6:w4.cell? ⟨w.heap.size,6,none⟩=some (.slice la ln lc):=by rw [cell_blk h4];rfl
 have ef6:w4.frozen? ⟨w.heap.size,6,none⟩=false:=frozen_blk h4 _
 have e7:w4.cell? ⟨w.heap.size,7,none⟩=some (.slice ma mn mk):=by rw [cell_blk h4];rfl
 have ef7:w4.frozen? ⟨w.heap.size,7,none⟩=false:=frozen_blk h4 _
 have zc0:w4.cell? ⟨w.heap.size+1,0,none⟩=some (.int .i64 0):=by rw [cell_blk z4];rfl
 have zcf0:w4.frozen? ⟨w.heap.size+1,0,none⟩=false:=frozen_blk z4 _
 have zc1:w4.cell? ⟨w.heap.size+1,1,none⟩=some (.int .i64 0):=by rw [cell_blk z4];rfl
 have zcf1:w4.frozen? ⟨w.heap.size+1,1,none⟩=false:=frozen_blk z4 _
 have zc2:w4.cell? ⟨w.heap.size+1,2,none⟩=some (.int .i64 0):=by rw [cell_blk z4];rfl
 have zcf2:w4.frozen? ⟨w.heap.size+1,2,none⟩=false:=frozen_blk z4 _
 have zc3:w4.cell? ⟨w.heap.size+1,3,none⟩=some (.int .i64 0):=by rw [cell_blk z4];rfl
 have zcf3:w4.frozen? ⟨w.heap.size+1,3,none⟩=false:=frozen_blk z4 _
 have zc4:w4.cell? ⟨w.heap.size+1,4,none⟩=some (.int .i64 0):=by rw [cell_blk z4];rfl
 have zcf4:w4.frozen? ⟨w.heap.size+1,4,none⟩=false:=frozen_blk z4 _
 have zc5:w4.cell? ⟨w.heap.size+1,5,none⟩=some (.int .u64 0):=by rw [cell_blk z4];rfl
 have zcf5:w4.frozen? ⟨w.heap.size+1,5,none⟩=false:=frozen_blk z4 _
 have zc6:w4.cell? ⟨w.heap.size+1,6,none⟩=some (.slice none 0 0):=by rw [cell_blk z4];rfl
 have zcf6:w4.frozen? ⟨w.heap.size+1,6,none⟩=false:=frozen_blk z4 _
 have zc7:w4.cell? ⟨w.heap.size+1,7,none⟩=some (.slice none 0 0):=by rw [cell_blk z4];rfl
 have zcf7:w4.frozen? ⟨w.heap.size+1,7,none⟩=false:=frozen_blk z4 _
 clear hw4 g4 z4 h4 c2 c3 k6 k7 m1 ef0 ef1 ef2 ef3 ef4 ef5 ef6 ef7
 go_wp2
 obtain⟨w6,hw6⟩:∃ w6,w6=((((((((w4.setCell ⟨w.heap.size+1,0,none⟩ (.int .i64 (c:Int))).setCell ⟨w.heap.size+1,1,none⟩ (.int .i64 (iv:Int))).setCell ⟨w.heap.size+1,2,none⟩ (.int .i64 (now:Int))).setCell ⟨w.heap.size+1,3,none⟩ (.int .i64 (st:Int))).setCell ⟨w.heap.size+1,4,none⟩ (.int .i64 er)).setCell ⟨w.heap.size+1,5,none⟩ (.int .u64 (vl:Int))).setCell ⟨w.heap.size+1,6,none⟩ (.slice la ln lc)).setCell ⟨w.heap.size+1,7,none⟩ (.slice ma mn mk)):=⟨_,rfl⟩
 rw [<-hw6]
 have h6:w6.heap[w.heap.size+1]?=some (.cells #[.int .i64 (c:Int),.int .i64 (iv:Int),.int .i64 (now:Int),.int .i64 (st:Int),.int .i64 er,.int .u64 (vl:Int),.slice la ln lc,.slice ma mn mk] 52 (0,0)):=by rw [hw6];exact(blk_set (blk_set (blk_set (blk_set (blk_set (blk_set (blk_set (blk_set Z4.out 0 (.int .i64 (c:Int))) 1 (.int .i64 (iv:Int))) 2 (.int .i64 (now:Int))) 3 (.int .i64 (st:Int))) 4 (.int .i64 er)) 5 (.int .u64 (vl:Int))) 6 (.slice la ln lc)) 7 (.slice ma mn mk))
 have g6:Chg (λb=>w.heap.size<=b) w w6:=by rw [hw6];exact((((((((G4.out.setCell (p:=⟨w.heap.size+1,0,none⟩) (.inr (Nat.le_succ _)) _).setCell (p:=⟨w.heap.size+1,1,none⟩) (.inr (Nat.le_succ _)) _).setCell (p:=⟨w.heap.size+1,2,none⟩) (.inr (Nat.le_succ _)) _).setCell (p:=⟨w.heap.size+1,3,none⟩) (.inr (Nat.le_succ _)) _).setCell (p:=⟨w.heap.size+1,4,none⟩) (.inr (Nat.le_succ _)) _).setCell (p:=⟨w.heap.size+1,5,none⟩) (.inr (Nat.le_succ _)) _).setCell (p:=⟨w.heap.size+1,6,none⟩) (.inr (Nat.le_succ _)) _).setCell (p:=⟨w.heap.size+1,7,none⟩) (.inr (Nat.le_succ _)) _)
 clear hw6 zc0 zcf0 e0 zc1 zcf1 e1 zc2 zcf2 e2 zc3 zcf3 e3 zc4 zcf4 e4 zc5 zcf5 e5 zc6 zcf6 e6 zc7 zcf7 e7
 have hld:=event_load w6 _ _ h6 rfl
 refine bodyPost_ret (v:=.agg #[.int .i64 (c:Int),.int .i64 (iv:Int),.int .i64 (now:Int),.int .i64 (st:Int),.int .i64 er,.int .u64 (vl:Int),.slice la ln lc,.slice ma mn mk]) (by simp [results,Tryz.results43 ,Sem.run_bind,Sem.run_pure,asAddr,hld]) rfl ?_
 exact⟨rfl,g6.below (λb h=>h) (Nat.le_refl _)⟩
set_option maxHeartbeats 8000000 in
theorem done_tick (w:World) (bH bW bM mc p now n c iv st vl vl0 rs n0 k0 n1 k1 ln lc:Nat) (er er0:Int) (a0 a1 la:Option Addr) (pre post ms:List Value) (x0 x1 x4 x5 x6 x7 x8 x9 x10 x15:Value) (hH:w.heap[bH]?=some (.cells (pre++([x0,x1,.pointer (some ⟨bW,0,none⟩),.int .i64 (p:Int),x4,x5,x6,x7,x8,x9,x10,.int .i64 er,.int .u64 (vl:Int),.slice la ln lc,.slice none 0 0,x15]++post)).toArray 100 (0,0)))
  (hM:w.heap[bM]?=some (.cells ms.toArray 24 (0,0))) (hMv:ms[p]?=some (.slice none 0 0)) (hp:p<n) (hn:n<=16) (hnow:now<=1000000) (c6:w.cell? ⟨bW,6,none⟩=some (.int .i64 (now:Int))) (c7:w.cell? ⟨bW,7,none⟩=some (.slice (some ⟨bM,0,none⟩) n mc)) :
  Calls Tryz.prog 43 #[.pointer (some ⟨bH,pre.length,none⟩),.agg #[.int .i64 (c:Int),.int .i64 (iv:Int),.int .i64 (rs:Int),.int .i64 (st:Int),.int .i64 er0,.int .u64 (vl0:Int),.slice a0 n0 k0,.slice a1 n1 k1]] w λe w'=>∃ kb,e=.returned (.agg #[.int .i64 (c:Int),.int .i64 (iv:Int),.int .i64 (now:Int),.int .i64 (st:Int),.int .i64 er,.int .u64 (vl:Int),.slice la ln lc,.slice (some ⟨kb,0,none⟩) 1 1])/\w.heap.size<=kb/\w'.heap[kb]?=some (.cells #[.int .i64 (2*(now:Int))] 3 (0,0))/\Below w.heap.size w w':=by
 obtain⟨wb,hwb⟩:∃ wb,wb=(w.alloc (.cells #[.int .i64 (c:Int),.int .i64 (iv:Int),.int .i64 (rs:Int),.int .i64 (st:Int),.int .i64 er0,.int .u64 (vl0:Int),.slice a0 n0 k0,.slice a1 n1 k1] 52)).alloc (.cells #[.int .i64 0,.int .i64 0,.int .i64 0,.int .i64 0,.int .i64 0,.int .u64 0,.slice none 0 0,.slice none 0 0] 52):=⟨_,rfl⟩
 have gb:Below w.heap.size w wb:=by rw [hwb];exact Gr.alloc (Gr.new _ _) _
 have hB1:wb.heap[w.heap.size]?=some (.cells #[.int .i64 (c:Int),.int .i64 (iv:Int),.int .i64 (rs:Int),.int .i64 (st:Int),.int .i64 er0,.int .u64 (vl0:Int),.slice a0 n0 k0,.slice a1 n1 k1] 52 (0,0)):=by rw [hwb,Below.heap_alloc _ _ _ (by simp)];exact heap_alloc_new _ _
 have hB2:wb.heap[w.heap.size+1]?=some (.cells #[.int .i64 0,.int .i64 0,.int .i64 0,.int .i64 0,.int .i64 0,.int .u64 0,.slice none 0 0,.slice none 0 0] 52 (0,0)):=by
  rw [hwb]
  have:=heap_alloc_new (w.alloc (.cells #[.int .i64 (c:Int),.int .i64 (iv:Int),.int .i64 (rs:Int),.int .i64 (st:Int),.int .i64 er0,.int .u64 (vl0:Int),.slice a0 n0 k0,.slice a1 n1 k1] 52)) (.cells #[.int .i64 0,.int .i64 0,.int .i64 0,.int .i64 0,.int .i64 0,.int .u64 0,.slice none 0 0,.slice none 0 0] 52 (0,0))
  simp only [World.size_alloc] at this
  exact this
 have hcell:∀ i,i<16->w.cell? ⟨bH,pre.length+i,none⟩=([x0,x1,.pointer (some ⟨bW,0,none⟩),.int .i64 (p:Int),x4,x5,x6,x7,x8,x9,x10,.int .i64 er,.int .u64 (vl:Int),.slice la ln lc,.slice none 0 0,x15]:List Value)[i]?:=λi hi=>by rw [cell_blk hH];exact mid_get (by simpa using hi)
 have hHl:=blk_lt hH
 have hWl:bW<w.heap.size:=World.block_lt_of_cell? _ _ c6
 have hMl:=blk_lt hM
 have m1:w.cell? ⟨bM,p,none⟩=some (.slice none 0 0):=by rw [cell_blk hM];simpa using hMv
 have l1:(p:Int)<(n:Int):=by omega
 have lw:IntKind.i64.wrap (p:Int)=(p:Int):=by rw [IntKind.wrap_i64];omega
 have lm:IntKind.i64.wrap (2*(now:Int))=2*(now:Int):=by rw [IntKind.wrap_i64];omega
 have lm2:wrap64 (2*(now:Int))=2*(now:Int):=by unfold wrap64;omega
 have HC:=Lib.hid hcell;have K6:=Lib.hid c6;have K7:=Lib.hid c7;have M1:=Lib.hid m1;have Gb:=Lib.hid gb;have B1:=Lib.hid hB1;have B2:=Lib.hid hB2;have Hwb:=Lib.hid hwb
 have keep:∀(u:World),Chg (λb=>w.heap.size<=b) w u->u.cell? ⟨bH,pre.length+2,none⟩=some (.pointer (some ⟨bW,0,none⟩))/\u.cell? ⟨bH,pre.length+3,none⟩=some (.int .i64 (p:Int))/\u.cell? ⟨bH,pre.length+11,none⟩=some (.int .i64 er)/\u.cell? ⟨bH,pre.length+12,none⟩=some (.int .u64 (vl:Int))/\u.cell? ⟨bH,pre.length+13,none⟩=some (.slice la ln lc)/\u.cell? ⟨bH,pre.length+14,none⟩=some (.slice none 0 0)/\u.cell? ⟨bW,6,none⟩=some (.int .i64 (now:Int))/\u.cell? ⟨bW,7,none⟩=some (.slice (some ⟨bM,0,none⟩) n mc)/\u.cell? ⟨bM,p,none⟩=some (.slice none 0 0):=λu hc=>
  ⟨(hc.cell hHl (by simpa using hHl)).trans (HC.out 2 (by decide)),(hc.cell hHl (by simpa using hHl)).trans (HC.out 3 (by decide)),(hc.cell hHl (by simpa using hHl)).trans (HC.out 11 (by decide)),(hc.cell hHl (by simpa using hHl)).trans (HC.out 12 (by decide)),(hc.cell hHl (by simpa using hHl)).trans (HC.out 13 (by decide)),(hc.cell hHl (by simpa using hHl)).trans (HC.out 14 (by decide)),(hc.cell hWl (by simpa using hWl)).trans (K6.out),(hc.cell hWl (by simpa using hWl)).trans (K7.out),(hc.cell hMl (by simpa using hMl)).trans (M1.out)⟩
 have Keep:=Lib.hid keep
 have gcb:Chg (λb=>w.heap.size<=b) w wb:=Chg.of_below gb
 have Gc:=Lib.hid gcb
 obtain⟨c2,c3,c11,c12,c13,c14,k6,k7,m1'⟩:=keep wb gcb
 have e2:wb.cell? ⟨w.heap.size,2,none⟩=some (.int .i64 (rs:Int)):=by rw [cell_blk hB1];rfl
 have ef2:wb.frozen? ⟨w.heap.size,2,none⟩=false:=frozen_blk hB1 _
 clear hcell c6 c7 m1 gb hB1 hB2 hwb keep gcb hH hM hMv c3 c11 c12 c13 c14 k7 m1'
 go_enter Tryz.func43,Tryz.ntmps43
 go_upto_region 1 with fail
 rw [<-Hwb.out]
 go_upto_region 3 with fail
 obtain⟨w1,hw1⟩:∃ w1,w1=wb.setCell ⟨w.heap.size,2,none⟩ (.int .i64 (now:Int)):=⟨_,rfl⟩
 rw [<-hw1]
 have h1:w1.heap[w.heap.size]?=some (.cells #[.int .i64 (c:Int),.int .i64 (iv:Int),.int .i64 (now:Int),.int .i64 (st:Int),.int .i64 er0,.int .u64 (vl0:Int),.slice a0 n0 k0,.slice a1 n1 k1] 52 (0,0)):=by rw [hw1];exact blk_set B1.out _ _
 have g1:Chg (λb=>w.heap.size<=b) w w1:=by rw [hw1];exact Gc.out.setCell (p:=⟨w.heap.size,2,none⟩) (.inr (Nat.le_refl _)) _
 have z1:w1.heap[w.heap.size+1]?=some (.cells #[.int .i64 0,.int .i64 0,.int .i64 0,.int .i64 0,.int .i64 0,.int .u64 0,.slice none 0 0,.slice none 0 0] 52 (0,0)):=by rw [hw1];exact(blk_set_other (by simp) _ _).trans B2.out
 obtain⟨c2,c3,c11,c12,c13,c14,k6,k7,m1⟩:=Keep.out w1 g1
 have G1:=Lib.hid g1;have Z1:=Lib.hid z1;have H1:=Lib.hid h1
 have hl1:=blk_lt h1
 have e4:w1.cell? ⟨w.heap.size,4,none⟩=some (.int .i64 er0):=by rw [cell_blk h1];rfl
 have ef4:w1.frozen? ⟨w.heap.size,4,none⟩=false:=frozen_blk h1 _
 have e5:w1.cell? ⟨w.heap.size,5,none⟩=some (.int .u64 (vl0:Int)):=by rw [cell_blk h1];rfl
 have ef5:w1.frozen? ⟨w.heap.size,5,none⟩=false:=frozen_blk h1 _
 have e6:w1.cell? ⟨w.heap.size,6,none⟩=some (.slice a0 n0 k0):=by rw [cell_blk h1];rfl
 have ef6:w1.frozen? ⟨w.heap.size,6,none⟩=false:=frozen_blk h1 _
 clear e2 ef2 hw1 g1 z1 h1 c2 c3 c14 k6 k7 m1
 refine wp_region_L ((λu=>u.cell? ⟨bH,pre.length+11,none⟩=some (.int .i64 er)/\u.cell? ⟨bH,pre.length+12,none⟩=some (.int .u64 (vl:Int))/\u.cell? ⟨bH,pre.length+13,none⟩=some (.slice la ln lc))) 14 (by kernel_rfl) ?hS0L4 ?_
 case hS0L4=>
  exact⟨c11,c12,c13⟩
 intro hS hcl
 refine wpAnyL_take (i:=0) (v:=?tv0L4) 15 rfl (by kernel_rfl) (by kernel_rfl) (by kernel_rfl) (by kernel_rfl) (by kernel_rfl) hcl (by exact λ_ _ _ h=>h) (Or.inl ⟨by rfl,?th0L4⟩) hS ?tr0L4
 (case th0L4=>(intro w hSw;go_simp;with_reducible rfl))
 clear hcl;intro hcl
 (simp only [Act.put,zq1,zq2,zq3,zq4,zq5,zq6])
 refine wpAnyL_take (i:=1) (v:=?tv1L4) 15 rfl (by kernel_rfl) (by kernel_rfl) (by kernel_rfl) (by kernel_rfl) (by kernel_rfl) hcl (by exact λ_ _ _ h=>h) (Or.inl ⟨by rfl,?th1L4⟩) hS ?tr1L4
 (case th1L4=>(intro w hSw;go_simp;with_reducible rfl))
 clear hcl;intro hcl
 (simp only [Act.put,zq1,zq2,zq3,zq4,zq5,zq6])
 refine wpAnyL_take (i:=2) (v:=?tv2L4) 15 rfl (by kernel_rfl) (by kernel_rfl) (by kernel_rfl) (by kernel_rfl) (by kernel_rfl) hcl (by exact λ_ _ _ h=>h) (Or.inl ⟨by rfl,?th2L4⟩) hS ?tr2L4
 (case th2L4=>(intro w hSw;go_simp;with_reducible rfl))
 clear hcl;intro hcl
 (simp only [Act.put,zq1,zq2,zq3,zq4,zq5,zq6])
 refine wpAnyL_take (i:=3) (v:=?tv3L4) 15 rfl (by kernel_rfl) (by kernel_rfl) (by kernel_rfl) (by kernel_rfl) (by kernel_rfl) hcl (by exact λ_ _ _ h=>h) (Or.inl ⟨by rfl,?th3L4⟩) hS ?tr3L4
 (case th3L4=>(intro w hSw;go_simp;with_reducible rfl))
 clear hcl;intro hcl
 (simp only [Act.put,zq1,zq2,zq3,zq4,zq5,zq6])
 refine wpAnyL_take (i:=4) (v:=?tv4L4) 15 rfl (by kernel_rfl) (by kernel_rfl) (by kernel_rfl) (by kernel_rfl) (by kernel_rfl) hcl (by exact λ_ _ _ h=>h) (Or.inl ⟨by rfl,?th4L4⟩) hS ?tr4L4
 (case th4L4=>(intro w hSw;go_simp;with_reducible rfl))
 clear hcl;intro hcl
 (simp only [Act.put,zq1,zq2,zq3,zq4,zq5,zq6])
 refine wpAnyL_take (i:=5) (v:=?tv5L4) 15 rfl (by kernel_rfl) (by kernel_rfl) (by kernel_rfl) (by kernel_rfl) (by kernel_rfl) hcl (by exact λ_ _ _ h=>h) (Or.inl ⟨by rfl,?th5L4⟩) hS ?tr5L4
 (case th5L4=>(intro w hSw;go_simp;with_reducible rfl))
 clear hcl;intro hcl
 (simp only [Act.put,zq1,zq2,zq3,zq4,zq5,zq6])
 refine wpAnyL_take (i:=6) (v:=?tv6L4) 15 rfl (by kernel_rfl) (by kernel_rfl) (by kernel_rfl) (by kernel_rfl) (by kernel_rfl) hcl (by exact λ_ _ _ h=>h) (Or.inl ⟨by rfl,?th6L4⟩) hS ?tr6L4
 (case th6L4=>(intro w hSw;go_simp;with_reducible rfl))
 clear hcl;intro hcl
 (simp only [Act.put,zq1,zq2,zq3,zq4,zq5,zq6])
 refine wpAnyL_take (i:=7) (v:=?tv7L4) 15 rfl (by kernel_rfl) (by kernel_rfl) (by kernel_rfl) (by kernel_rfl) (by kernel_rfl) hcl (by exact λ_ _ _ h=>h) (Or.inl ⟨by rfl,?th7L4⟩) hS ?tr7L4
 (case th7L4=>(intro w hSw;go_simp;with_reducible rfl))
 clear hcl;intro hcl
 (simp only [Act.put,zq1,zq2,zq3,zq4,zq5,zq6])
 refine wpAnyL_take (i:=8) (v:=?tv8L4) 15 rfl (by kernel_rfl) (by kernel_rfl) (by kernel_rfl) (by kernel_rfl) (by kernel_rfl) hcl (by exact λ_ _ _ h=>h) (Or.inl ⟨by rfl,?th8L4⟩) hS ?tr8L4
 (case th8L4=>(intro w hSw;go_simp;with_reducible rfl))
 clear hcl;intro hcl
 (simp only [Act.put,zq1,zq2,zq3,zq4,zq5,zq6])
 refine wpAnyL_take (i:=9) (v:=?tv9L4) 15 rfl (by kernel_rfl) (by kernel_rfl) (by kernel_rfl) (by kernel_rfl) (by kernel_rfl) hcl (by exact λ_ _ _ h=>h) (Or.inl ⟨by rfl,?th9L4⟩) hS ?tr9L4
 (case th9L4=>(intro w hSw;go_simp;with_reducible rfl))
 clear hcl;intro hcl
 (simp only [Act.put,zq1,zq2,zq3,zq4,zq5,zq6])
 refine wpAnyL_take (i:=10) (v:=?tv10L4) 15 rfl (by kernel_rfl) (by kernel_rfl) (by kernel_rfl) (by kernel_rfl) (by kernel_rfl) hcl (by exact λ_ _ _ h=>h) (Or.inl ⟨by rfl,?th10L4⟩) hS ?tr10L4
 (case th10L4=>(intro w hSw;go_simp;with_reducible rfl))
 clear hcl;intro hcl
 (simp only [Act.put,zq1,zq2,zq3,zq4,zq5,zq6])
 refine wpAnyL_take (i:=11) (v:=?tv11L4) 15 rfl (by kernel_rfl) (by kernel_rfl) (by kernel_rfl) (by kernel_rfl) (by kernel_rfl) hcl (by exact λ_ _ _ h=>h) (Or.inl ⟨by rfl,?th11L4⟩) hS ?tr11L4
 (case th11L4=>(intro w hSw;go_simp;with_reducible rfl))
 clear hcl;intro hcl
 (simp only [Act.put,zq1,zq2,zq3,zq4,zq5,zq6])
 refine wpAnyL_take (i:=12) (v:=?tv12L4) 15 rfl (by kernel_rfl) (by kernel_rfl) (by kernel_rfl) (by kernel_rfl) (by kernel_rfl) hcl (by exact λ_ _ _ h=>h) (Or.inl ⟨by rfl,?th12L4⟩) hS ?tr12L4
 (case th12L4=>(intro w hSw;go_simp;with_reducible rfl))
 clear hcl;intro hcl
 (simp only [Act.put,zq1,zq2,zq3,zq4,zq5,zq6])
 refine wpAnyL_take (i:=13) (v:=?tv13L4) 15 rfl (by kernel_rfl) (by kernel_rfl) (by kernel_rfl) (by kernel_rfl) (by kernel_rfl) hcl (by exact λ_ _ _ h=>h) (Or.inl ⟨by rfl,?th13L4⟩) hS ?tr13L4
 (case th13L4=>(intro w hSw;go_simp;with_reducible rfl))
 clear hcl;intro hcl
 (simp only [Act.put,zq1,zq2,zq3,zq4,zq5,zq6])
 refine wpAnyL_one (i:=14) (by kernel_rfl) rfl hcl (λK' hK=>?_)
 have HK:=Lib.hid hK;clear hK
 ((rw [if_pos (by kernel_rfl)]);(simp only [zq1,zq2,zq3]);go_big_op)
 refine HK.out _ _ (λh=>by cases h.symm.trans (by kernel_rfl:_=true)) (λ_=>wpAnyL_done (by kernel_rfl) ?_ _)
 clear HK
 (clear hS)
 obtain⟨w2,hw2⟩:∃ w2,w2=(((w1.setCell ⟨w.heap.size,4,none⟩ (.int .i64 er)).setCell ⟨w.heap.size,5,none⟩ (.int .u64 (vl:Int))).setCell ⟨w.heap.size,6,none⟩ (.slice la ln lc)).drew:=⟨_,rfl⟩
 rw [<-hw2]
 have h2:w2.heap[w.heap.size]?=some (.cells #[.int .i64 (c:Int),.int .i64 (iv:Int),.int .i64 (now:Int),.int .i64 (st:Int),.int .i64 er,.int .u64 (vl:Int),.slice la ln lc,.slice a1 n1 k1] 52 (0,0)):=by rw [hw2];exact blk_set (blk_set (blk_set H1.out _ _) _ _) _ _
 have g2:Chg (λb=>w.heap.size<=b) w w2:=by rw [hw2];exact(((G1.out.setCell (p:=⟨w.heap.size,4,none⟩) (.inr (Nat.le_refl _)) _).setCell (p:=⟨w.heap.size,5,none⟩) (.inr (Nat.le_refl _)) _).setCell (p:=⟨w.heap.size,6,none⟩) (.inr (Nat.le_refl _)) _).drew
 have z2:w2.heap[w.heap.size+1]?=some (.cells #[.int .i64 0,.int .i64 0,.int .i64 0,.int .i64 0,.int .i64 0,.int .u64 0,.slice none 0 0,.slice none 0 0] 52 (0,0)):=by rw [hw2];exact(blk_set_other (by simp) _ _).trans ((blk_set_other (by simp) _ _).trans ((blk_set_other (by simp) _ _).trans Z1.out))
 obtain⟨c2,c3,_,_,_,c14,k6,k7,m1⟩:=Keep.out w2 g2
 have G2:=Lib.hid g2;have Z2:=Lib.hid z2;have H2:=Lib.hid h2
 have e7:w2.cell? ⟨w.heap.size,7,none⟩=some (.slice a1 n1 k1):=by rw [cell_blk h2];rfl
 have ef7:w2.frozen? ⟨w.heap.size,7,none⟩=false:=frozen_blk h2 _
 clear e4 ef4 e5 ef5 e6 ef6 c11 c12 c13 hw2 g2 z2 h2
 go_upto_region 6 with fail
 obtain⟨w3,hw3⟩:∃ w3,w3=w2.setCell ⟨w.heap.size,7,none⟩ (.slice none 0 0):=⟨_,rfl⟩
 rw [<-hw3]
 have h3:w3.heap[w.heap.size]?=some (.cells #[.int .i64 (c:Int),.int .i64 (iv:Int),.int .i64 (now:Int),.int .i64 (st:Int),.int .i64 er,.int .u64 (vl:Int),.slice la ln lc,.slice none 0 0] 52 (0,0)):=by rw [hw3];exact blk_set H2.out _ _
 have g3:Chg (λb=>w.heap.size<=b) w w3:=by rw [hw3];exact G2.out.setCell (p:=⟨w.heap.size,7,none⟩) (.inr (Nat.le_refl _)) _
 have z3:w3.heap[w.heap.size+1]?=some (.cells #[.int .i64 0,.int .i64 0,.int .i64 0,.int .i64 0,.int .i64 0,.int .u64 0,.slice none 0 0,.slice none 0 0] 52 (0,0)):=by rw [hw3];exact(blk_set_other (by simp) _ _).trans Z2.out
 obtain⟨c2,c3,_,_,_,_,k6,k7,m1⟩:=Keep.out w3 g3
 have G3:=Lib.hid g3;have Z3:=Lib.hid z3;have H3:=Lib.hid h3
 have e7:w3.cell? ⟨w.heap.size,7,none⟩=some (.slice none 0 0):=by rw [cell_blk h3];rfl
 have ef7:w3.frozen? ⟨w.heap.size,7,none⟩=false:=frozen_blk h3 _
 clear c14 hw3 g3 z3 h3 k6
 refine wp_region_L ((λu=>u.cell? ⟨bH,pre.length+2,none⟩=some (.pointer (some ⟨bW,0,none⟩))/\u.cell? ⟨bH,pre.length+3,none⟩=some (.int .i64 (p:Int))/\u.cell? ⟨bW,7,none⟩=some (.slice (some ⟨bM,0,none⟩) n mc)/\u.cell? ⟨bM,p,none⟩=some (.slice none 0 0))) 14 (by kernel_rfl) ?hS0L5 ?_
 case hS0L5=>
  exact⟨c2,c3,k7,m1⟩
 intro hS hcl
 refine wpAnyL_take (i:=0) (v:=?tv0L5) 15 rfl (by kernel_rfl) (by kernel_rfl) (by kernel_rfl) (by kernel_rfl) (by kernel_rfl) hcl (by exact λ_ _ _ h=>h) (Or.inl ⟨by rfl,?th0L5⟩) hS ?tr0L5
 (case th0L5=>(intro w hSw;go_simp;with_reducible rfl))
 clear hcl;intro hcl
 (simp only [Act.put,zq1,zq2,zq3,zq4,zq5,zq6])
 refine wpAnyL_take (i:=1) (v:=?tv1L5) 15 rfl (by kernel_rfl) (by kernel_rfl) (by kernel_rfl) (by kernel_rfl) (by kernel_rfl) hcl (by exact λ_ _ _ h=>h) (Or.inl ⟨by rfl,?th1L5⟩) hS ?tr1L5
 (case th1L5=>(intro w hSw;go_simp;with_reducible rfl))
 clear hcl;intro hcl
 (simp only [Act.put,zq1,zq2,zq3,zq4,zq5,zq6])
 refine wpAnyL_take (i:=2) (v:=?tv2L5) 15 rfl (by kernel_rfl) (by kernel_rfl) (by kernel_rfl) (by kernel_rfl) (by kernel_rfl) hcl (by exact λ_ _ _ h=>h) (Or.inl ⟨by rfl,?th2L5⟩) hS ?tr2L5
 (case th2L5=>(intro w hSw;go_simp;with_reducible rfl))
 clear hcl;intro hcl
 (simp only [Act.put,zq1,zq2,zq3,zq4,zq5,zq6])
 refine wpAnyL_take (i:=3) (v:=?tv3L5) 15 rfl (by kernel_rfl) (by kernel_rfl) (by kernel_rfl) (by kernel_rfl) (by kernel_rfl) hcl (by exact λ_ _ _ h=>h) (Or.inl ⟨by rfl,?th3L5⟩) hS ?tr3L5
 (case th3L5=>(intro w hSw;go_simp;with_reducible rfl))
 clear hcl;intro hcl
 (simp only [Act.put,zq1,zq2,zq3,zq4,zq5,zq6])
 refine wpAnyL_take (i:=4) (v:=?tv4L5) 15 rfl (by kernel_rfl) (by kernel_rfl) (by kernel_rfl) (by kernel_rfl) (by kernel_rfl) hcl (by exact λ_ _ _ h=>h) (Or.inl ⟨by rfl,?th4L5⟩) hS ?tr4L5
 (case th4L5=>(intro w hSw;go_simp;with_reducible rfl))
 clear hcl;intro hcl
 (simp only [Act.put,zq1,zq2,zq3,zq4,zq5,zq6])
 refine wpAnyL_take (i:=5) (v:=?tv5L5) 15 rfl (by kernel_rfl) (by kernel_rfl) (by kernel_rfl) (by kernel_rfl) (by kernel_rfl) hcl (by exact λ_ _ _ h=>h) (Or.inl ⟨by rfl,?th5L5⟩) hS ?tr5L5
 (case th5L5=>(intro w hSw;go_simp;with_reducible rfl))
 clear hcl;intro hcl
 (simp only [Act.put,zq1,zq2,zq3,zq4,zq5,zq6])
 refine wpAnyL_take (i:=6) (v:=?tv6L5) 15 rfl (by kernel_rfl) (by kernel_rfl) (by kernel_rfl) (by kernel_rfl) (by kernel_rfl) hcl (by exact λ_ _ _ h=>h) (Or.inl ⟨by rfl,?th6L5⟩) hS ?tr6L5
 (case th6L5=>(intro w hSw;go_simp;with_reducible rfl))
 clear hcl;intro hcl
 (simp only [Act.put,zq1,zq2,zq3,zq4,zq5,zq6])
 refine wpAnyL_take (i:=7) (v:=?tv7L5) 15 rfl (by kernel_rfl) (by kernel_rfl) (by kernel_rfl) (by kernel_rfl) (by kernel_rfl) hcl (by exact λ_ _ _ h=>h) (Or.inl ⟨by rfl,?th7L5⟩) hS ?tr7L5
 (case th7L5=>(intro w hSw;go_simp;with_reducible rfl))
 clear hcl;intro hcl
 (simp only [Act.put,zq1,zq2,zq3,zq4,zq5,zq6])
 refine wpAnyL_take (i:=8) (v:=?tv8L5) 15 rfl (by kernel_rfl) (by kernel_rfl) (by kernel_rfl) (by kernel_rfl) (by kernel_rfl) hcl (by exact λ_ _ _ h=>h) (Or.inl ⟨by rfl,?th8L5⟩) hS ?tr8L5
 (case th8L5=>(intro w hSw;go_simp;with_reducible rfl))
 clear hcl;intro hcl
 (simp only [Act.put,zq1,zq2,zq3,zq4,zq5,zq6])
 refine wpAnyL_take (i:=9) (v:=?tv9L5) 15 rfl (by kernel_rfl) (by kernel_rfl) (by kernel_rfl) (by kernel_rfl) (by kernel_rfl) hcl (by exact λ_ _ _ h=>h) (Or.inl ⟨by rfl,?th9L5⟩) hS ?tr9L5
 (case th9L5=>(intro w hSw;go_simp;with_reducible rfl))
 clear hcl;intro hcl
 (simp only [Act.put,zq1,zq2,zq3,zq4,zq5,zq6])
 refine wpAnyL_take (i:=10) (v:=?tv10L5) 15 rfl (by kernel_rfl) (by kernel_rfl) (by kernel_rfl) (by kernel_rfl) (by kernel_rfl) hcl (by exact λ_ _ _ h=>h) (Or.inl ⟨by rfl,?th10L5⟩) hS ?tr10L5
 (case th10L5=>(intro w hSw;go_simp;with_reducible rfl))
 clear hcl;intro hcl
 (simp only [Act.put,zq1,zq2,zq3,zq4,zq5,zq6])
 refine wpAnyL_take (i:=11) (v:=?tv11L5) 15 rfl (by kernel_rfl) (by kernel_rfl) (by kernel_rfl) (by kernel_rfl) (by kernel_rfl) hcl (by exact λ_ _ _ h=>h) (Or.inl ⟨by rfl,?th11L5⟩) hS ?tr11L5
 (case th11L5=>(intro w hSw;go_simp;with_reducible rfl))
 clear hcl;intro hcl
 (simp only [Act.put,zq1,zq2,zq3,zq4,zq5,zq6])
 refine wpAnyL_take (i:=12) (v:=?tv12L5) 15 rfl (by kernel_rfl) (by kernel_rfl) (by kernel_rfl) (by kernel_rfl) (by kernel_rfl) hcl (by exact λ_ _ _ h=>h) (Or.inl ⟨by rfl,?th12L5⟩) hS ?tr12L5
 (case th12L5=>(intro w hSw;go_simp;with_reducible rfl))
 clear hcl;intro hcl
 (simp only [Act.put,zq1,zq2,zq3,zq4,zq5,zq6])
 refine wpAnyL_take (i:=13) (v:=?tv13L5) 15 rfl (by kernel_rfl) (by kernel_rfl) (by kernel_rfl) (by kernel_rfl) (by kernel_rfl) hcl (by exact λ_ _ _ h=>h) (Or.inl ⟨by rfl,?th13L5⟩) hS ?tr13L5
 (case th13L5=>(intro w hSw;go_simp;with_reducible rfl))
 clear hcl;intro hcl
 (simp only [Act.put,zq1,zq2,zq3,zq4,zq5,zq6])
 refine wpAnyL_one (i:=14) (by kernel_rfl) rfl hcl (λK' hK=>?_)
 have HK:=Lib.hid hK;clear hK
 ((rw [if_pos (by kernel_rfl)]);(simp only [zq1,zq2,zq3]);go_big_op)
 refine HK.out _ _ (λh=>by cases h.symm.trans (by kernel_rfl:_=true)) (λ_=>wpAnyL_done (by kernel_rfl) ?_ _)
 clear HK
 (clear hS)
 obtain⟨w4,hw4⟩:∃ w4,w4=(w3.setCell ⟨w.heap.size,7,none⟩ (.slice none 0 0)).drew:=⟨_,rfl⟩
 rw [<-hw4]
 have h4:w4.heap[w.heap.size]?=some (.cells #[.int .i64 (c:Int),.int .i64 (iv:Int),.int .i64 (now:Int),.int .i64 (st:Int),.int .i64 er,.int .u64 (vl:Int),.slice la ln lc,.slice none 0 0] 52 (0,0)):=by rw [hw4];exact blk_set H3.out _ _
 have g4:Chg (λb=>w.heap.size<=b) w w4:=by rw [hw4];exact(G3.out.setCell (p:=⟨w.heap.size,7,none⟩) (.inr (Nat.le_refl _)) _).drew
 have z4:w4.heap[w.heap.size+1]?=some (.cells #[.int .i64 0,.int .i64 0,.int .i64 0,.int .i64 0,.int .i64 0,.int .u64 0,.slice none 0 0,.slice none 0 0] 52 (0,0)):=by rw [hw4];exact(blk_set_other (by simp) _ _).trans Z3.out
 obtain⟨c2,c3,_,_,_,_,k6,k7,m1⟩:=Keep.out w4 g4
 have G4:=Lib.hid g4;have Z4:=Lib.hid z4;have H4:=Lib.hid h4
 have hl4:w.heap.size<w4.heap.size:=blk_lt h4
 have hz4:w.heap.size+1<w4.heap.size:=blk_lt z4
 have e7:w4.cell? ⟨w.heap.size,7,none⟩=some (.slice none 0 0):=by rw [cell_blk h4];rfl
 have ef7:w4.frozen? ⟨w.heap.size,7,none⟩=false:=frozen_blk h4 _
 clear hw4 g4 z4 h4 c3 k7 m1
 go_upto_region 9 with fail
 obtain⟨kb,hkb⟩:∃ kb,kb=w4.heap.size:=⟨_,rfl⟩
 obtain⟨w5,hw5⟩:∃ w5,w5=(w4.setCell ⟨w.heap.size,7,none⟩ (.slice (some ⟨w4.heap.size,0,none⟩) 1 1)).alloc (.cells #[.int .i64 (2*(now:Int))] 3):=⟨_,rfl⟩
 rw [<-hw5,<-hkb]
 have h5:w5.heap[w.heap.size]?=some (.cells #[.int .i64 (c:Int),.int .i64 (iv:Int),.int .i64 (now:Int),.int .i64 (st:Int),.int .i64 er,.int .u64 (vl:Int),.slice la ln lc,.slice (some ⟨kb,0,none⟩) 1 1] 52 (0,0)):=by rw [hw5,hkb,Below.heap_alloc _ _ _ (by simpa using hl4)];exact blk_set H4.out _ _
 have z5:w5.heap[w.heap.size+1]?=some (.cells #[.int .i64 0,.int .i64 0,.int .i64 0,.int .i64 0,.int .i64 0,.int .u64 0,.slice none 0 0,.slice none 0 0] 52 (0,0)):=by rw [hw5,Below.heap_alloc _ _ _ (by simpa using hz4)];exact(blk_set_other (by simp) _ _).trans Z4.out
 have g5:Chg (λb=>w.heap.size<=b) w w5:=by rw [hw5];exact(G4.out.setCell (p:=⟨w.heap.size,7,none⟩) (.inr (Nat.le_refl _)) _).alloc _
 have q5:w5.heap[kb]?=some (.cells #[.int .i64 (2*(now:Int))] 3 (0,0)):=by
  rw [hw5,hkb]
  have:=heap_alloc_new (w4.setCell ⟨w.heap.size,7,none⟩ (.slice (some ⟨w4.heap.size,0,none⟩) 1 1)) (.cells #[.int .i64 (2*(now:Int))] 3 (0,0))
  simpa using this
 have hkw:w.heap.size+1<kb:=by omega
 have G5:=Lib.hid g5;have Z5:=Lib.hid z5;have Q5:=Lib.hid q5
 clear e7 ef7
 have e0:w5.cell? ⟨w.heap.size,0,none⟩=some (.int .i64 (c:Int)):=by rw [cell_blk h5];rfl
 have ef0:w5.frozen? ⟨w.heap.size,0,none⟩=false:=frozen_blk h5 _
 have e1:w5.cell? ⟨w.heap.size,1,none⟩=some (.int .i64 (iv:Int)):=by rw [cell_blk h5];rfl
 have ef1:w5.frozen? ⟨w.heap.size,1,none⟩=false:=frozen_blk h5 _
 have e2:w5.cell? ⟨w.heap.size,2,none⟩=some (.int .i64 (now:Int)):=by rw [cell_blk h5];rfl
 have ef2:w5.frozen? ⟨w.heap.size,2,none⟩=false:=frozen_blk h5 _
 have e3:w5.cell? ⟨w.heap.size,3,none⟩=some (.int .i64 (st:Int)):=by rw [cell_blk h5];rfl
 have ef3:w5.frozen? ⟨w.heap.size,3,none⟩=false:=frozen_blk h5 _
 have e4:w5.cell? ⟨w.heap.size,4,none⟩=some (.int .i64 er):=by rw [cell_blk h5];rfl
 have ef4:w5.frozen? ⟨w.heap.size,4,none⟩=false:=frozen_blk h5 _
 have e5:w5.cell? ⟨w.heap.size,5,none⟩=some (.int .u64 (vl:Int)):=by rw [cell_blk h5];rfl
 have ef5:w5.frozen? ⟨w.heap.size,5,none⟩=false:=frozen_blk h5 _
 have e6:w5.cell? ⟨w.heap.size,6,none⟩=some (.slice la ln lc):=by rw [cell_blk h5];rfl
 have ef6:w5.frozen? ⟨w.heap.size,6,none⟩=false:=frozen_blk h5 _
 have e7:w5.cell? ⟨w.heap.size,7,none⟩=some (.slice (some ⟨kb,0,none⟩) 1 1):=by rw [cell_blk h5];rfl
 have ef7:w5.frozen? ⟨w.heap.size,7,none⟩=false:=frozen_blk h5 _
 have zc0:w5.cell? ⟨w.heap.size+1,0,none⟩=some (.int .i64 0):=by rw [cell_blk z5];rfl
 have zcf0:w5.frozen? ⟨w.heap.size+1,0,none⟩=false:=frozen_blk z5 _
 have zc1:w5.cell? ⟨w.heap.size+1,1,none⟩=some (.int .i64 0):=by rw [cell_blk z5];rfl
 have zcf1:w5.frozen? ⟨w.heap.size+1,1,none⟩=false:=frozen_blk z5 _
 have zc2:w5.cell? ⟨w.heap.size+1,2,none⟩=some (.int .i64 0):=by rw [cell_blk z5];rfl
 have zcf2:w5.frozen? ⟨w.heap.size+1,2,none⟩=false:=frozen_blk z5 _
 have zc3:w5.cell? ⟨w.heap.size+1,3,none⟩=some (.int .i64 0):=by rw [cell_blk z5];rfl
 have zcf3:w5.frozen? ⟨w.heap.size+1,3,none⟩=false:=frozen_blk z5 _
 have zc4:w5.cell? ⟨w.heap.size+1,4,none⟩=some (.int .i64 0):=by rw [cell_blk z5];rfl
 have zcf4:w5.frozen? ⟨w.heap.size+1,4,none⟩=false:=frozen_blk z5 _
 have zc5:w5.cell? ⟨w.heap.size+1,5,none⟩=some (.int .u64 0):=by rw [cell_blk z5];rfl
 have zcf5:w5.frozen? ⟨w.heap.size+1,5,none⟩=false:=frozen_blk z5 _
 have zc6:w5.cell? ⟨w.heap.size+1,6,none⟩=some (.slice none 0 0):=by rw [cell_blk z5];rfl
 have zcf6:w5.frozen? ⟨w.heap.size+1,6,none⟩=false:=frozen_blk z5 _
 have zc7:w5.cell? ⟨w.heap.size+1,7,none⟩=some (.slice none 0 0):=by rw [cell_blk z5];rfl
 have zcf7:w5.frozen? ⟨w.heap.size+1,7,none⟩=false:=frozen_blk z5 _
 clear hw5 g5 z5 q5 h5 hkb c2 k6 ef0 ef1 ef2 ef3 ef4 ef5 ef6 ef7
 go_wp2
 obtain⟨w6,hw6⟩:∃ w6,w6=((((((((w5.setCell ⟨w.heap.size+1,0,none⟩ (.int .i64 (c:Int))).setCell ⟨w.heap.size+1,1,none⟩ (.int .i64 (iv:Int))).setCell ⟨w.heap.size+1,2,none⟩ (.int .i64 (now:Int))).setCell ⟨w.heap.size+1,3,none⟩ (.int .i64 (st:Int))).setCell ⟨w.heap.size+1,4,none⟩ (.int .i64 er)).setCell ⟨w.heap.size+1,5,none⟩ (.int .u64 (vl:Int))).setCell ⟨w.heap.size+1,6,none⟩ (.slice la ln lc)).setCell ⟨w.heap.size+1,7,none⟩ (.slice (some ⟨kb,0,none⟩) 1 1)):=⟨_,rfl⟩
 rw [<-hw6]
 have h6:w6.heap[w.heap.size+1]?=some (.cells #[.int .i64 (c:Int),.int .i64 (iv:Int),.int .i64 (now:Int),.int .i64 (st:Int),.int .i64 er,.int .u64 (vl:Int),.slice la ln lc,.slice (some ⟨kb,0,none⟩) 1 1] 52 (0,0)):=by rw [hw6];exact(blk_set (blk_set (blk_set (blk_set (blk_set (blk_set (blk_set (blk_set Z5.out 0 (.int .i64 (c:Int))) 1 (.int .i64 (iv:Int))) 2 (.int .i64 (now:Int))) 3 (.int .i64 (st:Int))) 4 (.int .i64 er)) 5 (.int .u64 (vl:Int))) 6 (.slice la ln lc)) 7 (.slice (some ⟨kb,0,none⟩) 1 1))
 have g6:Chg (λb=>w.heap.size<=b) w w6:=by rw [hw6];exact((((((((G5.out.setCell (p:=⟨w.heap.size+1,0,none⟩) (.inr (Nat.le_succ _)) _).setCell (p:=⟨w.heap.size+1,1,none⟩) (.inr (Nat.le_succ _)) _).setCell (p:=⟨w.heap.size+1,2,none⟩) (.inr (Nat.le_succ _)) _).setCell (p:=⟨w.heap.size+1,3,none⟩) (.inr (Nat.le_succ _)) _).setCell (p:=⟨w.heap.size+1,4,none⟩) (.inr (Nat.le_succ _)) _).setCell (p:=⟨w.heap.size+1,5,none⟩) (.inr (Nat.le_succ _)) _).setCell (p:=⟨w.heap.size+1,6,none⟩) (.inr (Nat.le_succ _)) _).setCell (p:=⟨w.heap.size+1,7,none⟩) (.inr (Nat.le_succ _)) _)
 have q6:w6.heap[kb]?=some (.cells #[.int .i64 (2*(now:Int))] 3 (0,0)):=by rw [hw6];exact((blk_set_other (by omega) _ _).trans ((blk_set_other (by omega) _ _).trans ((blk_set_other (by omega) _ _).trans ((blk_set_other (by omega) _ _).trans ((blk_set_other (by omega) _ _).trans ((blk_set_other (by omega) _ _).trans ((blk_set_other (by omega) _ _).trans ((blk_set_other (by omega) _ _).trans Q5.out))))))))
 clear hw6 zc0 zcf0 e0 zc1 zcf1 e1 zc2 zcf2 e2 zc3 zcf3 e3 zc4 zcf4 e4 zc5 zcf5 e5 zc6 zcf6 e6 zc7 zcf7 e7
 have hld:=event_load w6 _ _ h6 rfl
 refine bodyPost_ret (v:=.agg #[.int .i64 (c:Int),.int .i64 (iv:Int),.int .i64 (now:Int),.int .i64 (st:Int),.int .i64 er,.int .u64 (vl:Int),.slice la ln lc,.slice (some ⟨kb,0,none⟩) 1 1]) (by simp [results,Tryz.results43 ,Sem.run_bind,Sem.run_pure,asAddr,hld]) rfl ?_
 exact⟨kb,rfl,by omega,q6,g6.below (λb h=>h) (Nat.le_refl _)⟩
end Go.Proofs.YtfkokppncipgnaaGreat
