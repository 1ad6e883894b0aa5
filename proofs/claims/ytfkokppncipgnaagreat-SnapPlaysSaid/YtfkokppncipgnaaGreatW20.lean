/- The reference's play, whatever its object is: an event that has responded: roundelayplain.done. -/
import Derived.Test.YtfkokppncipgnaaGreatW19
set_option maxRecDepth 100000
set_option linter.unusedVariables false
set_option linter.unusedSimpArgs false
set_option linter.unnecessarySimpa false
namespace Go.Proofs.YtfkokppncipgnaaGreat
open List renaming getElem_toArray → zq1, getElem_cons_zero → zq2, getElem_cons_succ → zq3, setIfInBounds_toArray → zq4, set_cons_zero → zq5, set_cons_succ → zq6
open Go.RowKit
set_option maxHeartbeats 8000000 in
theorem Iz (w:World) (bH bW bM mc p now n c iv st vl LF rs n0 k0 n1 k1 ln lc kn kc:Nat) (er OJ:Int) (a0 a1 la ka:Option Addr) (MV:Value) (pre post ms:List Value) (x0 x1 x4 x5 x6 x7 x8 x9 wC xM:Value) (hH:w.heap[bH]?=some (.cells (pre++([x0,x1,.pointer (some ⟨bW,0,none⟩),.int .i64 (p:Int),x4,x5,x6,x7,x8,x9,wC,.int .i64 er,.int .u64 (vl:Int),.slice la ln lc,.slice ka kn kc,xM]++post)).toArray 100 (0,0)))
  (hM:w.heap[bM]?=some (.cells ms.toArray 24 (0,0))) (hMv:ms[p]?=some (MV)) (hp:p<n) (hn:n<=16) (hnow:now<=1000000) (hk:0<kn) (hk9:kn<=9223372036854775807) (c6:w.cell? ⟨bW,6,none⟩=some (.int .i64 (now:Int))) (c7:w.cell? ⟨bW,7,none⟩=some (.slice (some ⟨bM,0,none⟩) n mc)) :
  Calls Tryz.prog 43 #[.pointer (some ⟨bH,pre.length,none⟩),.agg #[.int .i64 (c:Int),.int .i64 (iv:Int),.int .i64 (rs:Int),.int .i64 (st:Int),.int .i64 OJ,.int .u64 (LF:Int),.slice a0 n0 k0,.slice a1 n1 k1]] w λe w'=>e=.returned (.agg #[.int .i64 (c:Int),.int .i64 (iv:Int),.int .i64 (now:Int),.int .i64 (st:Int),.int .i64 er,.int .u64 (vl:Int),.slice la ln lc,.slice ka kn kc])/\Below w.heap.size w w':=by
 obtain⟨wb,hwb⟩:∃ wb,wb=(w.alloc (.cells #[.int .i64 (c:Int),.int .i64 (iv:Int),.int .i64 (rs:Int),.int .i64 (st:Int),.int .i64 OJ,.int .u64 (LF:Int),.slice a0 n0 k0,.slice a1 n1 k1] 52)).alloc (.cells #[.int .i64 0,.int .i64 0,.int .i64 0,.int .i64 0,.int .i64 0,.int .u64 0,.slice none 0 0,.slice none 0 0] 52):=⟨_,rfl⟩
 have gb:Below w.heap.size w wb:=by rw [hwb];exact Gr.alloc (Gr.new _ _) _
 have hB1:wb.heap[w.heap.size]?=some (.cells #[.int .i64 (c:Int),.int .i64 (iv:Int),.int .i64 (rs:Int),.int .i64 (st:Int),.int .i64 OJ,.int .u64 (LF:Int),.slice a0 n0 k0,.slice a1 n1 k1] 52 (0,0)):=by rw [hwb,Below.heap_alloc _ _ _ (by simp)];exact heap_alloc_new _ _
 have hB2:wb.heap[w.heap.size+1]?=some (.cells #[.int .i64 0,.int .i64 0,.int .i64 0,.int .i64 0,.int .i64 0,.int .u64 0,.slice none 0 0,.slice none 0 0] 52 (0,0)):=by
  rw [hwb]
  have:=heap_alloc_new (w.alloc (.cells #[.int .i64 (c:Int),.int .i64 (iv:Int),.int .i64 (rs:Int),.int .i64 (st:Int),.int .i64 OJ,.int .u64 (LF:Int),.slice a0 n0 k0,.slice a1 n1 k1] 52)) (.cells #[.int .i64 0,.int .i64 0,.int .i64 0,.int .i64 0,.int .i64 0,.int .u64 0,.slice none 0 0,.slice none 0 0] 52 (0,0))
  simp only [World.size_alloc] at this
  exact this
 have hcell:∀ i,i<16->w.cell? ⟨bH,pre.length+i,none⟩=([x0,x1,.pointer (some ⟨bW,0,none⟩),.int .i64 (p:Int),x4,x5,x6,x7,x8,x9,wC,.int .i64 er,.int .u64 (vl:Int),.slice la ln lc,.slice ka kn kc,xM]:List Value)[i]?:=λi hi=>by rw [aA hH];exact fG (by simpa using hi)
 have hHl:=aC hH
 have hWl:bW<w.heap.size:=World.block_lt_of_cell? _ _ c6
 have hMl:=aC hM
 have m1:w.cell? ⟨bM,p,none⟩=some (MV):=by rw [aA hM];simpa using hMv
 have l1:(p:Int)<(n:Int):=by omega
 have lw:IntKind.i64.wrap (p:Int)=(p:Int):=by rw [IntKind.wrap_i64];omega
 have lm:IntKind.i64.wrap (2*(now:Int))=2*(now:Int):=by rw [IntKind.wrap_i64];omega
 have lm2:wrap64 (2*(now:Int))=2*(now:Int):=by unfold wrap64;omega
 have l3:(((kn:Nat):Int) == 0)=false:=by simp;omega
 have l4:¬ ((kn:Nat):Int)=0:=by omega
 have HC:=Lib.hid hcell;have K6:=Lib.hid c6;have K7:=Lib.hid c7;have M1:=Lib.hid m1;have Gb:=Lib.hid gb;have B1:=Lib.hid hB1;have B2:=Lib.hid hB2;have Hwb:=Lib.hid hwb
 have keep:∀(u:World),Chg (λb=>w.heap.size<=b) w u->u.cell? ⟨bH,pre.length+2,none⟩=some (.pointer (some ⟨bW,0,none⟩))/\u.cell? ⟨bH,pre.length+3,none⟩=some (.int .i64 (p:Int))/\u.cell? ⟨bH,pre.length+11,none⟩=some (.int .i64 er)/\u.cell? ⟨bH,pre.length+12,none⟩=some (.int .u64 (vl:Int))/\u.cell? ⟨bH,pre.length+13,none⟩=some (.slice la ln lc)/\u.cell? ⟨bH,pre.length+14,none⟩=some (.slice ka kn kc)/\u.cell? ⟨bW,6,none⟩=some (.int .i64 (now:Int))/\u.cell? ⟨bW,7,none⟩=some (.slice (some ⟨bM,0,none⟩) n mc)/\u.cell? ⟨bM,p,none⟩=some (MV):=λu hc=>
  ⟨(hc.cell hHl (by simpa using hHl)).trans (HC.out 2 (by decide)),(hc.cell hHl (by simpa using hHl)).trans (HC.out 3 (by decide)),(hc.cell hHl (by simpa using hHl)).trans (HC.out 11 (by decide)),(hc.cell hHl (by simpa using hHl)).trans (HC.out 12 (by decide)),(hc.cell hHl (by simpa using hHl)).trans (HC.out 13 (by decide)),(hc.cell hHl (by simpa using hHl)).trans (HC.out 14 (by decide)),(hc.cell hWl (by simpa using hWl)).trans (K6.out),(hc.cell hWl (by simpa using hWl)).trans (K7.out),(hc.cell hMl (by simpa using hMl)).trans (M1.out)⟩
 have Keep:=Lib.hid keep
 have gcb:Chg (λb=>w.heap.size<=b) w wb:=Chg.of_below gb
 have Gc:=Lib.hid gcb
 obtain⟨c2,c3,c11,c12,c13,c14,k6,k7,m1'⟩:=keep wb gcb
 have e2:wb.cell? ⟨w.heap.size,2,none⟩=some (.int .i64 (rs:Int)):=by rw [aA hB1];rfl
 have Io:wb.frozen? ⟨w.heap.size,2,none⟩=false:=aB hB1 _
 clear hcell c6 c7 m1 gb hB1 hB2 hwb keep gcb hH hM hMv c3 c11 c12 c13 c14 k7 m1'
 go_enter Tryz.func43,Tryz.ntmps43
 go_upto_region 1 with fail
 rw [<-Hwb.out]
 go_upto_region 3 with fail
 obtain⟨w1,hw1⟩:∃ w1,w1=wb.setCell ⟨w.heap.size,2,none⟩ (.int .i64 (now:Int)):=⟨_,rfl⟩
 rw [<-hw1]
 have h1:w1.heap[w.heap.size]?=some (.cells #[.int .i64 (c:Int),.int .i64 (iv:Int),.int .i64 (now:Int),.int .i64 (st:Int),.int .i64 OJ,.int .u64 (LF:Int),.slice a0 n0 k0,.slice a1 n1 k1] 52 (0,0)):=by rw [hw1];exact aG B1.out _ _
 have g1:Chg (λb=>w.heap.size<=b) w w1:=by rw [hw1];exact Gc.out.setCell (p:=⟨w.heap.size,2,none⟩) (.inr (Nat.le_refl _)) _
 have z1:w1.heap[w.heap.size+1]?=some (.cells #[.int .i64 0,.int .i64 0,.int .i64 0,.int .i64 0,.int .i64 0,.int .u64 0,.slice none 0 0,.slice none 0 0] 52 (0,0)):=by rw [hw1];exact(aH (by simp) _ _).trans B2.out
 obtain⟨c2,c3,c11,c12,c13,c14,k6,k7,m1⟩:=Keep.out w1 g1
 have G1:=Lib.hid g1;have Z1:=Lib.hid z1;have H1:=Lib.hid h1
 have hl1:=aC h1
 have e4:w1.cell? ⟨w.heap.size,4,none⟩=some (.int .i64 OJ):=by rw [aA h1];rfl
 have Kv:w1.frozen? ⟨w.heap.size,4,none⟩=false:=aB h1 _
 have e5:w1.cell? ⟨w.heap.size,5,none⟩=some (.int .u64 (LF:Int)):=by rw [aA h1];rfl
 have Gh:w1.frozen? ⟨w.heap.size,5,none⟩=false:=aB h1 _
 have e6:w1.cell? ⟨w.heap.size,6,none⟩=some (.slice a0 n0 k0):=by rw [aA h1];rfl
 have Jq:w1.frozen? ⟨w.heap.size,6,none⟩=false:=aB h1 _
 clear e2 Io hw1 g1 z1 h1 c2 c3 c14 k6 k7 m1
 refine bU ((λu=>u.cell? ⟨bH,pre.length+11,none⟩=some (.int .i64 er)/\u.cell? ⟨bH,pre.length+12,none⟩=some (.int .u64 (vl:Int))/\u.cell? ⟨bH,pre.length+13,none⟩=some (.slice la ln lc))) 14 (by kernel_rfl) ?hS0L1 ?_
 case hS0L1=>
  exact⟨c11,c12,c13⟩
 intro hS hcl
 refine wL (i:=0) 15 rfl hcl hS ?_
 clear hcl;intro hcl
 (simp only [Act.put,zs])
 refine wL (i:=1) 15 rfl hcl hS ?_
 clear hcl;intro hcl
 (simp only [Act.put,zs])
 refine wL (i:=2) 15 rfl hcl hS ?_
 clear hcl;intro hcl
 (simp only [Act.put,zs])
 refine wL (i:=3) 15 rfl hcl hS ?_
 clear hcl;intro hcl
 (simp only [Act.put,zs])
 refine wL (i:=4) 15 rfl hcl hS ?_
 clear hcl;intro hcl
 (simp only [Act.put,zs])
 refine wL (i:=5) 15 rfl hcl hS ?_
 clear hcl;intro hcl
 (simp only [Act.put,zs])
 refine wL (i:=6) 15 rfl hcl hS ?_
 clear hcl;intro hcl
 (simp only [Act.put,zs])
 refine wL (i:=7) 15 rfl hcl hS ?_
 clear hcl;intro hcl
 (simp only [Act.put,zs])
 refine wL (i:=8) 15 rfl hcl hS ?_
 clear hcl;intro hcl
 (simp only [Act.put,zs])
 refine wL (i:=9) 15 rfl hcl hS ?_
 clear hcl;intro hcl
 (simp only [Act.put,zs])
 refine wL (i:=10) 15 rfl hcl hS ?_
 clear hcl;intro hcl
 (simp only [Act.put,zs])
 refine wL (i:=11) 15 rfl hcl hS ?_
 clear hcl;intro hcl
 (simp only [Act.put,zs])
 refine wL (i:=12) 15 rfl hcl hS ?_
 clear hcl;intro hcl
 (simp only [Act.put,zs])
 refine wL (i:=13) 15 rfl hcl hS ?_
 clear hcl;intro hcl
 (simp only [Act.put,zs])
 refine aL (i:=14) (by kernel_rfl) rfl hcl (λK' hK=>?_)
 have HK:=Lib.hid hK;clear hK
 ((rw [if_pos (by kernel_rfl)]);(simp only [zq1,zq2,zq3]);go_big_op)
 refine HK.out _ _ (λh=>by cases h.symm.trans (by kernel_rfl:_=true)) (λ_=>bV (by kernel_rfl) ?_ _)
 clear HK
 (clear hS)
 obtain⟨w2,hw2⟩:∃ w2,w2=(((w1.setCell ⟨w.heap.size,4,none⟩ (.int .i64 er)).setCell ⟨w.heap.size,5,none⟩ (.int .u64 (vl:Int))).setCell ⟨w.heap.size,6,none⟩ (.slice la ln lc)).drew:=⟨_,rfl⟩
 rw [<-hw2]
 have h2:w2.heap[w.heap.size]?=some (.cells #[.int .i64 (c:Int),.int .i64 (iv:Int),.int .i64 (now:Int),.int .i64 (st:Int),.int .i64 er,.int .u64 (vl:Int),.slice la ln lc,.slice a1 n1 k1] 52 (0,0)):=by rw [hw2];exact aG (aG (aG H1.out _ _) _ _) _ _
 have g2:Chg (λb=>w.heap.size<=b) w w2:=by rw [hw2];exact(((G1.out.setCell (p:=⟨w.heap.size,4,none⟩) (.inr (Nat.le_refl _)) _).setCell (p:=⟨w.heap.size,5,none⟩) (.inr (Nat.le_refl _)) _).setCell (p:=⟨w.heap.size,6,none⟩) (.inr (Nat.le_refl _)) _).drew
 have z2:w2.heap[w.heap.size+1]?=some (.cells #[.int .i64 0,.int .i64 0,.int .i64 0,.int .i64 0,.int .i64 0,.int .u64 0,.slice none 0 0,.slice none 0 0] 52 (0,0)):=by rw [hw2];exact(aH (by simp) _ _).trans ((aH (by simp) _ _).trans ((aH (by simp) _ _).trans Z1.out))
 obtain⟨c2,c3,_,_,_,c14,k6,k7,m1⟩:=Keep.out w2 g2
 have G2:=Lib.hid g2;have Z2:=Lib.hid z2;have H2:=Lib.hid h2
 have e7:w2.cell? ⟨w.heap.size,7,none⟩=some (.slice a1 n1 k1):=by rw [aA h2];rfl
 have ZQ:w2.frozen? ⟨w.heap.size,7,none⟩=false:=aB h2 _
 clear e4 Kv e5 Gh e6 Jq c11 c12 c13 hw2 g2 z2 h2
 go_upto_region 5 with fail
 obtain⟨w3,hw3⟩:∃ w3,w3=w2.setCell ⟨w.heap.size,7,none⟩ (.slice ka kn kc):=⟨_,rfl⟩
 rw [<-hw3]
 have h3:w3.heap[w.heap.size]?=some (.cells #[.int .i64 (c:Int),.int .i64 (iv:Int),.int .i64 (now:Int),.int .i64 (st:Int),.int .i64 er,.int .u64 (vl:Int),.slice la ln lc,.slice ka kn kc] 52 (0,0)):=by rw [hw3];exact aG H2.out _ _
 have g3:Chg (λb=>w.heap.size<=b) w w3:=by rw [hw3];exact G2.out.setCell (p:=⟨w.heap.size,7,none⟩) (.inr (Nat.le_refl _)) _
 have z3:w3.heap[w.heap.size+1]?=some (.cells #[.int .i64 0,.int .i64 0,.int .i64 0,.int .i64 0,.int .i64 0,.int .u64 0,.slice none 0 0,.slice none 0 0] 52 (0,0)):=by rw [hw3];exact(aH (by simp) _ _).trans Z2.out
 obtain⟨c2,c3,_,_,_,_,k6,k7,m1⟩:=Keep.out w3 g3
 have G3:=Lib.hid g3;have Z3:=Lib.hid z3;have H3:=Lib.hid h3
 clear e7 ZQ
 have e0:w3.cell? ⟨w.heap.size,0,none⟩=some (.int .i64 (c:Int)):=by rw [aA h3];rfl
 have Ya:w3.frozen? ⟨w.heap.size,0,none⟩=false:=aB h3 _
 have e1:w3.cell? ⟨w.heap.size,1,none⟩=some (.int .i64 (iv:Int)):=by rw [aA h3];rfl
 have Sw:w3.frozen? ⟨w.heap.size,1,none⟩=false:=aB h3 _
 have e2:w3.cell? ⟨w.heap.size,2,none⟩=some (.int .i64 (now:Int)):=by rw [aA h3];rfl
 have Io:w3.frozen? ⟨w.heap.size,2,none⟩=false:=aB h3 _
 have e3:w3.cell? ⟨w.heap.size,3,none⟩=some (.int .i64 (st:Int)):=by rw [aA h3];rfl
 have Vd:w3.frozen? ⟨w.heap.size,3,none⟩=false:=aB h3 _
 have e4:w3.cell? ⟨w.heap.size,4,none⟩=some (.int .i64 er):=by rw [aA h3];rfl
 have Kv:w3.frozen? ⟨w.heap.size,4,none⟩=false:=aB h3 _
 have e5:w3.cell? ⟨w.heap.size,5,none⟩=some (.int .u64 (vl:Int)):=by rw [aA h3];rfl
 have Gh:w3.frozen? ⟨w.heap.size,5,none⟩=false:=aB h3 _
 have e6:w3.cell? ⟨w.heap.size,6,none⟩=some (.slice la ln lc):=by rw [aA h3];rfl
 have Jq:w3.frozen? ⟨w.heap.size,6,none⟩=false:=aB h3 _
 have e7:w3.cell? ⟨w.heap.size,7,none⟩=some (.slice ka kn kc):=by rw [aA h3];rfl
 have ZQ:w3.frozen? ⟨w.heap.size,7,none⟩=false:=aB h3 _
 have Uk:w3.cell? ⟨w.heap.size+1,0,none⟩=some (.int .i64 0):=by rw [aA z3];rfl
 have Ja:w3.frozen? ⟨w.heap.size+1,0,none⟩=false:=aB z3 _
 have Wz:w3.cell? ⟨w.heap.size+1,1,none⟩=some (.int .i64 0):=by rw [aA z3];rfl
 have Kq:w3.frozen? ⟨w.heap.size+1,1,none⟩=false:=aB z3 _
 have Vs:w3.cell? ⟨w.heap.size+1,2,none⟩=some (.int .i64 0):=by rw [aA z3];rfl
 have Ie:w3.frozen? ⟨w.heap.size+1,2,none⟩=false:=aB z3 _
 have Ve:w3.cell? ⟨w.heap.size+1,3,none⟩=some (.int .i64 0):=by rw [aA z3];rfl
 have Jo:w3.frozen? ⟨w.heap.size+1,3,none⟩=false:=aB z3 _
 have Zf:w3.cell? ⟨w.heap.size+1,4,none⟩=some (.int .i64 0):=by rw [aA z3];rfl
 have Iw:w3.frozen? ⟨w.heap.size+1,4,none⟩=false:=aB z3 _
 have Vh:w3.cell? ⟨w.heap.size+1,5,none⟩=some (.int .u64 0):=by rw [aA z3];rfl
 have Ed:w3.frozen? ⟨w.heap.size+1,5,none⟩=false:=aB z3 _
 have Yx:w3.cell? ⟨w.heap.size+1,6,none⟩=some (.slice none 0 0):=by rw [aA z3];rfl
 have Kn:w3.frozen? ⟨w.heap.size+1,6,none⟩=false:=aB z3 _
 have Xq:w3.cell? ⟨w.heap.size+1,7,none⟩=some (.slice none 0 0):=by rw [aA z3];rfl
 have Em:w3.frozen? ⟨w.heap.size+1,7,none⟩=false:=aB z3 _
 clear hw3 g3 z3 h3 c2 c3 c14 k6 k7 m1 Ya Sw Io Vd Kv Gh Jq ZQ
 go_wp2
 obtain⟨w6,kK⟩:∃ w6,w6=((((((((w3.setCell ⟨w.heap.size+1,0,none⟩ (.int .i64 (c:Int))).setCell ⟨w.heap.size+1,1,none⟩ (.int .i64 (iv:Int))).setCell ⟨w.heap.size+1,2,none⟩ (.int .i64 (now:Int))).setCell ⟨w.heap.size+1,3,none⟩ (.int .i64 (st:Int))).setCell ⟨w.heap.size+1,4,none⟩ (.int .i64 er)).setCell ⟨w.heap.size+1,5,none⟩ (.int .u64 (vl:Int))).setCell ⟨w.heap.size+1,6,none⟩ (.slice la ln lc)).setCell ⟨w.heap.size+1,7,none⟩ (.slice ka kn kc)):=⟨_,rfl⟩
 rw [<-kK]
 have h6:w6.heap[w.heap.size+1]?=some (.cells #[.int .i64 (c:Int),.int .i64 (iv:Int),.int .i64 (now:Int),.int .i64 (st:Int),.int .i64 er,.int .u64 (vl:Int),.slice la ln lc,.slice ka kn kc] 52 (0,0)):=by rw [kK];exact(aG (aG (aG (aG (aG (aG (aG (aG Z3.out 0 (.int .i64 (c:Int))) 1 (.int .i64 (iv:Int))) 2 (.int .i64 (now:Int))) 3 (.int .i64 (st:Int))) 4 (.int .i64 er)) 5 (.int .u64 (vl:Int))) 6 (.slice la ln lc)) 7 (.slice ka kn kc))
 have g6:Chg (λb=>w.heap.size<=b) w w6:=by rw [kK];exact((((((((G3.out.setCell (p:=⟨w.heap.size+1,0,none⟩) (.inr (Nat.le_succ _)) _).setCell (p:=⟨w.heap.size+1,1,none⟩) (.inr (Nat.le_succ _)) _).setCell (p:=⟨w.heap.size+1,2,none⟩) (.inr (Nat.le_succ _)) _).setCell (p:=⟨w.heap.size+1,3,none⟩) (.inr (Nat.le_succ _)) _).setCell (p:=⟨w.heap.size+1,4,none⟩) (.inr (Nat.le_succ _)) _).setCell (p:=⟨w.heap.size+1,5,none⟩) (.inr (Nat.le_succ _)) _).setCell (p:=⟨w.heap.size+1,6,none⟩) (.inr (Nat.le_succ _)) _).setCell (p:=⟨w.heap.size+1,7,none⟩) (.inr (Nat.le_succ _)) _)
 clear kK Uk Ja e0 Wz Kq e1 Vs Ie e2 Ve Jo e3 Zf Iw e4 Vh Ed e5 Yx Kn e6 Xq Em e7
 have hld:=BK w6 _ _ h6 rfl
 refine bodyPost_ret (v:=.agg #[.int .i64 (c:Int),.int .i64 (iv:Int),.int .i64 (now:Int),.int .i64 (st:Int),.int .i64 er,.int .u64 (vl:Int),.slice la ln lc,.slice ka kn kc]) (by simp [results,Tryz.results43 ,Sem.run_bind,Sem.run_pure,asAddr,hld]) rfl ?_
 exact⟨rfl,g6.below (λb h=>h) (Nat.le_refl _)⟩
set_option maxHeartbeats 8000000 in
theorem Ce (w:World) (bH bW bM mc p now n c iv st vl LF rs n0 k0 n1 k1 ln lc mn mk:Nat) (er OJ:Int) (a0 a1 la ma:Option Addr) (pre post ms:List Value) (x0 x1 x4 x5 x6 x7 x8 x9 wC xM:Value) (hH:w.heap[bH]?=some (.cells (pre++([x0,x1,.pointer (some ⟨bW,0,none⟩),.int .i64 (p:Int),x4,x5,x6,x7,x8,x9,wC,.int .i64 er,.int .u64 (vl:Int),.slice la ln lc,.slice none 0 0,xM]++post)).toArray 100 (0,0)))
  (hM:w.heap[bM]?=some (.cells ms.toArray 24 (0,0))) (hMv:ms[p]?=some (.slice ma mn mk)) (hp:p<n) (hn:n<=16) (hnow:now<=1000000) (hk:0<mn) (hk9:mn<=9223372036854775807) (c6:w.cell? ⟨bW,6,none⟩=some (.int .i64 (now:Int))) (c7:w.cell? ⟨bW,7,none⟩=some (.slice (some ⟨bM,0,none⟩) n mc)) :
  Calls Tryz.prog 43 #[.pointer (some ⟨bH,pre.length,none⟩),.agg #[.int .i64 (c:Int),.int .i64 (iv:Int),.int .i64 (rs:Int),.int .i64 (st:Int),.int .i64 OJ,.int .u64 (LF:Int),.slice a0 n0 k0,.slice a1 n1 k1]] w λe w'=>e=.returned (.agg #[.int .i64 (c:Int),.int .i64 (iv:Int),.int .i64 (now:Int),.int .i64 (st:Int),.int .i64 er,.int .u64 (vl:Int),.slice la ln lc,.slice ma mn mk])/\Below w.heap.size w w':=by
 obtain⟨wb,hwb⟩:∃ wb,wb=(w.alloc (.cells #[.int .i64 (c:Int),.int .i64 (iv:Int),.int .i64 (rs:Int),.int .i64 (st:Int),.int .i64 OJ,.int .u64 (LF:Int),.slice a0 n0 k0,.slice a1 n1 k1] 52)).alloc (.cells #[.int .i64 0,.int .i64 0,.int .i64 0,.int .i64 0,.int .i64 0,.int .u64 0,.slice none 0 0,.slice none 0 0] 52):=⟨_,rfl⟩
 have gb:Below w.heap.size w wb:=by rw [hwb];exact Gr.alloc (Gr.new _ _) _
 have hB1:wb.heap[w.heap.size]?=some (.cells #[.int .i64 (c:Int),.int .i64 (iv:Int),.int .i64 (rs:Int),.int .i64 (st:Int),.int .i64 OJ,.int .u64 (LF:Int),.slice a0 n0 k0,.slice a1 n1 k1] 52 (0,0)):=by rw [hwb,Below.heap_alloc _ _ _ (by simp)];exact heap_alloc_new _ _
 have hB2:wb.heap[w.heap.size+1]?=some (.cells #[.int .i64 0,.int .i64 0,.int .i64 0,.int .i64 0,.int .i64 0,.int .u64 0,.slice none 0 0,.slice none 0 0] 52 (0,0)):=by
  rw [hwb]
  have:=heap_alloc_new (w.alloc (.cells #[.int .i64 (c:Int),.int .i64 (iv:Int),.int .i64 (rs:Int),.int .i64 (st:Int),.int .i64 OJ,.int .u64 (LF:Int),.slice a0 n0 k0,.slice a1 n1 k1] 52)) (.cells #[.int .i64 0,.int .i64 0,.int .i64 0,.int .i64 0,.int .i64 0,.int .u64 0,.slice none 0 0,.slice none 0 0] 52 (0,0))
  simp only [World.size_alloc] at this
  exact this
 have hcell:∀ i,i<16->w.cell? ⟨bH,pre.length+i,none⟩=([x0,x1,.pointer (some ⟨bW,0,none⟩),.int .i64 (p:Int),x4,x5,x6,x7,x8,x9,wC,.int .i64 er,.int .u64 (vl:Int),.slice la ln lc,.slice none 0 0,xM]:List Value)[i]?:=λi hi=>by rw [aA hH];exact fG (by simpa using hi)
 have hHl:=aC hH
 have hWl:bW<w.heap.size:=World.block_lt_of_cell? _ _ c6
 have hMl:=aC hM
 have m1:w.cell? ⟨bM,p,none⟩=some (.slice ma mn mk):=by rw [aA hM];simpa using hMv
 have l1:(p:Int)<(n:Int):=by omega
 have lw:IntKind.i64.wrap (p:Int)=(p:Int):=by rw [IntKind.wrap_i64];omega
 have lm:IntKind.i64.wrap (2*(now:Int))=2*(now:Int):=by rw [IntKind.wrap_i64];omega
 have lm2:wrap64 (2*(now:Int))=2*(now:Int):=by unfold wrap64;omega
 have l3:(((mn:Nat):Int) == 0)=false:=by simp;omega
 have l4:¬ ((mn:Nat):Int)=0:=by omega
 have HC:=Lib.hid hcell;have K6:=Lib.hid c6;have K7:=Lib.hid c7;have M1:=Lib.hid m1;have Gb:=Lib.hid gb;have B1:=Lib.hid hB1;have B2:=Lib.hid hB2;have Hwb:=Lib.hid hwb
 have keep:∀(u:World),Chg (λb=>w.heap.size<=b) w u->u.cell? ⟨bH,pre.length+2,none⟩=some (.pointer (some ⟨bW,0,none⟩))/\u.cell? ⟨bH,pre.length+3,none⟩=some (.int .i64 (p:Int))/\u.cell? ⟨bH,pre.length+11,none⟩=some (.int .i64 er)/\u.cell? ⟨bH,pre.length+12,none⟩=some (.int .u64 (vl:Int))/\u.cell? ⟨bH,pre.length+13,none⟩=some (.slice la ln lc)/\u.cell? ⟨bH,pre.length+14,none⟩=some (.slice none 0 0)/\u.cell? ⟨bW,6,none⟩=some (.int .i64 (now:Int))/\u.cell? ⟨bW,7,none⟩=some (.slice (some ⟨bM,0,none⟩) n mc)/\u.cell? ⟨bM,p,none⟩=some (.slice ma mn mk):=λu hc=>
  ⟨(hc.cell hHl (by simpa using hHl)).trans (HC.out 2 (by decide)),(hc.cell hHl (by simpa using hHl)).trans (HC.out 3 (by decide)),(hc.cell hHl (by simpa using hHl)).trans (HC.out 11 (by decide)),(hc.cell hHl (by simpa using hHl)).trans (HC.out 12 (by decide)),(hc.cell hHl (by simpa using hHl)).trans (HC.out 13 (by decide)),(hc.cell hHl (by simpa using hHl)).trans (HC.out 14 (by decide)),(hc.cell hWl (by simpa using hWl)).trans (K6.out),(hc.cell hWl (by simpa using hWl)).trans (K7.out),(hc.cell hMl (by simpa using hMl)).trans (M1.out)⟩
 have Keep:=Lib.hid keep
 have gcb:Chg (λb=>w.heap.size<=b) w wb:=Chg.of_below gb
 have Gc:=Lib.hid gcb
 obtain⟨c2,c3,c11,c12,c13,c14,k6,k7,m1'⟩:=keep wb gcb
 have e2:wb.cell? ⟨w.heap.size,2,none⟩=some (.int .i64 (rs:Int)):=by rw [aA hB1];rfl
 have Io:wb.frozen? ⟨w.heap.size,2,none⟩=false:=aB hB1 _
 clear hcell c6 c7 m1 gb hB1 hB2 hwb keep gcb hH hM hMv c3 c11 c12 c13 c14 k7 m1'
 go_enter Tryz.func43,Tryz.ntmps43
 go_upto_region 1 with fail
 rw [<-Hwb.out]
 go_upto_region 3 with fail
 obtain⟨w1,hw1⟩:∃ w1,w1=wb.setCell ⟨w.heap.size,2,none⟩ (.int .i64 (now:Int)):=⟨_,rfl⟩
 rw [<-hw1]
 have h1:w1.heap[w.heap.size]?=some (.cells #[.int .i64 (c:Int),.int .i64 (iv:Int),.int .i64 (now:Int),.int .i64 (st:Int),.int .i64 OJ,.int .u64 (LF:Int),.slice a0 n0 k0,.slice a1 n1 k1] 52 (0,0)):=by rw [hw1];exact aG B1.out _ _
 have g1:Chg (λb=>w.heap.size<=b) w w1:=by rw [hw1];exact Gc.out.setCell (p:=⟨w.heap.size,2,none⟩) (.inr (Nat.le_refl _)) _
 have z1:w1.heap[w.heap.size+1]?=some (.cells #[.int .i64 0,.int .i64 0,.int .i64 0,.int .i64 0,.int .i64 0,.int .u64 0,.slice none 0 0,.slice none 0 0] 52 (0,0)):=by rw [hw1];exact(aH (by simp) _ _).trans B2.out
 obtain⟨c2,c3,c11,c12,c13,c14,k6,k7,m1⟩:=Keep.out w1 g1
 have G1:=Lib.hid g1;have Z1:=Lib.hid z1;have H1:=Lib.hid h1
 have hl1:=aC h1
 have e4:w1.cell? ⟨w.heap.size,4,none⟩=some (.int .i64 OJ):=by rw [aA h1];rfl
 have Kv:w1.frozen? ⟨w.heap.size,4,none⟩=false:=aB h1 _
 have e5:w1.cell? ⟨w.heap.size,5,none⟩=some (.int .u64 (LF:Int)):=by rw [aA h1];rfl
 have Gh:w1.frozen? ⟨w.heap.size,5,none⟩=false:=aB h1 _
 have e6:w1.cell? ⟨w.heap.size,6,none⟩=some (.slice a0 n0 k0):=by rw [aA h1];rfl
 have Jq:w1.frozen? ⟨w.heap.size,6,none⟩=false:=aB h1 _
 clear e2 Io hw1 g1 z1 h1 c2 c3 c14 k6 k7 m1
 refine bU ((λu=>u.cell? ⟨bH,pre.length+11,none⟩=some (.int .i64 er)/\u.cell? ⟨bH,pre.length+12,none⟩=some (.int .u64 (vl:Int))/\u.cell? ⟨bH,pre.length+13,none⟩=some (.slice la ln lc))) 14 (by kernel_rfl) ?hS0L2 ?_
 case hS0L2=>
  exact⟨c11,c12,c13⟩
 intro hS hcl
 refine wL (i:=0) 15 rfl hcl hS ?_
 clear hcl;intro hcl
 (simp only [Act.put,zs])
 refine wL (i:=1) 15 rfl hcl hS ?_
 clear hcl;intro hcl
 (simp only [Act.put,zs])
 refine wL (i:=2) 15 rfl hcl hS ?_
 clear hcl;intro hcl
 (simp only [Act.put,zs])
 refine wL (i:=3) 15 rfl hcl hS ?_
 clear hcl;intro hcl
 (simp only [Act.put,zs])
 refine wL (i:=4) 15 rfl hcl hS ?_
 clear hcl;intro hcl
 (simp only [Act.put,zs])
 refine wL (i:=5) 15 rfl hcl hS ?_
 clear hcl;intro hcl
 (simp only [Act.put,zs])
 refine wL (i:=6) 15 rfl hcl hS ?_
 clear hcl;intro hcl
 (simp only [Act.put,zs])
 refine wL (i:=7) 15 rfl hcl hS ?_
 clear hcl;intro hcl
 (simp only [Act.put,zs])
 refine wL (i:=8) 15 rfl hcl hS ?_
 clear hcl;intro hcl
 (simp only [Act.put,zs])
 refine wL (i:=9) 15 rfl hcl hS ?_
 clear hcl;intro hcl
 (simp only [Act.put,zs])
 refine wL (i:=10) 15 rfl hcl hS ?_
 clear hcl;intro hcl
 (simp only [Act.put,zs])
 refine wL (i:=11) 15 rfl hcl hS ?_
 clear hcl;intro hcl
 (simp only [Act.put,zs])
 refine wL (i:=12) 15 rfl hcl hS ?_
 clear hcl;intro hcl
 (simp only [Act.put,zs])
 refine wL (i:=13) 15 rfl hcl hS ?_
 clear hcl;intro hcl
 (simp only [Act.put,zs])
 refine aL (i:=14) (by kernel_rfl) rfl hcl (λK' hK=>?_)
 have HK:=Lib.hid hK;clear hK
 ((rw [if_pos (by kernel_rfl)]);(simp only [zq1,zq2,zq3]);go_big_op)
 refine HK.out _ _ (λh=>by cases h.symm.trans (by kernel_rfl:_=true)) (λ_=>bV (by kernel_rfl) ?_ _)
 clear HK
 (clear hS)
 obtain⟨w2,hw2⟩:∃ w2,w2=(((w1.setCell ⟨w.heap.size,4,none⟩ (.int .i64 er)).setCell ⟨w.heap.size,5,none⟩ (.int .u64 (vl:Int))).setCell ⟨w.heap.size,6,none⟩ (.slice la ln lc)).drew:=⟨_,rfl⟩
 rw [<-hw2]
 have h2:w2.heap[w.heap.size]?=some (.cells #[.int .i64 (c:Int),.int .i64 (iv:Int),.int .i64 (now:Int),.int .i64 (st:Int),.int .i64 er,.int .u64 (vl:Int),.slice la ln lc,.slice a1 n1 k1] 52 (0,0)):=by rw [hw2];exact aG (aG (aG H1.out _ _) _ _) _ _
 have g2:Chg (λb=>w.heap.size<=b) w w2:=by rw [hw2];exact(((G1.out.setCell (p:=⟨w.heap.size,4,none⟩) (.inr (Nat.le_refl _)) _).setCell (p:=⟨w.heap.size,5,none⟩) (.inr (Nat.le_refl _)) _).setCell (p:=⟨w.heap.size,6,none⟩) (.inr (Nat.le_refl _)) _).drew
 have z2:w2.heap[w.heap.size+1]?=some (.cells #[.int .i64 0,.int .i64 0,.int .i64 0,.int .i64 0,.int .i64 0,.int .u64 0,.slice none 0 0,.slice none 0 0] 52 (0,0)):=by rw [hw2];exact(aH (by simp) _ _).trans ((aH (by simp) _ _).trans ((aH (by simp) _ _).trans Z1.out))
 obtain⟨c2,c3,_,_,_,c14,k6,k7,m1⟩:=Keep.out w2 g2
 have G2:=Lib.hid g2;have Z2:=Lib.hid z2;have H2:=Lib.hid h2
 have e7:w2.cell? ⟨w.heap.size,7,none⟩=some (.slice a1 n1 k1):=by rw [aA h2];rfl
 have ZQ:w2.frozen? ⟨w.heap.size,7,none⟩=false:=aB h2 _
 clear e4 Kv e5 Gh e6 Jq c11 c12 c13 hw2 g2 z2 h2
 go_upto_region 6 with fail
 obtain⟨w3,hw3⟩:∃ w3,w3=w2.setCell ⟨w.heap.size,7,none⟩ (.slice none 0 0):=⟨_,rfl⟩
 rw [<-hw3]
 have h3:w3.heap[w.heap.size]?=some (.cells #[.int .i64 (c:Int),.int .i64 (iv:Int),.int .i64 (now:Int),.int .i64 (st:Int),.int .i64 er,.int .u64 (vl:Int),.slice la ln lc,.slice none 0 0] 52 (0,0)):=by rw [hw3];exact aG H2.out _ _
 have g3:Chg (λb=>w.heap.size<=b) w w3:=by rw [hw3];exact G2.out.setCell (p:=⟨w.heap.size,7,none⟩) (.inr (Nat.le_refl _)) _
 have z3:w3.heap[w.heap.size+1]?=some (.cells #[.int .i64 0,.int .i64 0,.int .i64 0,.int .i64 0,.int .i64 0,.int .u64 0,.slice none 0 0,.slice none 0 0] 52 (0,0)):=by rw [hw3];exact(aH (by simp) _ _).trans Z2.out
 obtain⟨c2,c3,_,_,_,_,k6,k7,m1⟩:=Keep.out w3 g3
 have G3:=Lib.hid g3;have Z3:=Lib.hid z3;have H3:=Lib.hid h3
 have e7:w3.cell? ⟨w.heap.size,7,none⟩=some (.slice none 0 0):=by rw [aA h3];rfl
 have ZQ:w3.frozen? ⟨w.heap.size,7,none⟩=false:=aB h3 _
 clear c14 hw3 g3 z3 h3 k6
 refine bU ((λu=>u.cell? ⟨bH,pre.length+2,none⟩=some (.pointer (some ⟨bW,0,none⟩))/\u.cell? ⟨bH,pre.length+3,none⟩=some (.int .i64 (p:Int))/\u.cell? ⟨bW,7,none⟩=some (.slice (some ⟨bM,0,none⟩) n mc)/\u.cell? ⟨bM,p,none⟩=some (.slice ma mn mk))) 14 (by kernel_rfl) ?hS0L3 ?_
 case hS0L3=>
  exact⟨c2,c3,k7,m1⟩
 intro hS hcl
 refine wL (i:=0) 15 rfl hcl hS ?_
 clear hcl;intro hcl
 (simp only [Act.put,zs])
 refine wL (i:=1) 15 rfl hcl hS ?_
 clear hcl;intro hcl
 (simp only [Act.put,zs])
 refine wL (i:=2) 15 rfl hcl hS ?_
 clear hcl;intro hcl
 (simp only [Act.put,zs])
 refine wL (i:=3) 15 rfl hcl hS ?_
 clear hcl;intro hcl
 (simp only [Act.put,zs])
 refine wL (i:=4) 15 rfl hcl hS ?_
 clear hcl;intro hcl
 (simp only [Act.put,zs])
 refine wL (i:=5) 15 rfl hcl hS ?_
 clear hcl;intro hcl
 (simp only [Act.put,zs])
 refine wL (i:=6) 15 rfl hcl hS ?_
 clear hcl;intro hcl
 (simp only [Act.put,zs])
 refine wL (i:=7) 15 rfl hcl hS ?_
 clear hcl;intro hcl
 (simp only [Act.put,zs])
 refine wL (i:=8) 15 rfl hcl hS ?_
 clear hcl;intro hcl
 (simp only [Act.put,zs])
 refine wL (i:=9) 15 rfl hcl hS ?_
 clear hcl;intro hcl
 (simp only [Act.put,zs])
 refine wL (i:=10) 15 rfl hcl hS ?_
 clear hcl;intro hcl
 (simp only [Act.put,zs])
 refine wL (i:=11) 15 rfl hcl hS ?_
 clear hcl;intro hcl
 (simp only [Act.put,zs])
 refine wL (i:=12) 15 rfl hcl hS ?_
 clear hcl;intro hcl
 (simp only [Act.put,zs])
 refine wL (i:=13) 15 rfl hcl hS ?_
 clear hcl;intro hcl
 (simp only [Act.put,zs])
 refine aL (i:=14) (by kernel_rfl) rfl hcl (λK' hK=>?_)
 have HK:=Lib.hid hK;clear hK
 ((rw [if_pos (by kernel_rfl)]);(simp only [zq1,zq2,zq3]);go_big_op)
 refine HK.out _ _ (λh=>by cases h.symm.trans (by kernel_rfl:_=true)) (λ_=>bV (by kernel_rfl) ?_ _)
 clear HK
 (clear hS)
 obtain⟨w4,hw4⟩:∃ w4,w4=(w3.setCell ⟨w.heap.size,7,none⟩ (.slice ma mn mk)).drew:=⟨_,rfl⟩
 rw [<-hw4]
 have h4:w4.heap[w.heap.size]?=some (.cells #[.int .i64 (c:Int),.int .i64 (iv:Int),.int .i64 (now:Int),.int .i64 (st:Int),.int .i64 er,.int .u64 (vl:Int),.slice la ln lc,.slice ma mn mk] 52 (0,0)):=by rw [hw4];exact aG H3.out _ _
 have g4:Chg (λb=>w.heap.size<=b) w w4:=by rw [hw4];exact(G3.out.setCell (p:=⟨w.heap.size,7,none⟩) (.inr (Nat.le_refl _)) _).drew
 have z4:w4.heap[w.heap.size+1]?=some (.cells #[.int .i64 0,.int .i64 0,.int .i64 0,.int .i64 0,.int .i64 0,.int .u64 0,.slice none 0 0,.slice none 0 0] 52 (0,0)):=by rw [hw4];exact(aH (by simp) _ _).trans Z3.out
 obtain⟨c2,c3,_,_,_,_,k6,k7,m1⟩:=Keep.out w4 g4
 have G4:=Lib.hid g4;have Z4:=Lib.hid z4;have H4:=Lib.hid h4
 have hl4:w.heap.size<w4.heap.size:=aC h4
 have hz4:w.heap.size+1<w4.heap.size:=aC z4
 clear e7 ZQ
 have e0:w4.cell? ⟨w.heap.size,0,none⟩=some (.int .i64 (c:Int)):=by rw [aA h4];rfl
 have Ya:w4.frozen? ⟨w.heap.size,0,none⟩=false:=aB h4 _
 have e1:w4.cell? ⟨w.heap.size,1,none⟩=some (.int .i64 (iv:Int)):=by rw [aA h4];rfl
 have Sw:w4.frozen? ⟨w.heap.size,1,none⟩=false:=aB h4 _
 have e2:w4.cell? ⟨w.heap.size,2,none⟩=some (.int .i64 (now:Int)):=by rw [aA h4];rfl
 have Io:w4.frozen? ⟨w.heap.size,2,none⟩=false:=aB h4 _
 have e3:w4.cell? ⟨w.heap.size,3,none⟩=some (.int .i64 (st:Int)):=by rw [aA h4];rfl
 have Vd:w4.frozen? ⟨w.heap.size,3,none⟩=false:=aB h4 _
 have e4:w4.cell? ⟨w.heap.size,4,none⟩=some (.int .i64 er):=by rw [aA h4];rfl
 have Kv:w4.frozen? ⟨w.heap.size,4,none⟩=false:=aB h4 _
 have e5:w4.cell? ⟨w.heap.size,5,none⟩=some (.int .u64 (vl:Int)):=by rw [aA h4];rfl
 have Gh:w4.frozen? ⟨w.heap.size,5,none⟩=false:=aB h4 _
 have e6:w4.cell? ⟨w.heap.size,6,none⟩=some (.slice la ln lc):=by rw [aA h4];rfl
 have Jq:w4.frozen? ⟨w.heap.size,6,none⟩=false:=aB h4 _
 have e7:w4.cell? ⟨w.heap.size,7,none⟩=some (.slice ma mn mk):=by rw [aA h4];rfl
 have ZQ:w4.frozen? ⟨w.heap.size,7,none⟩=false:=aB h4 _
 have Uk:w4.cell? ⟨w.heap.size+1,0,none⟩=some (.int .i64 0):=by rw [aA z4];rfl
 have Ja:w4.frozen? ⟨w.heap.size+1,0,none⟩=false:=aB z4 _
 have Wz:w4.cell? ⟨w.heap.size+1,1,none⟩=some (.int .i64 0):=by rw [aA z4];rfl
 have Kq:w4.frozen? ⟨w.heap.size+1,1,none⟩=false:=aB z4 _
 have Vs:w4.cell? ⟨w.heap.size+1,2,none⟩=some (.int .i64 0):=by rw [aA z4];rfl
 have Ie:w4.frozen? ⟨w.heap.size+1,2,none⟩=false:=aB z4 _
 have Ve:w4.cell? ⟨w.heap.size+1,3,none⟩=some (.int .i64 0):=by rw [aA z4];rfl
 have Jo:w4.frozen? ⟨w.heap.size+1,3,none⟩=false:=aB z4 _
 have Zf:w4.cell? ⟨w.heap.size+1,4,none⟩=some (.int .i64 0):=by rw [aA z4];rfl
 have Iw:w4.frozen? ⟨w.heap.size+1,4,none⟩=false:=aB z4 _
 have Vh:w4.cell? ⟨w.heap.size+1,5,none⟩=some (.int .u64 0):=by rw [aA z4];rfl
 have Ed:w4.frozen? ⟨w.heap.size+1,5,none⟩=false:=aB z4 _
 have Yx:w4.cell? ⟨w.heap.size+1,6,none⟩=some (.slice none 0 0):=by rw [aA z4];rfl
 have Kn:w4.frozen? ⟨w.heap.size+1,6,none⟩=false:=aB z4 _
 have Xq:w4.cell? ⟨w.heap.size+1,7,none⟩=some (.slice none 0 0):=by rw [aA z4];rfl
 have Em:w4.frozen? ⟨w.heap.size+1,7,none⟩=false:=aB z4 _
 clear hw4 g4 z4 h4 c2 c3 k6 k7 m1 Ya Sw Io Vd Kv Gh Jq ZQ
 go_wp2
 obtain⟨w6,kK⟩:∃ w6,w6=((((((((w4.setCell ⟨w.heap.size+1,0,none⟩ (.int .i64 (c:Int))).setCell ⟨w.heap.size+1,1,none⟩ (.int .i64 (iv:Int))).setCell ⟨w.heap.size+1,2,none⟩ (.int .i64 (now:Int))).setCell ⟨w.heap.size+1,3,none⟩ (.int .i64 (st:Int))).setCell ⟨w.heap.size+1,4,none⟩ (.int .i64 er)).setCell ⟨w.heap.size+1,5,none⟩ (.int .u64 (vl:Int))).setCell ⟨w.heap.size+1,6,none⟩ (.slice la ln lc)).setCell ⟨w.heap.size+1,7,none⟩ (.slice ma mn mk)):=⟨_,rfl⟩
 rw [<-kK]
 have h6:w6.heap[w.heap.size+1]?=some (.cells #[.int .i64 (c:Int),.int .i64 (iv:Int),.int .i64 (now:Int),.int .i64 (st:Int),.int .i64 er,.int .u64 (vl:Int),.slice la ln lc,.slice ma mn mk] 52 (0,0)):=by rw [kK];exact(aG (aG (aG (aG (aG (aG (aG (aG Z4.out 0 (.int .i64 (c:Int))) 1 (.int .i64 (iv:Int))) 2 (.int .i64 (now:Int))) 3 (.int .i64 (st:Int))) 4 (.int .i64 er)) 5 (.int .u64 (vl:Int))) 6 (.slice la ln lc)) 7 (.slice ma mn mk))
 have g6:Chg (λb=>w.heap.size<=b) w w6:=by rw [kK];exact((((((((G4.out.setCell (p:=⟨w.heap.size+1,0,none⟩) (.inr (Nat.le_succ _)) _).setCell (p:=⟨w.heap.size+1,1,none⟩) (.inr (Nat.le_succ _)) _).setCell (p:=⟨w.heap.size+1,2,none⟩) (.inr (Nat.le_succ _)) _).setCell (p:=⟨w.heap.size+1,3,none⟩) (.inr (Nat.le_succ _)) _).setCell (p:=⟨w.heap.size+1,4,none⟩) (.inr (Nat.le_succ _)) _).setCell (p:=⟨w.heap.size+1,5,none⟩) (.inr (Nat.le_succ _)) _).setCell (p:=⟨w.heap.size+1,6,none⟩) (.inr (Nat.le_succ _)) _).setCell (p:=⟨w.heap.size+1,7,none⟩) (.inr (Nat.le_succ _)) _)
 clear kK Uk Ja e0 Wz Kq e1 Vs Ie e2 Ve Jo e3 Zf Iw e4 Vh Ed e5 Yx Kn e6 Xq Em e7
 have hld:=BK w6 _ _ h6 rfl
 refine bodyPost_ret (v:=.agg #[.int .i64 (c:Int),.int .i64 (iv:Int),.int .i64 (now:Int),.int .i64 (st:Int),.int .i64 er,.int .u64 (vl:Int),.slice la ln lc,.slice ma mn mk]) (by simp [results,Tryz.results43 ,Sem.run_bind,Sem.run_pure,asAddr,hld]) rfl ?_
 exact⟨rfl,g6.below (λb h=>h) (Nat.le_refl _)⟩
set_option maxHeartbeats 8000000 in
theorem Bf (w:World) (bH bW bM mc p now n c iv st vl LF rs n0 k0 n1 k1 ln lc:Nat) (er OJ:Int) (a0 a1 la:Option Addr) (pre post ms:List Value) (x0 x1 x4 x5 x6 x7 x8 x9 wC xM:Value) (hH:w.heap[bH]?=some (.cells (pre++([x0,x1,.pointer (some ⟨bW,0,none⟩),.int .i64 (p:Int),x4,x5,x6,x7,x8,x9,wC,.int .i64 er,.int .u64 (vl:Int),.slice la ln lc,.slice none 0 0,xM]++post)).toArray 100 (0,0)))
  (hM:w.heap[bM]?=some (.cells ms.toArray 24 (0,0))) (hMv:ms[p]?=some (.slice none 0 0)) (hp:p<n) (hn:n<=16) (hnow:now<=1000000) (c6:w.cell? ⟨bW,6,none⟩=some (.int .i64 (now:Int))) (c7:w.cell? ⟨bW,7,none⟩=some (.slice (some ⟨bM,0,none⟩) n mc)) :
  Calls Tryz.prog 43 #[.pointer (some ⟨bH,pre.length,none⟩),.agg #[.int .i64 (c:Int),.int .i64 (iv:Int),.int .i64 (rs:Int),.int .i64 (st:Int),.int .i64 OJ,.int .u64 (LF:Int),.slice a0 n0 k0,.slice a1 n1 k1]] w λe w'=>∃ kb,e=.returned (.agg #[.int .i64 (c:Int),.int .i64 (iv:Int),.int .i64 (now:Int),.int .i64 (st:Int),.int .i64 er,.int .u64 (vl:Int),.slice la ln lc,.slice (some ⟨kb,0,none⟩) 1 1])/\w.heap.size<=kb/\w'.heap[kb]?=some (.cells #[.int .i64 (2*(now:Int))] 3 (0,0))/\Below w.heap.size w w':=by
 obtain⟨wb,hwb⟩:∃ wb,wb=(w.alloc (.cells #[.int .i64 (c:Int),.int .i64 (iv:Int),.int .i64 (rs:Int),.int .i64 (st:Int),.int .i64 OJ,.int .u64 (LF:Int),.slice a0 n0 k0,.slice a1 n1 k1] 52)).alloc (.cells #[.int .i64 0,.int .i64 0,.int .i64 0,.int .i64 0,.int .i64 0,.int .u64 0,.slice none 0 0,.slice none 0 0] 52):=⟨_,rfl⟩
 have gb:Below w.heap.size w wb:=by rw [hwb];exact Gr.alloc (Gr.new _ _) _
 have hB1:wb.heap[w.heap.size]?=some (.cells #[.int .i64 (c:Int),.int .i64 (iv:Int),.int .i64 (rs:Int),.int .i64 (st:Int),.int .i64 OJ,.int .u64 (LF:Int),.slice a0 n0 k0,.slice a1 n1 k1] 52 (0,0)):=by rw [hwb,Below.heap_alloc _ _ _ (by simp)];exact heap_alloc_new _ _
 have hB2:wb.heap[w.heap.size+1]?=some (.cells #[.int .i64 0,.int .i64 0,.int .i64 0,.int .i64 0,.int .i64 0,.int .u64 0,.slice none 0 0,.slice none 0 0] 52 (0,0)):=by
  rw [hwb]
  have:=heap_alloc_new (w.alloc (.cells #[.int .i64 (c:Int),.int .i64 (iv:Int),.int .i64 (rs:Int),.int .i64 (st:Int),.int .i64 OJ,.int .u64 (LF:Int),.slice a0 n0 k0,.slice a1 n1 k1] 52)) (.cells #[.int .i64 0,.int .i64 0,.int .i64 0,.int .i64 0,.int .i64 0,.int .u64 0,.slice none 0 0,.slice none 0 0] 52 (0,0))
  simp only [World.size_alloc] at this
  exact this
 have hcell:∀ i,i<16->w.cell? ⟨bH,pre.length+i,none⟩=([x0,x1,.pointer (some ⟨bW,0,none⟩),.int .i64 (p:Int),x4,x5,x6,x7,x8,x9,wC,.int .i64 er,.int .u64 (vl:Int),.slice la ln lc,.slice none 0 0,xM]:List Value)[i]?:=λi hi=>by rw [aA hH];exact fG (by simpa using hi)
 have hHl:=aC hH
 have hWl:bW<w.heap.size:=World.block_lt_of_cell? _ _ c6
 have hMl:=aC hM
 have m1:w.cell? ⟨bM,p,none⟩=some (.slice none 0 0):=by rw [aA hM];simpa using hMv
 have l1:(p:Int)<(n:Int):=by omega
 have lw:IntKind.i64.wrap (p:Int)=(p:Int):=by rw [IntKind.wrap_i64];omega
 have lm:IntKind.i64.wrap (2*(now:Int))=2*(now:Int):=by rw [IntKind.wrap_i64];omega
 have lm2:wrap64 (2*(now:Int))=2*(now:Int):=by unfold wrap64;omega
 have HC:=Lib.hid hcell;have K6:=Lib.hid c6;have K7:=Lib.hid c7;have M1:=Lib.hid m1;have Gb:=Lib.hid gb;have B1:=Lib.hid hB1;have B2:=Lib.hid hB2;have Hwb:=Lib.hid hwb
 have keep:∀(u:World),Chg (λb=>w.heap.size<=b) w u->u.cell? ⟨bH,pre.length+2,none⟩=some (.pointer (some ⟨bW,0,none⟩))/\u.cell? ⟨bH,pre.length+3,none⟩=some (.int .i64 (p:Int))/\u.cell? ⟨bH,pre.length+11,none⟩=some (.int .i64 er)/\u.cell? ⟨bH,pre.length+12,none⟩=some (.int .u64 (vl:Int))/\u.cell? ⟨bH,pre.length+13,none⟩=some (.slice la ln lc)/\u.cell? ⟨bH,pre.length+14,none⟩=some (.slice none 0 0)/\u.cell? ⟨bW,6,none⟩=some (.int .i64 (now:Int))/\u.cell? ⟨bW,7,none⟩=some (.slice (some ⟨bM,0,none⟩) n mc)/\u.cell? ⟨bM,p,none⟩=some (.slice none 0 0):=λu hc=>
  ⟨(hc.cell hHl (by simpa using hHl)).trans (HC.out 2 (by decide)),(hc.cell hHl (by simpa using hHl)).trans (HC.out 3 (by decide)),(hc.cell hHl (by simpa using hHl)).trans (HC.out 11 (by decide)),(hc.cell hHl (by simpa using hHl)).trans (HC.out 12 (by decide)),(hc.cell hHl (by simpa using hHl)).trans (HC.out 13 (by decide)),(hc.cell hHl (by simpa using hHl)).trans (HC.out 14 (by decide)),(hc.cell hWl (by simpa using hWl)).trans (K6.out),(hc.cell hWl (by simpa using hWl)).trans (K7.out),(hc.cell hMl (by simpa using hMl)).trans (M1.out)⟩
 have Keep:=Lib.hid keep
 have gcb:Chg (λb=>w.heap.size<=b) w wb:=Chg.of_below gb
 have Gc:=Lib.hid gcb
 obtain⟨c2,c3,c11,c12,c13,c14,k6,k7,m1'⟩:=keep wb gcb
 have e2:wb.cell? ⟨w.heap.size,2,none⟩=some (.int .i64 (rs:Int)):=by rw [aA hB1];rfl
 have Io:wb.frozen? ⟨w.heap.size,2,none⟩=false:=aB hB1 _
 clear hcell c6 c7 m1 gb hB1 hB2 hwb keep gcb hH hM hMv c3 c11 c12 c13 c14 k7 m1'
 go_enter Tryz.func43,Tryz.ntmps43
 go_upto_region 1 with fail
 rw [<-Hwb.out]
 go_upto_region 3 with fail
 obtain⟨w1,hw1⟩:∃ w1,w1=wb.setCell ⟨w.heap.size,2,none⟩ (.int .i64 (now:Int)):=⟨_,rfl⟩
 rw [<-hw1]
 have h1:w1.heap[w.heap.size]?=some (.cells #[.int .i64 (c:Int),.int .i64 (iv:Int),.int .i64 (now:Int),.int .i64 (st:Int),.int .i64 OJ,.int .u64 (LF:Int),.slice a0 n0 k0,.slice a1 n1 k1] 52 (0,0)):=by rw [hw1];exact aG B1.out _ _
 have g1:Chg (λb=>w.heap.size<=b) w w1:=by rw [hw1];exact Gc.out.setCell (p:=⟨w.heap.size,2,none⟩) (.inr (Nat.le_refl _)) _
 have z1:w1.heap[w.heap.size+1]?=some (.cells #[.int .i64 0,.int .i64 0,.int .i64 0,.int .i64 0,.int .i64 0,.int .u64 0,.slice none 0 0,.slice none 0 0] 52 (0,0)):=by rw [hw1];exact(aH (by simp) _ _).trans B2.out
 obtain⟨c2,c3,c11,c12,c13,c14,k6,k7,m1⟩:=Keep.out w1 g1
 have G1:=Lib.hid g1;have Z1:=Lib.hid z1;have H1:=Lib.hid h1
 have hl1:=aC h1
 have e4:w1.cell? ⟨w.heap.size,4,none⟩=some (.int .i64 OJ):=by rw [aA h1];rfl
 have Kv:w1.frozen? ⟨w.heap.size,4,none⟩=false:=aB h1 _
 have e5:w1.cell? ⟨w.heap.size,5,none⟩=some (.int .u64 (LF:Int)):=by rw [aA h1];rfl
 have Gh:w1.frozen? ⟨w.heap.size,5,none⟩=false:=aB h1 _
 have e6:w1.cell? ⟨w.heap.size,6,none⟩=some (.slice a0 n0 k0):=by rw [aA h1];rfl
 have Jq:w1.frozen? ⟨w.heap.size,6,none⟩=false:=aB h1 _
 clear e2 Io hw1 g1 z1 h1 c2 c3 c14 k6 k7 m1
 refine bU ((λu=>u.cell? ⟨bH,pre.length+11,none⟩=some (.int .i64 er)/\u.cell? ⟨bH,pre.length+12,none⟩=some (.int .u64 (vl:Int))/\u.cell? ⟨bH,pre.length+13,none⟩=some (.slice la ln lc))) 14 (by kernel_rfl) ?hS0L4 ?_
 case hS0L4=>
  exact⟨c11,c12,c13⟩
 intro hS hcl
 refine wL (i:=0) 15 rfl hcl hS ?_
 clear hcl;intro hcl
 (simp only [Act.put,zs])
 refine wL (i:=1) 15 rfl hcl hS ?_
 clear hcl;intro hcl
 (simp only [Act.put,zs])
 refine wL (i:=2) 15 rfl hcl hS ?_
 clear hcl;intro hcl
 (simp only [Act.put,zs])
 refine wL (i:=3) 15 rfl hcl hS ?_
 clear hcl;intro hcl
 (simp only [Act.put,zs])
 refine wL (i:=4) 15 rfl hcl hS ?_
 clear hcl;intro hcl
 (simp only [Act.put,zs])
 refine wL (i:=5) 15 rfl hcl hS ?_
 clear hcl;intro hcl
 (simp only [Act.put,zs])
 refine wL (i:=6) 15 rfl hcl hS ?_
 clear hcl;intro hcl
 (simp only [Act.put,zs])
 refine wL (i:=7) 15 rfl hcl hS ?_
 clear hcl;intro hcl
 (simp only [Act.put,zs])
 refine wL (i:=8) 15 rfl hcl hS ?_
 clear hcl;intro hcl
 (simp only [Act.put,zs])
 refine wL (i:=9) 15 rfl hcl hS ?_
 clear hcl;intro hcl
 (simp only [Act.put,zs])
 refine wL (i:=10) 15 rfl hcl hS ?_
 clear hcl;intro hcl
 (simp only [Act.put,zs])
 refine wL (i:=11) 15 rfl hcl hS ?_
 clear hcl;intro hcl
 (simp only [Act.put,zs])
 refine wL (i:=12) 15 rfl hcl hS ?_
 clear hcl;intro hcl
 (simp only [Act.put,zs])
 refine wL (i:=13) 15 rfl hcl hS ?_
 clear hcl;intro hcl
 (simp only [Act.put,zs])
 refine aL (i:=14) (by kernel_rfl) rfl hcl (λK' hK=>?_)
 have HK:=Lib.hid hK;clear hK
 ((rw [if_pos (by kernel_rfl)]);(simp only [zq1,zq2,zq3]);go_big_op)
 refine HK.out _ _ (λh=>by cases h.symm.trans (by kernel_rfl:_=true)) (λ_=>bV (by kernel_rfl) ?_ _)
 clear HK
 (clear hS)
 obtain⟨w2,hw2⟩:∃ w2,w2=(((w1.setCell ⟨w.heap.size,4,none⟩ (.int .i64 er)).setCell ⟨w.heap.size,5,none⟩ (.int .u64 (vl:Int))).setCell ⟨w.heap.size,6,none⟩ (.slice la ln lc)).drew:=⟨_,rfl⟩
 rw [<-hw2]
 have h2:w2.heap[w.heap.size]?=some (.cells #[.int .i64 (c:Int),.int .i64 (iv:Int),.int .i64 (now:Int),.int .i64 (st:Int),.int .i64 er,.int .u64 (vl:Int),.slice la ln lc,.slice a1 n1 k1] 52 (0,0)):=by rw [hw2];exact aG (aG (aG H1.out _ _) _ _) _ _
 have g2:Chg (λb=>w.heap.size<=b) w w2:=by rw [hw2];exact(((G1.out.setCell (p:=⟨w.heap.size,4,none⟩) (.inr (Nat.le_refl _)) _).setCell (p:=⟨w.heap.size,5,none⟩) (.inr (Nat.le_refl _)) _).setCell (p:=⟨w.heap.size,6,none⟩) (.inr (Nat.le_refl _)) _).drew
 have z2:w2.heap[w.heap.size+1]?=some (.cells #[.int .i64 0,.int .i64 0,.int .i64 0,.int .i64 0,.int .i64 0,.int .u64 0,.slice none 0 0,.slice none 0 0] 52 (0,0)):=by rw [hw2];exact(aH (by simp) _ _).trans ((aH (by simp) _ _).trans ((aH (by simp) _ _).trans Z1.out))
 obtain⟨c2,c3,_,_,_,c14,k6,k7,m1⟩:=Keep.out w2 g2
 have G2:=Lib.hid g2;have Z2:=Lib.hid z2;have H2:=Lib.hid h2
 have e7:w2.cell? ⟨w.heap.size,7,none⟩=some (.slice a1 n1 k1):=by rw [aA h2];rfl
 have ZQ:w2.frozen? ⟨w.heap.size,7,none⟩=false:=aB h2 _
 clear e4 Kv e5 Gh e6 Jq c11 c12 c13 hw2 g2 z2 h2
 go_upto_region 6 with fail
 obtain⟨w3,hw3⟩:∃ w3,w3=w2.setCell ⟨w.heap.size,7,none⟩ (.slice none 0 0):=⟨_,rfl⟩
 rw [<-hw3]
 have h3:w3.heap[w.heap.size]?=some (.cells #[.int .i64 (c:Int),.int .i64 (iv:Int),.int .i64 (now:Int),.int .i64 (st:Int),.int .i64 er,.int .u64 (vl:Int),.slice la ln lc,.slice none 0 0] 52 (0,0)):=by rw [hw3];exact aG H2.out _ _
 have g3:Chg (λb=>w.heap.size<=b) w w3:=by rw [hw3];exact G2.out.setCell (p:=⟨w.heap.size,7,none⟩) (.inr (Nat.le_refl _)) _
 have z3:w3.heap[w.heap.size+1]?=some (.cells #[.int .i64 0,.int .i64 0,.int .i64 0,.int .i64 0,.int .i64 0,.int .u64 0,.slice none 0 0,.slice none 0 0] 52 (0,0)):=by rw [hw3];exact(aH (by simp) _ _).trans Z2.out
 obtain⟨c2,c3,_,_,_,_,k6,k7,m1⟩:=Keep.out w3 g3
 have G3:=Lib.hid g3;have Z3:=Lib.hid z3;have H3:=Lib.hid h3
 have e7:w3.cell? ⟨w.heap.size,7,none⟩=some (.slice none 0 0):=by rw [aA h3];rfl
 have ZQ:w3.frozen? ⟨w.heap.size,7,none⟩=false:=aB h3 _
 clear c14 hw3 g3 z3 h3 k6
 refine bU ((λu=>u.cell? ⟨bH,pre.length+2,none⟩=some (.pointer (some ⟨bW,0,none⟩))/\u.cell? ⟨bH,pre.length+3,none⟩=some (.int .i64 (p:Int))/\u.cell? ⟨bW,7,none⟩=some (.slice (some ⟨bM,0,none⟩) n mc)/\u.cell? ⟨bM,p,none⟩=some (.slice none 0 0))) 14 (by kernel_rfl) ?hS0L5 ?_
 case hS0L5=>
  exact⟨c2,c3,k7,m1⟩
 intro hS hcl
 refine wL (i:=0) 15 rfl hcl hS ?_
 clear hcl;intro hcl
 (simp only [Act.put,zs])
 refine wL (i:=1) 15 rfl hcl hS ?_
 clear hcl;intro hcl
 (simp only [Act.put,zs])
 refine wL (i:=2) 15 rfl hcl hS ?_
 clear hcl;intro hcl
 (simp only [Act.put,zs])
 refine wL (i:=3) 15 rfl hcl hS ?_
 clear hcl;intro hcl
 (simp only [Act.put,zs])
 refine wL (i:=4) 15 rfl hcl hS ?_
 clear hcl;intro hcl
 (simp only [Act.put,zs])
 refine wL (i:=5) 15 rfl hcl hS ?_
 clear hcl;intro hcl
 (simp only [Act.put,zs])
 refine wL (i:=6) 15 rfl hcl hS ?_
 clear hcl;intro hcl
 (simp only [Act.put,zs])
 refine wL (i:=7) 15 rfl hcl hS ?_
 clear hcl;intro hcl
 (simp only [Act.put,zs])
 refine wL (i:=8) 15 rfl hcl hS ?_
 clear hcl;intro hcl
 (simp only [Act.put,zs])
 refine wL (i:=9) 15 rfl hcl hS ?_
 clear hcl;intro hcl
 (simp only [Act.put,zs])
 refine wL (i:=10) 15 rfl hcl hS ?_
 clear hcl;intro hcl
 (simp only [Act.put,zs])
 refine wL (i:=11) 15 rfl hcl hS ?_
 clear hcl;intro hcl
 (simp only [Act.put,zs])
 refine wL (i:=12) 15 rfl hcl hS ?_
 clear hcl;intro hcl
 (simp only [Act.put,zs])
 refine wL (i:=13) 15 rfl hcl hS ?_
 clear hcl;intro hcl
 (simp only [Act.put,zs])
 refine aL (i:=14) (by kernel_rfl) rfl hcl (λK' hK=>?_)
 have HK:=Lib.hid hK;clear hK
 ((rw [if_pos (by kernel_rfl)]);(simp only [zq1,zq2,zq3]);go_big_op)
 refine HK.out _ _ (λh=>by cases h.symm.trans (by kernel_rfl:_=true)) (λ_=>bV (by kernel_rfl) ?_ _)
 clear HK
 (clear hS)
 obtain⟨w4,hw4⟩:∃ w4,w4=(w3.setCell ⟨w.heap.size,7,none⟩ (.slice none 0 0)).drew:=⟨_,rfl⟩
 rw [<-hw4]
 have h4:w4.heap[w.heap.size]?=some (.cells #[.int .i64 (c:Int),.int .i64 (iv:Int),.int .i64 (now:Int),.int .i64 (st:Int),.int .i64 er,.int .u64 (vl:Int),.slice la ln lc,.slice none 0 0] 52 (0,0)):=by rw [hw4];exact aG H3.out _ _
 have g4:Chg (λb=>w.heap.size<=b) w w4:=by rw [hw4];exact(G3.out.setCell (p:=⟨w.heap.size,7,none⟩) (.inr (Nat.le_refl _)) _).drew
 have z4:w4.heap[w.heap.size+1]?=some (.cells #[.int .i64 0,.int .i64 0,.int .i64 0,.int .i64 0,.int .i64 0,.int .u64 0,.slice none 0 0,.slice none 0 0] 52 (0,0)):=by rw [hw4];exact(aH (by simp) _ _).trans Z3.out
 obtain⟨c2,c3,_,_,_,_,k6,k7,m1⟩:=Keep.out w4 g4
 have G4:=Lib.hid g4;have Z4:=Lib.hid z4;have H4:=Lib.hid h4
 have hl4:w.heap.size<w4.heap.size:=aC h4
 have hz4:w.heap.size+1<w4.heap.size:=aC z4
 have e7:w4.cell? ⟨w.heap.size,7,none⟩=some (.slice none 0 0):=by rw [aA h4];rfl
 have ZQ:w4.frozen? ⟨w.heap.size,7,none⟩=false:=aB h4 _
 clear hw4 g4 z4 h4 c3 k7 m1
 go_upto_region 9 with fail
 obtain⟨kb,hkb⟩:∃ kb,kb=w4.heap.size:=⟨_,rfl⟩
 obtain⟨w5,ML⟩:∃ w5,w5=(w4.setCell ⟨w.heap.size,7,none⟩ (.slice (some ⟨w4.heap.size,0,none⟩) 1 1)).alloc (.cells #[.int .i64 (2*(now:Int))] 3):=⟨_,rfl⟩
 rw [<-ML,<-hkb]
 have h5:w5.heap[w.heap.size]?=some (.cells #[.int .i64 (c:Int),.int .i64 (iv:Int),.int .i64 (now:Int),.int .i64 (st:Int),.int .i64 er,.int .u64 (vl:Int),.slice la ln lc,.slice (some ⟨kb,0,none⟩) 1 1] 52 (0,0)):=by rw [ML,hkb,Below.heap_alloc _ _ _ (by simpa using hl4)];exact aG H4.out _ _
 have z5:w5.heap[w.heap.size+1]?=some (.cells #[.int .i64 0,.int .i64 0,.int .i64 0,.int .i64 0,.int .i64 0,.int .u64 0,.slice none 0 0,.slice none 0 0] 52 (0,0)):=by rw [ML,Below.heap_alloc _ _ _ (by simpa using hz4)];exact(aH (by simp) _ _).trans Z4.out
 have g5:Chg (λb=>w.heap.size<=b) w w5:=by rw [ML];exact(G4.out.setCell (p:=⟨w.heap.size,7,none⟩) (.inr (Nat.le_refl _)) _).alloc _
 have q5:w5.heap[kb]?=some (.cells #[.int .i64 (2*(now:Int))] 3 (0,0)):=by
  rw [ML,hkb]
  have:=heap_alloc_new (w4.setCell ⟨w.heap.size,7,none⟩ (.slice (some ⟨w4.heap.size,0,none⟩) 1 1)) (.cells #[.int .i64 (2*(now:Int))] 3 (0,0))
  simpa using this
 have hkw:w.heap.size+1<kb:=by omega
 have G5:=Lib.hid g5;have Z5:=Lib.hid z5;have Q5:=Lib.hid q5
 clear e7 ZQ
 have e0:w5.cell? ⟨w.heap.size,0,none⟩=some (.int .i64 (c:Int)):=by rw [aA h5];rfl
 have Ya:w5.frozen? ⟨w.heap.size,0,none⟩=false:=aB h5 _
 have e1:w5.cell? ⟨w.heap.size,1,none⟩=some (.int .i64 (iv:Int)):=by rw [aA h5];rfl
 have Sw:w5.frozen? ⟨w.heap.size,1,none⟩=false:=aB h5 _
 have e2:w5.cell? ⟨w.heap.size,2,none⟩=some (.int .i64 (now:Int)):=by rw [aA h5];rfl
 have Io:w5.frozen? ⟨w.heap.size,2,none⟩=false:=aB h5 _
 have e3:w5.cell? ⟨w.heap.size,3,none⟩=some (.int .i64 (st:Int)):=by rw [aA h5];rfl
 have Vd:w5.frozen? ⟨w.heap.size,3,none⟩=false:=aB h5 _
 have e4:w5.cell? ⟨w.heap.size,4,none⟩=some (.int .i64 er):=by rw [aA h5];rfl
 have Kv:w5.frozen? ⟨w.heap.size,4,none⟩=false:=aB h5 _
 have e5:w5.cell? ⟨w.heap.size,5,none⟩=some (.int .u64 (vl:Int)):=by rw [aA h5];rfl
 have Gh:w5.frozen? ⟨w.heap.size,5,none⟩=false:=aB h5 _
 have e6:w5.cell? ⟨w.heap.size,6,none⟩=some (.slice la ln lc):=by rw [aA h5];rfl
 have Jq:w5.frozen? ⟨w.heap.size,6,none⟩=false:=aB h5 _
 have e7:w5.cell? ⟨w.heap.size,7,none⟩=some (.slice (some ⟨kb,0,none⟩) 1 1):=by rw [aA h5];rfl
 have ZQ:w5.frozen? ⟨w.heap.size,7,none⟩=false:=aB h5 _
 have Uk:w5.cell? ⟨w.heap.size+1,0,none⟩=some (.int .i64 0):=by rw [aA z5];rfl
 have Ja:w5.frozen? ⟨w.heap.size+1,0,none⟩=false:=aB z5 _
 have Wz:w5.cell? ⟨w.heap.size+1,1,none⟩=some (.int .i64 0):=by rw [aA z5];rfl
 have Kq:w5.frozen? ⟨w.heap.size+1,1,none⟩=false:=aB z5 _
 have Vs:w5.cell? ⟨w.heap.size+1,2,none⟩=some (.int .i64 0):=by rw [aA z5];rfl
 have Ie:w5.frozen? ⟨w.heap.size+1,2,none⟩=false:=aB z5 _
 have Ve:w5.cell? ⟨w.heap.size+1,3,none⟩=some (.int .i64 0):=by rw [aA z5];rfl
 have Jo:w5.frozen? ⟨w.heap.size+1,3,none⟩=false:=aB z5 _
 have Zf:w5.cell? ⟨w.heap.size+1,4,none⟩=some (.int .i64 0):=by rw [aA z5];rfl
 have Iw:w5.frozen? ⟨w.heap.size+1,4,none⟩=false:=aB z5 _
 have Vh:w5.cell? ⟨w.heap.size+1,5,none⟩=some (.int .u64 0):=by rw [aA z5];rfl
 have Ed:w5.frozen? ⟨w.heap.size+1,5,none⟩=false:=aB z5 _
 have Yx:w5.cell? ⟨w.heap.size+1,6,none⟩=some (.slice none 0 0):=by rw [aA z5];rfl
 have Kn:w5.frozen? ⟨w.heap.size+1,6,none⟩=false:=aB z5 _
 have Xq:w5.cell? ⟨w.heap.size+1,7,none⟩=some (.slice none 0 0):=by rw [aA z5];rfl
 have Em:w5.frozen? ⟨w.heap.size+1,7,none⟩=false:=aB z5 _
 clear ML g5 z5 q5 h5 hkb c2 k6 Ya Sw Io Vd Kv Gh Jq ZQ
 go_wp2
 obtain⟨w6,kK⟩:∃ w6,w6=((((((((w5.setCell ⟨w.heap.size+1,0,none⟩ (.int .i64 (c:Int))).setCell ⟨w.heap.size+1,1,none⟩ (.int .i64 (iv:Int))).setCell ⟨w.heap.size+1,2,none⟩ (.int .i64 (now:Int))).setCell ⟨w.heap.size+1,3,none⟩ (.int .i64 (st:Int))).setCell ⟨w.heap.size+1,4,none⟩ (.int .i64 er)).setCell ⟨w.heap.size+1,5,none⟩ (.int .u64 (vl:Int))).setCell ⟨w.heap.size+1,6,none⟩ (.slice la ln lc)).setCell ⟨w.heap.size+1,7,none⟩ (.slice (some ⟨kb,0,none⟩) 1 1)):=⟨_,rfl⟩
 rw [<-kK]
 have h6:w6.heap[w.heap.size+1]?=some (.cells #[.int .i64 (c:Int),.int .i64 (iv:Int),.int .i64 (now:Int),.int .i64 (st:Int),.int .i64 er,.int .u64 (vl:Int),.slice la ln lc,.slice (some ⟨kb,0,none⟩) 1 1] 52 (0,0)):=by rw [kK];exact(aG (aG (aG (aG (aG (aG (aG (aG Z5.out 0 (.int .i64 (c:Int))) 1 (.int .i64 (iv:Int))) 2 (.int .i64 (now:Int))) 3 (.int .i64 (st:Int))) 4 (.int .i64 er)) 5 (.int .u64 (vl:Int))) 6 (.slice la ln lc)) 7 (.slice (some ⟨kb,0,none⟩) 1 1))
 have g6:Chg (λb=>w.heap.size<=b) w w6:=by rw [kK];exact((((((((G5.out.setCell (p:=⟨w.heap.size+1,0,none⟩) (.inr (Nat.le_succ _)) _).setCell (p:=⟨w.heap.size+1,1,none⟩) (.inr (Nat.le_succ _)) _).setCell (p:=⟨w.heap.size+1,2,none⟩) (.inr (Nat.le_succ _)) _).setCell (p:=⟨w.heap.size+1,3,none⟩) (.inr (Nat.le_succ _)) _).setCell (p:=⟨w.heap.size+1,4,none⟩) (.inr (Nat.le_succ _)) _).setCell (p:=⟨w.heap.size+1,5,none⟩) (.inr (Nat.le_succ _)) _).setCell (p:=⟨w.heap.size+1,6,none⟩) (.inr (Nat.le_succ _)) _).setCell (p:=⟨w.heap.size+1,7,none⟩) (.inr (Nat.le_succ _)) _)
 have q6:w6.heap[kb]?=some (.cells #[.int .i64 (2*(now:Int))] 3 (0,0)):=by rw [kK];exact((aH (by omega) _ _).trans ((aH (by omega) _ _).trans ((aH (by omega) _ _).trans ((aH (by omega) _ _).trans ((aH (by omega) _ _).trans ((aH (by omega) _ _).trans ((aH (by omega) _ _).trans ((aH (by omega) _ _).trans Q5.out))))))))
 clear kK Uk Ja e0 Wz Kq e1 Vs Ie e2 Ve Jo e3 Zf Iw e4 Vh Ed e5 Yx Kn e6 Xq Em e7
 have hld:=BK w6 _ _ h6 rfl
 refine bodyPost_ret (v:=.agg #[.int .i64 (c:Int),.int .i64 (iv:Int),.int .i64 (now:Int),.int .i64 (st:Int),.int .i64 er,.int .u64 (vl:Int),.slice la ln lc,.slice (some ⟨kb,0,none⟩) 1 1]) (by simp [results,Tryz.results43 ,Sem.run_bind,Sem.run_pure,asAddr,hld]) rfl ?_
 exact⟨kb,rfl,by omega,q6,g6.below (λb h=>h) (Nat.le_refl _)⟩
end Go.Proofs.YtfkokppncipgnaaGreat
