/- Layer 14: one that writes: to change the buffer; its step. -/
import Derived.Test.YtfkokppncipgnaaGreatV35
set_option maxRecDepth 100000
set_option linter.unusedVariables false
set_option linter.unusedSimpArgs false
set_option linter.unnecessarySimpa false
namespace Go.Proofs.YtfkokppncipgnaaGreat
open List renaming getElem_toArray → zq1, getElem_cons_zero → zq2, getElem_cons_succ → zq3, setIfInBounds_toArray → zq4, set_cons_zero → zq5, set_cons_succ → zq6
open Go.RowKit
theorem and_low32 (x:Nat) (hx:x<18446744073709551616):bits .and .u64 (x:Int) 4294967295=((x % 4294967296:Nat):Int):=by
 have:=u64_and_nat x 4294967295 hx (by omega)
 rw [show(4294967295:Nat)=2^32 - 1 from rfl,Nat.and_two_pow_sub_one_eq_mod] at this
 exact this
def ChangeTo (w w':World) (Mut B:Nat->Prop) (I:WIds) (N:Nat) (wd:WD) (n k bP bC b v q i ph:Nat) (o:PinO) (e:Ending):Prop:=
 e=.returned (.bool true)/\Chg (λj=>WSet I j∨(j=bP∨j=bC)∨B j) w w'/\WorldAt w' (mutTo Mut B (λj=>j=b)) I N wd/\PinAt w' bP bC n k o/\w'.heap[b]?=some (.cells (piWr bP b v q i ph) 257 (0,0))
theorem memAdd_val {w:World} {bm:Nat} {bw:Option Nat} {m:MemD} (h:MemAt w bm bw m) (a:Int) (d:Nat):(memAdd m a d).2<18446744073709551616:=by
 have:=memRead_val h a
 unfold memAdd memRead at *
 split<;>simp_all
set_option maxHeartbeats 8000000 in
theorem wr_change (w:World) (Mut B:Nat->Prop) (I:WIds) (N:Nat) (wd:WD) (n k bP bC b v q i ph:Nat) (o:PinO) (hw:WorldAt w Mut I N wd) (hP:PinAt w bP bC n k o) (hbk:w.heap[b]?=some (.cells (piWr bP b v q i ph) 257 (0,0))) (hb:B b) (hB:∀ b,B b->Mut b/\¬ WSet I b) (hcn:wd.mem.c.all+1<1000000000000)
  (hq:q<=n) (hn:n<=16) (hne:bP≠b/\bC≠b) (hPC:bP≠bC) (hWP:¬ WSet I bP/\¬ WSet I bC) (hMP:Mut bP/\Mut bC) (hBP:¬ B bP/\¬ B bC) :
  Calls Tryz.prog 169 #[.pointer (some ⟨b,0,none⟩),.pointer (some ⟨I.bW,0,none⟩)] w λe w'=>ChangeTo w w' Mut B I N (doAdd wd 0 (piDiff q o.now)) n k bP bC b v q i ph ⟨piCome o (adGot wd 0 (piDiff q o.now) % 4294967296),adGot wd 0 (piDiff q o.now) % 4294967296,q⟩ e:=by
 obtain⟨s1,s2,s3⟩:=memSet_sub hw
 obtain⟨mks,hwb,_,_⟩:=hw.blk
 have x0:w.cell? ⟨I.bW,0,none⟩=some (.pointer (some ⟨I.bm,0,none⟩)):=by rw [cell_blk hwb];exact world_mem
 have y0:w.cell? ⟨b,0,none⟩=some (.pointer (some ⟨bP,0,none⟩)):=by rw [cell_blk hbk];rfl
 have y2:w.cell? ⟨b,2,none⟩=some (.int .i64 (q:Int)):=by rw [cell_blk hbk];rfl
 have p0:w.cell? ⟨bP,0,none⟩=some (.int .i64 0):=by rw [cell_blk hP.blk];rfl
 have p5:w.cell? ⟨bP,5,none⟩=some (.int .i64 (o.now:Int)):=by rw [cell_blk hP.blk];rfl
 have hblt:=blk_lt hbk
 have nb:¬ MemSet I.bm I.bw b:=λh=>(hB b hb).2 (s3 b h).1
 have nP:¬ MemSet I.bm I.bw bP:=λh=>hWP.1 (s3 bP h).1
 have nC:¬ MemSet I.bm I.bw bC:=λh=>hWP.2 (s3 bC h).1
 have hnow:=hP.nle
 have hlen:=hP.len
 obtain⟨D,hD⟩:∃ D,D=piDiff q o.now:=⟨_,rfl⟩
 have hgl:adGot wd 0 D<18446744073709551616:=memAdd_val hw.mem 0 D
 obtain⟨r,hr⟩:∃ r,r=adGot wd 0 D:=⟨_,rfl⟩
 have Ad:=Lib.hid (λ(u:World) (h:Chg noB w u)=>add_any I.bm I.bw wd.mem 0 D u (hw.mem.chg h (λh=>h) (λ_ _ h=>h)) hcn)
 rw [show(memAdd wd.mem 0 D).2=r from hr.symm] at Ad
 obtain⟨c,hc⟩:∃ c,c=r % 4294967296:=⟨_,rfl⟩
 obtain⟨now,hno⟩:∃ now,now=o.now:=⟨_,rfl⟩
 obtain⟨last,hla⟩:∃ last,last=o.last:=⟨_,rfl⟩
 obtain⟨cn,hcn2⟩:∃ cn,cn=o.come.getD o.now 0:=⟨_,rfl⟩
 have hcnl:cn<18446744073709551616:=by
  rw [hcn2]
  rw [List.getD_eq_getElem?_getD,List.getElem?_eq_getElem (by omega)]
  exact hP.small _ (List.getElem_mem (by omega))
 have hlal:=hP.lsm
 have E1:=and_low32 r (by rw [hr];exact hgl)
 rw [<-hc] at E1
 rw [<-hD,<-hr,<-hc]
 rw [<-hno] at p5 hnow
 rw [<-hla] at hlal
 obtain⟨D1,hD1⟩:∃ D1,D1=(q+18446744073709551616 - now) % 18446744073709551616:=⟨_,rfl⟩
 have hDD:D=D1*4294967296 % 18446744073709551616:=by rw [hD,hD1,hno];rfl
 have wq:IntKind.u64.wrap (q:Int)=(q:Int):=by rw [IntKind.wrap_u64];omega
 have wn:IntKind.u64.wrap (now:Int)=(now:Int):=by rw [IntKind.wrap_u64];omega
 have wd1:IntKind.u64.wrap ((q:Int) - (now:Int))=(D1:Int):=by rw [hD1,IntKind.wrap_u64];omega
 have wd2:IntKind.u64.wrap ((D1:Int)*4294967296)=(D:Int):=by rw [hDD,IntKind.wrap_u64];omega
 have wd3:IntKind.u64.wrap ((D1:Int)*2^32)=(D:Int):=by rw [hDD,IntKind.wrap_u64];omega
 obtain⟨D2,hD2⟩:∃ D2,D2=(c+18446744073709551616 - last) % 18446744073709551616:=⟨_,rfl⟩
 obtain⟨x,hx⟩:∃ x,x=(cn+D2) % 18446744073709551616:=⟨_,rfl⟩
 have hcl:c<4294967296:=by rw [hc];omega
 have wc1:IntKind.u64.wrap ((c:Int) - (last:Int))=(D2:Int):=by rw [hD2,IntKind.wrap_u64];omega
 have wc2:IntKind.u64.wrap ((cn:Int)+(D2:Int))=(x:Int):=by rw [hx,IntKind.wrap_u64];omega
 have hpc:piCome o c=o.come.set now x:=by unfold piCome;rw [hx,hD2,hno,hla,hcn2]
 have Hw:=Lib.hid hw;have Hbk:=Lib.hid hbk;have Nb:=Lib.hid nb;have HB:=Lib.hid hB;have Hb:=Lib.hid hb;have S2:=Lib.hid s2;have NP:=Lib.hid nP;have NC:=Lib.hid nC;have HP:=Lib.hid hP;have Hne:=Lib.hid hne;have Hpc:=Lib.hid hpc;have HPC:=Lib.hid hPC;have HWP:=Lib.hid hWP;have HMP:=Lib.hid hMP;have HBP:=Lib.hid hBP
 have Hno:=Lib.hid hno;have Hla:=Lib.hid hla;have Hcn2:=Lib.hid hcn2;have Hq:=Lib.hid hq;have Hlen:=Lib.hid hlen;have Hxl:=Lib.hid (show x<18446744073709551616 by rw [hx];omega);have Hcl:=Lib.hid hcl
 have hnl:(now:Int)<((n+1:Nat):Int):=by omega
 have hn0:(now:Int)<=16:=by omega
 obtain⟨n1,hn1⟩:∃ n1,n1=n+1:=⟨_,rfl⟩
 rw [<-hn1] at hnl
 have Hn1:=Lib.hid hn1
 clear hw hbk hwb s1 s2 s3 nb hB hb hq hn nP nC hP hne hWP hD hr hc hno hla hcn2 hD1 hDD hD2 hx hcl hpc hgl hlen hPC hMP hBP hn1 hcn hnow
 go_enter Tryz.func169,Tryz.ntmps169
 go_wp2_with fail
 go_region_held3 (λu=>u.cell? ⟨I.bW,0,none⟩=some (.pointer (some ⟨I.bm,0,none⟩))/\u.cell? ⟨b,0,none⟩=some (.pointer (some ⟨bP,0,none⟩))/\u.cell? ⟨b,2,none⟩=some (.int .i64 (q:Int))/\u.cell? ⟨bP,0,none⟩=some (.int .i64 0)/\u.cell? ⟨bP,5,none⟩=some (.int .i64 (now:Int)))
  (first|exact⟨x0,y0,y2,p0,p5⟩|exact⟨z0,zw,z2,z3,z4⟩)
  ((go_at_call 172;refine(Ad.out _ ?_).mono ?_;(exact(Chg.refl _ _).drew);rintro e w1 ⟨rfl,hm1,hc1⟩;have hc1':Chg (MemSet I.bm I.bw) w w1:=((Chg.refl _ w).drew).trans hc1;have z0:=box_keep hc1' S2.out x0;have hbk1:=(hc1'.block b hblt Nb.out).trans Hbk.out;have zw:=box_keep hc1' Nb.out y0;have z2:=box_keep hc1' Nb.out y2;have z3:=box_keep hc1' NP.out p0;have z4:=box_keep hc1' NP.out p5))
 obtain⟨hw1,hch1⟩:=Hw.out.mems hc1' hm1
 have hP1:=HP.out.chg hc1' NP.out NC.out
 have b0:=zw
 have b2:=z2
 have g3:=hP1.slice
 rw [<-Hn1.out] at g3
 have g4:w1.cell? ⟨bP,4,none⟩=some (.int .u64 (last:Int)):=by rw [cell_blk hP1.blk,Hla.out];rfl
 have g5:=z4
 have gc:w1.cell? ⟨bC,now,none⟩=some (.int .u64 (cn:Int)):=by rw [Hno.out,hP1.cellq HP.out.nle,Hcn2.out]
 have gf:=frozen_blk hP1.come now
 have Hw1:=Lib.hid hw1;have Hch1:=Lib.hid hch1;have HP1:=Lib.hid hP1;have Hbk1:=Lib.hid hbk1
 have lC:=blk_lt hP1.come;have lP:=blk_lt hP1.blk;have lb1:=blk_lt hbk1
 clear hw1 hch1 hc1 hc1' hm1 hP1 hbk1 x0 y0 y2 p0 p5 z0 zw z2 z3 z4
 go_upto_region 3 with fail
 refine wp_region_L ((λu=>u.cell? ⟨b,0,none⟩=some (.pointer (some ⟨bP,0,none⟩))/\u.cell? ⟨bP,3,none⟩=some (.slice (some ⟨bC,0,none⟩) n1 n1)/\u.cell? ⟨bP,4,none⟩=some (.int .u64 (last:Int))/\u.cell? ⟨bP,5,none⟩=some (.int .i64 (now:Int))/\u.cell? ⟨bC,now,none⟩=some (.int .u64 (cn:Int)))) 27 (by kernel_rfl) ?hS0L1 ?_
 case hS0L1=>
  (try dsimp only)
  (exact⟨b0,g3,g4,g5,gc⟩)
 intro hS hcl
 refine wpAnyL_take (i:=0) (v:=?tv0L1) 28 rfl (by kernel_rfl) (by kernel_rfl) (by kernel_rfl) (by kernel_rfl) (by kernel_rfl) hcl (by first|exact λ_ _ _ h=>h|exact λ_ _ _ h=>HQp.out _ _ _ _ h) (Or.inl ⟨by rfl,?th0L1⟩) hS ?tr0L1
 (case th0L1=>(intro w hSw;(try dsimp only at hSw);go_simp;try with_reducible rfl))
 clear hcl;intro hcl
 (try simp only [Act.put,zq1,zq2,zq3,zq4,zq5,zq6])
 refine wpAnyL_take (i:=1) (v:=?tv1L1) 28 rfl (by kernel_rfl) (by kernel_rfl) (by kernel_rfl) (by kernel_rfl) (by kernel_rfl) hcl (by first|exact λ_ _ _ h=>h|exact λ_ _ _ h=>HQp.out _ _ _ _ h) (Or.inl ⟨by rfl,?th1L1⟩) hS ?tr1L1
 (case th1L1=>(intro w hSw;(try dsimp only at hSw);go_simp;try with_reducible rfl))
 clear hcl;intro hcl
 (try simp only [Act.put,zq1,zq2,zq3,zq4,zq5,zq6])
 refine wpAnyL_take (i:=2) (v:=?tv2L1) 28 rfl (by kernel_rfl) (by kernel_rfl) (by kernel_rfl) (by kernel_rfl) (by kernel_rfl) hcl (by first|exact λ_ _ _ h=>h|exact λ_ _ _ h=>HQp.out _ _ _ _ h) (Or.inl ⟨by rfl,?th2L1⟩) hS ?tr2L1
 (case th2L1=>(intro w hSw;(try dsimp only at hSw);go_simp;try with_reducible rfl))
 clear hcl;intro hcl
 (try simp only [Act.put,zq1,zq2,zq3,zq4,zq5,zq6])
 refine wpAnyL_take (i:=3) (v:=?tv3L1) 28 rfl (by kernel_rfl) (by kernel_rfl) (by kernel_rfl) (by kernel_rfl) (by kernel_rfl) hcl (by first|exact λ_ _ _ h=>h|exact λ_ _ _ h=>HQp.out _ _ _ _ h) (Or.inl ⟨by rfl,?th3L1⟩) hS ?tr3L1
 (case th3L1=>(intro w hSw;(try dsimp only at hSw);go_simp;try with_reducible rfl))
 clear hcl;intro hcl
 (try simp only [Act.put,zq1,zq2,zq3,zq4,zq5,zq6])
 refine wpAnyL_take (i:=4) (v:=?tv4L1) 28 rfl (by kernel_rfl) (by kernel_rfl) (by kernel_rfl) (by kernel_rfl) (by kernel_rfl) hcl (by first|exact λ_ _ _ h=>h|exact λ_ _ _ h=>HQp.out _ _ _ _ h) (Or.inl ⟨by rfl,?th4L1⟩) hS ?tr4L1
 (case th4L1=>(intro w hSw;(try dsimp only at hSw);go_simp;try with_reducible rfl))
 clear hcl;intro hcl
 (try simp only [Act.put,zq1,zq2,zq3,zq4,zq5,zq6])
 refine wpAnyL_take (i:=5) (v:=?tv5L1) 28 rfl (by kernel_rfl) (by kernel_rfl) (by kernel_rfl) (by kernel_rfl) (by kernel_rfl) hcl (by first|exact λ_ _ _ h=>h|exact λ_ _ _ h=>HQp.out _ _ _ _ h) (Or.inl ⟨by rfl,?th5L1⟩) hS ?tr5L1
 (case th5L1=>(intro w hSw;(try dsimp only at hSw);go_simp;try with_reducible rfl))
 clear hcl;intro hcl
 (try simp only [Act.put,zq1,zq2,zq3,zq4,zq5,zq6])
 refine wpAnyL_take (i:=6) (v:=?tv6L1) 28 rfl (by kernel_rfl) (by kernel_rfl) (by kernel_rfl) (by kernel_rfl) (by kernel_rfl) hcl (by first|exact λ_ _ _ h=>h|exact λ_ _ _ h=>HQp.out _ _ _ _ h) (Or.inl ⟨by rfl,?th6L1⟩) hS ?tr6L1
 (case th6L1=>(intro w hSw;(try dsimp only at hSw);go_simp;try with_reducible rfl))
 clear hcl;intro hcl
 (try simp only [Act.put,zq1,zq2,zq3,zq4,zq5,zq6])
 refine wpAnyL_take (i:=7) (v:=?tv7L1) 28 rfl (by kernel_rfl) (by kernel_rfl) (by kernel_rfl) (by kernel_rfl) (by kernel_rfl) hcl (by first|exact λ_ _ _ h=>h|exact λ_ _ _ h=>HQp.out _ _ _ _ h) (Or.inl ⟨by rfl,?th7L1⟩) hS ?tr7L1
 (case th7L1=>(intro w hSw;(try dsimp only at hSw);go_simp;try with_reducible rfl))
 clear hcl;intro hcl
 (try simp only [Act.put,zq1,zq2,zq3,zq4,zq5,zq6])
 refine wpAnyL_take (i:=8) (v:=?tv8L1) 28 rfl (by kernel_rfl) (by kernel_rfl) (by kernel_rfl) (by kernel_rfl) (by kernel_rfl) hcl (by first|exact λ_ _ _ h=>h|exact λ_ _ _ h=>HQp.out _ _ _ _ h) (Or.inl ⟨by rfl,?th8L1⟩) hS ?tr8L1
 (case th8L1=>(intro w hSw;(try dsimp only at hSw);go_simp;try with_reducible rfl))
 clear hcl;intro hcl
 (try simp only [Act.put,zq1,zq2,zq3,zq4,zq5,zq6])
 refine wpAnyL_take (i:=9) (v:=?tv9L1) 28 rfl (by kernel_rfl) (by kernel_rfl) (by kernel_rfl) (by kernel_rfl) (by kernel_rfl) hcl (by first|exact λ_ _ _ h=>h|exact λ_ _ _ h=>HQp.out _ _ _ _ h) (Or.inl ⟨by rfl,?th9L1⟩) hS ?tr9L1
 (case th9L1=>(intro w hSw;(try dsimp only at hSw);go_simp;try with_reducible rfl))
 clear hcl;intro hcl
 (try simp only [Act.put,zq1,zq2,zq3,zq4,zq5,zq6])
 refine wpAnyL_take (i:=10) (v:=?tv10L1) 28 rfl (by kernel_rfl) (by kernel_rfl) (by kernel_rfl) (by kernel_rfl) (by kernel_rfl) hcl (by first|exact λ_ _ _ h=>h|exact λ_ _ _ h=>HQp.out _ _ _ _ h) (Or.inl ⟨by rfl,?th10L1⟩) hS ?tr10L1
 (case th10L1=>(intro w hSw;(try dsimp only at hSw);go_simp;try with_reducible rfl))
 clear hcl;intro hcl
 (try simp only [Act.put,zq1,zq2,zq3,zq4,zq5,zq6])
 refine wpAnyL_take (i:=11) (v:=?tv11L1) 28 rfl (by kernel_rfl) (by kernel_rfl) (by kernel_rfl) (by kernel_rfl) (by kernel_rfl) hcl (by first|exact λ_ _ _ h=>h|exact λ_ _ _ h=>HQp.out _ _ _ _ h) (Or.inl ⟨by rfl,?th11L1⟩) hS ?tr11L1
 (case th11L1=>(intro w hSw;(try dsimp only at hSw);go_simp;try with_reducible rfl))
 clear hcl;intro hcl
 (try simp only [Act.put,zq1,zq2,zq3,zq4,zq5,zq6])
 refine wpAnyL_take (i:=12) (v:=?tv12L1) 28 rfl (by kernel_rfl) (by kernel_rfl) (by kernel_rfl) (by kernel_rfl) (by kernel_rfl) hcl (by first|exact λ_ _ _ h=>h|exact λ_ _ _ h=>HQp.out _ _ _ _ h) (Or.inl ⟨by rfl,?th12L1⟩) hS ?tr12L1
 (case th12L1=>(intro w hSw;(try dsimp only at hSw);go_simp;try with_reducible rfl))
 clear hcl;intro hcl
 (try simp only [Act.put,zq1,zq2,zq3,zq4,zq5,zq6])
 refine wpAnyL_take (i:=13) (v:=?tv13L1) 28 rfl (by kernel_rfl) (by kernel_rfl) (by kernel_rfl) (by kernel_rfl) (by kernel_rfl) hcl (by first|exact λ_ _ _ h=>h|exact λ_ _ _ h=>HQp.out _ _ _ _ h) (Or.inl ⟨by rfl,?th13L1⟩) hS ?tr13L1
 (case th13L1=>(intro w hSw;(try dsimp only at hSw);go_simp;try with_reducible rfl))
 clear hcl;intro hcl
 (try simp only [Act.put,zq1,zq2,zq3,zq4,zq5,zq6])
 refine wpAnyL_take (i:=14) (v:=?tv14L1) 28 rfl (by kernel_rfl) (by kernel_rfl) (by kernel_rfl) (by kernel_rfl) (by kernel_rfl) hcl (by first|exact λ_ _ _ h=>h|exact λ_ _ _ h=>HQp.out _ _ _ _ h) (Or.inl ⟨by rfl,?th14L1⟩) hS ?tr14L1
 (case th14L1=>(intro w hSw;(try dsimp only at hSw);go_simp;try with_reducible rfl))
 clear hcl;intro hcl
 (try simp only [Act.put,zq1,zq2,zq3,zq4,zq5,zq6])
 refine wpAnyL_take (i:=15) (v:=?tv15L1) 28 rfl (by kernel_rfl) (by kernel_rfl) (by kernel_rfl) (by kernel_rfl) (by kernel_rfl) hcl (by first|exact λ_ _ _ h=>h|exact λ_ _ _ h=>HQp.out _ _ _ _ h) (Or.inl ⟨by rfl,?th15L1⟩) hS ?tr15L1
 (case th15L1=>(intro w hSw;(try dsimp only at hSw);go_simp;try with_reducible rfl))
 clear hcl;intro hcl
 (try simp only [Act.put,zq1,zq2,zq3,zq4,zq5,zq6])
 refine wpAnyL_take (i:=16) (v:=?tv16L1) 28 rfl (by kernel_rfl) (by kernel_rfl) (by kernel_rfl) (by kernel_rfl) (by kernel_rfl) hcl (by first|exact λ_ _ _ h=>h|exact λ_ _ _ h=>HQp.out _ _ _ _ h) (Or.inl ⟨by rfl,?th16L1⟩) hS ?tr16L1
 (case th16L1=>(intro w hSw;(try dsimp only at hSw);go_simp;try with_reducible rfl))
 clear hcl;intro hcl
 (try simp only [Act.put,zq1,zq2,zq3,zq4,zq5,zq6])
 refine wpAnyL_take (i:=17) (v:=?tv17L1) 28 rfl (by kernel_rfl) (by kernel_rfl) (by kernel_rfl) (by kernel_rfl) (by kernel_rfl) hcl (by first|exact λ_ _ _ h=>h|exact λ_ _ _ h=>HQp.out _ _ _ _ h) (Or.inl ⟨by rfl,?th17L1⟩) hS ?tr17L1
 (case th17L1=>(intro w hSw;(try dsimp only at hSw);go_simp;try with_reducible rfl))
 clear hcl;intro hcl
 (try simp only [Act.put,zq1,zq2,zq3,zq4,zq5,zq6])
 refine wpAnyL_take (i:=18) (v:=?tv18L1) 28 rfl (by kernel_rfl) (by kernel_rfl) (by kernel_rfl) (by kernel_rfl) (by kernel_rfl) hcl (by first|exact λ_ _ _ h=>h|exact λ_ _ _ h=>HQp.out _ _ _ _ h) (Or.inl ⟨by rfl,?th18L1⟩) hS ?tr18L1
 (case th18L1=>(intro w hSw;(try dsimp only at hSw);go_simp;try with_reducible rfl))
 clear hcl;intro hcl
 (try simp only [Act.put,zq1,zq2,zq3,zq4,zq5,zq6])
 refine wpAnyL_take (i:=19) (v:=?tv19L1) 28 rfl (by kernel_rfl) (by kernel_rfl) (by kernel_rfl) (by kernel_rfl) (by kernel_rfl) hcl (by first|exact λ_ _ _ h=>h|exact λ_ _ _ h=>HQp.out _ _ _ _ h) (Or.inl ⟨by rfl,?th19L1⟩) hS ?tr19L1
 (case th19L1=>(intro w hSw;(try dsimp only at hSw);go_simp;try with_reducible rfl))
 clear hcl;intro hcl
 (try simp only [Act.put,zq1,zq2,zq3,zq4,zq5,zq6])
 refine wpAnyL_take (i:=20) (v:=?tv20L1) 28 rfl (by kernel_rfl) (by kernel_rfl) (by kernel_rfl) (by kernel_rfl) (by kernel_rfl) hcl (by first|exact λ_ _ _ h=>h|exact λ_ _ _ h=>HQp.out _ _ _ _ h) (Or.inl ⟨by rfl,?th20L1⟩) hS ?tr20L1
 (case th20L1=>(intro w hSw;(try dsimp only at hSw);go_simp;try with_reducible rfl))
 clear hcl;intro hcl
 (try simp only [Act.put,zq1,zq2,zq3,zq4,zq5,zq6])
 refine wpAnyL_take (i:=21) (v:=?tv21L1) 28 rfl (by kernel_rfl) (by kernel_rfl) (by kernel_rfl) (by kernel_rfl) (by kernel_rfl) hcl (by first|exact λ_ _ _ h=>h|exact λ_ _ _ h=>HQp.out _ _ _ _ h) (Or.inl ⟨by rfl,?th21L1⟩) hS ?tr21L1
 (case th21L1=>(intro w hSw;(try dsimp only at hSw);go_simp;try with_reducible rfl))
 clear hcl;intro hcl
 (try simp only [Act.put,zq1,zq2,zq3,zq4,zq5,zq6])
 refine wpAnyL_take (i:=22) (v:=?tv22L1) 28 rfl (by kernel_rfl) (by kernel_rfl) (by kernel_rfl) (by kernel_rfl) (by kernel_rfl) hcl (by first|exact λ_ _ _ h=>h|exact λ_ _ _ h=>HQp.out _ _ _ _ h) (Or.inl ⟨by rfl,?th22L1⟩) hS ?tr22L1
 (case th22L1=>(intro w hSw;(try dsimp only at hSw);go_simp;try with_reducible rfl))
 clear hcl;intro hcl
 (try simp only [Act.put,zq1,zq2,zq3,zq4,zq5,zq6])
 refine wpAnyL_take (i:=23) (v:=?tv23L1) 28 rfl (by kernel_rfl) (by kernel_rfl) (by kernel_rfl) (by kernel_rfl) (by kernel_rfl) hcl (by first|exact λ_ _ _ h=>h|exact λ_ _ _ h=>HQp.out _ _ _ _ h) (Or.inl ⟨by rfl,?th23L1⟩) hS ?tr23L1
 (case th23L1=>(intro w hSw;(try dsimp only at hSw);go_simp;try with_reducible rfl))
 clear hcl;intro hcl
 (try simp only [Act.put,zq1,zq2,zq3,zq4,zq5,zq6])
 refine wpAnyL_take (i:=24) (v:=?tv24L1) 28 rfl (by kernel_rfl) (by kernel_rfl) (by kernel_rfl) (by kernel_rfl) (by kernel_rfl) hcl (by first|exact λ_ _ _ h=>h|exact λ_ _ _ h=>HQp.out _ _ _ _ h) (Or.inl ⟨by rfl,?th24L1⟩) hS ?tr24L1
 (case th24L1=>(intro w hSw;(try dsimp only at hSw);go_simp;try with_reducible rfl))
 clear hcl;intro hcl
 (try simp only [Act.put,zq1,zq2,zq3,zq4,zq5,zq6])
 refine wpAnyL_take (i:=25) (v:=?tv25L1) 28 rfl (by kernel_rfl) (by kernel_rfl) (by kernel_rfl) (by kernel_rfl) (by kernel_rfl) hcl (by first|exact λ_ _ _ h=>h|exact λ_ _ _ h=>HQp.out _ _ _ _ h) (Or.inl ⟨by rfl,?th25L1⟩) hS ?tr25L1
 (case th25L1=>(intro w hSw;(try dsimp only at hSw);go_simp;try with_reducible rfl))
 clear hcl;intro hcl
 (try simp only [Act.put,zq1,zq2,zq3,zq4,zq5,zq6])
 refine wpAnyL_one (i:=26) (by kernel_rfl) rfl hcl (λK' hK=>?_)
 have HK:=Lib.hid hK;clear hK
 ((rw [if_pos (by kernel_rfl)]);(try simp only [zq1,zq2,zq3]);first|go_big_move|go_big_op)
 refine HK.out _ _ ?hS26L1 (λhcl=>?_)
 case hS26L1=>
  intro _
  (try dsimp only)
  (exact⟨b0,g3,g4,g5,gc⟩)
 clear HK
 (try simp only [Act.put,zq1,zq2,zq3,zq4,zq5,zq6])
 refine wpAnyL_one (i:=27) (by kernel_rfl) rfl hcl (λK' hK=>?_)
 have HK:=Lib.hid hK;clear hK
 ((rw [if_pos (by kernel_rfl)]);(try simp only [zq1,zq2,zq3]);first|go_big_move|go_big_op)
 refine HK.out _ _ (λh=>by cases h.symm.trans (by kernel_rfl:_=true)) (λ_=>wpAnyL_done (by kernel_rfl) ?_ _)
 clear HK
 (try clear hS)
 obtain⟨w2,hw2⟩:∃ w2,w2=(w1.setCell ⟨bC,now,none⟩ (.int .u64 (x:Int))).drew:=⟨_,rfl⟩
 rw [<-hw2]
 have hc2:Chg (λj=>j=bP∨j=bC) w1 w2:=by rw [hw2];exact((Chg.refl (λj=>j=bP∨j=bC) w1).setCell (by exact .inl (.inr rfl)) _).drew
 have hbC2:w2.heap[bC]?=some (.cells ((o.come.set now x).map u64V).toArray 46 (0,0)):=by
  rw [hw2]
  show(w1.setCell ⟨bC,now,none⟩ (.int .u64 (x:Int))).heap[bC]?=_
  rw [blk_set HP1.out.come]
  simp [List.map_set,u64V]
 have hbP2:w2.heap[bP]?=some (.cells (pinCells n k last now bC) 111 (0,0)):=by
  rw [hw2]
  show(w1.setCell ⟨bC,now,none⟩ (.int .u64 (x:Int))).heap[bP]?=_
  rw [blk_set_other HPC.out,Hla.out,Hno.out];exact HP1.out.blk
 have hb2:w2.heap[b]?=some (.cells (piWr bP b v q i ph) 257 (0,0)):=by
  rw [hw2]
  show(w1.setCell ⟨bC,now,none⟩ (.int .u64 (x:Int))).heap[b]?=_
  rw [blk_set_other (Ne.symm Hne.out.2)];exact Hbk1.out
 have a0:w2.cell? ⟨b,0,none⟩=some (.pointer (some ⟨bP,0,none⟩)):=by rw [cell_blk hb2];rfl
 have a4:w2.cell? ⟨bP,4,none⟩=some (.int .u64 (last:Int)):=by rw [cell_blk hbP2];rfl
 have af:w2.frozen? ⟨bP,4,none⟩=false:=frozen_blk hbP2 4
 have Hc2:=Lib.hid hc2;have HbC2:=Lib.hid hbC2;have HbP2:=Lib.hid hbP2;have Hb2:=Lib.hid hb2
 obtain⟨w3,hw3⟩:∃ w3,w3=w2.setCell ⟨bP,4,none⟩ (.int .u64 (c:Int)):=⟨_,rfl⟩
 have hc3:Chg (λj=>j=bP∨j=bC) w1 w3:=by rw [hw3];exact hc2.setCell (by exact .inl (.inl rfl)) _
 have hbP3:w3.heap[bP]?=some (.cells (pinCells n k c now bC) 111 (0,0)):=by rw [hw3,blk_set hbP2];rfl
 have hbC3:w3.heap[bC]?=some (.cells ((o.come.set now x).map u64V).toArray 46 (0,0)):=by rw [hw3,blk_set_other (Ne.symm HPC.out)];exact hbC2
 have hb3:w3.heap[b]?=some (.cells (piWr bP b v q i ph) 257 (0,0)):=by rw [hw3,blk_set_other (Ne.symm Hne.out.1)];exact hb2
 have d0:w3.cell? ⟨b,0,none⟩=some (.pointer (some ⟨bP,0,none⟩)):=by rw [cell_blk hb3];rfl
 have d2:w3.cell? ⟨b,2,none⟩=some (.int .i64 (q:Int)):=by rw [cell_blk hb3];rfl
 have d5:w3.cell? ⟨bP,5,none⟩=some (.int .i64 (now:Int)):=by rw [cell_blk hbP3];rfl
 have df:w3.frozen? ⟨bP,5,none⟩=false:=frozen_blk hbP3 5
 have lP3:=blk_lt hbP3
 have Hw3:=Lib.hid hw3;have Hc3:=Lib.hid hc3;have HbP3:=Lib.hid hbP3;have HbC3:=Lib.hid hbC3;have Hb3:=Lib.hid hb3
 clear hw2 hc2 hbC2 hbP2 hb2 hw3 hc3 hbP3 hbC3 hb3 b0 b2 g3 g4 g5 gc gf
 go_upto_region 5 with fail
 rw [<-Hw3.out]
 refine wp_region_L ((λu=>u.cell? ⟨b,0,none⟩=some (.pointer (some ⟨bP,0,none⟩))/\u.cell? ⟨b,2,none⟩=some (.int .i64 (q:Int))/\u.cell? ⟨bP,5,none⟩=some (.int .i64 (now:Int)))) 10 (by kernel_rfl) ?hS0L2 ?_
 case hS0L2=>
  (try dsimp only)
  (exact⟨d0,d2,d5⟩)
 intro hS hcl
 refine wpAnyL_take (i:=0) (v:=?tv0L2) 11 rfl (by kernel_rfl) (by kernel_rfl) (by kernel_rfl) (by kernel_rfl) (by kernel_rfl) hcl (by first|exact λ_ _ _ h=>h|exact λ_ _ _ h=>HQp.out _ _ _ _ h) (Or.inl ⟨by rfl,?th0L2⟩) hS ?tr0L2
 (case th0L2=>(intro w hSw;(try dsimp only at hSw);go_simp;try with_reducible rfl))
 clear hcl;intro hcl
 (try simp only [Act.put,zq1,zq2,zq3,zq4,zq5,zq6])
 refine wpAnyL_take (i:=1) (v:=?tv1L2) 11 rfl (by kernel_rfl) (by kernel_rfl) (by kernel_rfl) (by kernel_rfl) (by kernel_rfl) hcl (by first|exact λ_ _ _ h=>h|exact λ_ _ _ h=>HQp.out _ _ _ _ h) (Or.inl ⟨by rfl,?th1L2⟩) hS ?tr1L2
 (case th1L2=>(intro w hSw;(try dsimp only at hSw);go_simp;try with_reducible rfl))
 clear hcl;intro hcl
 (try simp only [Act.put,zq1,zq2,zq3,zq4,zq5,zq6])
 refine wpAnyL_take (i:=2) (v:=?tv2L2) 11 rfl (by kernel_rfl) (by kernel_rfl) (by kernel_rfl) (by kernel_rfl) (by kernel_rfl) hcl (by first|exact λ_ _ _ h=>h|exact λ_ _ _ h=>HQp.out _ _ _ _ h) (Or.inl ⟨by rfl,?th2L2⟩) hS ?tr2L2
 (case th2L2=>(intro w hSw;(try dsimp only at hSw);go_simp;try with_reducible rfl))
 clear hcl;intro hcl
 (try simp only [Act.put,zq1,zq2,zq3,zq4,zq5,zq6])
 refine wpAnyL_take (i:=3) (v:=?tv3L2) 11 rfl (by kernel_rfl) (by kernel_rfl) (by kernel_rfl) (by kernel_rfl) (by kernel_rfl) hcl (by first|exact λ_ _ _ h=>h|exact λ_ _ _ h=>HQp.out _ _ _ _ h) (Or.inl ⟨by rfl,?th3L2⟩) hS ?tr3L2
 (case th3L2=>(intro w hSw;(try dsimp only at hSw);go_simp;try with_reducible rfl))
 clear hcl;intro hcl
 (try simp only [Act.put,zq1,zq2,zq3,zq4,zq5,zq6])
 refine wpAnyL_take (i:=4) (v:=?tv4L2) 11 rfl (by kernel_rfl) (by kernel_rfl) (by kernel_rfl) (by kernel_rfl) (by kernel_rfl) hcl (by first|exact λ_ _ _ h=>h|exact λ_ _ _ h=>HQp.out _ _ _ _ h) (Or.inl ⟨by rfl,?th4L2⟩) hS ?tr4L2
 (case th4L2=>(intro w hSw;(try dsimp only at hSw);go_simp;try with_reducible rfl))
 clear hcl;intro hcl
 (try simp only [Act.put,zq1,zq2,zq3,zq4,zq5,zq6])
 refine wpAnyL_take (i:=5) (v:=?tv5L2) 11 rfl (by kernel_rfl) (by kernel_rfl) (by kernel_rfl) (by kernel_rfl) (by kernel_rfl) hcl (by first|exact λ_ _ _ h=>h|exact λ_ _ _ h=>HQp.out _ _ _ _ h) (Or.inl ⟨by rfl,?th5L2⟩) hS ?tr5L2
 (case th5L2=>(intro w hSw;(try dsimp only at hSw);go_simp;try with_reducible rfl))
 clear hcl;intro hcl
 (try simp only [Act.put,zq1,zq2,zq3,zq4,zq5,zq6])
 refine wpAnyL_take (i:=6) (v:=?tv6L2) 11 rfl (by kernel_rfl) (by kernel_rfl) (by kernel_rfl) (by kernel_rfl) (by kernel_rfl) hcl (by first|exact λ_ _ _ h=>h|exact λ_ _ _ h=>HQp.out _ _ _ _ h) (Or.inl ⟨by rfl,?th6L2⟩) hS ?tr6L2
 (case th6L2=>(intro w hSw;(try dsimp only at hSw);go_simp;try with_reducible rfl))
 clear hcl;intro hcl
 (try simp only [Act.put,zq1,zq2,zq3,zq4,zq5,zq6])
 refine wpAnyL_take (i:=7) (v:=?tv7L2) 11 rfl (by kernel_rfl) (by kernel_rfl) (by kernel_rfl) (by kernel_rfl) (by kernel_rfl) hcl (by first|exact λ_ _ _ h=>h|exact λ_ _ _ h=>HQp.out _ _ _ _ h) (Or.inl ⟨by rfl,?th7L2⟩) hS ?tr7L2
 (case th7L2=>(intro w hSw;(try dsimp only at hSw);go_simp;try with_reducible rfl))
 clear hcl;intro hcl
 (try simp only [Act.put,zq1,zq2,zq3,zq4,zq5,zq6])
 refine wpAnyL_one (i:=8) (by kernel_rfl) rfl hcl (λK' hK=>?_)
 have HK:=Lib.hid hK;clear hK
 ((rw [if_pos (by kernel_rfl)]);(try simp only [zq1,zq2,zq3]);first|go_big_move|go_big_op)
 refine HK.out _ _ ?hS8L2 (λhcl=>?_)
 case hS8L2=>
  intro _
  (try dsimp only)
  (exact⟨d0,d2,d5⟩)
 clear HK
 (try simp only [Act.put,zq1,zq2,zq3,zq4,zq5,zq6])
 refine wpAnyL_one (i:=9) (by kernel_rfl) rfl hcl (λK' hK=>?_)
 have HK:=Lib.hid hK;clear hK
 ((rw [if_pos (by kernel_rfl)]);(try simp only [zq1,zq2,zq3]);first|go_big_move|go_big_op)
 refine HK.out _ _ ?hS9L2 (λhcl=>?_)
 case hS9L2=>
  intro _
  (try dsimp only)
  (exact⟨d0,d2,d5⟩)
 clear HK
 (try simp only [Act.put,zq1,zq2,zq3,zq4,zq5,zq6])
 refine wpAnyL_one (i:=10) (by kernel_rfl) rfl hcl (λK' hK=>?_)
 have HK:=Lib.hid hK;clear hK
 ((rw [if_pos (by kernel_rfl)]);(try simp only [zq1,zq2,zq3]);first|go_big_move|go_big_op)
 refine HK.out _ _ (λh=>by cases h.symm.trans (by kernel_rfl:_=true)) (λ_=>wpAnyL_done (by kernel_rfl) ?_ _)
 clear HK
 (try clear hS)
 obtain⟨w4,hw4⟩:∃ w4,w4=(w3.setCell ⟨bP,5,none⟩ (.int .i64 (q:Int))).drew:=⟨_,rfl⟩
 rw [<-hw4]
 have hc4:Chg (λj=>j=bP∨j=bC) w1 w4:=by rw [hw4];exact(Hc3.out.setCell (by exact .inl (.inl rfl)) _).drew
 have hbP4:w4.heap[bP]?=some (.cells (pinCells n k c q bC) 111 (0,0)):=by rw [hw4];show(w3.setCell ⟨bP,5,none⟩ (.int .i64 (q:Int))).heap[bP]?=_;rw [blk_set HbP3.out];rfl
 have hbC4:w4.heap[bC]?=some (.cells ((o.come.set now x).map u64V).toArray 46 (0,0)):=by rw [hw4];show(w3.setCell ⟨bP,5,none⟩ (.int .i64 (q:Int))).heap[bC]?=_;rw [blk_set_other (Ne.symm HPC.out)];exact HbC3.out
 have hb4:w4.heap[b]?=some (.cells (piWr bP b v q i ph) 257 (0,0)):=by rw [hw4];show(w3.setCell ⟨bP,5,none⟩ (.int .i64 (q:Int))).heap[b]?=_;rw [blk_set_other (Ne.symm Hne.out.1)];exact Hb3.out
 have F:ChangeTo w w4 Mut B I N (doAdd wd 0 D) n k bP bC b v q i ph ⟨piCome o c,c,q⟩ (.returned (.bool true)):=by
  have hup:MutUp Mut w1 (mutTo Mut B (λj=>j=b)):=mutTo_up (λj hj=>by cases hj;exact .inl Hb.out) (λj hj=>(HB.out j hj).1)
  refine⟨rfl,(Hch1.out.mono (λj _ h=>.inl h)).trans (hc4.mono (λj _ h=>.inr (.inl h))),?_,⟨hbP4,?_,?_,?_,?_,Hq.out⟩,hb4⟩
  ·refine Hw1.out.keep hc4 (by rintro j (rfl|rfl);exact HMP.out.1;exact HMP.out.2) (by rintro j (rfl|rfl);exact HWP.out.1;exact HWP.out.2) hup ?_ ?_
   ·rintro j (⟨h1,_⟩|h1)
    ·exact Nat.lt_of_lt_of_le (Hw1.out.low j h1) hc4.size
    ·rw [h1];exact blk_lt hb4
   ·intro j hj
    by_cases hjb:B j
    ·exact absurd hj (HB.out j hjb).2
    ·exact .inl ⟨Hw1.out.muts j hj,hjb⟩
  ·show w4.heap[bC]?=some (.cells ((piCome o c).map u64V).toArray 46 (0,0))
   rw [Hpc.out];exact hbC4
  ·show(piCome o c).length=n+1
   rw [Hpc.out,List.length_set];exact Hlen.out
  ·intro y hy
   have hy':y∈piCome o c:=hy
   rw [Hpc.out] at hy'
   rcases List.mem_or_eq_of_mem_set hy' with h|h
   ·exact HP.out.small y h
   ·rw [h];exact Hxl.out
  ·show c<18446744073709551616
   have:=Hcl.out;omega
 have HF:=Lib.hid F
 clear F hw4 hc4 hbP4 hbC4 hb4 a0 a4 af d0 d2 d5 df
 go_wp2
 go_ret
 exact HF.out
end Go.Proofs.YtfkokppncipgnaaGreat
