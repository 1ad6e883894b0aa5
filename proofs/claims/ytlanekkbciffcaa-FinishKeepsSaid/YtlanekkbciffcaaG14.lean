/- Layer 21: the law FinishKeeps: the walk. -/
import Derived.Test.YtlanekkbciffcaaG13
set_option maxRecDepth 100000
set_option linter.unusedVariables false
set_option linter.unusedSimpArgs false
set_option linter.unnecessarySimpa false
namespace Go.Proofs.Ytlanekkbciffcaa
open Go.RowKit
def swWs:List Nat:=[1,1,0,1026,0,0,0,1073741824,0,0,0]
theorem memRead_at {m:MemD} {ws:List Nat} (h:m.ws=ws) {i:Nat} (hi:i<ws.length):(memRead m (i:Int)).2=ws.getD i 0:=by
 unfold memRead memOut
 rw [h]
 have h1:(decide ((i:Int)<0) || decide ((ws.length:Int)<=(i:Int)))=false:=by simp;omega
 rw [h1];simp
theorem memSwap_at {m:MemD} {ws:List Nat} (h:m.ws=ws) {i o f:Nat} (hi:i<ws.length) (ho:ws.getD i 0=o):(memSwap m (i:Int) o f).1.ws=ws.set i f:=by
 unfold memSwap memOut
 rw [h]
 have h1:(decide ((i:Int)<0) || decide ((ws.length:Int)<=(i:Int)))=false:=by simp;omega
 rw [h1,Int.toNat_natCast,if_neg Bool.false_ne_true,if_pos ho]
def SwInv (s:FinD) (m:MemD) (j:Nat):Prop:=m.ws=swWs/\m.c.all<=j/\((j=0/\s=⟨0,0,0,0,0,0⟩)∨(j=1/\s=⟨1,0,1,0,0,0⟩)∨(j=2/\s=⟨3,0,1,1026,0,0⟩)∨(j=3/\s=⟨6,0,1,1026,0,0⟩))
def SwFin (ws:List Nat) (j:Nat):Prop:=ws=swWs.set 1 1026/\j=4
theorem sw_step (w:World) (bT bW bm:Nat) (bw:Option Nat) (s:FinD) (m:MemD) (j:Nat) (h:FinAt (tlCells 1 1) 127 w bT bW bm bw s m) (hI:SwInv s m j) :
  Calls Try.prog 153 #[.pointer (some ⟨bT,0,none⟩),.pointer (some ⟨bW,0,none⟩)] w (StepTo (tlCells 1 1) 127 w bT bW bm bw SwInv SwFin j):=by
 obtain⟨hw,hc,hI⟩:=hI
 have hcnt:m.c.all+1<1000000000000:=by omega
 have r1:(memRead m 1).2=1:=memRead_at hw (i:=1) (by decide)
 have r2:(memRead m ((2+0:Nat):Int)).2=0:=memRead_at hw (i:=2) (by decide)
 have f3:fAt 1 1 1 0=3:=by decide
 have r3:(memRead m (fAt 1 1 1 0)).2=1026:=by rw [f3];exact memRead_at hw (i:=3) (by decide)
 rcases hI with⟨rfl,rfl⟩|⟨rfl,rfl⟩|⟨rfl,rfl⟩|⟨rfl,rfl⟩
 ·refine stepTo_of (tl_0 h (by decide) hcnt) (λ_=>⟨?_,?_,.inr (.inl ⟨rfl,?_⟩)⟩) (λe=>?_)
  ·rw [memRead_ws9];exact hw
  ·rw [memRead_all];omega
  ·rw [r1]
  ·rw [r1] at e;exact absurd e (by decide)
 ·refine stepTo_of (tl_1_yes h (by decide) hcnt ?_) (λ_=>⟨?_,?_,.inr (.inr (.inl ⟨rfl,?_⟩))⟩) (λe=>by cases e)
  ·rw [r3];decide
  ·rw [memRead_ws9];exact hw
  ·rw [memRead_all];omega
  ·rw [r3]
 ·refine stepTo_of (tl_3_no h (by decide) hcnt ?_) (λ_=>⟨?_,?_,.inr (.inr (.inr ⟨rfl,?_⟩))⟩) (λe=>by cases e)
  ·rw [r2];decide
  ·rw [memRead_ws9];exact hw
  ·rw [memRead_all];omega
  ·rw [r2]
 ·refine stepTo_of (tl_6 h (by decide) hcnt) (λe=>by cases e) (λ_=>⟨?_,rfl⟩)
  exact memSwap_at hw (i:=1) (by decide) (by decide)
theorem getD_set_eq9 {l:List Nat} {i v:Nat} (h:i<l.length):(l.set i v).getD i 0=v:=by
 rw [List.getD_eq_getElem?_getD,List.getElem?_set_self h];rfl
theorem made_one (v:Value) (n:Nat):madeCells #[v] n=(List.replicate n v).toArray:=by
 unfold madeCells
 apply Array.ext
 ·simp
 ·intro i h1 h2
  simp at h1 h2 ⊢
  simp [Nat.mod_one]
theorem fin_u64:(Try.prog.info? 37).map (λi=>(i.zero,i.size,i.bytes))=some (some (.int .u64 0),1,8):=by kernel_rfl
theorem made_blk (u:World) (size:Nat) (h64:size<=1000000):(Instr.makeSlice 28 (.int .i64 (size:Int)) (.int .i64 (size:Int))).run Try.prog u=.ok (.slice (some ⟨u.heap.size,0,none⟩) size size) (u.alloc (.cells (madeCells #[.int .u64 0] size) 37)):=by
 obtain⟨i0,hi,hz0,hz1,hz2⟩:=info_parts fin_u64
 have h:=run_make (P:=Try.prog) u 28 37 i0 (.int .u64 0) Try.underlying28 hi hz0 .i64 .i64 (size:Int) (size:Int) (by omega) (Int.le_refl _) (by rw [hz2];omega) (by omega)
 simpa [hz1,Value.cells] using h
theorem sl_blk {w:World} {b:Nat} {l:List Nat} {T:TypeId} {fz:Nat×Nat} (h:w.heap[b]?=some (.cells (l.map u64V).toArray T fz)) (hl:l.length<=1000000):SlAt w (some ⟨b,0,none⟩) l.length 1 (u64G l):=by
 refine⟨by unfold maxLen;omega,λj hj=>⟨b,0,rfl,blk_lt h,λf hf=>?_⟩⟩
 obtain rfl:f=0:=by omega
 rw [cell_blk h]
 simp [u64G,u64V,List.getD_eq_getElem?_getD,hj]
set_option maxHeartbeats 4000000 in
theorem swung_any (w:World):Calls Try.prog 30 #[] w λe w'=>e=.returned (.bool true)/\Below w.heap.size w w':=by
 have MK:(Instr.makeSlice 28 (.int .i64 11) (.int .i64 11)).run Try.prog w=.ok (.slice (some ⟨w.heap.size,0,none⟩) 11 11) (w.alloc (.cells #[.int .u64 0,.int .u64 0,.int .u64 0,.int .u64 0,.int .u64 0,.int .u64 0,.int .u64 0,.int .u64 0,.int .u64 0,.int .u64 0,.int .u64 0] 37)):=by
  have h9:=made_blk w 11 (by decide)
  rw [made_one] at h9;exact h9
 obtain⟨w1,hw1⟩:∃ w1,w1=w.alloc (.cells #[.int .u64 0,.int .u64 0,.int .u64 0,.int .u64 0,.int .u64 0,.int .u64 0,.int .u64 0,.int .u64 0,.int .u64 0,.int .u64 0,.int .u64 0] 37):=⟨_,rfl⟩
 have b1:w1.heap[w.heap.size]?=some (.cells #[.int .u64 0,.int .u64 0,.int .u64 0,.int .u64 0,.int .u64 0,.int .u64 0,.int .u64 0,.int .u64 0,.int .u64 0,.int .u64 0,.int .u64 0] 37 (0,0)):=by rw [hw1];exact heap_alloc_new _ _
 have c0:w1.cell? ⟨w.heap.size,0,none⟩=some (.int .u64 0):=by rw [cell_blk b1];rfl
 have f0:w1.frozen? ⟨w.heap.size,0,none⟩=false:=frozen_blk b1 0
 have c1:w1.cell? ⟨w.heap.size,1,none⟩=some (.int .u64 0):=by rw [cell_blk b1];rfl
 have f1:w1.frozen? ⟨w.heap.size,1,none⟩=false:=frozen_blk b1 1
 have c3:w1.cell? ⟨w.heap.size,3,none⟩=some (.int .u64 0):=by rw [cell_blk b1];rfl
 have f3:w1.frozen? ⟨w.heap.size,3,none⟩=false:=frozen_blk b1 3
 have c7:w1.cell? ⟨w.heap.size,7,none⟩=some (.int .u64 0):=by rw [cell_blk b1];rfl
 have f7:w1.frozen? ⟨w.heap.size,7,none⟩=false:=frozen_blk b1 7
 have l1:=blk_lt b1
 obtain⟨w5,hw5⟩:∃ w5,w5=(((w1.setCell ⟨w.heap.size,0,none⟩ (.int .u64 1)).setCell ⟨w.heap.size,1,none⟩ (.int .u64 1)).setCell ⟨w.heap.size,3,none⟩ (.int .u64 1026)).setCell ⟨w.heap.size,7,none⟩ (.int .u64 1073741824):=⟨_,rfl⟩
 have b5:w5.heap[w.heap.size]?=some (.cells (swWs.map u64V).toArray 37 (0,0)):=by rw [hw5,blk_set (blk_set (blk_set (blk_set b1 _ _) _ _) _ _) _ _];rfl
 have h15:Chg (λb=>b=w.heap.size) w1 w5:=by rw [hw5];exact((((Chg.refl (λb=>b=w.heap.size) w1).setCell (by exact .inl rfl) _).setCell (by exact .inl rfl) _).setCell (by exact .inl rfl) _).setCell (by exact .inl rfl) _
 have hg1:Below w.heap.size w w1:=by rw [hw1];exact Gr.new _ _
 have Hall:=Lib.hid (hg1.trans (h15.below (B:=w.heap.size) (λk h=>by have h9:k=w.heap.size:=h;omega) hg1.size))
 have TL:=Lib.hid (fin_tail 1 1 SwInv SwFin sw_step (λs m j h=>by obtain⟨_,_,h⟩:=h;omega) (by decide) swWs ⟨rfl,Nat.le_of_eq rfl,.inl ⟨rfl,rfl⟩⟩ (by decide) (some ⟨w.heap.size,0,none⟩) 11 w5 (sl_blk b5 (by decide)) (λe=>by cases e) (by decide))
 rw [show swWs.length=11 from rfl] at TL
 have Hw1:=Lib.hid hw1;have Hw5:=Lib.hid hw5
 clear hw1 b1 hw5 b5 h15 hg1
 go_enter Try.func30,Try.ntmps30
 go_upto_region 2 with fail
 rw [<-Hw1.out]
 clear MK
 go_upto_region 6 with fail
 rw [<-Hw5.out]
 clear c0 c1 c3 c7 f0 f1 f3 f7 l1
 go_wp2_with fail
 refine TL.out.mono ?_
 rintro e w6 ⟨va,vc,ws',j,rfl,hsl,⟨rfl,rfl⟩,_,hb6⟩
 rw [show(swWs.set 1 1026).length=11 from rfl] at hsl ⊢
 obtain⟨g,off,rfl,hg,hc⟩:=hsl.2 0 (by omega)
 obtain⟨g',off',he,_,hc'⟩:=hsl.2 1 (by omega)
 cases he
 have e0:w6.cell? ⟨g,off,none⟩=some (.int .u64 1):=by have:=hc 0 (by omega);rw [Nat.zero_mul,Nat.add_zero] at this;exact this
 have e1:w6.cell? ⟨g,off+1,none⟩=some (.int .u64 1026):=hc' 0 (by omega)
 have Hb6:=Lib.hid hb6
 clear hsl hc hc' hb6
 go_wp2
 go_ret
 exact⟨rfl,Hall.out.trans (Hb6.out.mono Hall.out.size)⟩
def fitTo (size:Nat) (words:List Nat) (i:Nat):List Nat:=(List.range size).map λj=>if j<i then words.getD j 0 else 0
theorem fitTo_len (size:Nat) (words:List Nat) (i:Nat):(fitTo size words i).length=size:=by simp [fitTo]
theorem fitTo_zero (size:Nat) (words:List Nat):fitTo size words 0=List.replicate size 0:=by
 apply List.ext_getElem
 ·simp [fitTo]
 ·intro i h1 h2;simp [fitTo]
theorem fitTo_set {size:Nat} {words:List Nat} {i:Nat} (hi:i<size):(fitTo size words i).set i (words.getD i 0)=fitTo size words (i+1):=by
 apply List.ext_getElem
 ·simp [fitTo]
 ·intro j h1 h2
  rw [List.getElem_set]
  simp only [fitTo,List.getElem_map,List.getElem_range]
  by_cases h:i=j
  ·subst h;simp
  ·rw [if_neg h]
   by_cases h3:j<i
   ·rw [if_pos h3,if_pos (by omega)]
   ·rw [if_neg h3,if_neg (by omega)]
theorem fitTo_stay {size:Nat} {words:List Nat} {i:Nat} (hi:words.length<=i):fitTo size words i=fitTo size words (i+1):=by
 unfold fitTo
 refine List.map_congr_left λj _=>?_
 by_cases h3:j<i
 ·rw [if_pos h3,if_pos (by omega)]
 ·rw [if_neg h3]
  split
  ·rw [List.getD_eq_getElem?_getD,List.getElem?_eq_none (by omega)];rfl
  ·rfl
theorem fitTo_small {size:Nat} {words:List Nat} {i:Nat} (hv:∀ x∈words,x<18446744073709551616):∀ x∈fitTo size words i,x<18446744073709551616:=by
 intro x hx
 obtain⟨j,_,rfl⟩:=List.mem_map.1 hx
 split
 ·rw [List.getD_eq_getElem?_getD]
  cases h:words[j]? with
  | none=>show 0<_;omega
  | some y=>exact hv y (List.mem_of_getElem? h)
 ·omega
set_option maxHeartbeats 4000000 in
theorem fit_any (n k:Nat) (hr:rightB (n:Int) (k:Int)=true) (words:List Nat) (a:Option Addr) (c:Nat) (w:World) (hs:SlAt w a words.length 1 (u64G words)) (size:Nat) (hsz:(size:Int)=2+(n:Int)+4*(1+(n:Int)*(k:Int))) :
  Calls Try.prog 31 #[.int .i64 (n:Int),.int .i64 (k:Int),.slice a words.length c] w λe w'=>∃ b,e=.returned (.slice (some ⟨b,0,none⟩) size size)/\w'.heap[b]?=some (.cells ((fitTo size words size).map u64V).toArray 37 (0,0))/\Below w.heap.size w w':=by
 have SZ:=λu=>rsize_yes (n:Int) (k:Int) u hr
 rw [<-hsz] at SZ
 have SZ:=Lib.hid SZ
 obtain⟨h1,h2,h3,h4⟩:=rightB_pos hr
 obtain⟨h5,h6⟩:=nk_bound hr
 have hs64:size<=3000:=by omega
 have MK:=made_blk w size (by omega)
 obtain⟨w1,hw1⟩:∃ w1,w1=w.alloc (.cells (madeCells #[.int .u64 0] size) 37):=⟨_,rfl⟩
 have b1:w1.heap[w.heap.size]?=some (.cells ((fitTo size words 0).map u64V).toArray 37 (0,0)):=by rw [hw1,heap_alloc_new,fitTo_zero,made_one];simp [u64V]
 have hb1:Below w.heap.size w w1:=by rw [hw1];exact Gr.new _ _
 have hml:=hs.1
 unfold maxLen at hml
 have HS:=Lib.hid hs;have Hw1:=Lib.hid hw1;have B1:=Lib.hid b1;have Hb1:=Lib.hid hb1
 clear hr hsz h1 h2 h3 h4 h5 h6 hs hw1 b1 hb1
 go_enter Try.func31,Try.ntmps31
 go_upto_region 2 with(go_at_call 50;refine(SZ.out _).mono ?_;rintro e w9 ⟨rfl,rfl⟩)
 rw [<-Hw1.out]
 go_wp2_with fail
 clear MK
 obtain⟨wa,hwa⟩:∃ wa,wa=w1:=⟨_,rfl⟩
 go_loopw [15] (λi wr=>∃ q:Nat,q<=size/\i=.int .i64 q/\wr.heap[w.heap.size]?=some (.cells ((fitTo size words q).map u64V).toArray 37 (0,0))/\Chg (λb=>b=w.heap.size) w1 wr) (λi _=>size - (intOf i).toNat)
 case atStart=>exact⟨0,Nat.zero_le _,rfl,B1.out,Chg.refl _ _⟩
 case round=>
  obtain⟨q,hq,rfl,hbk,hc⟩:=hrel
  obtain⟨wo,rfl⟩:∃ wo,wo=wr:=⟨_,rfl⟩
  have Hbk:=Lib.hid hbk;have Hc:=Lib.hid hc
  by_cases hlt:q<size
  ·have l1:(q:Int)<(size:Int):=by omega
   by_cases hlw:q<words.length
   ·have l2:(q:Int)<(words.length:Int):=by omega
    have hsw:SlAt wo a words.length 1 (u64G words):=HS.out.chg ((Chg.of_below Hb1.out).trans (hc.mono (λb _ h=>h):Chg (λb=>b=w.heap.size) w1 wo)) (λb off e h=>by
     have h9:b=w.heap.size:=h
     obtain⟨b',off',e',hl',_⟩:=HS.out.2 q hlw
     rw [e'] at e;cases e;omega)
    obtain⟨g,off,rfl,hg,hcell⟩:=hsw.2 q hlw
    obtain⟨x,hx⟩:∃ x,x=words.getD q 0:=⟨_,rfl⟩
    have h0:wo.cell? ⟨g,off+q,none⟩=some (.int .u64 (x:Int)):=by have:=hcell 0 (by omega);rw [Nat.mul_one,Nat.add_zero] at this;rw [hx];exact this
    have hold:∃ v,wo.cell? ⟨w.heap.size,q,none⟩=some v:=⟨_,by rw [cell_blk hbk];exact Array.getElem?_eq_getElem (by simp [fitTo_len];omega)⟩
    obtain⟨v,hv⟩:=hold
    have hfz:wo.frozen? ⟨w.heap.size,q,none⟩=false:=frozen_blk hbk q
    have hbl:=blk_lt hbk
    have Hx:=Lib.hid hx
    clear hbk hc hsw hcell hx hlw
    go_wp2
    go_roundw
    case rel=>
     refine⟨q+1,by omega,by go_num,?_,Hc.out.setCell (by exact .inl rfl) _⟩
     rw [blk_set Hbk.out,<-fitTo_set hlt,Hx.out.symm]
     congr 2
     apply Array.ext'
     simp [List.map_set,u64V]
    case measure=>simp [intOf]<;>omega
   ·have l2:¬ (q:Int)<(words.length:Int):=by omega
    clear hbk hc
    go_wp2
    go_roundw
    case rel=>exact⟨q+1,by omega,by go_num,by rw [<-fitTo_stay (by omega)];exact Hbk.out,Hc.out⟩
    case measure=>simp [intOf]<;>omega
  ·have l1:¬ (q:Int)<(size:Int):=by omega
   obtain rfl:q=size:=by omega
   clear hbk hc
   go_wp2
   go_ret
   exact⟨w.heap.size,rfl,Hbk.out,Hb1.out.trans (Hc.out.below (B:=w.heap.size) (λb h=>by have h9:b=w.heap.size:=h;omega) Hb1.out.size)⟩
end Go.Proofs.Ytlanekkbciffcaa
