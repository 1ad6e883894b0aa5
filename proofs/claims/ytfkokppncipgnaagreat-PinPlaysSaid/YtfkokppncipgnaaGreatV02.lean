/- Layer 2: contracts of package mem. -/
import Derived.Test.YtfkokppncipgnaaGreatV01
import Derived.StillTailTactics
set_option maxRecDepth 100000
set_option linter.unusedVariables false
set_option linter.unusedSimpArgs false
set_option linter.unnecessarySimpa false
namespace Go.Proofs.YtfkokppncipgnaaGreat
section
open Go.RowKit
theorem cell_set_other {w:World} {p q:Addr} (v:Value) (h:q.block≠p.block):(w.setCell p v).cell? q=w.cell? q:=World.cell?_of_block (w:=w) (Below.heap_setCell _ _ _ _ h)
theorem frozen_set_other {w:World} {p q:Addr} (v:Value) (h:q.block≠p.block):(w.setCell p v).frozen? q=w.frozen? q:=by
 have:=Below.heap_setCell w p v _ h
 simp only [World.frozen?,this]
theorem cnt_read (b:Nat) (w:World):Calls Tryz.prog 165 #[.pointer (some ⟨b,1,none⟩)] w λe w'=>e=.returned (.pointer (some ⟨b,1,none⟩))/\w=w':=by
 go_enter Tryz.func165,Tryz.ntmps165
 go_wp2
 go_ret
 exact⟨rfl,rfl⟩
theorem do_read (b j b2 j2:Nat) (x o:Int) (w:World) (h:w.cell? ⟨b,j,none⟩=some (.int .u64 x)) (ho:w.cell? ⟨b2,j2,none⟩=some (.int .u64 o)) (hf:w.frozen? ⟨b2,j2,none⟩=false) :
  Calls Tryz.prog 166 #[.pointer (some ⟨b,j,none⟩),.pointer (some ⟨b2,j2,none⟩)] w λe w'=>e=.returned (.tuple #[])/\w'=w.setCell ⟨b2,j2,none⟩ (.int .u64 x):=by
 go_enter Tryz.func166,Tryz.ntmps166
 go_wp2
 go_end0
 exact⟨rfl,rfl⟩
theorem neq_nilFunc (u:World):Sem.run Tryz.prog (binOp BinOp.neq 148 Value.nilFunc Value.nilFunc) u=Result.ok (.bool false) u:=by
 first
 | kernel_rfl
 | rfl
theorem access_read (bm bw j b2 j2:Nat) (len cap:Nat) (n x o:Int) (w:World) (h0:w.cell? ⟨bm,0,none⟩=some (.slice (some ⟨bw,0,none⟩) len cap)) (h1:w.cell? ⟨bm,1,none⟩=some (.int .i64 n)) (hn:0<=n) (hn2:n<1000000000000)
  (h6:w.cell? ⟨bm,6,none⟩=some .nilFunc) (hw:w.cell? ⟨bw,j,none⟩=some (.int .u64 x)) (hj:j<len) (hlen:len<=1048576) (hbw:bw≠bm) (ho:w.cell? ⟨b2,j2,none⟩=some (.int .u64 o)) (hf:w.frozen? ⟨b2,j2,none⟩=false) (hf1:w.frozen? ⟨bm,1,none⟩=false) (hb2:b2≠bm) (hb3:b2≠bw) :
  Calls Tryz.prog 164 #[.pointer (some ⟨bm,0,none⟩),.int .i64 0,.int .i64 (j:Int),.func (.func 165) #[] #[],.func (.func 166) #[] #[.pointer (some ⟨b2,j2,none⟩)]] w λe w'=>
   e=.returned (.tuple #[])/\w'=(w.setCell ⟨bm,1,none⟩ (.int .i64 (n+1))).setCell ⟨b2,j2,none⟩ (.int .u64 x):=by
 have hj1:(j:Int)<len:=by omega
 have C:=Lib.hid (cnt_read bm)
 have hnn:=neq_nilFunc
 go_enter Tryz.func164,Tryz.ntmps164
 go_wp2_with fail
 refine(C.out _).mono ?_
 rintro e w1 ⟨rfl,rfl⟩
 have ho2:(w.setCell ⟨bm,1,none⟩ (.int .i64 (n+1))).cell? ⟨b2,j2,none⟩=some (.int .u64 o):=by rw [cell_set_other _ (by exact hb2)];exact ho
 have hf2:(w.setCell ⟨bm,1,none⟩ (.int .i64 (n+1))).frozen? ⟨b2,j2,none⟩=false:=by rw [frozen_set_other _ (by exact hb2)];exact hf
 have hw2:(w.setCell ⟨bm,1,none⟩ (.int .i64 (n+1))).cell? ⟨bw,j,none⟩=some (.int .u64 x):=by rw [cell_set_other _ (by exact hbw)];exact hw
 go_wp2_with fail
 refine(do_read bw j b2 j2 x o _ hw2 ho2 hf2).mono ?_
 rintro e w1 ⟨rfl,rfl⟩
 go_wp2
 go_end0
 exact⟨rfl,rfl⟩
theorem cnt_write (b:Nat) (w:World):Calls Tryz.prog 170 #[.pointer (some ⟨b,1,none⟩)] w λe w'=>e=.returned (.pointer (some ⟨b,2,none⟩))/\w=w':=by
 go_enter Tryz.func170,Tryz.ntmps170
 go_wp2
 go_ret
 exact⟨rfl,rfl⟩
theorem cnt_add (b:Nat) (w:World):Calls Tryz.prog 173 #[.pointer (some ⟨b,1,none⟩)] w λe w'=>e=.returned (.pointer (some ⟨b,4,none⟩))/\w=w':=by
 go_enter Tryz.func173,Tryz.ntmps173
 go_wp2
 go_ret
 exact⟨rfl,rfl⟩
theorem do_write (b j b2 j2:Nat) (v o:Int) (w:World) (h:w.cell? ⟨b,j,none⟩=some (.int .u64 o)) (hf:w.frozen? ⟨b,j,none⟩=false) (hv:w.cell? ⟨b2,j2,none⟩=some (.int .u64 v)) :
  Calls Tryz.prog 171 #[.pointer (some ⟨b,j,none⟩),.pointer (some ⟨b2,j2,none⟩)] w λe w'=>e=.returned (.tuple #[])/\w'=w.setCell ⟨b,j,none⟩ (.int .u64 v):=by
 go_enter Tryz.func171,Tryz.ntmps171
 go_wp2
 go_end0
 exact⟨rfl,rfl⟩
theorem do_add (b j b2 b3:Nat) (o d z:Int) (w:World) (h:w.cell? ⟨b,j,none⟩=some (.int .u64 o)) (hf:w.frozen? ⟨b,j,none⟩=false) (h2:w.cell? ⟨b2,0,none⟩=some (.int .u64 z)) (hf2:w.frozen? ⟨b2,0,none⟩=false) (h3:w.cell? ⟨b3,0,none⟩=some (.int .u64 d)) (hb2:b2≠b) (hb3:b3≠b) (hb23:b3≠b2) :
  Calls Tryz.prog 174 #[.pointer (some ⟨b,j,none⟩),.pointer (some ⟨b2,0,none⟩),.pointer (some ⟨b3,0,none⟩)] w λe w'=>e=.returned (.tuple #[])/\
   w'=((w.setCell ⟨b2,0,none⟩ (.int .u64 o)).setCell ⟨b,j,none⟩ (.int .u64 (IntKind.u64.wrap (o+d)))).drew:=by
 have h5:(w.setCell ⟨b2,0,none⟩ (.int .u64 o)).cell? ⟨b,j,none⟩=some (.int .u64 o):=by rw [cell_set_other _ (by exact Ne.symm hb2)];exact h
 have h6:(w.setCell ⟨b2,0,none⟩ (.int .u64 o)).frozen? ⟨b,j,none⟩=false:=by rw [frozen_set_other _ (by exact Ne.symm hb2)];exact hf
 have h7:(w.setCell ⟨b2,0,none⟩ (.int .u64 o)).cell? ⟨b3,0,none⟩=some (.int .u64 d):=by rw [cell_set_other _ (by exact hb23)];exact h3
 go_enter Tryz.func174,Tryz.ntmps174
 go_wp2
 obtain⟨wA,hA⟩:∃ wA,wA=w.setCell ⟨b2,0,none⟩ (.int .u64 o):=⟨_,rfl⟩
 rw [<-hA] at h5 h6 h7
 rw [<-hA]
 have HA:=Lib.hid hA;clear hA
 have k5:wA.drew.cell? ⟨b,j,none⟩=some (.int .u64 o):=h5
 have k6:wA.drew.frozen? ⟨b,j,none⟩=false:=h6
 have k7:wA.drew.cell? ⟨b3,0,none⟩=some (.int .u64 d):=h7
 go_still_tail 6,(by kernel_rfl)
 change wpList _ _ _ _ _ wA.drew
 go_wp2
 go_end0
 exact⟨rfl,by rw [HA.out]⟩
theorem access_write (bm bw j b2 j2:Nat) (len cap:Nat) (n x o:Int) (w:World) (h0:w.cell? ⟨bm,0,none⟩=some (.slice (some ⟨bw,0,none⟩) len cap)) (h1:w.cell? ⟨bm,2,none⟩=some (.int .i64 n)) (hn:0<=n) (hn2:n<1000000000000)
  (h6:w.cell? ⟨bm,6,none⟩=some .nilFunc) (hw:w.cell? ⟨bw,j,none⟩=some (.int .u64 x)) (hfw:w.frozen? ⟨bw,j,none⟩=false) (hj:j<len) (hlen:len<=1048576) (hbw:bw≠bm) (ho:w.cell? ⟨b2,j2,none⟩=some (.int .u64 o)) (hf1:w.frozen? ⟨bm,2,none⟩=false) (hb2:b2≠bm) :
  Calls Tryz.prog 164 #[.pointer (some ⟨bm,0,none⟩),.int .i64 1,.int .i64 (j:Int),.func (.func 170) #[] #[],.func (.func 171) #[] #[.pointer (some ⟨b2,j2,none⟩)]] w λe w'=>
   e=.returned (.tuple #[])/\w'=(w.setCell ⟨bm,2,none⟩ (.int .i64 (n+1))).setCell ⟨bw,j,none⟩ (.int .u64 o):=by
 have hj1:(j:Int)<len:=by omega
 have C:=Lib.hid (cnt_write bm)
 have hnn:=neq_nilFunc
 go_enter Tryz.func164,Tryz.ntmps164
 go_wp2_with fail
 refine(C.out _).mono ?_
 rintro e w1 ⟨rfl,rfl⟩
 have ho2:(w.setCell ⟨bm,2,none⟩ (.int .i64 (n+1))).cell? ⟨b2,j2,none⟩=some (.int .u64 o):=by rw [cell_set_other _ (by exact hb2)];exact ho
 have hw2:(w.setCell ⟨bm,2,none⟩ (.int .i64 (n+1))).cell? ⟨bw,j,none⟩=some (.int .u64 x):=by rw [cell_set_other _ (by exact hbw)];exact hw
 have hf2:(w.setCell ⟨bm,2,none⟩ (.int .i64 (n+1))).frozen? ⟨bw,j,none⟩=false:=by rw [frozen_set_other _ (by exact hbw)];exact hfw
 go_wp2_with fail
 refine(do_write bw j b2 j2 o x _ hw2 hf2 ho2).mono ?_
 rintro e w1 ⟨rfl,rfl⟩
 go_wp2
 go_end0
 exact⟨rfl,rfl⟩
theorem access_add (bm bw j b2 b3:Nat) (len cap:Nat) (n x z d:Int) (w:World) (h0:w.cell? ⟨bm,0,none⟩=some (.slice (some ⟨bw,0,none⟩) len cap)) (h1:w.cell? ⟨bm,4,none⟩=some (.int .i64 n)) (hn:0<=n) (hn2:n<1000000000000)
  (h6:w.cell? ⟨bm,6,none⟩=some .nilFunc) (hw:w.cell? ⟨bw,j,none⟩=some (.int .u64 x)) (hfw:w.frozen? ⟨bw,j,none⟩=false) (hj:j<len) (hlen:len<=1048576) (hbw:bw≠bm) (ho:w.cell? ⟨b2,0,none⟩=some (.int .u64 z)) (hfo:w.frozen? ⟨b2,0,none⟩=false) (hd:w.cell? ⟨b3,0,none⟩=some (.int .u64 d)) (hf1:w.frozen? ⟨bm,4,none⟩=false) (hb2:b2≠bm) (hb3:b3≠bm) (hb2w:b2≠bw) (hb3w:b3≠bw) (hb32:b3≠b2) :
  Calls Tryz.prog 164 #[.pointer (some ⟨bm,0,none⟩),.int .i64 3,.int .i64 (j:Int),.func (.func 173) #[] #[],.func (.func 174) #[] #[.pointer (some ⟨b2,0,none⟩),.pointer (some ⟨b3,0,none⟩)]] w λe w'=>
   e=.returned (.tuple #[])/\w'=(((w.setCell ⟨bm,4,none⟩ (.int .i64 (n+1))).setCell ⟨b2,0,none⟩ (.int .u64 x)).setCell ⟨bw,j,none⟩ (.int .u64 (IntKind.u64.wrap (x+d)))).drew:=by
 have hj1:(j:Int)<len:=by omega
 have C:=Lib.hid (cnt_add bm)
 have hnn:=neq_nilFunc
 go_enter Tryz.func164,Tryz.ntmps164
 go_wp2_with fail
 refine(C.out _).mono ?_
 rintro e w1 ⟨rfl,rfl⟩
 have ho2:(w.setCell ⟨bm,4,none⟩ (.int .i64 (n+1))).cell? ⟨b2,0,none⟩=some (.int .u64 z):=by rw [cell_set_other _ (by exact hb2)];exact ho
 have hd2:(w.setCell ⟨bm,4,none⟩ (.int .i64 (n+1))).cell? ⟨b3,0,none⟩=some (.int .u64 d):=by rw [cell_set_other _ (by exact hb3)];exact hd
 have hfo2:(w.setCell ⟨bm,4,none⟩ (.int .i64 (n+1))).frozen? ⟨b2,0,none⟩=false:=by rw [frozen_set_other _ (by exact hb2)];exact hfo
 have hw2:(w.setCell ⟨bm,4,none⟩ (.int .i64 (n+1))).cell? ⟨bw,j,none⟩=some (.int .u64 x):=by rw [cell_set_other _ (by exact hbw)];exact hw
 have hf2:(w.setCell ⟨bm,4,none⟩ (.int .i64 (n+1))).frozen? ⟨bw,j,none⟩=false:=by rw [frozen_set_other _ (by exact hbw)];exact hfw
 go_wp2_with fail
 refine(do_add bw j b2 b3 x d z _ hw2 hf2 ho2 hfo2 hd2 hb2w hb3w hb32).mono ?_
 rintro e w1 ⟨rfl,rfl⟩
 obtain⟨y,hy⟩:∃ y,y=IntKind.u64.wrap (x+d):=⟨_,rfl⟩
 rw [<-hy]
 have Hy:=Lib.hid hy;clear hy
 go_wp2
 go_end0
 exact⟨rfl,by rw [Hy.out]⟩
end
section

/- slices.Clone at []uint64 and at []int. -/
open Go.RowKit
theorem int_info0:(Tryz.prog.info? 3).map (λi=>(i.zero,i.size,i.bytes))=some (some (.int .i64 0),1,8):=by kernel_rfl
theorem uint64_info0:(Tryz.prog.info? 46).map (λi=>(i.zero,i.size,i.bytes))=some (some (.int .u64 0),1,8):=by kernel_rfl
theorem clone_u64 (a:Option Addr) (n c:Nat) (g:Nat->Nat->Value) (w:World) (hs:SlAt w a n 1 g) (h1:∀ j,(g j 0).oneCell'=true) (hn:n<=1000000000) (hc:a=none->c=0) :
  Calls Tryz.prog 58 #[.slice a n c] w λe w'=>∃ v,e=.returned v/\w'.ownsRow w.heap.size 46 1 v n ((List.range n).map λj=>g j 0)/\Below w.heap.size w w'/\(v=.slice none 0 0↔a=none):=by
 have Hs:=Lib.hid hs;have H1:=Lib.hid h1
 obtain⟨i0,hi,hz0,hz1,hz2⟩:=info_parts uint64_info0
 have hnl:∀ u:World,(binOp .eql 28 (.slice a n c) (.slice none 0 0)).run Tryz.prog u=.ok (.bool a.isNone) u:=λu=>Lib.run_eql_slice_nil u _ 46 _ _ _ _ _ Tryz.underlying28
 clear hs h1
 cases a with
 | none=>
  obtain rfl:n=0:=by
   rcases Nat.eq_zero_or_pos n with h|h
   ·exact h
   ·obtain⟨b,off,h0,_⟩:=Hs.out.2 0 h;cases h0
  obtain rfl:=hc rfl
  simp only [Option.isNone_none] at hnl
  clear hc
  go_enter Tryz.func58,Tryz.ntmps58
  go_wp2
  go_ret
  exact⟨_,rfl,World.ownsRow_nil _ _ _ _,Gr.refl _,by simp⟩
 | some ad=>
  simp only [Option.isNone_some] at hnl
  clear hc
  have hown:(w.alloc (.cells #[] 46)).ownsRow w.heap.size 46 1 (.slice (some ⟨w.heap.size,0,none⟩) 0 0) 0 []:=World.ownsRow_made w #[] 0 (Nat.le_refl _) (Nat.zero_le _) rfl
  have hnew:∀ j u,((List.range n).map λj=>g j 0)[j]?=some u->(w.alloc (.cells #[] 46)).cell? (ad.add j)=some u:=by
   intro j u hu
   simp only [List.getElem?_map,Option.map_eq_some_iff] at hu
   obtain⟨i,hi2,rfl⟩:=hu
   rw [List.getElem?_eq_some_iff] at hi2
   obtain⟨hj,rfl⟩:=hi2
   simp only [List.length_range] at hj
   rw [List.getElem_range]
   obtain⟨b,off,h0,hb,hcell⟩:=(Hs.out.grown (Gr.new w (.cells #[] 46))).2 j hj
   cases h0
   have:=hcell 0 (by omega)
   rw [Nat.mul_one,Nat.add_zero] at this
   rw [<-this]
   unfold Addr.add
   split
   ·rename_i h;rw [h];rfl
   ·rfl
  have Hnew:=Lib.hid hnew;have Hown:=Lib.hid hown
  clear hnew hown
  go_enter Tryz.func58,Tryz.ntmps58
  go_wp2_with (at_builtin;refine wpList_append_own _ rfl (.tmp 5) (.tmp 6) 28 rfl w.heap.size 46 i0 (.int .u64 0) 1 8 Tryz.underlying28 hi hz0 hz1 hz2 rfl (by decide) (.slice (some ⟨w.heap.size,0,none⟩) 0 0) 0 [] rfl Hown.out ad n c ((List.range n).map λj=>g j 0) rfl ?c1 Hnew.out ?c2 ?c3 ?c4 ?c5 ?_)
  case c1=>simp
  case c2=>
   intro u hu
   obtain⟨j,_,rfl⟩:=List.mem_map.1 hu
   exact H1.out j
  case c3=>unfold maxLen;omega
  case c4=>omega
  case c5=>simp
  intro v w1 hown1 hgrow hnil
  have Hg:=Lib.hid hgrow;have Ho:=Lib.hid hown1;have Hn:=Lib.hid hnil
  clear hgrow hown1 hnil
  go_wp2
  go_ret
  refine⟨v,rfl,?_,(Gr.new w _).grown Hg.out (by simp) (λk hk=>by simp only [Value.ownBlock,Option.some.injEq] at hk;omega),?_⟩
  ·have h5:=Ho.out
   simpa using h5
  ·constructor
   ·intro h;exact absurd h (by simpa using Hn.out)
   ·intro h;cases h
end
section

/- Layer 2: a memory as numbers; contracts of mem's methods. -/
open Go.RowKit
structure CountsD where
 read:Nat
 write:Nat
 swap:Nat
 add:Nat
 fault:Nat
deriving DecidableEq
structure MemD where
 ws:List Nat
 c:CountsD
deriving DecidableEq
def u64V (x:Nat):Value:=.int .u64 (x:Int)
def MemD.fault (m:MemD):MemD:={ m with c:={ m.c with fault:=m.c.fault+1 } }
def memOut (m:MemD) (a:Int):Bool:=decide (a<0) || decide ((m.ws.length:Int)<=a)
def memRead (m:MemD) (a:Int):MemD×Nat:=if memOut m a then (m.fault,0) else ({ m with c:={ m.c with read:=m.c.read+1 } },m.ws.getD a.toNat 0)
def memWrite (m:MemD) (a:Int) (v:Nat):MemD:=if memOut m a then m.fault else { ws:=m.ws.set a.toNat v,c:={ m.c with write:=m.c.write+1 } }
def memSwap (m:MemD) (a:Int) (old fresh:Nat):MemD×Bool:=
 if memOut m a then (m.fault,false) else
 if m.ws.getD a.toNat 0=old then ({ ws:=m.ws.set a.toNat fresh,c:={ m.c with swap:=m.c.swap+1 } },true) else ({ m with c:={ m.c with swap:=m.c.swap+1 } },false)
def memAdd (m:MemD) (a:Int) (d:Nat):MemD×Nat:=
 if memOut m a then (m.fault,0) else ({ ws:=m.ws.set a.toNat ((m.ws.getD a.toNat 0+d) % 18446744073709551616),c:={ m.c with add:=m.c.add+1 } },m.ws.getD a.toNat 0)
def CountsD.all (c:CountsD):Nat:=c.read+c.write+c.swap+c.add+c.fault
def memCells (wa:Option Addr) (n cap:Nat) (c:CountsD):Array Value:=
 #[.slice wa n cap, .int .i64 (c.read : Int), .int .i64 (c.write : Int), .int .i64 (c.swap : Int), .int .i64 (c.add : Int), .int .i64 (c.fault : Int), .nilFunc]
def CapOk (wa:Option Addr) (n cap:Nat):Prop:=n<=cap/\(wa=none->cap=0)
structure MemAt (w:World) (bm:Nat) (bw:Option Nat) (m:MemD):Prop where
 blk:∃ wa cap,CapOk wa m.ws.length cap/\w.heap[bm]?=some (.cells (memCells wa m.ws.length cap m.c) 150 (0,0))/\
  (0<m.ws.length->∃ q rest,bw=some q/\wa=some ⟨q,0,none⟩/\w.heap[q]?=some (.cells (m.ws.map u64V++rest).toArray 46 (0,0)))
 apart:bw≠some bm
 low:∀ q,bw=some q->q<w.heap.size
 len:m.ws.length<=1048576
 cnt:m.c.all<1000000000000
 val:∀ x∈m.ws,x<18446744073709551616
def MemSet (bm:Nat) (bw:Option Nat) (b:Nat):Prop:=b=bm∨some b=bw
theorem MemAt.lt {w:World} {bm:Nat} {bw:Option Nat} {m:MemD} (h:MemAt w bm bw m):bm<w.heap.size:=by obtain⟨_,_,_,h1,_⟩:=h.blk;exact blk_lt h1
theorem MemAt.chg {S:Nat->Prop} {w w':World} {bm:Nat} {bw:Option Nat} {m:MemD} (h:MemAt w bm bw m) (hc:Chg S w w') (h1:¬ S bm) (h2:∀ q,bw=some q->¬ S q):MemAt w' bm bw m:=by
 obtain⟨wa,cap,hl,hb,hw⟩:=h.blk
 refine⟨⟨wa,cap,hl,(hc.block _ (blk_lt hb) h1).trans hb,λhp=>?_⟩,h.apart,λq e=>Nat.lt_of_lt_of_le (h.low q e) hc.size,h.len,h.cnt,h.val⟩
 obtain⟨q,rest,hq,ha,hr⟩:=hw hp
 exact⟨q,rest,hq,ha,(hc.block _ (h.low q hq) (h2 q hq)).trans hr⟩
theorem MemAt.gr {w w':World} {bm:Nat} {bw:Option Nat} {m:MemD} (h:MemAt w bm bw m) (hb:Below w.heap.size w w'):MemAt w' bm bw m:=
 h.chg (S:=λ_=>False) (Chg.of_below hb) (λh=>h) (λ_ _ h=>h)
theorem set_words (ws:List Nat) (rest:List Value) (j v:Nat) (hj:j<ws.length):(ws.map u64V++rest).toArray.setIfInBounds j (.int .u64 (v:Int))=((ws.set j v).map u64V++rest).toArray:=by
 apply Array.ext'
 rw [Array.toList_setIfInBounds]
 simp only
 rw [List.set_append_left _ _ (by simpa using hj),List.map_set]
 rfl
theorem MemAt.parts {w w':World} {bm:Nat} {bw:Option Nat} {m:MemD} (h:MemAt w bm bw m) (hb:Below w.heap.size w w') (j:Nat) (hj:j<m.ws.length) :
  ∃ q cap rest,bw=some q/\CapOk (some ⟨q,0,none⟩) m.ws.length cap/\w'.heap[bm]?=some (.cells (memCells (some ⟨q,0,none⟩) m.ws.length cap m.c) 150 (0,0))/\w'.heap[q]?=some (.cells (m.ws.map u64V++rest).toArray 46 (0,0))/\
   w'.cell? ⟨q,j,none⟩=some (.int .u64 ((m.ws.getD j 0:Nat):Int)):=by
 obtain⟨wa,cap,hl,hbm,hw⟩:=(h.gr hb).blk
 obtain⟨q,rest,hq,rfl,hr⟩:=hw (by omega)
 refine⟨q,cap,rest,hq,hl,hbm,hr,?_⟩
 rw [cell_blk hr]
 simp [u64V,List.getD_eq_getElem?_getD,hj,List.getElem?_append]
theorem memOut_in {m:MemD} {a:Int} (h:memOut m a=false):∃ j:Nat,a=(j:Int)/\a.toNat=j/\j<m.ws.length:=by
 unfold memOut at h
 simp only [Bool.or_eq_false_iff,decide_eq_false_iff_not] at h
 exact⟨a.toNat,by omega,rfl,by omega⟩
theorem all_lt {c:CountsD} (h:c.all<1000000000000):(c.read:Int)<1000000000000/\(c.write:Int)<1000000000000/\(c.swap:Int)<1000000000000/\(c.add:Int)<1000000000000/\(c.fault:Int)<1000000000000:=by
 unfold CountsD.all at h;omega
theorem read_in (bm:Nat) (bw:Option Nat) (m:MemD) (j x:Nat) (w:World) (h:MemAt w bm bw m) (hj:j<m.ws.length) (hx:m.ws.getD j 0=x) (hcnt:m.c.all+1<1000000000000) :
  Calls Tryz.prog 162 #[.pointer (some ⟨bm,0,none⟩),.int .i64 (j:Int)] w λe w'=>e=.returned (.int .u64 (x:Int))/\MemAt w' bm bw { m with c:={ m.c with read:=m.c.read+1 } }/\Chg (MemSet bm bw) w w':=by
 have hgr:=Gr.new w (.cells #[.int .u64 0] 46)
 obtain⟨q,cap,rest,rfl,hcap,hbm,hbw,hcell⟩:=h.parts hgr j hj
 rw [hx] at hcell
 have hlt:=h.lt;have hlw:=h.low q rfl;have hap:q≠bm:=(λe=>h.apart (by rw [e]));have hlen:=h.len;have hval:=h.val
 have hal:=all_lt h.cnt
 have A:=access_read bm q j w.heap.size 0 m.ws.length cap m.c.read x 0 (w.alloc (.cells #[.int .u64 0] 46))
  (by rw [cell_blk hbm];rfl) (by rw [cell_blk hbm];rfl) (by omega) (by omega) (by rw [cell_blk hbm];rfl) hcell hj hlen hap (by rw [cell_new];rfl) (World.frozen?_alloc_new _ _ _ _) (frozen_blk hbm 1) (by omega) (by omega)
 obtain⟨w2,hw2⟩:∃ w2,w2=(((w.alloc (.cells #[.int .u64 0] 46)).setCell ⟨bm,1,none⟩ (.int .i64 ((m.c.read:Int)+1))).setCell ⟨w.heap.size,0,none⟩ (.int .u64 (x:Int))):=⟨_,rfl⟩
 have hfin:w2.cell? ⟨w.heap.size,0,none⟩=some (.int .u64 (x:Int)):=by
  rw [hw2]
  exact World.cell?_setCell_same _ _ _ (u:=.int .u64 0) (by rw [cell_set_other _ (by simp;omega),cell_new];rfl)
 have hm':MemAt w2 bm (some q) { m with c:={ m.c with read:=m.c.read+1 } }:=by
  rw [hw2]
  refine⟨⟨some ⟨q,0,none⟩,cap,hcap,?_,λ_=>⟨q,rest,rfl,rfl,?_⟩⟩,(λe=>hap (by simpa using e)),(λq2 e=>by cases e;simp;omega),hlen,by unfold CountsD.all at hcnt ⊢;simp only;omega,hval⟩
  ·rw [blk_set_other (by omega),blk_set hbm];rfl
  ·rw [blk_set_other (by omega),blk_set_other hap];exact hbw
 have hchg:Chg (MemSet bm (some q)) w w2:=by
  rw [hw2]
  exact((Chg.of_below hgr).setCell (.inl (.inl rfl)) _).setCell (.inr (Nat.le_refl _)) _
 rw [<-hw2] at A
 have A':=Lib.hid A;have Hm:=Lib.hid hm';have Hc:=Lib.hid hchg
 clear A hw2 hm' hchg hgr hbm hbw hcell hlt hlw hap hval hal hcap hcnt h hx
 go_enter Tryz.func162,Tryz.ntmps162
 go_wp2_with fail
 refine A'.out.mono ?_
 rintro e w1 ⟨rfl,rfl⟩
 go_wp2
 go_ret
 exact⟨rfl,Hm.out,Hc.out⟩
theorem write_in (bm:Nat) (bw:Option Nat) (m:MemD) (j v:Nat) (w:World) (h:MemAt w bm bw m) (hj:j<m.ws.length) (hv:v<18446744073709551616) (hcnt:m.c.all+1<1000000000000) :
  Calls Tryz.prog 167 #[.pointer (some ⟨bm,0,none⟩),.int .i64 (j:Int),.int .u64 (v:Int)] w λe w'=>e=.returned (.tuple #[])/\MemAt w' bm bw { ws:=m.ws.set j v,c:={ m.c with write:=m.c.write+1 } }/\Chg (MemSet bm bw) w w':=by
 have hgr:=Gr.new w (.cells #[.int .u64 (v:Int)] 46)
 obtain⟨q,cap,rest,rfl,hcap,hbm,hbw,hcell⟩:=h.parts hgr j hj
 obtain⟨x,hx⟩:∃ x,x=m.ws.getD j 0:=⟨_,rfl⟩
 rw [<-hx] at hcell
 have hlt:=h.lt;have hlw:=h.low q rfl;have hap:q≠bm:=(λe=>h.apart (by rw [e]));have hlen:=h.len;have hval:=h.val
 have hal:=all_lt h.cnt
 have A:=access_write bm q j w.heap.size 0 m.ws.length cap m.c.write x v (w.alloc (.cells #[.int .u64 (v:Int)] 46))
  (by rw [cell_blk hbm];rfl) (by rw [cell_blk hbm];rfl) (by omega) (by omega) (by rw [cell_blk hbm];rfl) hcell (frozen_blk hbw j) hj hlen hap (by rw [cell_new];rfl) (frozen_blk hbm 2) (by omega)
 obtain⟨w2,hw2⟩:∃ w2,w2=(((w.alloc (.cells #[.int .u64 (v:Int)] 46)).setCell ⟨bm,2,none⟩ (.int .i64 ((m.c.write:Int)+1))).setCell ⟨q,j,none⟩ (.int .u64 (v:Int))):=⟨_,rfl⟩
 have hm':MemAt w2 bm (some q) { ws:=m.ws.set j v,c:={ m.c with write:=m.c.write+1 } }:=by
  rw [hw2]
  refine⟨⟨some ⟨q,0,none⟩,cap,by simpa [CapOk] using hcap,?_,λ_=>⟨q,rest,rfl,rfl,?_⟩⟩,(λe=>hap (by simpa using e)),(λq2 e=>by cases e;simp;omega),by simpa using hlen,by unfold CountsD.all at hcnt ⊢;simp only;omega,?_⟩
  ·rw [blk_set_other (by omega),blk_set hbm];simp [memCells]
  ·rw [blk_set (by rw [blk_set_other hap];exact hbw),set_words _ _ _ _ hj]
  ·intro y hy
   rcases List.mem_or_eq_of_mem_set hy with h1|rfl
   ·exact hval y h1
   ·exact hv
 have hchg:Chg (MemSet bm (some q)) w w2:=by
  rw [hw2]
  exact((Chg.of_below hgr).setCell (.inl (.inl rfl)) _).setCell (.inl (.inr rfl)) _
 rw [<-hw2] at A
 have A':=Lib.hid A;have Hm:=Lib.hid hm';have Hc:=Lib.hid hchg
 clear A hw2 hm' hchg hgr hbm hbw hcell hlt hlw hap hval hal hcap hcnt h hx
 go_enter Tryz.func167,Tryz.ntmps167
 go_wp2_with fail
 refine A'.out.mono ?_
 rintro e w1 ⟨rfl,rfl⟩
 go_wp2
 go_end0
 exact⟨rfl,Hm.out,Hc.out⟩
theorem add_in (bm:Nat) (bw:Option Nat) (m:MemD) (j d x:Nat) (w:World) (h:MemAt w bm bw m) (hj:j<m.ws.length) (hx:m.ws.getD j 0=x) (hcnt:m.c.all+1<1000000000000) :
  Calls Tryz.prog 172 #[.pointer (some ⟨bm,0,none⟩),.int .i64 (j:Int),.int .u64 (d:Int)] w λe w'=>e=.returned (.int .u64 (x:Int))/\MemAt w' bm bw { ws:=m.ws.set j ((x+d) % 18446744073709551616),c:={ m.c with add:=m.c.add+1 } }/\Chg (MemSet bm bw) w w':=by
 have hgr:Below w.heap.size w ((w.alloc (.cells #[.int .u64 (d:Int)] 46)).alloc (.cells #[.int .u64 0] 46)):=Gr.alloc (Gr.new w _) _
 obtain⟨q,cap,rest,rfl,hcap,hbm,hbw,hcell⟩:=h.parts hgr j hj
 rw [hx] at hcell
 have hlt:=h.lt;have hlw:=h.low q rfl;have hap:q≠bm:=(λe=>h.apart (by rw [e]));have hlen:=h.len;have hval:=h.val
 have hal:=all_lt h.cnt
 have hwr:IntKind.u64.wrap ((x:Int)+d)=(((x+d) % 18446744073709551616:Nat):Int):=by simp [IntKind.wrap,IntKind.bits,IntKind.signed]
 have A:=access_add bm q j (w.heap.size+1) w.heap.size m.ws.length cap m.c.add x 0 d ((w.alloc (.cells #[.int .u64 (d:Int)] 46)).alloc (.cells #[.int .u64 0] 46))
  (by rw [cell_blk hbm];rfl) (by rw [cell_blk hbm];rfl) (by omega) (by omega) (by rw [cell_blk hbm];rfl) hcell (frozen_blk hbw j) hj hlen hap (by simp)
  (by simp)
  (by rw [World.cell?_alloc_lt _ _ _ (by simp),cell_new];rfl) (frozen_blk hbm 4) (by omega) (by omega) (by omega) (by omega) (by omega)
 obtain⟨w2,hw2⟩:∃ w2,w2=(((((w.alloc (.cells #[.int .u64 (d:Int)] 46)).alloc (.cells #[.int .u64 0] 46)).setCell ⟨bm,4,none⟩ (.int .i64 ((m.c.add:Int)+1))).setCell ⟨w.heap.size+1,0,none⟩ (.int .u64 (x:Int))).setCell ⟨q,j,none⟩ (.int .u64 (IntKind.u64.wrap ((x:Int)+d)))).drew:=⟨_,rfl⟩
 have hfin:w2.cell? ⟨w.heap.size+1,0,none⟩=some (.int .u64 (x:Int)):=by
  rw [hw2,World.cell?_drew,cell_set_other _ (by simp;omega)]
  exact World.cell?_setCell_same _ _ _ (u:=.int .u64 0) (by rw [cell_set_other _ (by simp;omega)];simp)
 have hm':MemAt w2 bm (some q) { ws:=m.ws.set j ((x+d) % 18446744073709551616),c:={ m.c with add:=m.c.add+1 } }:=by
  rw [hw2]
  refine⟨⟨some ⟨q,0,none⟩,cap,by simpa [CapOk] using hcap,?_,λ_=>⟨q,rest,rfl,rfl,?_⟩⟩,(λe=>hap (by simpa using e)),(λq2 e=>by cases e;simp;omega),by simpa using hlen,by unfold CountsD.all at hcnt ⊢;simp only;omega,?_⟩
  ·show(World.setCell _ _ _).heap[bm]?=_
   rw [blk_set_other (by omega),blk_set_other (by omega),blk_set hbm];simp [memCells]
  ·show(World.setCell _ _ _).heap[q]?=_
   rw [blk_set (by rw [blk_set_other (by omega),blk_set_other hap];exact hbw),hwr,set_words _ _ _ _ hj]
  ·intro y hy
   rcases List.mem_or_eq_of_mem_set hy with h1|rfl
   ·exact hval y h1
   ·exact Nat.mod_lt _ (by decide)
 have hchg:Chg (MemSet bm (some q)) w w2:=by
  rw [hw2]
  exact((((Chg.of_below hgr).setCell (.inl (.inl rfl)) _).setCell (.inr (by simp)) _).setCell (.inl (.inr rfl)) _).drew
 rw [<-hw2] at A
 have A':=Lib.hid A;have Hm:=Lib.hid hm';have Hc:=Lib.hid hchg
 clear A hw2 hm' hchg hgr hbm hbw hcell hlt hlw hap hval hal hcap hcnt h hx hwr
 go_enter Tryz.func172,Tryz.ntmps172
 go_wp2_with fail
 refine A'.out.mono ?_
 rintro e w1 ⟨rfl,rfl⟩
 go_wp2
 go_ret
 exact⟨rfl,Hm.out,Hc.out⟩
end
end Go.Proofs.YtfkokppncipgnaaGreat
