/- Layer 2: contracts of package mem. -/
import Derived.Test.YteffgpcjfnjlkaaGreatX01
import Derived.StillTailTactics
set_option maxRecDepth 100000
set_option linter.unusedVariables false
set_option linter.unusedSimpArgs false
set_option linter.unnecessarySimpa false
namespace Go.Proofs.YteffgpcjfnjlkaaGreat
section
open Go.RowKit
theorem cell_set_other {w:World} {p q:Addr} (v:Value) (h:q.block≠p.block):(w.setCell p v).cell? q=w.cell? q:=World.cell?_of_block (w:=w) (Below.heap_setCell _ _ _ _ h)
theorem frozen_set_other {w:World} {p q:Addr} (v:Value) (h:q.block≠p.block):(w.setCell p v).frozen? q=w.frozen? q:=by
 have:=Below.heap_setCell w p v _ h
 simp only [World.frozen?,this]
theorem cnt_read (b:Nat) (w:World):Calls Tryz.prog 171 #[.pointer (some ⟨b,1,none⟩)] w λe w'=>e=.returned (.pointer (some ⟨b,1,none⟩))/\w=w':=by
 go_enter Tryz.func171,Tryz.ntmps171
 go_wp2
 go_ret
 exact⟨rfl,rfl⟩
theorem do_read (b j b2 j2:Nat) (x o:Int) (w:World) (h:w.cell? ⟨b,j,none⟩=some (.int .u64 x)) (ho:w.cell? ⟨b2,j2,none⟩=some (.int .u64 o)) (hf:w.frozen? ⟨b2,j2,none⟩=false) :
  Calls Tryz.prog 172 #[.pointer (some ⟨b,j,none⟩),.pointer (some ⟨b2,j2,none⟩)] w λe w'=>e=.returned (.tuple #[])/\w'=w.setCell ⟨b2,j2,none⟩ (.int .u64 x):=by
 go_enter Tryz.func172,Tryz.ntmps172
 go_wp2
 go_end0
 exact⟨rfl,rfl⟩
theorem neq_nilFunc (u:World):Sem.run Tryz.prog (binOp BinOp.neq 156 Value.nilFunc Value.nilFunc) u=Result.ok (.bool false) u:=by
 first
 | kernel_rfl
 | rfl
theorem access_read (bm bw j b2 j2:Nat) (len cap:Nat) (n x o:Int) (w:World) (h0:w.cell? ⟨bm,0,none⟩=some (.slice (some ⟨bw,0,none⟩) len cap)) (h1:w.cell? ⟨bm,1,none⟩=some (.int .i64 n)) (hn:0<=n) (hn2:n<1000000000000)
  (h6:w.cell? ⟨bm,6,none⟩=some .nilFunc) (hw:w.cell? ⟨bw,j,none⟩=some (.int .u64 x)) (hj:j<len) (hlen:len<=1048576) (hbw:bw≠bm) (ho:w.cell? ⟨b2,j2,none⟩=some (.int .u64 o)) (hf:w.frozen? ⟨b2,j2,none⟩=false) (hf1:w.frozen? ⟨bm,1,none⟩=false) (hb2:b2≠bm) (hb3:b2≠bw) :
  Calls Tryz.prog 170 #[.pointer (some ⟨bm,0,none⟩),.int .i64 0,.int .i64 (j:Int),.func (.func 171) #[] #[],.func (.func 172) #[] #[.pointer (some ⟨b2,j2,none⟩)]] w λe w'=>
   e=.returned (.tuple #[])/\w'=(w.setCell ⟨bm,1,none⟩ (.int .i64 (n+1))).setCell ⟨b2,j2,none⟩ (.int .u64 x):=by
 have hj1:(j:Int)<len:=by omega
 have C:=Lib.hid (cnt_read bm)
 have hnn:=neq_nilFunc
 go_enter Tryz.func170,Tryz.ntmps170
 go_wp2_with fail
 refine(C.out _).mono ?_
 rintro e w1 ⟨rfl,rfl⟩
 have ho2:(w.setCell ⟨bm,1,none⟩ (.int .i64 (n+1))).cell? ⟨b2,j2,none⟩=some (.int .u64 o):=by rw [cell_set_other _ (by exact hb2)];exact ho
 have hf2:(w.setCell ⟨bm,1,none⟩ (.int .i64 (n+1))).frozen? ⟨b2,j2,none⟩=false:=by rw [frozen_set_other _ (by exact hb2)];exact hf
 have hw2:(w.setCell ⟨bm,1,none⟩ (.int .i64 (n+1))).cell? ⟨bw,j,none⟩=some (.int .u64 x):=by rw [cell_set_other _ (by exact hbw)];exact hw
 go_wp2_with fail
 refine(do_read bw j b2 j2 x o _ hw2 ho2 hf2).mono ?_
 rintro e w1 ⟨rfl,rfl⟩
 go_wp2
 go_end0
 exact⟨rfl,rfl⟩
theorem cnt_write (b:Nat) (w:World):Calls Tryz.prog 205 #[.pointer (some ⟨b,1,none⟩)] w λe w'=>e=.returned (.pointer (some ⟨b,2,none⟩))/\w=w':=by
 go_enter Tryz.func205,Tryz.ntmps205
 go_wp2
 go_ret
 exact⟨rfl,rfl⟩
theorem do_write (b j b2 j2:Nat) (v o:Int) (w:World) (h:w.cell? ⟨b,j,none⟩=some (.int .u64 o)) (hf:w.frozen? ⟨b,j,none⟩=false) (hv:w.cell? ⟨b2,j2,none⟩=some (.int .u64 v)) :
  Calls Tryz.prog 206 #[.pointer (some ⟨b,j,none⟩),.pointer (some ⟨b2,j2,none⟩)] w λe w'=>e=.returned (.tuple #[])/\w'=w.setCell ⟨b,j,none⟩ (.int .u64 v):=by
 go_enter Tryz.func206,Tryz.ntmps206
 go_wp2
 go_end0
 exact⟨rfl,rfl⟩
theorem access_write (bm bw j b2 j2:Nat) (len cap:Nat) (n x o:Int) (w:World) (h0:w.cell? ⟨bm,0,none⟩=some (.slice (some ⟨bw,0,none⟩) len cap)) (h1:w.cell? ⟨bm,2,none⟩=some (.int .i64 n)) (hn:0<=n) (hn2:n<1000000000000)
  (h6:w.cell? ⟨bm,6,none⟩=some .nilFunc) (hw:w.cell? ⟨bw,j,none⟩=some (.int .u64 x)) (hfw:w.frozen? ⟨bw,j,none⟩=false) (hj:j<len) (hlen:len<=1048576) (hbw:bw≠bm) (ho:w.cell? ⟨b2,j2,none⟩=some (.int .u64 o)) (hf1:w.frozen? ⟨bm,2,none⟩=false) (hb2:b2≠bm) :
  Calls Tryz.prog 170 #[.pointer (some ⟨bm,0,none⟩),.int .i64 1,.int .i64 (j:Int),.func (.func 205) #[] #[],.func (.func 206) #[] #[.pointer (some ⟨b2,j2,none⟩)]] w λe w'=>
   e=.returned (.tuple #[])/\w'=(w.setCell ⟨bm,2,none⟩ (.int .i64 (n+1))).setCell ⟨bw,j,none⟩ (.int .u64 o):=by
 have hj1:(j:Int)<len:=by omega
 have C:=Lib.hid (cnt_write bm)
 have hnn:=neq_nilFunc
 go_enter Tryz.func170,Tryz.ntmps170
 go_wp2_with fail
 refine(C.out _).mono ?_
 rintro e w1 ⟨rfl,rfl⟩
 have ho2:(w.setCell ⟨bm,2,none⟩ (.int .i64 (n+1))).cell? ⟨b2,j2,none⟩=some (.int .u64 o):=by rw [cell_set_other _ (by exact hb2)];exact ho
 have hw2:(w.setCell ⟨bm,2,none⟩ (.int .i64 (n+1))).cell? ⟨bw,j,none⟩=some (.int .u64 x):=by rw [cell_set_other _ (by exact hbw)];exact hw
 have hf2:(w.setCell ⟨bm,2,none⟩ (.int .i64 (n+1))).frozen? ⟨bw,j,none⟩=false:=by rw [frozen_set_other _ (by exact hbw)];exact hfw
 go_wp2_with fail
 refine(do_write bw j b2 j2 o x _ hw2 hf2 ho2).mono ?_
 rintro e w1 ⟨rfl,rfl⟩
 go_wp2
 go_end0
 exact⟨rfl,rfl⟩
end
section

/- slices.Clone at []uint64 and at []int. -/
open Go.RowKit
theorem int_info0:(Tryz.prog.info? 3).map (λi=>(i.zero,i.size,i.bytes))=some (some (.int .i64 0),1,8):=by kernel_rfl
theorem uint64_info0:(Tryz.prog.info? 46).map (λi=>(i.zero,i.size,i.bytes))=some (some (.int .u64 0),1,8):=by kernel_rfl
theorem clone_u64 (a:Option Addr) (n c:Nat) (g:Nat->Nat->Value) (w:World) (hs:SlAt w a n 1 g) (h1:∀ j,(g j 0).oneCell'=true) (hn:n<=1000000000) (hc:a=none->c=0) :
  Calls Tryz.prog 72 #[.slice a n c] w λe w'=>∃ v,e=.returned v/\w'.ownsRow w.heap.size 46 1 v n ((List.range n).map λj=>g j 0)/\Below w.heap.size w w'/\(v=.slice none 0 0↔a=none):=by
 have Hs:=Lib.hid hs;have H1:=Lib.hid h1
 obtain⟨i0,hi,hz0,hz1,hz2⟩:=info_parts uint64_info0
 have hnl:∀ u:World,(binOp .eql 28 (.slice a n c) (.slice none 0 0)).run Tryz.prog u=.ok (.bool a.isNone) u:=λu=>Lib.run_eql_slice_nil u _ 46 _ _ _ _ _ Tryz.underlying28
 clear hs h1
 cases a with
 | none=>
  obtain rfl:n=0:=by
   rcases Nat.eq_zero_or_pos n with h|h
   ·exact h
   ·obtain⟨b,off,h0,_⟩:=Hs.out.2 0 h;cases h0
  obtain rfl:=hc rfl
  simp only [Option.isNone_none] at hnl
  clear hc
  go_enter Tryz.func72,Tryz.ntmps72
  go_wp2
  go_ret
  exact⟨_,rfl,World.ownsRow_nil _ _ _ _,Gr.refl _,by simp⟩
 | some ad=>
  simp only [Option.isNone_some] at hnl
  clear hc
  have hown:(w.alloc (.cells #[] 46)).ownsRow w.heap.size 46 1 (.slice (some ⟨w.heap.size,0,none⟩) 0 0) 0 []:=World.ownsRow_made w #[] 0 (Nat.le_refl _) (Nat.zero_le _) rfl
  have hnew:∀ j u,((List.range n).map λj=>g j 0)[j]?=some u->(w.alloc (.cells #[] 46)).cell? (ad.add j)=some u:=by
   intro j u hu
   simp only [List.getElem?_map,Option.map_eq_some_iff] at hu
   obtain⟨i,hi2,rfl⟩:=hu
   rw [List.getElem?_eq_some_iff] at hi2
   obtain⟨hj,rfl⟩:=hi2
   simp only [List.length_range] at hj
   rw [List.getElem_range]
   obtain⟨b,off,h0,hb,hcell⟩:=(Hs.out.grown (Gr.new w (.cells #[] 46))).2 j hj
   cases h0
   have:=hcell 0 (by omega)
   rw [Nat.mul_one,Nat.add_zero] at this
   rw [<-this]
   unfold Addr.add
   split
   ·rename_i h;rw [h];rfl
   ·rfl
  have Hnew:=Lib.hid hnew;have Hown:=Lib.hid hown
  clear hnew hown
  go_enter Tryz.func72,Tryz.ntmps72
  go_wp2_with (at_builtin;refine wpList_append_own _ rfl (.tmp 5) (.tmp 6) 28 rfl w.heap.size 46 i0 (.int .u64 0) 1 8 Tryz.underlying28 hi hz0 hz1 hz2 rfl (by decide) (.slice (some ⟨w.heap.size,0,none⟩) 0 0) 0 [] rfl Hown.out ad n c ((List.range n).map λj=>g j 0) rfl ?c1 Hnew.out ?c2 ?c3 ?c4 ?c5 ?_)
  case c1=>simp
  case c2=>
   intro u hu
   obtain⟨j,_,rfl⟩:=List.mem_map.1 hu
   exact H1.out j
  case c3=>unfold maxLen;omega
  case c4=>omega
  case c5=>simp
  intro v w1 hown1 hgrow hnil
  have Hg:=Lib.hid hgrow;have Ho:=Lib.hid hown1;have Hn:=Lib.hid hnil
  clear hgrow hown1 hnil
  go_wp2
  go_ret
  refine⟨v,rfl,?_,(Gr.new w _).grown Hg.out (by simp) (λk hk=>by simp only [Value.ownBlock,Option.some.injEq] at hk;omega),?_⟩
  ·have h5:=Ho.out
   simpa using h5
  ·constructor
   ·intro h;exact absurd h (by simpa using Hn.out)
   ·intro h;cases h
theorem clone_int (a:Option Addr) (n c:Nat) (g:Nat->Nat->Value) (w:World) (hs:SlAt w a n 1 g) (h1:∀ j,(g j 0).oneCell'=true) (hn:n<=1000000000) (hc:a=none->c=0) :
  Calls Tryz.prog 215 #[.slice a n c] w λe w'=>∃ v,e=.returned v/\w'.ownsRow w.heap.size 3 1 v n ((List.range n).map λj=>g j 0)/\Below w.heap.size w w'/\(v=.slice none 0 0↔a=none):=by
 have Hs:=Lib.hid hs;have H1:=Lib.hid h1
 obtain⟨i0,hi,hz0,hz1,hz2⟩:=info_parts int_info0
 have hnl:∀ u:World,(binOp .eql 24 (.slice a n c) (.slice none 0 0)).run Tryz.prog u=.ok (.bool a.isNone) u:=λu=>Lib.run_eql_slice_nil u _ 3 _ _ _ _ _ Tryz.underlying24
 clear hs h1
 cases a with
 | none=>
  obtain rfl:n=0:=by
   rcases Nat.eq_zero_or_pos n with h|h
   ·exact h
   ·obtain⟨b,off,h0,_⟩:=Hs.out.2 0 h;cases h0
  obtain rfl:=hc rfl
  simp only [Option.isNone_none] at hnl
  clear hc
  go_enter Tryz.func215,Tryz.ntmps215
  go_wp2
  go_ret
  exact⟨_,rfl,World.ownsRow_nil _ _ _ _,Gr.refl _,by simp⟩
 | some ad=>
  simp only [Option.isNone_some] at hnl
  clear hc
  have hown:(w.alloc (.cells #[] 3)).ownsRow w.heap.size 3 1 (.slice (some ⟨w.heap.size,0,none⟩) 0 0) 0 []:=World.ownsRow_made w #[] 0 (Nat.le_refl _) (Nat.zero_le _) rfl
  have hnew:∀ j u,((List.range n).map λj=>g j 0)[j]?=some u->(w.alloc (.cells #[] 3)).cell? (ad.add j)=some u:=by
   intro j u hu
   simp only [List.getElem?_map,Option.map_eq_some_iff] at hu
   obtain⟨i,hi2,rfl⟩:=hu
   rw [List.getElem?_eq_some_iff] at hi2
   obtain⟨hj,rfl⟩:=hi2
   simp only [List.length_range] at hj
   rw [List.getElem_range]
   obtain⟨b,off,h0,hb,hcell⟩:=(Hs.out.grown (Gr.new w (.cells #[] 3))).2 j hj
   cases h0
   have:=hcell 0 (by omega)
   rw [Nat.mul_one,Nat.add_zero] at this
   rw [<-this]
   unfold Addr.add
   split
   ·rename_i h;rw [h];rfl
   ·rfl
  have Hnew:=Lib.hid hnew;have Hown:=Lib.hid hown
  clear hnew hown
  go_enter Tryz.func215,Tryz.ntmps215
  go_wp2_with (at_builtin;refine wpList_append_own _ rfl (.tmp 5) (.tmp 6) 24 rfl w.heap.size 3 i0 (.int .i64 0) 1 8 Tryz.underlying24 hi hz0 hz1 hz2 rfl (by decide) (.slice (some ⟨w.heap.size,0,none⟩) 0 0) 0 [] rfl Hown.out ad n c ((List.range n).map λj=>g j 0) rfl ?c1 Hnew.out ?c2 ?c3 ?c4 ?c5 ?_)
  case c1=>simp
  case c2=>
   intro u hu
   obtain⟨j,_,rfl⟩:=List.mem_map.1 hu
   exact H1.out j
  case c3=>unfold maxLen;omega
  case c4=>omega
  case c5=>simp
  intro v w1 hown1 hgrow hnil
  have Hg:=Lib.hid hgrow;have Ho:=Lib.hid hown1;have Hn:=Lib.hid hnil
  clear hgrow hown1 hnil
  go_wp2
  go_ret
  refine⟨v,rfl,?_,(Gr.new w _).grown Hg.out (by simp) (λk hk=>by simp only [Value.ownBlock,Option.some.injEq] at hk;omega),?_⟩
  ·have h5:=Ho.out
   simpa using h5
  ·constructor
   ·intro h;exact absurd h (by simpa using Hn.out)
   ·intro h;cases h
end
section

/- Layer 2: a memory as numbers; contracts of mem's methods. -/
open Go.RowKit
structure CountsD where
 read:Nat
 write:Nat
 swap:Nat
 add:Nat
 fault:Nat
deriving DecidableEq
structure MemD where
 ws:List Nat
 c:CountsD
deriving DecidableEq
def u64V (x:Nat):Value:=.int .u64 (x:Int)
def MemD.fault (m:MemD):MemD:={ m with c:={ m.c with fault:=m.c.fault+1 } }
def memOut (m:MemD) (a:Int):Bool:=decide (a<0) || decide ((m.ws.length:Int)<=a)
def memRead (m:MemD) (a:Int):MemD×Nat:=if memOut m a then (m.fault,0) else ({ m with c:={ m.c with read:=m.c.read+1 } },m.ws.getD a.toNat 0)
def memWrite (m:MemD) (a:Int) (v:Nat):MemD:=if memOut m a then m.fault else { ws:=m.ws.set a.toNat v,c:={ m.c with write:=m.c.write+1 } }
def memSwap (m:MemD) (a:Int) (old fresh:Nat):MemD×Bool:=
 if memOut m a then (m.fault,false) else
 if m.ws.getD a.toNat 0=old then ({ ws:=m.ws.set a.toNat fresh,c:={ m.c with swap:=m.c.swap+1 } },true) else ({ m with c:={ m.c with swap:=m.c.swap+1 } },false)
def memAdd (m:MemD) (a:Int) (d:Nat):MemD×Nat:=
 if memOut m a then (m.fault,0) else ({ ws:=m.ws.set a.toNat ((m.ws.getD a.toNat 0+d) % 18446744073709551616),c:={ m.c with add:=m.c.add+1 } },m.ws.getD a.toNat 0)
def CountsD.all (c:CountsD):Nat:=c.read+c.write+c.swap+c.add+c.fault
def memCells (wa:Option Addr) (n cap:Nat) (c:CountsD):Array Value:=
 #[.slice wa n cap, .int .i64 (c.read : Int), .int .i64 (c.write : Int), .int .i64 (c.swap : Int), .int .i64 (c.add : Int), .int .i64 (c.fault : Int), .nilFunc]
def CapOk (wa:Option Addr) (n cap:Nat):Prop:=n<=cap/\(wa=none->cap=0)
structure MemAt (w:World) (bm:Nat) (bw:Option Nat) (m:MemD):Prop where
 blk:∃ wa cap,CapOk wa m.ws.length cap/\w.heap[bm]?=some (.cells (memCells wa m.ws.length cap m.c) 158 (0,0))/\
  (0<m.ws.length->∃ q rest,bw=some q/\wa=some ⟨q,0,none⟩/\w.heap[q]?=some (.cells (m.ws.map u64V++rest).toArray 46 (0,0)))
 apart:bw≠some bm
 low:∀ q,bw=some q->q<w.heap.size
 len:m.ws.length<=1048576
 cnt:m.c.all<1000000000000
 val:∀ x∈m.ws,x<18446744073709551616
def MemSet (bm:Nat) (bw:Option Nat) (b:Nat):Prop:=b=bm∨some b=bw
theorem MemAt.lt {w:World} {bm:Nat} {bw:Option Nat} {m:MemD} (h:MemAt w bm bw m):bm<w.heap.size:=by obtain⟨_,_,_,h1,_⟩:=h.blk;exact blk_lt h1
theorem MemAt.chg {S:Nat->Prop} {w w':World} {bm:Nat} {bw:Option Nat} {m:MemD} (h:MemAt w bm bw m) (hc:Chg S w w') (h1:¬ S bm) (h2:∀ q,bw=some q->¬ S q):MemAt w' bm bw m:=by
 obtain⟨wa,cap,hl,hb,hw⟩:=h.blk
 refine⟨⟨wa,cap,hl,(hc.block _ (blk_lt hb) h1).trans hb,λhp=>?_⟩,h.apart,λq e=>Nat.lt_of_lt_of_le (h.low q e) hc.size,h.len,h.cnt,h.val⟩
 obtain⟨q,rest,hq,ha,hr⟩:=hw hp
 exact⟨q,rest,hq,ha,(hc.block _ (h.low q hq) (h2 q hq)).trans hr⟩
theorem MemAt.gr {w w':World} {bm:Nat} {bw:Option Nat} {m:MemD} (h:MemAt w bm bw m) (hb:Below w.heap.size w w'):MemAt w' bm bw m:=
 h.chg (S:=λ_=>False) (Chg.of_below hb) (λh=>h) (λ_ _ h=>h)
theorem set_words (ws:List Nat) (rest:List Value) (j v:Nat) (hj:j<ws.length):(ws.map u64V++rest).toArray.setIfInBounds j (.int .u64 (v:Int))=((ws.set j v).map u64V++rest).toArray:=by
 apply Array.ext'
 rw [Array.toList_setIfInBounds]
 simp only
 rw [List.set_append_left _ _ (by simpa using hj),List.map_set]
 rfl
theorem MemAt.parts {w w':World} {bm:Nat} {bw:Option Nat} {m:MemD} (h:MemAt w bm bw m) (hb:Below w.heap.size w w') (j:Nat) (hj:j<m.ws.length) :
  ∃ q cap rest,bw=some q/\CapOk (some ⟨q,0,none⟩) m.ws.length cap/\w'.heap[bm]?=some (.cells (memCells (some ⟨q,0,none⟩) m.ws.length cap m.c) 158 (0,0))/\w'.heap[q]?=some (.cells (m.ws.map u64V++rest).toArray 46 (0,0))/\
   w'.cell? ⟨q,j,none⟩=some (.int .u64 ((m.ws.getD j 0:Nat):Int)):=by
 obtain⟨wa,cap,hl,hbm,hw⟩:=(h.gr hb).blk
 obtain⟨q,rest,hq,rfl,hr⟩:=hw (by omega)
 refine⟨q,cap,rest,hq,hl,hbm,hr,?_⟩
 rw [cell_blk hr]
 simp [u64V,List.getD_eq_getElem?_getD,hj,List.getElem?_append]
theorem memOut_in {m:MemD} {a:Int} (h:memOut m a=false):∃ j:Nat,a=(j:Int)/\a.toNat=j/\j<m.ws.length:=by
 unfold memOut at h
 simp only [Bool.or_eq_false_iff,decide_eq_false_iff_not] at h
 exact⟨a.toNat,by omega,rfl,by omega⟩
theorem all_lt {c:CountsD} (h:c.all<1000000000000):(c.read:Int)<1000000000000/\(c.write:Int)<1000000000000/\(c.swap:Int)<1000000000000/\(c.add:Int)<1000000000000/\(c.fault:Int)<1000000000000:=by
 unfold CountsD.all at h;omega
theorem read_in (bm:Nat) (bw:Option Nat) (m:MemD) (j x:Nat) (w:World) (h:MemAt w bm bw m) (hj:j<m.ws.length) (hx:m.ws.getD j 0=x) (hcnt:m.c.all+1<1000000000000) :
  Calls Tryz.prog 169 #[.pointer (some ⟨bm,0,none⟩),.int .i64 (j:Int)] w λe w'=>e=.returned (.int .u64 (x:Int))/\MemAt w' bm bw { m with c:={ m.c with read:=m.c.read+1 } }/\Chg (MemSet bm bw) w w':=by
 have hgr:=Gr.new w (.cells #[.int .u64 0] 46)
 obtain⟨q,cap,rest,rfl,hcap,hbm,hbw,hcell⟩:=h.parts hgr j hj
 rw [hx] at hcell
 have hlt:=h.lt;have hlw:=h.low q rfl;have hap:q≠bm:=(λe=>h.apart (by rw [e]));have hlen:=h.len;have hval:=h.val
 have hal:=all_lt h.cnt
 have A:=access_read bm q j w.heap.size 0 m.ws.length cap m.c.read x 0 (w.alloc (.cells #[.int .u64 0] 46))
  (by rw [cell_blk hbm];rfl) (by rw [cell_blk hbm];rfl) (by omega) (by omega) (by rw [cell_blk hbm];rfl) hcell hj hlen hap (by rw [cell_new];rfl) (World.frozen?_alloc_new _ _ _ _) (frozen_blk hbm 1) (by omega) (by omega)
 obtain⟨w2,hw2⟩:∃ w2,w2=(((w.alloc (.cells #[.int .u64 0] 46)).setCell ⟨bm,1,none⟩ (.int .i64 ((m.c.read:Int)+1))).setCell ⟨w.heap.size,0,none⟩ (.int .u64 (x:Int))):=⟨_,rfl⟩
 have hfin:w2.cell? ⟨w.heap.size,0,none⟩=some (.int .u64 (x:Int)):=by
  rw [hw2]
  exact World.cell?_setCell_same _ _ _ (u:=.int .u64 0) (by rw [cell_set_other _ (by simp;omega),cell_new];rfl)
 have hm':MemAt w2 bm (some q) { m with c:={ m.c with read:=m.c.read+1 } }:=by
  rw [hw2]
  refine⟨⟨some ⟨q,0,none⟩,cap,hcap,?_,λ_=>⟨q,rest,rfl,rfl,?_⟩⟩,(λe=>hap (by simpa using e)),(λq2 e=>by cases e;simp;omega),hlen,by unfold CountsD.all at hcnt ⊢;simp only;omega,hval⟩
  ·rw [blk_set_other (by omega),blk_set hbm];rfl
  ·rw [blk_set_other (by omega),blk_set_other hap];exact hbw
 have hchg:Chg (MemSet bm (some q)) w w2:=by
  rw [hw2]
  exact((Chg.of_below hgr).setCell (.inl (.inl rfl)) _).setCell (.inr (Nat.le_refl _)) _
 rw [<-hw2] at A
 have A':=Lib.hid A;have Hm:=Lib.hid hm';have Hc:=Lib.hid hchg
 clear A hw2 hm' hchg hgr hbm hbw hcell hlt hlw hap hval hal hcap hcnt h hx
 go_enter Tryz.func169,Tryz.ntmps169
 go_wp2_with fail
 refine A'.out.mono ?_
 rintro e w1 ⟨rfl,rfl⟩
 go_wp2
 go_ret
 exact⟨rfl,Hm.out,Hc.out⟩
theorem write_in (bm:Nat) (bw:Option Nat) (m:MemD) (j v:Nat) (w:World) (h:MemAt w bm bw m) (hj:j<m.ws.length) (hv:v<18446744073709551616) (hcnt:m.c.all+1<1000000000000) :
  Calls Tryz.prog 204 #[.pointer (some ⟨bm,0,none⟩),.int .i64 (j:Int),.int .u64 (v:Int)] w λe w'=>e=.returned (.tuple #[])/\MemAt w' bm bw { ws:=m.ws.set j v,c:={ m.c with write:=m.c.write+1 } }/\Chg (MemSet bm bw) w w':=by
 have hgr:=Gr.new w (.cells #[.int .u64 (v:Int)] 46)
 obtain⟨q,cap,rest,rfl,hcap,hbm,hbw,hcell⟩:=h.parts hgr j hj
 obtain⟨x,hx⟩:∃ x,x=m.ws.getD j 0:=⟨_,rfl⟩
 rw [<-hx] at hcell
 have hlt:=h.lt;have hlw:=h.low q rfl;have hap:q≠bm:=(λe=>h.apart (by rw [e]));have hlen:=h.len;have hval:=h.val
 have hal:=all_lt h.cnt
 have A:=access_write bm q j w.heap.size 0 m.ws.length cap m.c.write x v (w.alloc (.cells #[.int .u64 (v:Int)] 46))
  (by rw [cell_blk hbm];rfl) (by rw [cell_blk hbm];rfl) (by omega) (by omega) (by rw [cell_blk hbm];rfl) hcell (frozen_blk hbw j) hj hlen hap (by rw [cell_new];rfl) (frozen_blk hbm 2) (by omega)
 obtain⟨w2,hw2⟩:∃ w2,w2=(((w.alloc (.cells #[.int .u64 (v:Int)] 46)).setCell ⟨bm,2,none⟩ (.int .i64 ((m.c.write:Int)+1))).setCell ⟨q,j,none⟩ (.int .u64 (v:Int))):=⟨_,rfl⟩
 have hm':MemAt w2 bm (some q) { ws:=m.ws.set j v,c:={ m.c with write:=m.c.write+1 } }:=by
  rw [hw2]
  refine⟨⟨some ⟨q,0,none⟩,cap,by simpa [CapOk] using hcap,?_,λ_=>⟨q,rest,rfl,rfl,?_⟩⟩,(λe=>hap (by simpa using e)),(λq2 e=>by cases e;simp;omega),by simpa using hlen,by unfold CountsD.all at hcnt ⊢;simp only;omega,?_⟩
  ·rw [blk_set_other (by omega),blk_set hbm];simp [memCells]
  ·rw [blk_set (by rw [blk_set_other hap];exact hbw),set_words _ _ _ _ hj]
  ·intro y hy
   rcases List.mem_or_eq_of_mem_set hy with h1|rfl
   ·exact hval y h1
   ·exact hv
 have hchg:Chg (MemSet bm (some q)) w w2:=by
  rw [hw2]
  exact((Chg.of_below hgr).setCell (.inl (.inl rfl)) _).setCell (.inl (.inr rfl)) _
 rw [<-hw2] at A
 have A':=Lib.hid A;have Hm:=Lib.hid hm';have Hc:=Lib.hid hchg
 clear A hw2 hm' hchg hgr hbm hbw hcell hlt hlw hap hval hal hcap hcnt h hx
 go_enter Tryz.func204,Tryz.ntmps204
 go_wp2_with fail
 refine A'.out.mono ?_
 rintro e w1 ⟨rfl,rfl⟩
 go_wp2
 go_end0
 exact⟨rfl,Hm.out,Hc.out⟩
end
section

/- Layer 2: contracts of mem's methods: swap, addresses that are none, memories that are none, and what a memory is made of. -/
open Go.RowKit
theorem access_out (bm:Nat) (wa:Option Addr) (len cap:Nat) (n k a:Int) (f1 f2:Value) (w:World) (h0:w.cell? ⟨bm,0,none⟩=some (.slice wa len cap)) (h1:w.cell? ⟨bm,5,none⟩=some (.int .i64 n)) (hn:0<=n) (hn2:n<1000000000000)
  (hlen:len<=1048576) (hf1:w.frozen? ⟨bm,5,none⟩=false) (ha:a<0∨(len:Int)<=a) :
  Calls Tryz.prog 170 #[.pointer (some ⟨bm,0,none⟩),.int .i64 k,.int .i64 a,f1,f2] w λe w'=>e=.returned (.tuple #[])/\w'=w.setCell ⟨bm,5,none⟩ (.int .i64 (n+1)):=by
 by_cases h:a<0
 ·clear ha
  go_enter Tryz.func170,Tryz.ntmps170
  go_wp2
  (refine bodyPost_ret (results_none rfl _ _ _) rfl ?_)
  exact⟨rfl,rfl⟩
 ·have ha2:(len:Int)<=a:=by omega
  clear ha
  go_enter Tryz.func170,Tryz.ntmps170
  go_wp2
  (refine bodyPost_ret (results_none rfl _ _ _) rfl ?_)
  exact⟨rfl,rfl⟩
theorem MemAt.faults {w w':World} {bm:Nat} {bw:Option Nat} {m:MemD} (h:MemAt w bm bw m) (hb:Below w.heap.size w w') (hcnt:m.c.all+1<1000000000000) :
  ∃ wa cap,w'.heap[bm]?=some (.cells (memCells wa m.ws.length cap m.c) 158 (0,0))/\MemAt (w'.setCell ⟨bm,5,none⟩ (.int .i64 ((m.c.fault:Int)+1))) bm bw m.fault/\Chg (MemSet bm bw) w (w'.setCell ⟨bm,5,none⟩ (.int .i64 ((m.c.fault:Int)+1))):=by
 have hg:=h.gr hb
 have hap:=h.apart;have hlow:=hg.low
 obtain⟨wa,cap,hl,hbm,hw⟩:=hg.blk
 refine⟨wa,cap,hbm,⟨⟨wa,cap,hl,?_,λhp=>?_⟩,hap,(λq e=>by have:=hlow q e;simpa using this),h.len,by unfold MemD.fault CountsD.all at *;simp only;omega,h.val⟩,(Chg.of_below hb).setCell (.inl (.inl rfl)) _⟩
 ·rw [blk_set hbm];simp [memCells,MemD.fault]
 ·obtain⟨q,rest,hq,ha,hr⟩:=hw hp
  exact⟨q,rest,hq,ha,by rw [blk_set_other (by rintro rfl;exact hap hq)];exact hr⟩
theorem outOf {m:MemD} {a:Int} (h:memOut m a=true):a<0∨(m.ws.length:Int)<=a:=by
 unfold memOut at h;simpa using h
theorem read_out (bm:Nat) (bw:Option Nat) (m:MemD) (a:Int) (w:World) (h:MemAt w bm bw m) (ha:memOut m a=true) (hcnt:m.c.all+1<1000000000000) :
  Calls Tryz.prog 169 #[.pointer (some ⟨bm,0,none⟩),.int .i64 a] w λe w'=>e=.returned (.int .u64 0)/\MemAt w' bm bw m.fault/\Chg (MemSet bm bw) w w':=by
 have hgr:=Gr.new w (.cells #[.int .u64 0] 46)
 obtain⟨wa,cap,hbm,hm,hc⟩:=h.faults hgr hcnt
 have hal:=all_lt h.cnt;have hlt:=h.lt
 have A:=access_out bm wa m.ws.length cap m.c.fault 0 a (.func (.func 171) #[] #[]) (.func (.func 172) #[] #[.pointer (some ⟨w.heap.size,0,none⟩)]) _ (by rw [cell_blk hbm];rfl) (by rw [cell_blk hbm];rfl) (by omega) (by omega) h.len (frozen_blk hbm 5) (outOf ha)
 obtain⟨w2,hw2⟩:∃ w2,w2=(w.alloc (.cells #[.int .u64 0] 46)).setCell ⟨bm,5,none⟩ (.int .i64 ((m.c.fault:Int)+1)):=⟨_,rfl⟩
 have hfin:w2.cell? ⟨w.heap.size,0,none⟩=some (.int .u64 0):=by rw [hw2,cell_set_other _ (by simp;omega),cell_new];rfl
 rw [<-hw2] at A hm hc
 have A':=Lib.hid A;have Hm:=Lib.hid hm;have Hc:=Lib.hid hc
 clear A hw2 hm hc hgr hbm hal hcnt ha h
 go_enter Tryz.func169,Tryz.ntmps169
 go_wp2_with fail
 refine A'.out.mono ?_
 rintro e w1 ⟨rfl,rfl⟩
 go_wp2
 go_ret
 exact⟨rfl,Hm.out,Hc.out⟩
theorem write_out (bm:Nat) (bw:Option Nat) (m:MemD) (a v:Int) (w:World) (h:MemAt w bm bw m) (ha:memOut m a=true) (hcnt:m.c.all+1<1000000000000) :
  Calls Tryz.prog 204 #[.pointer (some ⟨bm,0,none⟩),.int .i64 a,.int .u64 v] w λe w'=>e=.returned (.tuple #[])/\MemAt w' bm bw m.fault/\Chg (MemSet bm bw) w w':=by
 have hgr:=Gr.new w (.cells #[.int .u64 v] 46)
 obtain⟨wa,cap,hbm,hm,hc⟩:=h.faults hgr hcnt
 have hal:=all_lt h.cnt;have hlt:=h.lt
 have A:=access_out bm wa m.ws.length cap m.c.fault 1 a (.func (.func 205) #[] #[]) (.func (.func 206) #[] #[.pointer (some ⟨w.heap.size,0,none⟩)]) _ (by rw [cell_blk hbm];rfl) (by rw [cell_blk hbm];rfl) (by omega) (by omega) h.len (frozen_blk hbm 5) (outOf ha)
 obtain⟨w2,hw2⟩:∃ w2,w2=(w.alloc (.cells #[.int .u64 v] 46)).setCell ⟨bm,5,none⟩ (.int .i64 ((m.c.fault:Int)+1)):=⟨_,rfl⟩
 rw [<-hw2] at A hm hc
 have A':=Lib.hid A;have Hm:=Lib.hid hm;have Hc:=Lib.hid hc
 clear A hw2 hm hc hgr hbm hal hcnt ha h
 go_enter Tryz.func204,Tryz.ntmps204
 go_wp2_with fail
 refine A'.out.mono ?_
 rintro e w1 ⟨rfl,rfl⟩
 go_wp2
 go_end0
 exact⟨rfl,Hm.out,Hc.out⟩
def countsV (c:CountsD):Value:=.agg #[.int .i64 (c.read:Int),.int .i64 (c.write:Int),.int .i64 (c.swap:Int),.int .i64 (c.add:Int),.int .i64 (c.fault:Int)]
theorem counts_any (bm:Nat) (bw:Option Nat) (m:MemD) (w:World) (h:MemAt w bm bw m):Calls Tryz.prog 67 #[.pointer (some ⟨bm,0,none⟩)] w λe w'=>e=.returned (countsV m.c)/\Below w.heap.size w w':=by
 obtain⟨wa,cap,_,hb,_⟩:=(h.gr (Gr.new w (.cells #[.int .i64 0,.int .i64 0,.int .i64 0,.int .i64 0,.int .i64 0] 30))).blk
 have k1:=cell_blk hb 1;have k2:=cell_blk hb 2;have k3:=cell_blk hb 3;have k4:=cell_blk hb 4;have k5:=cell_blk hb 5
 simp [memCells] at k1 k2 k3 k4 k5
 clear h hb
 go_enter Tryz.func67,Tryz.ntmps67
 go_wp2
 exact bodyPost_ret (v:=countsV m.c) (by simp [results,Tryz.results67 ,go_sem,countsV]) rfl ⟨rfl,Gr.new _ _⟩
theorem range_map_words (ws:List Nat):(List.range ws.length).map (λj=>u64V (ws.getD j 0))=ws.map u64V:=by
 apply List.ext_getElem
 ·simp
 ·intro i h1 h2
  simp at h1 h2
  simp [List.getD_eq_getElem?_getD,h2]
def u64G (ws:List Nat) (j _f:Nat):Value:=u64V (ws.getD j 0)
theorem MemAt.sl {w:World} {bm:Nat} {bw:Option Nat} {m:MemD} {wa:Option Addr} (h:MemAt w bm bw m) (hw:0<m.ws.length->∃ q rest,bw=some q/\wa=some ⟨q,0,none⟩/\w.heap[q]?=some (.cells (m.ws.map u64V++rest).toArray 46 (0,0))) :
  SlAt w wa m.ws.length 1 (u64G m.ws):=by
 refine⟨by have:=h.len;unfold maxLen;omega,λj hj=>?_⟩
 obtain⟨q,rest,hq,rfl,hr⟩:=hw (by omega)
 refine⟨q,0,rfl,h.low q hq,λf hf=>?_⟩
 obtain rfl:f=0:=by omega
 rw [cell_blk hr]
 simp [u64G,u64V,List.getD_eq_getElem?_getD,hj,List.getElem?_append]
theorem words_any (bm:Nat) (bw:Option Nat) (m:MemD) (w:World) (h:MemAt w bm bw m):Calls Tryz.prog 66 #[.pointer (some ⟨bm,0,none⟩)] w λe w'=>∃ v,e=.returned v/\w'.ownsRow w.heap.size 46 1 v m.ws.length (m.ws.map u64V)/\Below w.heap.size w w':=by
 obtain⟨wa,cap,hcap,hb,hw⟩:=h.blk
 have c0:w.cell? ⟨bm,0,none⟩=some (.slice wa m.ws.length cap):=by rw [cell_blk hb];rfl
 have hc:=clone_u64 wa m.ws.length cap (u64G m.ws) w (h.sl hw) (λj=>rfl) (by have:=h.len;omega) hcap.2
 rw [show(List.range m.ws.length).map (λj=>u64G m.ws j 0)=m.ws.map u64V from range_map_words m.ws] at hc
 have Hc:=Lib.hid hc
 clear h hb hw hcap hc
 go_enter Tryz.func66,Tryz.ntmps66
 go_wp2_with fail
 refine Hc.out.mono ?_
 rintro e w1 ⟨v,rfl,ho,hb,_⟩
 have Ho:=Lib.hid ho;have Hb:=Lib.hid hb
 clear ho hb
 go_wp2
 go_ret
 exact⟨v,rfl,Ho.out,Hb.out⟩
theorem read_any (bm:Nat) (bw:Option Nat) (m:MemD) (a:Int) (w:World) (h:MemAt w bm bw m) (hcnt:m.c.all+1<1000000000000) :
  Calls Tryz.prog 169 #[.pointer (some ⟨bm,0,none⟩),.int .i64 a] w λe w'=>e=.returned (.int .u64 ((memRead m a).2:Int))/\MemAt w' bm bw (memRead m a).1/\Chg (MemSet bm bw) w w':=by
 cases ho:memOut m a with
 | true=>unfold memRead;simp only [ho,if_true];exact read_out bm bw m a w h ho hcnt
 | false=>
  obtain⟨j,rfl,ht,hj⟩:=memOut_in ho
  unfold memRead;rw [if_neg (by rw [ho];simp)]
  simp only [ht]
  exact read_in bm bw m j _ w h hj rfl hcnt
theorem write_any (bm:Nat) (bw:Option Nat) (m:MemD) (a:Int) (v:Nat) (w:World) (h:MemAt w bm bw m) (hv:v<18446744073709551616) (hcnt:m.c.all+1<1000000000000) :
  Calls Tryz.prog 204 #[.pointer (some ⟨bm,0,none⟩),.int .i64 a,.int .u64 (v:Int)] w λe w'=>e=.returned (.tuple #[])/\MemAt w' bm bw (memWrite m a v)/\Chg (MemSet bm bw) w w':=by
 cases ho:memOut m a with
 | true=>unfold memWrite;simp only [ho,if_true];exact write_out bm bw m a v w h ho hcnt
 | false=>
  obtain⟨j,rfl,ht,hj⟩:=memOut_in ho
  unfold memWrite;rw [if_neg (by rw [ho];simp)]
  simp only [ht]
  exact write_in bm bw m j v w h hj hv hcnt
def c0:CountsD:=⟨0,0,0,0,0⟩
theorem new_mem (a:Option Addr) (c:Nat) (ws:List Nat) (w:World) (hs:SlAt w a ws.length 1 (u64G ws)) (hn:ws.length<=65536) (hc:a=none->c=0) (hv:∀ x∈ws,x<18446744073709551616) :
  Calls Tryz.prog 61 #[.slice a ws.length c] w λe w'=>∃ bm bw,e=.returned (.tuple #[.pointer (some ⟨bm,0,none⟩),.int .i64 0])/\MemAt w' bm bw ⟨ws,c0⟩/\Below w.heap.size w w'/\w.heap.size<=bm/\(∀ q,bw=some q->w.heap.size<=q):=by
 have h1:(ws.length:Int)<=65536:=by omega
 have hc:=clone_u64 a ws.length c (u64G ws) w hs (λj=>rfl) (by omega) hc
 rw [show(List.range ws.length).map (λj=>u64G ws j 0)=ws.map u64V from range_map_words ws] at hc
 have Hc:=Lib.hid hc
 have Hn:=Lib.hid hn;have Hv:=Lib.hid hv
 clear hs hc hn hv
 go_enter Tryz.func61,Tryz.ntmps61
 go_wp2_with fail
 refine Hc.out.mono ?_
 rintro e w1 ⟨v,rfl,ho,hb,hnil⟩
 obtain⟨a',c',rfl⟩:∃ a' c',v=.slice a' ws.length c':=by
  rcases ho.2 with⟨h,h0⟩|⟨q,cap,cur,h,_⟩
  ·exact⟨none,0,by rw [h,h0]⟩
  ·exact⟨_,_,h⟩
 have Hsz:=Lib.hid hb.size
 obtain⟨w2,hw2⟩:∃ w2,w2=w1.alloc (.cells #[.slice a' ws.length c',.int .i64 0,.int .i64 0,.int .i64 0,.int .i64 0,.int .i64 0,.nilFunc] 158):=⟨_,rfl⟩
 have hmem:∃ bw,MemAt w2 w1.heap.size bw ⟨ws,c0⟩/\(∀ q,bw=some q->w.heap.size<=q):=by
  obtain⟨_,h2⟩:=ho
  have hsz:=hb.size
  rcases h2 with⟨h9,h0⟩|⟨q,cap,cur,h9,hq,hh,hcap,_,hcs,htake⟩<;>simp only [Value.slice.injEq] at h9
  ·obtain⟨rfl,_,rfl⟩:=h9
   obtain rfl:ws=[]:=List.eq_nil_of_length_eq_zero h0
   refine⟨none,⟨⟨none,0,⟨Nat.le_refl _,λ_=>rfl⟩,?_,λh=>absurd h (by simp)⟩,by simp,(λ_ e=>by cases e),by simp,(by show CountsD.all c0<_;decide),(λ_ h=>by cases h)⟩,(λ_ e=>by cases e)⟩
   rw [hw2];exact heap_alloc_new _ _
  ·obtain⟨rfl,_,rfl⟩:=h9
   refine⟨some q,⟨⟨some ⟨q,0,none⟩,c',⟨hcap,λh=>by cases h⟩,?_,λ_=>⟨q,cur.toList.drop ws.length,rfl,rfl,?_⟩⟩,?_,?_,(by have:=Hn.out;simp only;omega),(by show CountsD.all c0<_;decide),Hv.out⟩,(λq2 e=>by cases e;exact hq)⟩
   ·rw [hw2];exact heap_alloc_new _ _
   ·rw [hw2,Below.heap_alloc _ _ _ (blk_lt hh),hh]
    rw [Nat.mul_one] at htake
    rw [<-htake,List.take_append_drop]
   ·intro e;cases e;have:=blk_lt hh;omega
   ·intro q2 e;cases e;rw [hw2];have:=blk_lt hh;simp;omega
 have hb2:Below w.heap.size w w2:=by rw [hw2];exact Gr.alloc hb _
 obtain⟨bw,hm,hq⟩:=hmem
 have Hm:=Lib.hid hm;have Hq:=Lib.hid hq;have Hb2:=Lib.hid hb2;have Hw2:=Lib.hid hw2
 clear ho hb hnil hm hq hb2 hw2
 go_wp2
 rw [<-Hw2.out]
 go_ret2
 exact⟨_,bw,rfl,Hm.out,Hb2.out,Hsz.out,Hq.out⟩
end
end Go.Proofs.YteffgpcjfnjlkaaGreat
