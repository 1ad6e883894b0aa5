/- Plain arithmetic of bit fields of words: no program in sight. -/
import Derived.WalkKit
import Derived.Test.YtifhldnmcdbpfaaV01
import Derived.Test.YtifhldnmcdbpfaaV02
import Derived.StillTailTactics
set_option maxRecDepth 100000
set_option linter.unusedVariables false
set_option linter.unusedSimpArgs false
set_option linter.unnecessarySimpa false
namespace Go.Proofs.Ytifhldnmcdbpfaa
section
open Go.RowKit
def U64 (x:Nat):Prop:=x<18446744073709551616
theorem U64.lt {x:Nat} (h:U64 x):x<18446744073709551616:=h
theorem RF {s:Nat} (h2:s<=64):2^s<=18446744073709551616:=by
 have:2^s<=2^64:=Nat.pow_le_pow_right (by omega) h2
 omega
theorem LM {x a s:Nat} (hx:U64 x) (h2:s<=64):bits BinOp.and IntKind.u64 ((x:Int) / 2^a) ((2^s - 1:Nat):Int)=((x / 2^a % 2^s:Nat):Int):=by
 have e:((x:Int) / 2^a)=((x / 2^a:Nat):Int):=by simp
 have h1:=RF h2
 have h3:x / 2^a<=x:=Nat.div_le_self _ _
 unfold U64 at hx
 rw [e,u64_and_nat _ _ (by omega) (by omega),Nat.and_two_pow_sub_one_eq_mod]
end
section
open Go.RowKit
theorem eX {w:World} {p q:Addr} (v:Value) (h:q.block≠p.block):(w.setCell p v).cell? q=w.cell? q:=World.cell?_of_block (w:=w) (Below.heap_setCell _ _ _ _ h)
theorem jQ {w:World} {p q:Addr} (v:Value) (h:q.block≠p.block):(w.setCell p v).frozen? q=w.frozen? q:=by
 have:=Below.heap_setCell w p v _ h
 simp only [World.frozen?,this]
theorem JH (b:Nat) (w:World):Calls Try.prog 146 #[.pointer (some ⟨b,1,none⟩)] w λe w'=>e=.returned (.pointer (some ⟨b,1,none⟩))/\w=w':=by
 go_enter Try.func146,Try.ntmps146
 go_wp2
 go_ret
 exact⟨rfl,rfl⟩
theorem KN (b j b2 j2:Nat) (x o:Int) (w:World) (h:w.cell? ⟨b,j,none⟩=some (.int .u64 x)) (ho:w.cell? ⟨b2,j2,none⟩=some (.int .u64 o)) (hf:w.frozen? ⟨b2,j2,none⟩=false) :
  Calls Try.prog 147 #[.pointer (some ⟨b,j,none⟩),.pointer (some ⟨b2,j2,none⟩)] w λe w'=>e=.returned (.tuple #[])/\w'=w.setCell ⟨b2,j2,none⟩ (.int .u64 x):=by
 go_enter Try.func147,Try.ntmps147
 go_wp2
 go_end0
 exact⟨rfl,rfl⟩
theorem qL (u:World):Sem.run Try.prog (binOp BinOp.neq 147 Value.nilFunc Value.nilFunc) u=Result.ok (.bool false) u:=by
 first
 | kernel_rfl
 | rfl
theorem yK (bm bw j b2 j2:Nat) (len cap:Nat) (n x o:Int) (w:World) (h0:w.cell? ⟨bm,0,none⟩=some (.slice (some ⟨bw,0,none⟩) len cap)) (h1:w.cell? ⟨bm,1,none⟩=some (.int .i64 n)) (hn:0<=n) (hn2:n<1000000000000)
  (h6:w.cell? ⟨bm,6,none⟩=some .nilFunc) (hw:w.cell? ⟨bw,j,none⟩=some (.int .u64 x)) (hj:j<len) (hlen:len<=1048576) (hbw:bw≠bm) (ho:w.cell? ⟨b2,j2,none⟩=some (.int .u64 o)) (hf:w.frozen? ⟨b2,j2,none⟩=false) (hf1:w.frozen? ⟨bm,1,none⟩=false) (hb2:b2≠bm) (hb3:b2≠bw) :
  Calls Try.prog 145 #[.pointer (some ⟨bm,0,none⟩),.int .i64 0,.int .i64 (j:Int),.func (.func 146) #[] #[],.func (.func 147) #[] #[.pointer (some ⟨b2,j2,none⟩)]] w λe w'=>
   e=.returned (.tuple #[])/\w'=(w.setCell ⟨bm,1,none⟩ (.int .i64 (n+1))).setCell ⟨b2,j2,none⟩ (.int .u64 x):=by
 have hj1:(j:Int)<len:=by omega
 have C:=Lib.hid (JH bm)
 have hnn:=qL
 go_enter Try.func145,Try.ntmps145
 go_wp2_with fail
 refine(C.out _).mono ?_
 rintro e w1 ⟨rfl,rfl⟩
 have ho2:(w.setCell ⟨bm,1,none⟩ (.int .i64 (n+1))).cell? ⟨b2,j2,none⟩=some (.int .u64 o):=by rw [eX _ (by exact hb2)];exact ho
 have hf2:(w.setCell ⟨bm,1,none⟩ (.int .i64 (n+1))).frozen? ⟨b2,j2,none⟩=false:=by rw [jQ _ (by exact hb2)];exact hf
 have hw2:(w.setCell ⟨bm,1,none⟩ (.int .i64 (n+1))).cell? ⟨bw,j,none⟩=some (.int .u64 x):=by rw [eX _ (by exact hbw)];exact hw
 go_wp2_with fail
 refine(KN bw j b2 j2 x o _ hw2 ho2 hf2).mono ?_
 rintro e w1 ⟨rfl,rfl⟩
 go_wp2
 go_end0
 exact⟨rfl,rfl⟩
theorem DD (b:Nat) (w:World):Calls Try.prog 154 #[.pointer (some ⟨b,1,none⟩)] w λe w'=>e=.returned (.pointer (some ⟨b,2,none⟩))/\w=w':=by
 go_enter Try.func154,Try.ntmps154
 go_wp2
 go_ret
 exact⟨rfl,rfl⟩
theorem FR (b j b2 j2:Nat) (v o:Int) (w:World) (h:w.cell? ⟨b,j,none⟩=some (.int .u64 o)) (hf:w.frozen? ⟨b,j,none⟩=false) (hv:w.cell? ⟨b2,j2,none⟩=some (.int .u64 v)) :
  Calls Try.prog 155 #[.pointer (some ⟨b,j,none⟩),.pointer (some ⟨b2,j2,none⟩)] w λe w'=>e=.returned (.tuple #[])/\w'=w.setCell ⟨b,j,none⟩ (.int .u64 v):=by
 go_enter Try.func155,Try.ntmps155
 go_wp2
 go_end0
 exact⟨rfl,rfl⟩
theorem wI (bm bw j b2 j2:Nat) (len cap:Nat) (n x o:Int) (w:World) (h0:w.cell? ⟨bm,0,none⟩=some (.slice (some ⟨bw,0,none⟩) len cap)) (h1:w.cell? ⟨bm,2,none⟩=some (.int .i64 n)) (hn:0<=n) (hn2:n<1000000000000)
  (h6:w.cell? ⟨bm,6,none⟩=some .nilFunc) (hw:w.cell? ⟨bw,j,none⟩=some (.int .u64 x)) (hfw:w.frozen? ⟨bw,j,none⟩=false) (hj:j<len) (hlen:len<=1048576) (hbw:bw≠bm) (ho:w.cell? ⟨b2,j2,none⟩=some (.int .u64 o)) (hf1:w.frozen? ⟨bm,2,none⟩=false) (hb2:b2≠bm) :
  Calls Try.prog 145 #[.pointer (some ⟨bm,0,none⟩),.int .i64 1,.int .i64 (j:Int),.func (.func 154) #[] #[],.func (.func 155) #[] #[.pointer (some ⟨b2,j2,none⟩)]] w λe w'=>
   e=.returned (.tuple #[])/\w'=(w.setCell ⟨bm,2,none⟩ (.int .i64 (n+1))).setCell ⟨bw,j,none⟩ (.int .u64 o):=by
 have hj1:(j:Int)<len:=by omega
 have C:=Lib.hid (DD bm)
 have hnn:=qL
 go_enter Try.func145,Try.ntmps145
 go_wp2_with fail
 refine(C.out _).mono ?_
 rintro e w1 ⟨rfl,rfl⟩
 have ho2:(w.setCell ⟨bm,2,none⟩ (.int .i64 (n+1))).cell? ⟨b2,j2,none⟩=some (.int .u64 o):=by rw [eX _ (by exact hb2)];exact ho
 have hw2:(w.setCell ⟨bm,2,none⟩ (.int .i64 (n+1))).cell? ⟨bw,j,none⟩=some (.int .u64 x):=by rw [eX _ (by exact hbw)];exact hw
 have hf2:(w.setCell ⟨bm,2,none⟩ (.int .i64 (n+1))).frozen? ⟨bw,j,none⟩=false:=by rw [jQ _ (by exact hbw)];exact hfw
 go_wp2_with fail
 refine(FR bw j b2 j2 o x _ hw2 hf2 ho2).mono ?_
 rintro e w1 ⟨rfl,rfl⟩
 go_wp2
 go_end0
 exact⟨rfl,rfl⟩
end
section
open Go.RowKit
theorem uZ:(Try.prog.info? 3).map (λi=>(i.zero,i.size,i.bytes))=some (some (.int .i64 0),1,8):=by kernel_rfl
theorem vL:(Try.prog.info? 40).map (λi=>(i.zero,i.size,i.bytes))=some (some (.int .u64 0),1,8):=by kernel_rfl
theorem uQ (a:Option Addr) (n c:Nat) (g:Nat->Nat->Value) (w:World) (hs:bQ w a n 1 g) (h1:∀ j,(g j 0).oneCell'=true) (hn:n<=1000000000) (hc:a=none->c=0) :
  Calls Try.prog 79 #[.slice a n c] w λe w'=>∃ v,e=.returned v/\w'.ownsRow w.heap.size 40 1 v n ((List.range n).map λj=>g j 0)/\Below w.heap.size w w'/\(v=.slice none 0 0↔a=none):=by
 have Hs:=Lib.hid hs;have H1:=Lib.hid h1
 obtain⟨i0,hi,hz0,hz1,hz2⟩:=info_parts vL
 have hnl:∀ u:World,(binOp .eql 28 (.slice a n c) (.slice none 0 0)).run Try.prog u=.ok (.bool a.isNone) u:=λu=>Lib.run_eql_slice_nil u _ 40 _ _ _ _ _ Try.underlying28
 clear hs h1
 cases a with
 | none=>
  obtain rfl:n=0:=by
   rcases Nat.eq_zero_or_pos n with h|h
   ·exact h
   ·obtain⟨b,off,h0,_⟩:=Hs.out.2 0 h;cases h0
  obtain rfl:=hc rfl
  simp only [Option.isNone_none] at hnl
  clear hc
  go_enter Try.func79,Try.ntmps79
  go_wp2
  go_ret
  exact⟨_,rfl,World.ownsRow_nil _ _ _ _,Gr.refl _,by simp⟩
 | some ad=>
  simp only [Option.isNone_some] at hnl
  clear hc
  have hown:(w.alloc (.cells #[] 40)).ownsRow w.heap.size 40 1 (.slice (some ⟨w.heap.size,0,none⟩) 0 0) 0 []:=World.ownsRow_made w #[] 0 (Nat.le_refl _) (Nat.zero_le _) rfl
  have hnew:∀ j u,((List.range n).map λj=>g j 0)[j]?=some u->(w.alloc (.cells #[] 40)).cell? (ad.add j)=some u:=by
   intro j u hu
   simp only [List.getElem?_map,Option.map_eq_some_iff] at hu
   obtain⟨i,hi2,rfl⟩:=hu
   rw [List.getElem?_eq_some_iff] at hi2
   obtain⟨hj,rfl⟩:=hi2
   simp only [List.length_range] at hj
   rw [List.getElem_range]
   obtain⟨b,off,h0,hb,hcell⟩:=(Hs.out.grown (Gr.new w (.cells #[] 40))).2 j hj
   cases h0
   have:=hcell 0 (by omega)
   rw [Nat.mul_one,Nat.add_zero] at this
   rw [<-this]
   unfold Addr.add
   split
   ·rename_i h;rw [h];rfl
   ·rfl
  have Hnew:=Lib.hid hnew;have Hown:=Lib.hid hown
  clear hnew hown
  go_enter Try.func79,Try.ntmps79
  go_wp2_with (at_builtin;refine wpList_append_own _ rfl (.tmp 5) (.tmp 6) 28 rfl w.heap.size 40 i0 (.int .u64 0) 1 8 Try.underlying28 hi hz0 hz1 hz2 rfl (by decide) (.slice (some ⟨w.heap.size,0,none⟩) 0 0) 0 [] rfl Hown.out ad n c ((List.range n).map λj=>g j 0) rfl ?c1 Hnew.out ?c2 ?c3 ?c4 ?c5 ?_)
  case c1=>simp
  case c2=>
   intro u hu
   obtain⟨j,_,rfl⟩:=List.mem_map.1 hu
   exact H1.out j
  case c3=>unfold maxLen;omega
  case c4=>omega
  case c5=>simp
  intro v w1 hown1 hgrow hnil
  have Hg:=Lib.hid hgrow;have Ho:=Lib.hid hown1;have Hn:=Lib.hid hnil
  clear hgrow hown1 hnil
  go_wp2
  go_ret
  refine⟨v,rfl,?_,(Gr.new w _).grown Hg.out (by simp) (λk hk=>by simp only [Value.ownBlock,Option.some.injEq] at hk;omega),?_⟩
  ·have h5:=Ho.out
   simpa using h5
  ·constructor
   ·intro h;exact absurd h (by simpa using Hn.out)
   ·intro h;cases h
theorem ER (a:Option Addr) (n c:Nat) (g:Nat->Nat->Value) (w:World) (hs:bQ w a n 1 g) (h1:∀ j,(g j 0).oneCell'=true) (hn:n<=1000000000) (hc:a=none->c=0) :
  Calls Try.prog 179 #[.slice a n c] w λe w'=>∃ v,e=.returned v/\w'.ownsRow w.heap.size 3 1 v n ((List.range n).map λj=>g j 0)/\Below w.heap.size w w'/\(v=.slice none 0 0↔a=none):=by
 have Hs:=Lib.hid hs;have H1:=Lib.hid h1
 obtain⟨i0,hi,hz0,hz1,hz2⟩:=info_parts uZ
 have hnl:∀ u:World,(binOp .eql 24 (.slice a n c) (.slice none 0 0)).run Try.prog u=.ok (.bool a.isNone) u:=λu=>Lib.run_eql_slice_nil u _ 3 _ _ _ _ _ Try.underlying24
 clear hs h1
 cases a with
 | none=>
  obtain rfl:n=0:=by
   rcases Nat.eq_zero_or_pos n with h|h
   ·exact h
   ·obtain⟨b,off,h0,_⟩:=Hs.out.2 0 h;cases h0
  obtain rfl:=hc rfl
  simp only [Option.isNone_none] at hnl
  clear hc
  go_enter Try.func179,Try.ntmps179
  go_wp2
  go_ret
  exact⟨_,rfl,World.ownsRow_nil _ _ _ _,Gr.refl _,by simp⟩
 | some ad=>
  simp only [Option.isNone_some] at hnl
  clear hc
  have hown:(w.alloc (.cells #[] 3)).ownsRow w.heap.size 3 1 (.slice (some ⟨w.heap.size,0,none⟩) 0 0) 0 []:=World.ownsRow_made w #[] 0 (Nat.le_refl _) (Nat.zero_le _) rfl
  have hnew:∀ j u,((List.range n).map λj=>g j 0)[j]?=some u->(w.alloc (.cells #[] 3)).cell? (ad.add j)=some u:=by
   intro j u hu
   simp only [List.getElem?_map,Option.map_eq_some_iff] at hu
   obtain⟨i,hi2,rfl⟩:=hu
   rw [List.getElem?_eq_some_iff] at hi2
   obtain⟨hj,rfl⟩:=hi2
   simp only [List.length_range] at hj
   rw [List.getElem_range]
   obtain⟨b,off,h0,hb,hcell⟩:=(Hs.out.grown (Gr.new w (.cells #[] 3))).2 j hj
   cases h0
   have:=hcell 0 (by omega)
   rw [Nat.mul_one,Nat.add_zero] at this
   rw [<-this]
   unfold Addr.add
   split
   ·rename_i h;rw [h];rfl
   ·rfl
  have Hnew:=Lib.hid hnew;have Hown:=Lib.hid hown
  clear hnew hown
  go_enter Try.func179,Try.ntmps179
  go_wp2_with (at_builtin;refine wpList_append_own _ rfl (.tmp 5) (.tmp 6) 24 rfl w.heap.size 3 i0 (.int .i64 0) 1 8 Try.underlying24 hi hz0 hz1 hz2 rfl (by decide) (.slice (some ⟨w.heap.size,0,none⟩) 0 0) 0 [] rfl Hown.out ad n c ((List.range n).map λj=>g j 0) rfl ?c1 Hnew.out ?c2 ?c3 ?c4 ?c5 ?_)
  case c1=>simp
  case c2=>
   intro u hu
   obtain⟨j,_,rfl⟩:=List.mem_map.1 hu
   exact H1.out j
  case c3=>unfold maxLen;omega
  case c4=>omega
  case c5=>simp
  intro v w1 hown1 hgrow hnil
  have Hg:=Lib.hid hgrow;have Ho:=Lib.hid hown1;have Hn:=Lib.hid hnil
  clear hgrow hown1 hnil
  go_wp2
  go_ret
  refine⟨v,rfl,?_,(Gr.new w _).grown Hg.out (by simp) (λk hk=>by simp only [Value.ownBlock,Option.some.injEq] at hk;omega),?_⟩
  ·have h5:=Ho.out
   simpa using h5
  ·constructor
   ·intro h;exact absurd h (by simpa using Hn.out)
   ·intro h;cases h
end
section
open Go.RowKit
structure dV where
 read:Nat
 write:Nat
 swap:Nat
 add:Nat
 fault:Nat
deriving DecidableEq
structure fE where
 ws:List Nat
 c:dV
deriving DecidableEq
def lG (x:Nat):Value:=.int .u64 (x:Int)
def fE.fault (m:fE):fE:={ m with c:={ m.c with fault:=m.c.fault+1 } }
def fU (m:fE) (a:Int):Bool:=decide (a<0) || decide ((m.ws.length:Int)<=a)
def cZ (m:fE) (a:Int):fE×Nat:=if fU m a then (m.fault,0) else ({ m with c:={ m.c with read:=m.c.read+1 } },m.ws.getD a.toNat 0)
def bS (m:fE) (a:Int) (v:Nat):fE:=if fU m a then m.fault else { ws:=m.ws.set a.toNat v,c:={ m.c with write:=m.c.write+1 } }
def KP (m:fE) (a:Int) (old fresh:Nat):fE×Bool:=
 if fU m a then (m.fault,false) else
 if m.ws.getD a.toNat 0=old then ({ ws:=m.ws.set a.toNat fresh,c:={ m.c with swap:=m.c.swap+1 } },true) else ({ m with c:={ m.c with swap:=m.c.swap+1 } },false)
def FL (m:fE) (a:Int) (d:Nat):fE×Nat:=
 if fU m a then (m.fault,0) else ({ ws:=m.ws.set a.toNat ((m.ws.getD a.toNat 0+d) % 18446744073709551616),c:={ m.c with add:=m.c.add+1 } },m.ws.getD a.toNat 0)
def dV.all (c:dV):Nat:=c.read+c.write+c.swap+c.add+c.fault
def jX (wa:Option Addr) (n cap:Nat) (c:dV):Array Value:=
 #[.slice wa n cap, .int .i64 (c.read : Int), .int .i64 (c.write : Int), .int .i64 (c.swap : Int), .int .i64 (c.add : Int), .int .i64 (c.fault : Int), .nilFunc]
def FW (wa:Option Addr) (n cap:Nat):Prop:=n<=cap/\(wa=none->cap=0)
structure bZ (w:World) (bm:Nat) (bw:Option Nat) (m:fE):Prop where
 blk:∃ wa cap,FW wa m.ws.length cap/\w.heap[bm]?=some (.cells (jX wa m.ws.length cap m.c) 149 (0,0))/\
  (0<m.ws.length->∃ q rest,bw=some q/\wa=some ⟨q,0,none⟩/\w.heap[q]?=some (.cells (m.ws.map lG++rest).toArray 40 (0,0)))
 apart:bw≠some bm
 low:∀ q,bw=some q->q<w.heap.size
 len:m.ws.length<=1048576
 cnt:m.c.all<1000000000000
 val:∀ x∈m.ws,x<18446744073709551616
def bY (bm:Nat) (bw:Option Nat) (b:Nat):Prop:=b=bm∨some b=bw
theorem bZ.lt {w:World} {bm:Nat} {bw:Option Nat} {m:fE} (h:bZ w bm bw m):bm<w.heap.size:=by obtain⟨_,_,_,h1,_⟩:=h.blk;exact aC h1
theorem bZ.chg {S:Nat->Prop} {w w':World} {bm:Nat} {bw:Option Nat} {m:fE} (h:bZ w bm bw m) (hc:Chg S w w') (h1:¬ S bm) (h2:∀ q,bw=some q->¬ S q):bZ w' bm bw m:=by
 obtain⟨wa,cap,hl,hb,hw⟩:=h.blk
 refine⟨⟨wa,cap,hl,(hc.block _ (aC hb) h1).trans hb,λhp=>?_⟩,h.apart,λq e=>Nat.lt_of_lt_of_le (h.low q e) hc.size,h.len,h.cnt,h.val⟩
 obtain⟨q,rest,hq,ha,hr⟩:=hw hp
 exact⟨q,rest,hq,ha,(hc.block _ (h.low q hq) (h2 q hq)).trans hr⟩
theorem bZ.gr {w w':World} {bm:Nat} {bw:Option Nat} {m:fE} (h:bZ w bm bw m) (hb:Below w.heap.size w w'):bZ w' bm bw m:=
 h.chg (S:=λ_=>False) (Chg.of_below hb) (λh=>h) (λ_ _ h=>h)
theorem DJ (ws:List Nat) (rest:List Value) (j v:Nat) (hj:j<ws.length):(ws.map lG++rest).toArray.setIfInBounds j (.int .u64 (v:Int))=((ws.set j v).map lG++rest).toArray:=by
 apply Array.ext'
 rw [Array.toList_setIfInBounds]
 simp only
 rw [List.set_append_left _ _ (by simpa using hj),List.map_set]
 rfl
theorem bZ.parts {w w':World} {bm:Nat} {bw:Option Nat} {m:fE} (h:bZ w bm bw m) (hb:Below w.heap.size w w') (j:Nat) (hj:j<m.ws.length) :
  ∃ q cap rest,bw=some q/\FW (some ⟨q,0,none⟩) m.ws.length cap/\w'.heap[bm]?=some (.cells (jX (some ⟨q,0,none⟩) m.ws.length cap m.c) 149 (0,0))/\w'.heap[q]?=some (.cells (m.ws.map lG++rest).toArray 40 (0,0))/\
   w'.cell? ⟨q,j,none⟩=some (.int .u64 ((m.ws.getD j 0:Nat):Int)):=by
 obtain⟨wa,cap,hl,hbm,hw⟩:=(h.gr hb).blk
 obtain⟨q,rest,hq,rfl,hr⟩:=hw (by omega)
 refine⟨q,cap,rest,hq,hl,hbm,hr,?_⟩
 rw [aA hr]
 simp [lG,List.getD_eq_getElem?_getD,hj,List.getElem?_append]
theorem uK {m:fE} {a:Int} (h:fU m a=false):∃ j:Nat,a=(j:Int)/\a.toNat=j/\j<m.ws.length:=by
 unfold fU at h
 simp only [Bool.or_eq_false_iff,decide_eq_false_iff_not] at h
 exact⟨a.toNat,by omega,rfl,by omega⟩
theorem wH {c:dV} (h:c.all<1000000000000):(c.read:Int)<1000000000000/\(c.write:Int)<1000000000000/\(c.swap:Int)<1000000000000/\(c.add:Int)<1000000000000/\(c.fault:Int)<1000000000000:=by
 unfold dV.all at h;omega
theorem KR (bm:Nat) (bw:Option Nat) (m:fE) (j x:Nat) (w:World) (h:bZ w bm bw m) (hj:j<m.ws.length) (hx:m.ws.getD j 0=x) (hcnt:m.c.all+1<1000000000000) :
  Calls Try.prog 144 #[.pointer (some ⟨bm,0,none⟩),.int .i64 (j:Int)] w λe w'=>e=.returned (.int .u64 (x:Int))/\bZ w' bm bw { m with c:={ m.c with read:=m.c.read+1 } }/\Chg (bY bm bw) w w':=by
 have hgr:=Gr.new w (.cells #[.int .u64 0] 40)
 obtain⟨q,cap,rest,rfl,hcap,hbm,hbw,hcell⟩:=h.parts hgr j hj
 rw [hx] at hcell
 have hlt:=h.lt;have hlw:=h.low q rfl;have hap:q≠bm:=(λe=>h.apart (by rw [e]));have hlen:=h.len;have hval:=h.val
 have hal:=wH h.cnt
 have A:=yK bm q j w.heap.size 0 m.ws.length cap m.c.read x 0 (w.alloc (.cells #[.int .u64 0] 40))
  (by rw [aA hbm];rfl) (by rw [aA hbm];rfl) (by omega) (by omega) (by rw [aA hbm];rfl) hcell hj hlen hap (by rw [eF];rfl) (World.frozen?_alloc_new _ _ _ _) (aB hbm 1) (by omega) (by omega)
 obtain⟨w2,hw2⟩:∃ w2,w2=(((w.alloc (.cells #[.int .u64 0] 40)).setCell ⟨bm,1,none⟩ (.int .i64 ((m.c.read:Int)+1))).setCell ⟨w.heap.size,0,none⟩ (.int .u64 (x:Int))):=⟨_,rfl⟩
 have hfin:w2.cell? ⟨w.heap.size,0,none⟩=some (.int .u64 (x:Int)):=by
  rw [hw2]
  exact World.cell?_setCell_same _ _ _ (u:=.int .u64 0) (by rw [eX _ (by simp;omega),eF];rfl)
 have hm':bZ w2 bm (some q) { m with c:={ m.c with read:=m.c.read+1 } }:=by
  rw [hw2]
  refine⟨⟨some ⟨q,0,none⟩,cap,hcap,?_,λ_=>⟨q,rest,rfl,rfl,?_⟩⟩,(λe=>hap (by simpa using e)),(λq2 e=>by cases e;simp;omega),hlen,by unfold dV.all at hcnt ⊢;simp only;omega,hval⟩
  ·rw [aX (by omega),aH hbm];rfl
  ·rw [aX (by omega),aX hap];exact hbw
 have hchg:Chg (bY bm (some q)) w w2:=by
  rw [hw2]
  exact((Chg.of_below hgr).setCell (.inl (.inl rfl)) _).setCell (.inr (Nat.le_refl _)) _
 rw [<-hw2] at A
 have A':=Lib.hid A;have Hm:=Lib.hid hm';have Hc:=Lib.hid hchg
 clear A hw2 hm' hchg hgr hbm hbw hcell hlt hlw hap hval hal hcap hcnt h hx
 go_enter Try.func144,Try.ntmps144
 go_wp2_with fail
 refine A'.out.mono ?_
 rintro e w1 ⟨rfl,rfl⟩
 go_wp2
 go_ret
 exact⟨rfl,Hm.out,Hc.out⟩
theorem IX (bm:Nat) (bw:Option Nat) (m:fE) (j v:Nat) (w:World) (h:bZ w bm bw m) (hj:j<m.ws.length) (hv:v<18446744073709551616) (hcnt:m.c.all+1<1000000000000) :
  Calls Try.prog 151 #[.pointer (some ⟨bm,0,none⟩),.int .i64 (j:Int),.int .u64 (v:Int)] w λe w'=>e=.returned (.tuple #[])/\bZ w' bm bw { ws:=m.ws.set j v,c:={ m.c with write:=m.c.write+1 } }/\Chg (bY bm bw) w w':=by
 have hgr:=Gr.new w (.cells #[.int .u64 (v:Int)] 40)
 obtain⟨q,cap,rest,rfl,hcap,hbm,hbw,hcell⟩:=h.parts hgr j hj
 obtain⟨x,hx⟩:∃ x,x=m.ws.getD j 0:=⟨_,rfl⟩
 rw [<-hx] at hcell
 have hlt:=h.lt;have hlw:=h.low q rfl;have hap:q≠bm:=(λe=>h.apart (by rw [e]));have hlen:=h.len;have hval:=h.val
 have hal:=wH h.cnt
 have A:=wI bm q j w.heap.size 0 m.ws.length cap m.c.write x v (w.alloc (.cells #[.int .u64 (v:Int)] 40))
  (by rw [aA hbm];rfl) (by rw [aA hbm];rfl) (by omega) (by omega) (by rw [aA hbm];rfl) hcell (aB hbw j) hj hlen hap (by rw [eF];rfl) (aB hbm 2) (by omega)
 obtain⟨w2,hw2⟩:∃ w2,w2=(((w.alloc (.cells #[.int .u64 (v:Int)] 40)).setCell ⟨bm,2,none⟩ (.int .i64 ((m.c.write:Int)+1))).setCell ⟨q,j,none⟩ (.int .u64 (v:Int))):=⟨_,rfl⟩
 have hm':bZ w2 bm (some q) { ws:=m.ws.set j v,c:={ m.c with write:=m.c.write+1 } }:=by
  rw [hw2]
  refine⟨⟨some ⟨q,0,none⟩,cap,by simpa [FW] using hcap,?_,λ_=>⟨q,rest,rfl,rfl,?_⟩⟩,(λe=>hap (by simpa using e)),(λq2 e=>by cases e;simp;omega),by simpa using hlen,by unfold dV.all at hcnt ⊢;simp only;omega,?_⟩
  ·rw [aX (by omega),aH hbm];simp [jX]
  ·rw [aH (by rw [aX hap];exact hbw),DJ _ _ _ _ hj]
  ·intro y hy
   rcases List.mem_or_eq_of_mem_set hy with h1|rfl
   ·exact hval y h1
   ·exact hv
 have hchg:Chg (bY bm (some q)) w w2:=by
  rw [hw2]
  exact((Chg.of_below hgr).setCell (.inl (.inl rfl)) _).setCell (.inl (.inr rfl)) _
 rw [<-hw2] at A
 have A':=Lib.hid A;have Hm:=Lib.hid hm';have Hc:=Lib.hid hchg
 clear A hw2 hm' hchg hgr hbm hbw hcell hlt hlw hap hval hal hcap hcnt h hx
 go_enter Try.func151,Try.ntmps151
 go_wp2_with fail
 refine A'.out.mono ?_
 rintro e w1 ⟨rfl,rfl⟩
 go_wp2
 go_end0
 exact⟨rfl,Hm.out,Hc.out⟩
end
end Go.Proofs.Ytifhldnmcdbpfaa
