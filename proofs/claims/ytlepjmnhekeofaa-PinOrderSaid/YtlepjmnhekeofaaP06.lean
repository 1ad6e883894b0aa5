/- Layer 2: a memory as numbers; contracts of mem's methods. -/
import Derived.Test.YtlepjmnhekeofaaP05
set_option maxRecDepth 100000
set_option linter.unusedVariables false
set_option linter.unusedSimpArgs false
set_option linter.unnecessarySimpa false
namespace Go.Proofs.Ytlepjmnhekeofaa
open Go.RowKit
structure CountsD where
 read:Nat
 write:Nat
 swap:Nat
 add:Nat
 fault:Nat
deriving DecidableEq
structure MemD where
 ws:List Nat
 c:CountsD
deriving DecidableEq
def u64V (x:Nat):Value:=.int .u64 (x:Int)
def MemD.fault (m:MemD):MemD:={ m with c:={ m.c with fault:=m.c.fault+1 } }
def memOut (m:MemD) (a:Int):Bool:=decide (a<0) || decide ((m.ws.length:Int)<=a)
def memRead (m:MemD) (a:Int):MemD×Nat:=if memOut m a then (m.fault,0) else ({ m with c:={ m.c with read:=m.c.read+1 } },m.ws.getD a.toNat 0)
def memWrite (m:MemD) (a:Int) (v:Nat):MemD:=if memOut m a then m.fault else { ws:=m.ws.set a.toNat v,c:={ m.c with write:=m.c.write+1 } }
def memSwap (m:MemD) (a:Int) (old fresh:Nat):MemD×Bool:=
 if memOut m a then (m.fault,false) else
 if m.ws.getD a.toNat 0=old then ({ ws:=m.ws.set a.toNat fresh,c:={ m.c with swap:=m.c.swap+1 } },true) else ({ m with c:={ m.c with swap:=m.c.swap+1 } },false)
def memAdd (m:MemD) (a:Int) (d:Nat):MemD×Nat:=
 if memOut m a then (m.fault,0) else ({ ws:=m.ws.set a.toNat ((m.ws.getD a.toNat 0+d) % 18446744073709551616),c:={ m.c with add:=m.c.add+1 } },m.ws.getD a.toNat 0)
def CountsD.all (c:CountsD):Nat:=c.read+c.write+c.swap+c.add+c.fault
def memCells (wa:Option Addr) (n cap:Nat) (c:CountsD):Array Value:=
 #[.slice wa n cap, .int .i64 (c.read : Int), .int .i64 (c.write : Int), .int .i64 (c.swap : Int), .int .i64 (c.add : Int), .int .i64 (c.fault : Int), .nilFunc]
def CapOk (wa:Option Addr) (n cap:Nat):Prop:=n<=cap/\(wa=none->cap=0)
structure MemAt (w:World) (bm:Nat) (bw:Option Nat) (m:MemD):Prop where
 blk:∃ wa cap,CapOk wa m.ws.length cap/\w.heap[bm]?=some (.cells (memCells wa m.ws.length cap m.c) 137 (0,0))/\
  (0<m.ws.length->∃ q rest,bw=some q/\wa=some ⟨q,0,none⟩/\w.heap[q]?=some (.cells (m.ws.map u64V++rest).toArray 40 (0,0)))
 apart:bw≠some bm
 low:∀ q,bw=some q->q<w.heap.size
 len:m.ws.length<=1048576
 cnt:m.c.all<1000000000000
 val:∀ x∈m.ws,x<18446744073709551616
def MemSet (bm:Nat) (bw:Option Nat) (b:Nat):Prop:=b=bm∨some b=bw
theorem MemAt.lt {w:World} {bm:Nat} {bw:Option Nat} {m:MemD} (h:MemAt w bm bw m):bm<w.heap.size:=by obtain⟨_,_,_,h1,_⟩:=h.blk;exact blk_lt h1
theorem MemAt.chg {S:Nat->Prop} {w w':World} {bm:Nat} {bw:Option Nat} {m:MemD} (h:MemAt w bm bw m) (hc:Chg S w w') (h1:¬ S bm) (h2:∀ q,bw=some q->¬ S q):MemAt w' bm bw m:=by
 obtain⟨wa,cap,hl,hb,hw⟩:=h.blk
 refine⟨⟨wa,cap,hl,(hc.block _ (blk_lt hb) h1).trans hb,λhp=>?_⟩,h.apart,λq e=>Nat.lt_of_lt_of_le (h.low q e) hc.size,h.len,h.cnt,h.val⟩
 obtain⟨q,rest,hq,ha,hr⟩:=hw hp
 exact⟨q,rest,hq,ha,(hc.block _ (h.low q hq) (h2 q hq)).trans hr⟩
theorem MemAt.gr {w w':World} {bm:Nat} {bw:Option Nat} {m:MemD} (h:MemAt w bm bw m) (hb:Below w.heap.size w w'):MemAt w' bm bw m:=
 h.chg (S:=λ_=>False) (Chg.of_below hb) (λh=>h) (λ_ _ h=>h)
theorem set_words (ws:List Nat) (rest:List Value) (j v:Nat) (hj:j<ws.length):(ws.map u64V++rest).toArray.setIfInBounds j (.int .u64 (v:Int))=((ws.set j v).map u64V++rest).toArray:=by
 apply Array.ext'
 rw [Array.toList_setIfInBounds]
 simp only
 rw [List.set_append_left _ _ (by simpa using hj),List.map_set]
 rfl
theorem MemAt.parts {w w':World} {bm:Nat} {bw:Option Nat} {m:MemD} (h:MemAt w bm bw m) (hb:Below w.heap.size w w') (j:Nat) (hj:j<m.ws.length) :
  ∃ q cap rest,bw=some q/\CapOk (some ⟨q,0,none⟩) m.ws.length cap/\w'.heap[bm]?=some (.cells (memCells (some ⟨q,0,none⟩) m.ws.length cap m.c) 137 (0,0))/\w'.heap[q]?=some (.cells (m.ws.map u64V++rest).toArray 40 (0,0))/\
   w'.cell? ⟨q,j,none⟩=some (.int .u64 ((m.ws.getD j 0:Nat):Int)):=by
 obtain⟨wa,cap,hl,hbm,hw⟩:=(h.gr hb).blk
 obtain⟨q,rest,hq,rfl,hr⟩:=hw (by omega)
 refine⟨q,cap,rest,hq,hl,hbm,hr,?_⟩
 rw [cell_blk hr]
 simp [u64V,List.getD_eq_getElem?_getD,hj,List.getElem?_append]
theorem memOut_in {m:MemD} {a:Int} (h:memOut m a=false):∃ j:Nat,a=(j:Int)/\a.toNat=j/\j<m.ws.length:=by
 unfold memOut at h
 simp only [Bool.or_eq_false_iff,decide_eq_false_iff_not] at h
 exact⟨a.toNat,by omega,rfl,by omega⟩
theorem all_lt {c:CountsD} (h:c.all<1000000000000):(c.read:Int)<1000000000000/\(c.write:Int)<1000000000000/\(c.swap:Int)<1000000000000/\(c.add:Int)<1000000000000/\(c.fault:Int)<1000000000000:=by
 unfold CountsD.all at h;omega
theorem read_in (bm:Nat) (bw:Option Nat) (m:MemD) (j x:Nat) (w:World) (h:MemAt w bm bw m) (hj:j<m.ws.length) (hx:m.ws.getD j 0=x) (hcnt:m.c.all+1<1000000000000) :
  Calls Try.prog 115 #[.pointer (some ⟨bm,0,none⟩),.int .i64 (j:Int)] w λe w'=>e=.returned (.int .u64 (x:Int))/\MemAt w' bm bw { m with c:={ m.c with read:=m.c.read+1 } }/\Chg (MemSet bm bw) w w':=by
 have hgr:=Gr.new w (.cells #[.int .u64 0] 40)
 obtain⟨q,cap,rest,rfl,hcap,hbm,hbw,hcell⟩:=h.parts hgr j hj
 rw [hx] at hcell
 have hlt:=h.lt;have hlw:=h.low q rfl;have hap:q≠bm:=(λe=>h.apart (by rw [e]));have hlen:=h.len;have hval:=h.val
 have hal:=all_lt h.cnt
 have A:=access_read bm q j w.heap.size 0 m.ws.length cap m.c.read x 0 (w.alloc (.cells #[.int .u64 0] 40))
  (by rw [cell_blk hbm];rfl) (by rw [cell_blk hbm];rfl) (by omega) (by omega) (by rw [cell_blk hbm];rfl) hcell hj hlen hap (by rw [cell_new];rfl) (World.frozen?_alloc_new _ _ _ _) (frozen_blk hbm 1) (by omega) (by omega)
 obtain⟨w2,hw2⟩:∃ w2,w2=(((w.alloc (.cells #[.int .u64 0] 40)).setCell ⟨bm,1,none⟩ (.int .i64 ((m.c.read:Int)+1))).setCell ⟨w.heap.size,0,none⟩ (.int .u64 (x:Int))):=⟨_,rfl⟩
 have hfin:w2.cell? ⟨w.heap.size,0,none⟩=some (.int .u64 (x:Int)):=by
  rw [hw2]
  exact World.cell?_setCell_same _ _ _ (u:=.int .u64 0) (by rw [cell_set_other _ (by simp;omega),cell_new];rfl)
 have hm':MemAt w2 bm (some q) { m with c:={ m.c with read:=m.c.read+1 } }:=by
  rw [hw2]
  refine⟨⟨some ⟨q,0,none⟩,cap,hcap,?_,λ_=>⟨q,rest,rfl,rfl,?_⟩⟩,(λe=>hap (by simpa using e)),(λq2 e=>by cases e;simp;omega),hlen,by unfold CountsD.all at hcnt ⊢;simp only;omega,hval⟩
  ·rw [blk_set_other (by omega),blk_set hbm];rfl
  ·rw [blk_set_other (by omega),blk_set_other hap];exact hbw
 have hchg:Chg (MemSet bm (some q)) w w2:=by
  rw [hw2]
  exact((Chg.of_below hgr).setCell (.inl (.inl rfl)) _).setCell (.inr (Nat.le_refl _)) _
 rw [<-hw2] at A
 have A':=Lib.hid A;have Hm:=Lib.hid hm';have Hc:=Lib.hid hchg
 clear A hw2 hm' hchg hgr hbm hbw hcell hlt hlw hap hval hal hcap hcnt h hx
 go_enter Try.func115,Try.ntmps115
 go_wp2_with fail
 refine A'.out.mono ?_
 rintro e w1 ⟨rfl,rfl⟩
 go_wp2
 go_ret
 exact⟨rfl,Hm.out,Hc.out⟩
theorem write_in (bm:Nat) (bw:Option Nat) (m:MemD) (j v:Nat) (w:World) (h:MemAt w bm bw m) (hj:j<m.ws.length) (hv:v<18446744073709551616) (hcnt:m.c.all+1<1000000000000) :
  Calls Try.prog 120 #[.pointer (some ⟨bm,0,none⟩),.int .i64 (j:Int),.int .u64 (v:Int)] w λe w'=>e=.returned (.tuple #[])/\MemAt w' bm bw { ws:=m.ws.set j v,c:={ m.c with write:=m.c.write+1 } }/\Chg (MemSet bm bw) w w':=by
 have hgr:=Gr.new w (.cells #[.int .u64 (v:Int)] 40)
 obtain⟨q,cap,rest,rfl,hcap,hbm,hbw,hcell⟩:=h.parts hgr j hj
 obtain⟨x,hx⟩:∃ x,x=m.ws.getD j 0:=⟨_,rfl⟩
 rw [<-hx] at hcell
 have hlt:=h.lt;have hlw:=h.low q rfl;have hap:q≠bm:=(λe=>h.apart (by rw [e]));have hlen:=h.len;have hval:=h.val
 have hal:=all_lt h.cnt
 have A:=access_write bm q j w.heap.size 0 m.ws.length cap m.c.write x v (w.alloc (.cells #[.int .u64 (v:Int)] 40))
  (by rw [cell_blk hbm];rfl) (by rw [cell_blk hbm];rfl) (by omega) (by omega) (by rw [cell_blk hbm];rfl) hcell (frozen_blk hbw j) hj hlen hap (by rw [cell_new];rfl) (frozen_blk hbm 2) (by omega)
 obtain⟨w2,hw2⟩:∃ w2,w2=(((w.alloc (.cells #[.int .u64 (v:Int)] 40)).setCell ⟨bm,2,none⟩ (.int .i64 ((m.c.write:Int)+1))).setCell ⟨q,j,none⟩ (.int .u64 (v:Int))):=⟨_,rfl⟩
 have hm':MemAt w2 bm (some q) { ws:=m.ws.set j v,c:={ m.c with write:=m.c.write+1 } }:=by
  rw [hw2]
  refine⟨⟨some ⟨q,0,none⟩,cap,by simpa [CapOk] using hcap,?_,λ_=>⟨q,rest,rfl,rfl,?_⟩⟩,(λe=>hap (by simpa using e)),(λq2 e=>by cases e;simp;omega),by simpa using hlen,by unfold CountsD.all at hcnt ⊢;simp only;omega,?_⟩
  ·rw [blk_set_other (by omega),blk_set hbm];simp [memCells]
  ·rw [blk_set (by rw [blk_set_other hap];exact hbw),set_words _ _ _ _ hj]
  ·intro y hy
   rcases List.mem_or_eq_of_mem_set hy with h1|rfl
   ·exact hval y h1
   ·exact hv
 have hchg:Chg (MemSet bm (some q)) w w2:=by
  rw [hw2]
  exact((Chg.of_below hgr).setCell (.inl (.inl rfl)) _).setCell (.inl (.inr rfl)) _
 rw [<-hw2] at A
 have A':=Lib.hid A;have Hm:=Lib.hid hm';have Hc:=Lib.hid hchg
 clear A hw2 hm' hchg hgr hbm hbw hcell hlt hlw hap hval hal hcap hcnt h hx
 go_enter Try.func120,Try.ntmps120
 go_wp2_with fail
 refine A'.out.mono ?_
 rintro e w1 ⟨rfl,rfl⟩
 go_wp2
 go_end0
 exact⟨rfl,Hm.out,Hc.out⟩
theorem add_in (bm:Nat) (bw:Option Nat) (m:MemD) (j d x:Nat) (w:World) (h:MemAt w bm bw m) (hj:j<m.ws.length) (hx:m.ws.getD j 0=x) (hcnt:m.c.all+1<1000000000000) :
  Calls Try.prog 125 #[.pointer (some ⟨bm,0,none⟩),.int .i64 (j:Int),.int .u64 (d:Int)] w λe w'=>e=.returned (.int .u64 (x:Int))/\MemAt w' bm bw { ws:=m.ws.set j ((x+d) % 18446744073709551616),c:={ m.c with add:=m.c.add+1 } }/\Chg (MemSet bm bw) w w':=by
 have hgr:Below w.heap.size w ((w.alloc (.cells #[.int .u64 (d:Int)] 40)).alloc (.cells #[.int .u64 0] 40)):=Gr.alloc (Gr.new w _) _
 obtain⟨q,cap,rest,rfl,hcap,hbm,hbw,hcell⟩:=h.parts hgr j hj
 rw [hx] at hcell
 have hlt:=h.lt;have hlw:=h.low q rfl;have hap:q≠bm:=(λe=>h.apart (by rw [e]));have hlen:=h.len;have hval:=h.val
 have hal:=all_lt h.cnt
 have hwr:IntKind.u64.wrap ((x:Int)+d)=(((x+d) % 18446744073709551616:Nat):Int):=by simp [IntKind.wrap,IntKind.bits,IntKind.signed]
 have A:=access_add bm q j (w.heap.size+1) w.heap.size m.ws.length cap m.c.add x 0 d ((w.alloc (.cells #[.int .u64 (d:Int)] 40)).alloc (.cells #[.int .u64 0] 40))
  (by rw [cell_blk hbm];rfl) (by rw [cell_blk hbm];rfl) (by omega) (by omega) (by rw [cell_blk hbm];rfl) hcell (frozen_blk hbw j) hj hlen hap (by simp)
  (by simp)
  (by rw [World.cell?_alloc_lt _ _ _ (by simp),cell_new];rfl) (frozen_blk hbm 4) (by omega) (by omega) (by omega) (by omega) (by omega)
 obtain⟨w2,hw2⟩:∃ w2,w2=(((((w.alloc (.cells #[.int .u64 (d:Int)] 40)).alloc (.cells #[.int .u64 0] 40)).setCell ⟨bm,4,none⟩ (.int .i64 ((m.c.add:Int)+1))).setCell ⟨w.heap.size+1,0,none⟩ (.int .u64 (x:Int))).setCell ⟨q,j,none⟩ (.int .u64 (IntKind.u64.wrap ((x:Int)+d)))).drew:=⟨_,rfl⟩
 have hfin:w2.cell? ⟨w.heap.size+1,0,none⟩=some (.int .u64 (x:Int)):=by
  rw [hw2,World.cell?_drew,cell_set_other _ (by simp;omega)]
  exact World.cell?_setCell_same _ _ _ (u:=.int .u64 0) (by rw [cell_set_other _ (by simp;omega)];simp)
 have hm':MemAt w2 bm (some q) { ws:=m.ws.set j ((x+d) % 18446744073709551616),c:={ m.c with add:=m.c.add+1 } }:=by
  rw [hw2]
  refine⟨⟨some ⟨q,0,none⟩,cap,by simpa [CapOk] using hcap,?_,λ_=>⟨q,rest,rfl,rfl,?_⟩⟩,(λe=>hap (by simpa using e)),(λq2 e=>by cases e;simp;omega),by simpa using hlen,by unfold CountsD.all at hcnt ⊢;simp only;omega,?_⟩
  ·show(World.setCell _ _ _).heap[bm]?=_
   rw [blk_set_other (by omega),blk_set_other (by omega),blk_set hbm];simp [memCells]
  ·show(World.setCell _ _ _).heap[q]?=_
   rw [blk_set (by rw [blk_set_other (by omega),blk_set_other hap];exact hbw),hwr,set_words _ _ _ _ hj]
  ·intro y hy
   rcases List.mem_or_eq_of_mem_set hy with h1|rfl
   ·exact hval y h1
   ·exact Nat.mod_lt _ (by decide)
 have hchg:Chg (MemSet bm (some q)) w w2:=by
  rw [hw2]
  exact((((Chg.of_below hgr).setCell (.inl (.inl rfl)) _).setCell (.inr (by simp)) _).setCell (.inl (.inr rfl)) _).drew
 rw [<-hw2] at A
 have A':=Lib.hid A;have Hm:=Lib.hid hm';have Hc:=Lib.hid hchg
 clear A hw2 hm' hchg hgr hbm hbw hcell hlt hlw hap hval hal hcap hcnt h hx hwr
 go_enter Try.func125,Try.ntmps125
 go_wp2_with fail
 refine A'.out.mono ?_
 rintro e w1 ⟨rfl,rfl⟩
 go_wp2
 go_ret
 exact⟨rfl,Hm.out,Hc.out⟩
end Go.Proofs.Ytlepjmnhekeofaa
