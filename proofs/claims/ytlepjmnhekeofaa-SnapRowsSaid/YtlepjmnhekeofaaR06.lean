/- Layer 2: a memory as numbers; contracts of mem's methods. -/
import Derived.Test.YtlepjmnhekeofaaR05
set_option maxRecDepth 100000
set_option linter.unusedVariables false
set_option linter.unusedSimpArgs false
set_option linter.unnecessarySimpa false
namespace Go.Proofs.Ytlepjmnhekeofaa
section
open Go.RowKit
structure CountsD where
 read:Nat
 write:Nat
 swap:Nat
 add:Nat
 fault:Nat
deriving DecidableEq
structure MemD where
 ws:List Nat
 c:CountsD
deriving DecidableEq
def u64V (x:Nat):Value:=.int .u64 (x:Int)
def MemD.fault (m:MemD):MemD:={ m with c:={ m.c with fault:=m.c.fault+1 } }
def memOut (m:MemD) (a:Int):Bool:=decide (a<0) || decide ((m.ws.length:Int)<=a)
def memRead (m:MemD) (a:Int):MemD×Nat:=if memOut m a then (m.fault,0) else ({ m with c:={ m.c with read:=m.c.read+1 } },m.ws.getD a.toNat 0)
def memWrite (m:MemD) (a:Int) (v:Nat):MemD:=if memOut m a then m.fault else { ws:=m.ws.set a.toNat v,c:={ m.c with write:=m.c.write+1 } }
def memSwap (m:MemD) (a:Int) (old fresh:Nat):MemD×Bool:=
 if memOut m a then (m.fault,false) else
 if m.ws.getD a.toNat 0=old then ({ ws:=m.ws.set a.toNat fresh,c:={ m.c with swap:=m.c.swap+1 } },true) else ({ m with c:={ m.c with swap:=m.c.swap+1 } },false)
def memAdd (m:MemD) (a:Int) (d:Nat):MemD×Nat:=
 if memOut m a then (m.fault,0) else ({ ws:=m.ws.set a.toNat ((m.ws.getD a.toNat 0+d) % 18446744073709551616),c:={ m.c with add:=m.c.add+1 } },m.ws.getD a.toNat 0)
def CountsD.all (c:CountsD):Nat:=c.read+c.write+c.swap+c.add+c.fault
def memCells (wa:Option Addr) (n cap:Nat) (c:CountsD):Array Value:=
 #[.slice wa n cap, .int .i64 (c.read : Int), .int .i64 (c.write : Int), .int .i64 (c.swap : Int), .int .i64 (c.add : Int), .int .i64 (c.fault : Int), .nilFunc]
def CapOk (wa:Option Addr) (n cap:Nat):Prop:=n<=cap/\(wa=none->cap=0)
structure MemAt (w:World) (bm:Nat) (bw:Option Nat) (m:MemD):Prop where
 blk:∃ wa cap,CapOk wa m.ws.length cap/\w.heap[bm]?=some (.cells (memCells wa m.ws.length cap m.c) 137 (0,0))/\
  (0<m.ws.length->∃ q rest,bw=some q/\wa=some ⟨q,0,none⟩/\w.heap[q]?=some (.cells (m.ws.map u64V++rest).toArray 40 (0,0)))
 apart:bw≠some bm
 low:∀ q,bw=some q->q<w.heap.size
 len:m.ws.length<=1048576
 cnt:m.c.all<1000000000000
 val:∀ x∈m.ws,x<18446744073709551616
def MemSet (bm:Nat) (bw:Option Nat) (b:Nat):Prop:=b=bm∨some b=bw
theorem MemAt.lt {w:World} {bm:Nat} {bw:Option Nat} {m:MemD} (h:MemAt w bm bw m):bm<w.heap.size:=by obtain⟨_,_,_,h1,_⟩:=h.blk;exact blk_lt h1
theorem MemAt.chg {S:Nat->Prop} {w w':World} {bm:Nat} {bw:Option Nat} {m:MemD} (h:MemAt w bm bw m) (hc:Chg S w w') (h1:¬ S bm) (h2:∀ q,bw=some q->¬ S q):MemAt w' bm bw m:=by
 obtain⟨wa,cap,hl,hb,hw⟩:=h.blk
 refine⟨⟨wa,cap,hl,(hc.block _ (blk_lt hb) h1).trans hb,λhp=>?_⟩,h.apart,λq e=>Nat.lt_of_lt_of_le (h.low q e) hc.size,h.len,h.cnt,h.val⟩
 obtain⟨q,rest,hq,ha,hr⟩:=hw hp
 exact⟨q,rest,hq,ha,(hc.block _ (h.low q hq) (h2 q hq)).trans hr⟩
theorem MemAt.gr {w w':World} {bm:Nat} {bw:Option Nat} {m:MemD} (h:MemAt w bm bw m) (hb:Below w.heap.size w w'):MemAt w' bm bw m:=
 h.chg (S:=λ_=>False) (Chg.of_below hb) (λh=>h) (λ_ _ h=>h)
theorem set_words (ws:List Nat) (rest:List Value) (j v:Nat) (hj:j<ws.length):(ws.map u64V++rest).toArray.setIfInBounds j (.int .u64 (v:Int))=((ws.set j v).map u64V++rest).toArray:=by
 apply Array.ext'
 rw [Array.toList_setIfInBounds]
 simp only
 rw [List.set_append_left _ _ (by simpa using hj),List.map_set]
 rfl
theorem MemAt.parts {w w':World} {bm:Nat} {bw:Option Nat} {m:MemD} (h:MemAt w bm bw m) (hb:Below w.heap.size w w') (j:Nat) (hj:j<m.ws.length) :
  ∃ q cap rest,bw=some q/\CapOk (some ⟨q,0,none⟩) m.ws.length cap/\w'.heap[bm]?=some (.cells (memCells (some ⟨q,0,none⟩) m.ws.length cap m.c) 137 (0,0))/\w'.heap[q]?=some (.cells (m.ws.map u64V++rest).toArray 40 (0,0))/\
   w'.cell? ⟨q,j,none⟩=some (.int .u64 ((m.ws.getD j 0:Nat):Int)):=by
 obtain⟨wa,cap,hl,hbm,hw⟩:=(h.gr hb).blk
 obtain⟨q,rest,hq,rfl,hr⟩:=hw (by omega)
 refine⟨q,cap,rest,hq,hl,hbm,hr,?_⟩
 rw [cell_blk hr]
 simp [u64V,List.getD_eq_getElem?_getD,hj,List.getElem?_append]
theorem memOut_in {m:MemD} {a:Int} (h:memOut m a=false):∃ j:Nat,a=(j:Int)/\a.toNat=j/\j<m.ws.length:=by
 unfold memOut at h
 simp only [Bool.or_eq_false_iff,decide_eq_false_iff_not] at h
 exact⟨a.toNat,by omega,rfl,by omega⟩
theorem all_lt {c:CountsD} (h:c.all<1000000000000):(c.read:Int)<1000000000000/\(c.write:Int)<1000000000000/\(c.swap:Int)<1000000000000/\(c.add:Int)<1000000000000/\(c.fault:Int)<1000000000000:=by
 unfold CountsD.all at h;omega
theorem read_in (bm:Nat) (bw:Option Nat) (m:MemD) (j x:Nat) (w:World) (h:MemAt w bm bw m) (hj:j<m.ws.length) (hx:m.ws.getD j 0=x) (hcnt:m.c.all+1<1000000000000) :
  Calls Try.prog 115 #[.pointer (some ⟨bm,0,none⟩),.int .i64 (j:Int)] w λe w'=>e=.returned (.int .u64 (x:Int))/\MemAt w' bm bw { m with c:={ m.c with read:=m.c.read+1 } }/\Chg (MemSet bm bw) w w':=by
 have hgr:=Gr.new w (.cells #[.int .u64 0] 40)
 obtain⟨q,cap,rest,rfl,hcap,hbm,hbw,hcell⟩:=h.parts hgr j hj
 rw [hx] at hcell
 have hlt:=h.lt;have hlw:=h.low q rfl;have hap:q≠bm:=(λe=>h.apart (by rw [e]));have hlen:=h.len;have hval:=h.val
 have hal:=all_lt h.cnt
 have A:=access_read bm q j w.heap.size 0 m.ws.length cap m.c.read x 0 (w.alloc (.cells #[.int .u64 0] 40))
  (by rw [cell_blk hbm];rfl) (by rw [cell_blk hbm];rfl) (by omega) (by omega) (by rw [cell_blk hbm];rfl) hcell hj hlen hap (by rw [cell_new];rfl) (World.frozen?_alloc_new _ _ _ _) (frozen_blk hbm 1) (by omega) (by omega)
 obtain⟨w2,hw2⟩:∃ w2,w2=(((w.alloc (.cells #[.int .u64 0] 40)).setCell ⟨bm,1,none⟩ (.int .i64 ((m.c.read:Int)+1))).setCell ⟨w.heap.size,0,none⟩ (.int .u64 (x:Int))):=⟨_,rfl⟩
 have hfin:w2.cell? ⟨w.heap.size,0,none⟩=some (.int .u64 (x:Int)):=by
  rw [hw2]
  exact World.cell?_setCell_same _ _ _ (u:=.int .u64 0) (by rw [cell_set_other _ (by simp;omega),cell_new];rfl)
 have hm':MemAt w2 bm (some q) { m with c:={ m.c with read:=m.c.read+1 } }:=by
  rw [hw2]
  refine⟨⟨some ⟨q,0,none⟩,cap,hcap,?_,λ_=>⟨q,rest,rfl,rfl,?_⟩⟩,(λe=>hap (by simpa using e)),(λq2 e=>by cases e;simp;omega),hlen,by unfold CountsD.all at hcnt ⊢;simp only;omega,hval⟩
  ·rw [blk_set_other (by omega),blk_set hbm];rfl
  ·rw [blk_set_other (by omega),blk_set_other hap];exact hbw
 have hchg:Chg (MemSet bm (some q)) w w2:=by
  rw [hw2]
  exact((Chg.of_below hgr).setCell (.inl (.inl rfl)) _).setCell (.inr (Nat.le_refl _)) _
 rw [<-hw2] at A
 have A':=Lib.hid A;have Hm:=Lib.hid hm';have Hc:=Lib.hid hchg
 clear A hw2 hm' hchg hgr hbm hbw hcell hlt hlw hap hval hal hcap hcnt h hx
 go_enter Try.func115,Try.ntmps115
 go_wp2_with fail
 refine A'.out.mono ?_
 rintro e w1 ⟨rfl,rfl⟩
 go_wp2
 go_ret
 exact⟨rfl,Hm.out,Hc.out⟩
theorem write_in (bm:Nat) (bw:Option Nat) (m:MemD) (j v:Nat) (w:World) (h:MemAt w bm bw m) (hj:j<m.ws.length) (hv:v<18446744073709551616) (hcnt:m.c.all+1<1000000000000) :
  Calls Try.prog 120 #[.pointer (some ⟨bm,0,none⟩),.int .i64 (j:Int),.int .u64 (v:Int)] w λe w'=>e=.returned (.tuple #[])/\MemAt w' bm bw { ws:=m.ws.set j v,c:={ m.c with write:=m.c.write+1 } }/\Chg (MemSet bm bw) w w':=by
 have hgr:=Gr.new w (.cells #[.int .u64 (v:Int)] 40)
 obtain⟨q,cap,rest,rfl,hcap,hbm,hbw,hcell⟩:=h.parts hgr j hj
 obtain⟨x,hx⟩:∃ x,x=m.ws.getD j 0:=⟨_,rfl⟩
 rw [<-hx] at hcell
 have hlt:=h.lt;have hlw:=h.low q rfl;have hap:q≠bm:=(λe=>h.apart (by rw [e]));have hlen:=h.len;have hval:=h.val
 have hal:=all_lt h.cnt
 have A:=access_write bm q j w.heap.size 0 m.ws.length cap m.c.write x v (w.alloc (.cells #[.int .u64 (v:Int)] 40))
  (by rw [cell_blk hbm];rfl) (by rw [cell_blk hbm];rfl) (by omega) (by omega) (by rw [cell_blk hbm];rfl) hcell (frozen_blk hbw j) hj hlen hap (by rw [cell_new];rfl) (frozen_blk hbm 2) (by omega)
 obtain⟨w2,hw2⟩:∃ w2,w2=(((w.alloc (.cells #[.int .u64 (v:Int)] 40)).setCell ⟨bm,2,none⟩ (.int .i64 ((m.c.write:Int)+1))).setCell ⟨q,j,none⟩ (.int .u64 (v:Int))):=⟨_,rfl⟩
 have hm':MemAt w2 bm (some q) { ws:=m.ws.set j v,c:={ m.c with write:=m.c.write+1 } }:=by
  rw [hw2]
  refine⟨⟨some ⟨q,0,none⟩,cap,by simpa [CapOk] using hcap,?_,λ_=>⟨q,rest,rfl,rfl,?_⟩⟩,(λe=>hap (by simpa using e)),(λq2 e=>by cases e;simp;omega),by simpa using hlen,by unfold CountsD.all at hcnt ⊢;simp only;omega,?_⟩
  ·rw [blk_set_other (by omega),blk_set hbm];simp [memCells]
  ·rw [blk_set (by rw [blk_set_other hap];exact hbw),set_words _ _ _ _ hj]
  ·intro y hy
   rcases List.mem_or_eq_of_mem_set hy with h1|rfl
   ·exact hval y h1
   ·exact hv
 have hchg:Chg (MemSet bm (some q)) w w2:=by
  rw [hw2]
  exact((Chg.of_below hgr).setCell (.inl (.inl rfl)) _).setCell (.inl (.inr rfl)) _
 rw [<-hw2] at A
 have A':=Lib.hid A;have Hm:=Lib.hid hm';have Hc:=Lib.hid hchg
 clear A hw2 hm' hchg hgr hbm hbw hcell hlt hlw hap hval hal hcap hcnt h hx
 go_enter Try.func120,Try.ntmps120
 go_wp2_with fail
 refine A'.out.mono ?_
 rintro e w1 ⟨rfl,rfl⟩
 go_wp2
 go_end0
 exact⟨rfl,Hm.out,Hc.out⟩
end
section

/- Layer 2: contracts of mem's methods: swap, addresses that are none, memories that are none, and what a memory is made of. -/
open Go.RowKit
theorem access_out (bm:Nat) (wa:Option Addr) (len cap:Nat) (n k a:Int) (f1 f2:Value) (w:World) (h0:w.cell? ⟨bm,0,none⟩=some (.slice wa len cap)) (h1:w.cell? ⟨bm,5,none⟩=some (.int .i64 n)) (hn:0<=n) (hn2:n<1000000000000)
  (hlen:len<=1048576) (hf1:w.frozen? ⟨bm,5,none⟩=false) (ha:a<0∨(len:Int)<=a) :
  Calls Try.prog 117 #[.pointer (some ⟨bm,0,none⟩),.int .i64 k,.int .i64 a,f1,f2] w λe w'=>e=.returned (.tuple #[])/\w'=w.setCell ⟨bm,5,none⟩ (.int .i64 (n+1)):=by
 by_cases h:a<0
 ·clear ha
  go_enter Try.func117,Try.ntmps117
  go_wp2
  (refine bodyPost_ret (results_none rfl _ _ _) rfl ?_)
  exact⟨rfl,rfl⟩
 ·have ha2:(len:Int)<=a:=by omega
  clear ha
  go_enter Try.func117,Try.ntmps117
  go_wp2
  (refine bodyPost_ret (results_none rfl _ _ _) rfl ?_)
  exact⟨rfl,rfl⟩
theorem MemAt.faults {w w':World} {bm:Nat} {bw:Option Nat} {m:MemD} (h:MemAt w bm bw m) (hb:Below w.heap.size w w') (hcnt:m.c.all+1<1000000000000) :
  ∃ wa cap,w'.heap[bm]?=some (.cells (memCells wa m.ws.length cap m.c) 137 (0,0))/\MemAt (w'.setCell ⟨bm,5,none⟩ (.int .i64 ((m.c.fault:Int)+1))) bm bw m.fault/\Chg (MemSet bm bw) w (w'.setCell ⟨bm,5,none⟩ (.int .i64 ((m.c.fault:Int)+1))):=by
 have hg:=h.gr hb
 have hap:=h.apart;have hlow:=hg.low
 obtain⟨wa,cap,hl,hbm,hw⟩:=hg.blk
 refine⟨wa,cap,hbm,⟨⟨wa,cap,hl,?_,λhp=>?_⟩,hap,(λq e=>by have:=hlow q e;simpa using this),h.len,by unfold MemD.fault CountsD.all at *;simp only;omega,h.val⟩,(Chg.of_below hb).setCell (.inl (.inl rfl)) _⟩
 ·rw [blk_set hbm];simp [memCells,MemD.fault]
 ·obtain⟨q,rest,hq,ha,hr⟩:=hw hp
  exact⟨q,rest,hq,ha,by rw [blk_set_other (by rintro rfl;exact hap hq)];exact hr⟩
theorem outOf {m:MemD} {a:Int} (h:memOut m a=true):a<0∨(m.ws.length:Int)<=a:=by
 unfold memOut at h;simpa using h
theorem read_out (bm:Nat) (bw:Option Nat) (m:MemD) (a:Int) (w:World) (h:MemAt w bm bw m) (ha:memOut m a=true) (hcnt:m.c.all+1<1000000000000) :
  Calls Try.prog 115 #[.pointer (some ⟨bm,0,none⟩),.int .i64 a] w λe w'=>e=.returned (.int .u64 0)/\MemAt w' bm bw m.fault/\Chg (MemSet bm bw) w w':=by
 have hgr:=Gr.new w (.cells #[.int .u64 0] 40)
 obtain⟨wa,cap,hbm,hm,hc⟩:=h.faults hgr hcnt
 have hal:=all_lt h.cnt;have hlt:=h.lt
 have A:=access_out bm wa m.ws.length cap m.c.fault 0 a (.func (.func 118) #[] #[]) (.func (.func 119) #[] #[.pointer (some ⟨w.heap.size,0,none⟩)]) _ (by rw [cell_blk hbm];rfl) (by rw [cell_blk hbm];rfl) (by omega) (by omega) h.len (frozen_blk hbm 5) (outOf ha)
 obtain⟨w2,hw2⟩:∃ w2,w2=(w.alloc (.cells #[.int .u64 0] 40)).setCell ⟨bm,5,none⟩ (.int .i64 ((m.c.fault:Int)+1)):=⟨_,rfl⟩
 have hfin:w2.cell? ⟨w.heap.size,0,none⟩=some (.int .u64 0):=by rw [hw2,cell_set_other _ (by simp;omega),cell_new];rfl
 rw [<-hw2] at A hm hc
 have A':=Lib.hid A;have Hm:=Lib.hid hm;have Hc:=Lib.hid hc
 clear A hw2 hm hc hgr hbm hal hcnt ha h
 go_enter Try.func115,Try.ntmps115
 go_wp2_with fail
 refine A'.out.mono ?_
 rintro e w1 ⟨rfl,rfl⟩
 go_wp2
 go_ret
 exact⟨rfl,Hm.out,Hc.out⟩
theorem write_out (bm:Nat) (bw:Option Nat) (m:MemD) (a v:Int) (w:World) (h:MemAt w bm bw m) (ha:memOut m a=true) (hcnt:m.c.all+1<1000000000000) :
  Calls Try.prog 120 #[.pointer (some ⟨bm,0,none⟩),.int .i64 a,.int .u64 v] w λe w'=>e=.returned (.tuple #[])/\MemAt w' bm bw m.fault/\Chg (MemSet bm bw) w w':=by
 have hgr:=Gr.new w (.cells #[.int .u64 v] 40)
 obtain⟨wa,cap,hbm,hm,hc⟩:=h.faults hgr hcnt
 have hal:=all_lt h.cnt;have hlt:=h.lt
 have A:=access_out bm wa m.ws.length cap m.c.fault 1 a (.func (.func 123) #[] #[]) (.func (.func 124) #[] #[.pointer (some ⟨w.heap.size,0,none⟩)]) _ (by rw [cell_blk hbm];rfl) (by rw [cell_blk hbm];rfl) (by omega) (by omega) h.len (frozen_blk hbm 5) (outOf ha)
 obtain⟨w2,hw2⟩:∃ w2,w2=(w.alloc (.cells #[.int .u64 v] 40)).setCell ⟨bm,5,none⟩ (.int .i64 ((m.c.fault:Int)+1)):=⟨_,rfl⟩
 rw [<-hw2] at A hm hc
 have A':=Lib.hid A;have Hm:=Lib.hid hm;have Hc:=Lib.hid hc
 clear A hw2 hm hc hgr hbm hal hcnt ha h
 go_enter Try.func120,Try.ntmps120
 go_wp2_with fail
 refine A'.out.mono ?_
 rintro e w1 ⟨rfl,rfl⟩
 go_wp2
 go_end0
 exact⟨rfl,Hm.out,Hc.out⟩
def countsV (c:CountsD):Value:=.agg #[.int .i64 (c.read:Int),.int .i64 (c.write:Int),.int .i64 (c.swap:Int),.int .i64 (c.add:Int),.int .i64 (c.fault:Int)]
theorem counts_any (bm:Nat) (bw:Option Nat) (m:MemD) (w:World) (h:MemAt w bm bw m):Calls Try.prog 62 #[.pointer (some ⟨bm,0,none⟩)] w λe w'=>e=.returned (countsV m.c)/\Below w.heap.size w w':=by
 obtain⟨wa,cap,_,hb,_⟩:=(h.gr (Gr.new w (.cells #[.int .i64 0,.int .i64 0,.int .i64 0,.int .i64 0,.int .i64 0] 30))).blk
 have k1:=cell_blk hb 1;have k2:=cell_blk hb 2;have k3:=cell_blk hb 3;have k4:=cell_blk hb 4;have k5:=cell_blk hb 5
 simp [memCells] at k1 k2 k3 k4 k5
 clear h hb
 go_enter Try.func62,Try.ntmps62
 go_wp2
 exact bodyPost_ret (v:=countsV m.c) (by simp [results,Try.results62 ,go_sem,countsV]) rfl ⟨rfl,Gr.new _ _⟩
theorem range_map_words (ws:List Nat):(List.range ws.length).map (λj=>u64V (ws.getD j 0))=ws.map u64V:=by
 apply List.ext_getElem
 ·simp
 ·intro i h1 h2
  simp at h1 h2
  simp [List.getD_eq_getElem?_getD,h2]
def u64G (ws:List Nat) (j _f:Nat):Value:=u64V (ws.getD j 0)
theorem MemAt.sl {w:World} {bm:Nat} {bw:Option Nat} {m:MemD} {wa:Option Addr} (h:MemAt w bm bw m) (hw:0<m.ws.length->∃ q rest,bw=some q/\wa=some ⟨q,0,none⟩/\w.heap[q]?=some (.cells (m.ws.map u64V++rest).toArray 40 (0,0))) :
  SlAt w wa m.ws.length 1 (u64G m.ws):=by
 refine⟨by have:=h.len;unfold maxLen;omega,λj hj=>?_⟩
 obtain⟨q,rest,hq,rfl,hr⟩:=hw (by omega)
 refine⟨q,0,rfl,h.low q hq,λf hf=>?_⟩
 obtain rfl:f=0:=by omega
 rw [cell_blk hr]
 simp [u64G,u64V,List.getD_eq_getElem?_getD,hj,List.getElem?_append]
theorem words_any (bm:Nat) (bw:Option Nat) (m:MemD) (w:World) (h:MemAt w bm bw m):Calls Try.prog 61 #[.pointer (some ⟨bm,0,none⟩)] w λe w'=>∃ v,e=.returned v/\w'.ownsRow w.heap.size 40 1 v m.ws.length (m.ws.map u64V)/\Below w.heap.size w w':=by
 obtain⟨wa,cap,hcap,hb,hw⟩:=h.blk
 have c0:w.cell? ⟨bm,0,none⟩=some (.slice wa m.ws.length cap):=by rw [cell_blk hb];rfl
 have hc:=clone_u64 wa m.ws.length cap (u64G m.ws) w (h.sl hw) (λj=>rfl) (by have:=h.len;omega) hcap.2
 rw [show(List.range m.ws.length).map (λj=>u64G m.ws j 0)=m.ws.map u64V from range_map_words m.ws] at hc
 have Hc:=Lib.hid hc
 clear h hb hw hcap hc
 go_enter Try.func61,Try.ntmps61
 go_wp2_with fail
 refine Hc.out.mono ?_
 rintro e w1 ⟨v,rfl,ho,hb,_⟩
 have Ho:=Lib.hid ho;have Hb:=Lib.hid hb
 clear ho hb
 go_wp2
 go_ret
 exact⟨v,rfl,Ho.out,Hb.out⟩
theorem read_any (bm:Nat) (bw:Option Nat) (m:MemD) (a:Int) (w:World) (h:MemAt w bm bw m) (hcnt:m.c.all+1<1000000000000) :
  Calls Try.prog 115 #[.pointer (some ⟨bm,0,none⟩),.int .i64 a] w λe w'=>e=.returned (.int .u64 ((memRead m a).2:Int))/\MemAt w' bm bw (memRead m a).1/\Chg (MemSet bm bw) w w':=by
 cases ho:memOut m a with
 | true=>unfold memRead;simp only [ho,if_true];exact read_out bm bw m a w h ho hcnt
 | false=>
  obtain⟨j,rfl,ht,hj⟩:=memOut_in ho
  unfold memRead;rw [if_neg (by rw [ho];simp)]
  simp only [ht]
  exact read_in bm bw m j _ w h hj rfl hcnt
theorem write_any (bm:Nat) (bw:Option Nat) (m:MemD) (a:Int) (v:Nat) (w:World) (h:MemAt w bm bw m) (hv:v<18446744073709551616) (hcnt:m.c.all+1<1000000000000) :
  Calls Try.prog 120 #[.pointer (some ⟨bm,0,none⟩),.int .i64 a,.int .u64 (v:Int)] w λe w'=>e=.returned (.tuple #[])/\MemAt w' bm bw (memWrite m a v)/\Chg (MemSet bm bw) w w':=by
 cases ho:memOut m a with
 | true=>unfold memWrite;simp only [ho,if_true];exact write_out bm bw m a v w h ho hcnt
 | false=>
  obtain⟨j,rfl,ht,hj⟩:=memOut_in ho
  unfold memWrite;rw [if_neg (by rw [ho];simp)]
  simp only [ht]
  exact write_in bm bw m j v w h hj hv hcnt
def c0:CountsD:=⟨0,0,0,0,0⟩
theorem new_mem (a:Option Addr) (c:Nat) (ws:List Nat) (w:World) (hs:SlAt w a ws.length 1 (u64G ws)) (hn:ws.length<=65536) (hc:a=none->c=0) (hv:∀ x∈ws,x<18446744073709551616) :
  Calls Try.prog 56 #[.slice a ws.length c] w λe w'=>∃ bm bw,e=.returned (.tuple #[.pointer (some ⟨bm,0,none⟩),.int .i64 0])/\MemAt w' bm bw ⟨ws,c0⟩/\Below w.heap.size w w'/\w.heap.size<=bm/\(∀ q,bw=some q->w.heap.size<=q):=by
 have h1:(ws.length:Int)<=65536:=by omega
 have hc:=clone_u64 a ws.length c (u64G ws) w hs (λj=>rfl) (by omega) hc
 rw [show(List.range ws.length).map (λj=>u64G ws j 0)=ws.map u64V from range_map_words ws] at hc
 have Hc:=Lib.hid hc
 have Hn:=Lib.hid hn;have Hv:=Lib.hid hv
 clear hs hc hn hv
 go_enter Try.func56,Try.ntmps56
 go_wp2_with fail
 refine Hc.out.mono ?_
 rintro e w1 ⟨v,rfl,ho,hb,hnil⟩
 obtain⟨a',c',rfl⟩:∃ a' c',v=.slice a' ws.length c':=by
  rcases ho.2 with⟨h,h0⟩|⟨q,cap,cur,h,_⟩
  ·exact⟨none,0,by rw [h,h0]⟩
  ·exact⟨_,_,h⟩
 have Hsz:=Lib.hid hb.size
 obtain⟨w2,hw2⟩:∃ w2,w2=w1.alloc (.cells #[.slice a' ws.length c',.int .i64 0,.int .i64 0,.int .i64 0,.int .i64 0,.int .i64 0,.nilFunc] 137):=⟨_,rfl⟩
 have hmem:∃ bw,MemAt w2 w1.heap.size bw ⟨ws,c0⟩/\(∀ q,bw=some q->w.heap.size<=q):=by
  obtain⟨_,h2⟩:=ho
  have hsz:=hb.size
  rcases h2 with⟨h9,h0⟩|⟨q,cap,cur,h9,hq,hh,hcap,_,hcs,htake⟩<;>simp only [Value.slice.injEq] at h9
  ·obtain⟨rfl,_,rfl⟩:=h9
   obtain rfl:ws=[]:=List.eq_nil_of_length_eq_zero h0
   refine⟨none,⟨⟨none,0,⟨Nat.le_refl _,λ_=>rfl⟩,?_,λh=>absurd h (by simp)⟩,by simp,(λ_ e=>by cases e),by simp,(by show CountsD.all c0<_;decide),(λ_ h=>by cases h)⟩,(λ_ e=>by cases e)⟩
   rw [hw2];exact heap_alloc_new _ _
  ·obtain⟨rfl,_,rfl⟩:=h9
   refine⟨some q,⟨⟨some ⟨q,0,none⟩,c',⟨hcap,λh=>by cases h⟩,?_,λ_=>⟨q,cur.toList.drop ws.length,rfl,rfl,?_⟩⟩,?_,?_,(by have:=Hn.out;simp only;omega),(by show CountsD.all c0<_;decide),Hv.out⟩,(λq2 e=>by cases e;exact hq)⟩
   ·rw [hw2];exact heap_alloc_new _ _
   ·rw [hw2,Below.heap_alloc _ _ _ (blk_lt hh),hh]
    rw [Nat.mul_one] at htake
    rw [<-htake,List.take_append_drop]
   ·intro e;cases e;have:=blk_lt hh;omega
   ·intro q2 e;cases e;rw [hw2];have:=blk_lt hh;simp;omega
 have hb2:Below w.heap.size w w2:=by rw [hw2];exact Gr.alloc hb _
 obtain⟨bw,hm,hq⟩:=hmem
 have Hm:=Lib.hid hm;have Hq:=Lib.hid hq;have Hb2:=Lib.hid hb2;have Hw2:=Lib.hid hw2
 clear ho hb hnil hm hq hb2 hw2
 go_wp2
 rw [<-Hw2.out]
 go_ret2
 exact⟨_,bw,rfl,Hm.out,Hb2.out,Hsz.out,Hq.out⟩
end
end Go.Proofs.Ytlepjmnhekeofaa
