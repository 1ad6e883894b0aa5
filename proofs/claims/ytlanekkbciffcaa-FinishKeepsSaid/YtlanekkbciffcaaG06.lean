/- Layer 2: a memory as numbers; contracts of mem's methods. -/
import Derived.Test.YtlanekkbciffcaaG05
set_option maxRecDepth 100000
set_option linter.unusedVariables false
set_option linter.unusedSimpArgs false
set_option linter.unnecessarySimpa false
namespace Go.Proofs.Ytlanekkbciffcaa
open Go.RowKit
structure CountsD where
 read:Nat
 write:Nat
 swap:Nat
 add:Nat
 fault:Nat
deriving DecidableEq
structure MemD where
 ws:List Nat
 c:CountsD
deriving DecidableEq
def u64V (x:Nat):Value:=.int .u64 (x:Int)
def MemD.fault (m:MemD):MemD:={ m with c:={ m.c with fault:=m.c.fault+1 } }
def memOut (m:MemD) (a:Int):Bool:=decide (a<0) || decide ((m.ws.length:Int)<=a)
def memRead (m:MemD) (a:Int):MemD×Nat:=if memOut m a then (m.fault,0) else ({ m with c:={ m.c with read:=m.c.read+1 } },m.ws.getD a.toNat 0)
def memSwap (m:MemD) (a:Int) (old fresh:Nat):MemD×Bool:=
 if memOut m a then (m.fault,false) else
 if m.ws.getD a.toNat 0=old then ({ ws:=m.ws.set a.toNat fresh,c:={ m.c with swap:=m.c.swap+1 } },true) else ({ m with c:={ m.c with swap:=m.c.swap+1 } },false)
def CountsD.all (c:CountsD):Nat:=c.read+c.write+c.swap+c.add+c.fault
def memCells (wa:Option Addr) (n cap:Nat) (c:CountsD):Array Value:=
 #[.slice wa n cap, .int .i64 (c.read : Int), .int .i64 (c.write : Int), .int .i64 (c.swap : Int), .int .i64 (c.add : Int), .int .i64 (c.fault : Int), .nilFunc]
def CapOk (wa:Option Addr) (n cap:Nat):Prop:=n<=cap/\(wa=none->cap=0)
structure MemAt (w:World) (bm:Nat) (bw:Option Nat) (m:MemD):Prop where
 blk:∃ wa cap,CapOk wa m.ws.length cap/\w.heap[bm]?=some (.cells (memCells wa m.ws.length cap m.c) 152 (0,0))/\
  (0<m.ws.length->∃ q rest,bw=some q/\wa=some ⟨q,0,none⟩/\w.heap[q]?=some (.cells (m.ws.map u64V++rest).toArray 37 (0,0)))
 apart:bw≠some bm
 low:∀ q,bw=some q->q<w.heap.size
 len:m.ws.length<=1048576
 cnt:m.c.all<1000000000000
 val:∀ x∈m.ws,x<18446744073709551616
def MemSet (bm:Nat) (bw:Option Nat) (b:Nat):Prop:=b=bm∨some b=bw
theorem MemAt.lt {w:World} {bm:Nat} {bw:Option Nat} {m:MemD} (h:MemAt w bm bw m):bm<w.heap.size:=by obtain⟨_,_,_,h1,_⟩:=h.blk;exact blk_lt h1
theorem MemAt.chg {S:Nat->Prop} {w w':World} {bm:Nat} {bw:Option Nat} {m:MemD} (h:MemAt w bm bw m) (hc:Chg S w w') (h1:¬ S bm) (h2:∀ q,bw=some q->¬ S q):MemAt w' bm bw m:=by
 obtain⟨wa,cap,hl,hb,hw⟩:=h.blk
 refine⟨⟨wa,cap,hl,(hc.block _ (blk_lt hb) h1).trans hb,λhp=>?_⟩,h.apart,λq e=>Nat.lt_of_lt_of_le (h.low q e) hc.size,h.len,h.cnt,h.val⟩
 obtain⟨q,rest,hq,ha,hr⟩:=hw hp
 exact⟨q,rest,hq,ha,(hc.block _ (h.low q hq) (h2 q hq)).trans hr⟩
theorem MemAt.gr {w w':World} {bm:Nat} {bw:Option Nat} {m:MemD} (h:MemAt w bm bw m) (hb:Below w.heap.size w w'):MemAt w' bm bw m:=
 h.chg (S:=λ_=>False) (Chg.of_below hb) (λh=>h) (λ_ _ h=>h)
theorem set_words (ws:List Nat) (rest:List Value) (j v:Nat) (hj:j<ws.length):(ws.map u64V++rest).toArray.setIfInBounds j (.int .u64 (v:Int))=((ws.set j v).map u64V++rest).toArray:=by
 apply Array.ext'
 rw [Array.toList_setIfInBounds]
 simp only
 rw [List.set_append_left _ _ (by simpa using hj),List.map_set]
 rfl
theorem MemAt.parts {w w':World} {bm:Nat} {bw:Option Nat} {m:MemD} (h:MemAt w bm bw m) (hb:Below w.heap.size w w') (j:Nat) (hj:j<m.ws.length) :
  ∃ q cap rest,bw=some q/\CapOk (some ⟨q,0,none⟩) m.ws.length cap/\w'.heap[bm]?=some (.cells (memCells (some ⟨q,0,none⟩) m.ws.length cap m.c) 152 (0,0))/\w'.heap[q]?=some (.cells (m.ws.map u64V++rest).toArray 37 (0,0))/\
   w'.cell? ⟨q,j,none⟩=some (.int .u64 ((m.ws.getD j 0:Nat):Int)):=by
 obtain⟨wa,cap,hl,hbm,hw⟩:=(h.gr hb).blk
 obtain⟨q,rest,hq,rfl,hr⟩:=hw (by omega)
 refine⟨q,cap,rest,hq,hl,hbm,hr,?_⟩
 rw [cell_blk hr]
 simp [u64V,List.getD_eq_getElem?_getD,hj,List.getElem?_append]
theorem memOut_in {m:MemD} {a:Int} (h:memOut m a=false):∃ j:Nat,a=(j:Int)/\a.toNat=j/\j<m.ws.length:=by
 unfold memOut at h
 simp only [Bool.or_eq_false_iff,decide_eq_false_iff_not] at h
 exact⟨a.toNat,by omega,rfl,by omega⟩
theorem all_lt {c:CountsD} (h:c.all<1000000000000):(c.read:Int)<1000000000000/\(c.write:Int)<1000000000000/\(c.swap:Int)<1000000000000/\(c.add:Int)<1000000000000/\(c.fault:Int)<1000000000000:=by
 unfold CountsD.all at h;omega
theorem read_in (bm:Nat) (bw:Option Nat) (m:MemD) (j x:Nat) (w:World) (h:MemAt w bm bw m) (hj:j<m.ws.length) (hx:m.ws.getD j 0=x) (hcnt:m.c.all+1<1000000000000) :
  Calls Try.prog 136 #[.pointer (some ⟨bm,0,none⟩),.int .i64 (j:Int)] w λe w'=>e=.returned (.int .u64 (x:Int))/\MemAt w' bm bw { m with c:={ m.c with read:=m.c.read+1 } }/\Chg (MemSet bm bw) w w':=by
 have hgr:=Gr.new w (.cells #[.int .u64 0] 37)
 obtain⟨q,cap,rest,rfl,hcap,hbm,hbw,hcell⟩:=h.parts hgr j hj
 rw [hx] at hcell
 have hlt:=h.lt;have hlw:=h.low q rfl;have hap:q≠bm:=(λe=>h.apart (by rw [e]));have hlen:=h.len;have hval:=h.val
 have hal:=all_lt h.cnt
 have A:=access_read bm q j w.heap.size 0 m.ws.length cap m.c.read x 0 (w.alloc (.cells #[.int .u64 0] 37))
  (by rw [cell_blk hbm];rfl) (by rw [cell_blk hbm];rfl) (by omega) (by omega) (by rw [cell_blk hbm];rfl) hcell hj hlen hap (by rw [cell_new];rfl) (World.frozen?_alloc_new _ _ _ _) (frozen_blk hbm 1) (by omega) (by omega)
 obtain⟨w2,hw2⟩:∃ w2,w2=(((w.alloc (.cells #[.int .u64 0] 37)).setCell ⟨bm,1,none⟩ (.int .i64 ((m.c.read:Int)+1))).setCell ⟨w.heap.size,0,none⟩ (.int .u64 (x:Int))):=⟨_,rfl⟩
 have hfin:w2.cell? ⟨w.heap.size,0,none⟩=some (.int .u64 (x:Int)):=by
  rw [hw2]
  exact World.cell?_setCell_same _ _ _ (u:=.int .u64 0) (by rw [cell_set_other _ (by simp;omega),cell_new];rfl)
 have hm':MemAt w2 bm (some q) { m with c:={ m.c with read:=m.c.read+1 } }:=by
  rw [hw2]
  refine⟨⟨some ⟨q,0,none⟩,cap,hcap,?_,λ_=>⟨q,rest,rfl,rfl,?_⟩⟩,(λe=>hap (by simpa using e)),(λq2 e=>by cases e;simp;omega),hlen,by unfold CountsD.all at hcnt ⊢;simp only;omega,hval⟩
  ·rw [blk_set_other (by omega),blk_set hbm];rfl
  ·rw [blk_set_other (by omega),blk_set_other hap];exact hbw
 have hchg:Chg (MemSet bm (some q)) w w2:=by
  rw [hw2]
  exact((Chg.of_below hgr).setCell (.inl (.inl rfl)) _).setCell (.inr (Nat.le_refl _)) _
 rw [<-hw2] at A
 have A':=Lib.hid A;have Hm:=Lib.hid hm';have Hc:=Lib.hid hchg
 clear A hw2 hm' hchg hgr hbm hbw hcell hlt hlw hap hval hal hcap hcnt h hx
 go_enter Try.func136,Try.ntmps136
 go_wp2_with fail
 refine A'.out.mono ?_
 rintro e w1 ⟨rfl,rfl⟩
 go_wp2
 go_ret
 exact⟨rfl,Hm.out,Hc.out⟩
end Go.Proofs.Ytlanekkbciffcaa
