/- Layer 2: a memory as numbers; contracts of mem's methods. -/
import Derived.Test.YtifhldnmcdbpfaaW04
set_option maxRecDepth 100000
set_option linter.unusedVariables false
set_option linter.unusedSimpArgs false
set_option linter.unnecessarySimpa false
namespace Go.Proofs.Ytifhldnmcdbpfaa
section
open Go.RowKit
structure dV where
 read:Nat
 write:Nat
 swap:Nat
 add:Nat
 fault:Nat
deriving DecidableEq
structure fE where
 ws:List Nat
 c:dV
deriving DecidableEq
def kS (x:Nat):Value:=.int .u64 (x:Int)
def fE.fault (m:fE):fE:={ m with c:={ m.c with fault:=m.c.fault+1 } }
def gB (m:fE) (a:Int):Bool:=decide (a<0) || decide ((m.ws.length:Int)<=a)
def cZ (m:fE) (a:Int):fE×Nat:=if gB m a then (m.fault,0) else ({ m with c:={ m.c with read:=m.c.read+1 } },m.ws.getD a.toNat 0)
def bR (m:fE) (a:Int) (v:Nat):fE:=if gB m a then m.fault else { ws:=m.ws.set a.toNat v,c:={ m.c with write:=m.c.write+1 } }
def KJ (m:fE) (a:Int) (old fresh:Nat):fE×Bool:=
 if gB m a then (m.fault,false) else
 if m.ws.getD a.toNat 0=old then ({ ws:=m.ws.set a.toNat fresh,c:={ m.c with swap:=m.c.swap+1 } },true) else ({ m with c:={ m.c with swap:=m.c.swap+1 } },false)
def FP (m:fE) (a:Int) (d:Nat):fE×Nat:=
 if gB m a then (m.fault,0) else ({ ws:=m.ws.set a.toNat ((m.ws.getD a.toNat 0+d) % 18446744073709551616),c:={ m.c with add:=m.c.add+1 } },m.ws.getD a.toNat 0)
def dV.all (c:dV):Nat:=c.read+c.write+c.swap+c.add+c.fault
def jP (wa:Option Addr) (n cap:Nat) (c:dV):Array Value:=
 #[.slice wa n cap, .int .i64 (c.read : Int), .int .i64 (c.write : Int), .int .i64 (c.swap : Int), .int .i64 (c.add : Int), .int .i64 (c.fault : Int), .nilFunc]
def FR (wa:Option Addr) (n cap:Nat):Prop:=n<=cap/\(wa=none->cap=0)
structure cB (w:World) (bm:Nat) (bw:Option Nat) (m:fE):Prop where
 blk:∃ wa cap,FR wa m.ws.length cap/\w.heap[bm]?=some (.cells (jP wa m.ws.length cap m.c) 149 (0,0))/\
  (0<m.ws.length->∃ q rest,bw=some q/\wa=some ⟨q,0,none⟩/\w.heap[q]?=some (.cells (m.ws.map kS++rest).toArray 40 (0,0)))
 apart:bw≠some bm
 low:∀ q,bw=some q->q<w.heap.size
 len:m.ws.length<=1048576
 cnt:m.c.all<1000000000000
 val:∀ x∈m.ws,x<18446744073709551616
def bY (bm:Nat) (bw:Option Nat) (b:Nat):Prop:=b=bm∨some b=bw
theorem cB.lt {w:World} {bm:Nat} {bw:Option Nat} {m:fE} (h:cB w bm bw m):bm<w.heap.size:=by obtain⟨_,_,_,h1,_⟩:=h.blk;exact aC h1
theorem cB.chg {S:Nat->Prop} {w w':World} {bm:Nat} {bw:Option Nat} {m:fE} (h:cB w bm bw m) (hc:Chg S w w') (h1:¬ S bm) (h2:∀ q,bw=some q->¬ S q):cB w' bm bw m:=by
 obtain⟨wa,cap,hl,hb,hw⟩:=h.blk
 refine⟨⟨wa,cap,hl,(hc.block _ (aC hb) h1).trans hb,λhp=>?_⟩,h.apart,λq e=>Nat.lt_of_lt_of_le (h.low q e) hc.size,h.len,h.cnt,h.val⟩
 obtain⟨q,rest,hq,ha,hr⟩:=hw hp
 exact⟨q,rest,hq,ha,(hc.block _ (h.low q hq) (h2 q hq)).trans hr⟩
theorem cB.gr {w w':World} {bm:Nat} {bw:Option Nat} {m:fE} (h:cB w bm bw m) (hb:Below w.heap.size w w'):cB w' bm bw m:=
 h.chg (S:=λ_=>False) (Chg.of_below hb) (λh=>h) (λ_ _ h=>h)
theorem ER (ws:List Nat) (rest:List Value) (j v:Nat) (hj:j<ws.length):(ws.map kS++rest).toArray.setIfInBounds j (.int .u64 (v:Int))=((ws.set j v).map kS++rest).toArray:=by
 apply Array.ext'
 rw [Array.toList_setIfInBounds]
 simp only
 rw [List.set_append_left _ _ (by simpa using hj),List.map_set]
 rfl
theorem cB.parts {w w':World} {bm:Nat} {bw:Option Nat} {m:fE} (h:cB w bm bw m) (hb:Below w.heap.size w w') (j:Nat) (hj:j<m.ws.length) :
  ∃ q cap rest,bw=some q/\FR (some ⟨q,0,none⟩) m.ws.length cap/\w'.heap[bm]?=some (.cells (jP (some ⟨q,0,none⟩) m.ws.length cap m.c) 149 (0,0))/\w'.heap[q]?=some (.cells (m.ws.map kS++rest).toArray 40 (0,0))/\
   w'.cell? ⟨q,j,none⟩=some (.int .u64 ((m.ws.getD j 0:Nat):Int)):=by
 obtain⟨wa,cap,hl,hbm,hw⟩:=(h.gr hb).blk
 obtain⟨q,rest,hq,rfl,hr⟩:=hw (by omega)
 refine⟨q,cap,rest,hq,hl,hbm,hr,?_⟩
 rw [aA hr]
 simp [kS,List.getD_eq_getElem?_getD,hj,List.getElem?_append]
theorem uZ {m:fE} {a:Int} (h:gB m a=false):∃ j:Nat,a=(j:Int)/\a.toNat=j/\j<m.ws.length:=by
 unfold gB at h
 simp only [Bool.or_eq_false_iff,decide_eq_false_iff_not] at h
 exact⟨a.toNat,by omega,rfl,by omega⟩
theorem vW {c:dV} (h:c.all<1000000000000):(c.read:Int)<1000000000000/\(c.write:Int)<1000000000000/\(c.swap:Int)<1000000000000/\(c.add:Int)<1000000000000/\(c.fault:Int)<1000000000000:=by
 unfold dV.all at h;omega
theorem ME (bm:Nat) (bw:Option Nat) (m:fE) (j x:Nat) (w:World) (h:cB w bm bw m) (hj:j<m.ws.length) (hx:m.ws.getD j 0=x) (hcnt:m.c.all+1<1000000000000) :
  Calls Try.prog 144 #[.pointer (some ⟨bm,0,none⟩),.int .i64 (j:Int)] w λe w'=>e=.returned (.int .u64 (x:Int))/\cB w' bm bw { m with c:={ m.c with read:=m.c.read+1 } }/\Chg (bY bm bw) w w':=by
 have hgr:=Gr.new w (.cells #[.int .u64 0] 40)
 obtain⟨q,cap,rest,rfl,hcap,hbm,hbw,hcell⟩:=h.parts hgr j hj
 rw [hx] at hcell
 have hlt:=h.lt;have hlw:=h.low q rfl;have hap:q≠bm:=(λe=>h.apart (by rw [e]));have hlen:=h.len;have hval:=h.val
 have hal:=vW h.cnt
 have A:=xB bm q j w.heap.size 0 m.ws.length cap m.c.read x 0 (w.alloc (.cells #[.int .u64 0] 40))
  (by rw [aA hbm];rfl) (by rw [aA hbm];rfl) (by omega) (by omega) (by rw [aA hbm];rfl) hcell hj hlen hap (by rw [dZ];rfl) (World.frozen?_alloc_new _ _ _ _) (aB hbm 1) (by omega) (by omega)
 obtain⟨w2,hw2⟩:∃ w2,w2=(((w.alloc (.cells #[.int .u64 0] 40)).setCell ⟨bm,1,none⟩ (.int .i64 ((m.c.read:Int)+1))).setCell ⟨w.heap.size,0,none⟩ (.int .u64 (x:Int))):=⟨_,rfl⟩
 have hfin:w2.cell? ⟨w.heap.size,0,none⟩=some (.int .u64 (x:Int)):=by
  rw [hw2]
  exact World.cell?_setCell_same _ _ _ (u:=.int .u64 0) (by rw [eX _ (by simp;omega),dZ];rfl)
 have hm':cB w2 bm (some q) { m with c:={ m.c with read:=m.c.read+1 } }:=by
  rw [hw2]
  refine⟨⟨some ⟨q,0,none⟩,cap,hcap,?_,λ_=>⟨q,rest,rfl,rfl,?_⟩⟩,(λe=>hap (by simpa using e)),(λq2 e=>by cases e;simp;omega),hlen,by unfold dV.all at hcnt ⊢;simp only;omega,hval⟩
  ·rw [aX (by omega),aH hbm];rfl
  ·rw [aX (by omega),aX hap];exact hbw
 have hchg:Chg (bY bm (some q)) w w2:=by
  rw [hw2]
  exact((Chg.of_below hgr).setCell (.inl (.inl rfl)) _).setCell (.inr (Nat.le_refl _)) _
 rw [<-hw2] at A
 have A':=Lib.hid A;have Hm:=Lib.hid hm';have Hc:=Lib.hid hchg
 clear A hw2 hm' hchg hgr hbm hbw hcell hlt hlw hap hval hal hcap hcnt h hx
 go_enter Try.func144,Try.ntmps144
 go_wp2_with fail
 refine A'.out.mono ?_
 rintro e w1 ⟨rfl,rfl⟩
 go_wp2
 go_ret
 exact⟨rfl,Hm.out,Hc.out⟩
theorem JX (bm:Nat) (bw:Option Nat) (m:fE) (j v:Nat) (w:World) (h:cB w bm bw m) (hj:j<m.ws.length) (hv:v<18446744073709551616) (hcnt:m.c.all+1<1000000000000) :
  Calls Try.prog 151 #[.pointer (some ⟨bm,0,none⟩),.int .i64 (j:Int),.int .u64 (v:Int)] w λe w'=>e=.returned (.tuple #[])/\cB w' bm bw { ws:=m.ws.set j v,c:={ m.c with write:=m.c.write+1 } }/\Chg (bY bm bw) w w':=by
 have hgr:=Gr.new w (.cells #[.int .u64 (v:Int)] 40)
 obtain⟨q,cap,rest,rfl,hcap,hbm,hbw,hcell⟩:=h.parts hgr j hj
 obtain⟨x,hx⟩:∃ x,x=m.ws.getD j 0:=⟨_,rfl⟩
 rw [<-hx] at hcell
 have hlt:=h.lt;have hlw:=h.low q rfl;have hap:q≠bm:=(λe=>h.apart (by rw [e]));have hlen:=h.len;have hval:=h.val
 have hal:=vW h.cnt
 have A:=wG bm q j w.heap.size 0 m.ws.length cap m.c.write x v (w.alloc (.cells #[.int .u64 (v:Int)] 40))
  (by rw [aA hbm];rfl) (by rw [aA hbm];rfl) (by omega) (by omega) (by rw [aA hbm];rfl) hcell (aB hbw j) hj hlen hap (by rw [dZ];rfl) (aB hbm 2) (by omega)
 obtain⟨w2,hw2⟩:∃ w2,w2=(((w.alloc (.cells #[.int .u64 (v:Int)] 40)).setCell ⟨bm,2,none⟩ (.int .i64 ((m.c.write:Int)+1))).setCell ⟨q,j,none⟩ (.int .u64 (v:Int))):=⟨_,rfl⟩
 have hm':cB w2 bm (some q) { ws:=m.ws.set j v,c:={ m.c with write:=m.c.write+1 } }:=by
  rw [hw2]
  refine⟨⟨some ⟨q,0,none⟩,cap,by simpa [FR] using hcap,?_,λ_=>⟨q,rest,rfl,rfl,?_⟩⟩,(λe=>hap (by simpa using e)),(λq2 e=>by cases e;simp;omega),by simpa using hlen,by unfold dV.all at hcnt ⊢;simp only;omega,?_⟩
  ·rw [aX (by omega),aH hbm];simp [jP]
  ·rw [aH (by rw [aX hap];exact hbw),ER _ _ _ _ hj]
  ·intro y hy
   rcases List.mem_or_eq_of_mem_set hy with h1|rfl
   ·exact hval y h1
   ·exact hv
 have hchg:Chg (bY bm (some q)) w w2:=by
  rw [hw2]
  exact((Chg.of_below hgr).setCell (.inl (.inl rfl)) _).setCell (.inl (.inr rfl)) _
 rw [<-hw2] at A
 have A':=Lib.hid A;have Hm:=Lib.hid hm';have Hc:=Lib.hid hchg
 clear A hw2 hm' hchg hgr hbm hbw hcell hlt hlw hap hval hal hcap hcnt h hx
 go_enter Try.func151,Try.ntmps151
 go_wp2_with fail
 refine A'.out.mono ?_
 rintro e w1 ⟨rfl,rfl⟩
 go_wp2
 go_end0
 exact⟨rfl,Hm.out,Hc.out⟩
end
section
open Go.RowKit
theorem rV (bm:Nat) (wa:Option Addr) (len cap:Nat) (n k a:Int) (f1 f2:Value) (w:World) (h0:w.cell? ⟨bm,0,none⟩=some (.slice wa len cap)) (h1:w.cell? ⟨bm,5,none⟩=some (.int .i64 n)) (hn:0<=n) (hn2:n<1000000000000)
  (hlen:len<=1048576) (hf1:w.frozen? ⟨bm,5,none⟩=false) (ha:a<0∨(len:Int)<=a) :
  Calls Try.prog 145 #[.pointer (some ⟨bm,0,none⟩),.int .i64 k,.int .i64 a,f1,f2] w λe w'=>e=.returned (.tuple #[])/\w'=w.setCell ⟨bm,5,none⟩ (.int .i64 (n+1)):=by
 by_cases h:a<0
 ·clear ha
  go_enter Try.func145,Try.ntmps145
  go_wp2
  (refine bodyPost_ret (results_none rfl _ _ _) rfl ?_)
  exact⟨rfl,rfl⟩
 ·have ha2:(len:Int)<=a:=by omega
  clear ha
  go_enter Try.func145,Try.ntmps145
  go_wp2
  (refine bodyPost_ret (results_none rfl _ _ _) rfl ?_)
  exact⟨rfl,rfl⟩
theorem cB.faults {w w':World} {bm:Nat} {bw:Option Nat} {m:fE} (h:cB w bm bw m) (hb:Below w.heap.size w w') (hcnt:m.c.all+1<1000000000000) :
  ∃ wa cap,w'.heap[bm]?=some (.cells (jP wa m.ws.length cap m.c) 149 (0,0))/\cB (w'.setCell ⟨bm,5,none⟩ (.int .i64 ((m.c.fault:Int)+1))) bm bw m.fault/\Chg (bY bm bw) w (w'.setCell ⟨bm,5,none⟩ (.int .i64 ((m.c.fault:Int)+1))):=by
 have hg:=h.gr hb
 have hap:=h.apart;have hlow:=hg.low
 obtain⟨wa,cap,hl,hbm,hw⟩:=hg.blk
 refine⟨wa,cap,hbm,⟨⟨wa,cap,hl,?_,λhp=>?_⟩,hap,(λq e=>by have:=hlow q e;simpa using this),h.len,by unfold fE.fault dV.all at *;simp only;omega,h.val⟩,(Chg.of_below hb).setCell (.inl (.inl rfl)) _⟩
 ·rw [aH hbm];simp [jP,fE.fault]
 ·obtain⟨q,rest,hq,ha,hr⟩:=hw hp
  exact⟨q,rest,hq,ha,by rw [aX (by rintro rfl;exact hap hq)];exact hr⟩
theorem MU {m:fE} {a:Int} (h:gB m a=true):a<0∨(m.ws.length:Int)<=a:=by
 unfold gB at h;simpa using h
theorem JQ (bm:Nat) (bw:Option Nat) (m:fE) (a:Int) (w:World) (h:cB w bm bw m) (ha:gB m a=true) (hcnt:m.c.all+1<1000000000000) :
  Calls Try.prog 144 #[.pointer (some ⟨bm,0,none⟩),.int .i64 a] w λe w'=>e=.returned (.int .u64 0)/\cB w' bm bw m.fault/\Chg (bY bm bw) w w':=by
 have hgr:=Gr.new w (.cells #[.int .u64 0] 40)
 obtain⟨wa,cap,hbm,hm,hc⟩:=h.faults hgr hcnt
 have hal:=vW h.cnt;have hlt:=h.lt
 have A:=rV bm wa m.ws.length cap m.c.fault 0 a (.func (.func 146) #[] #[]) (.func (.func 147) #[] #[.pointer (some ⟨w.heap.size,0,none⟩)]) _ (by rw [aA hbm];rfl) (by rw [aA hbm];rfl) (by omega) (by omega) h.len (aB hbm 5) (MU ha)
 obtain⟨w2,hw2⟩:∃ w2,w2=(w.alloc (.cells #[.int .u64 0] 40)).setCell ⟨bm,5,none⟩ (.int .i64 ((m.c.fault:Int)+1)):=⟨_,rfl⟩
 have hfin:w2.cell? ⟨w.heap.size,0,none⟩=some (.int .u64 0):=by rw [hw2,eX _ (by simp;omega),dZ];rfl
 rw [<-hw2] at A hm hc
 have A':=Lib.hid A;have Hm:=Lib.hid hm;have Hc:=Lib.hid hc
 clear A hw2 hm hc hgr hbm hal hcnt ha h
 go_enter Try.func144,Try.ntmps144
 go_wp2_with fail
 refine A'.out.mono ?_
 rintro e w1 ⟨rfl,rfl⟩
 go_wp2
 go_ret
 exact⟨rfl,Hm.out,Hc.out⟩
theorem EQ (bm:Nat) (bw:Option Nat) (m:fE) (a v:Int) (w:World) (h:cB w bm bw m) (ha:gB m a=true) (hcnt:m.c.all+1<1000000000000) :
  Calls Try.prog 151 #[.pointer (some ⟨bm,0,none⟩),.int .i64 a,.int .u64 v] w λe w'=>e=.returned (.tuple #[])/\cB w' bm bw m.fault/\Chg (bY bm bw) w w':=by
 have hgr:=Gr.new w (.cells #[.int .u64 v] 40)
 obtain⟨wa,cap,hbm,hm,hc⟩:=h.faults hgr hcnt
 have hal:=vW h.cnt;have hlt:=h.lt
 have A:=rV bm wa m.ws.length cap m.c.fault 1 a (.func (.func 154) #[] #[]) (.func (.func 155) #[] #[.pointer (some ⟨w.heap.size,0,none⟩)]) _ (by rw [aA hbm];rfl) (by rw [aA hbm];rfl) (by omega) (by omega) h.len (aB hbm 5) (MU ha)
 obtain⟨w2,hw2⟩:∃ w2,w2=(w.alloc (.cells #[.int .u64 v] 40)).setCell ⟨bm,5,none⟩ (.int .i64 ((m.c.fault:Int)+1)):=⟨_,rfl⟩
 rw [<-hw2] at A hm hc
 have A':=Lib.hid A;have Hm:=Lib.hid hm;have Hc:=Lib.hid hc
 clear A hw2 hm hc hgr hbm hal hcnt ha h
 go_enter Try.func151,Try.ntmps151
 go_wp2_with fail
 refine A'.out.mono ?_
 rintro e w1 ⟨rfl,rfl⟩
 go_wp2
 go_end0
 exact⟨rfl,Hm.out,Hc.out⟩
def rA (c:dV):Value:=.agg #[.int .i64 (c.read:Int),.int .i64 (c.write:Int),.int .i64 (c.swap:Int),.int .i64 (c.add:Int),.int .i64 (c.fault:Int)]
theorem zY (bm:Nat) (bw:Option Nat) (m:fE) (w:World) (h:cB w bm bw m):Calls Try.prog 63 #[.pointer (some ⟨bm,0,none⟩)] w λe w'=>e=.returned (rA m.c)/\Below w.heap.size w w':=by
 obtain⟨wa,cap,_,hb,_⟩:=(h.gr (Gr.new w (.cells #[.int .i64 0,.int .i64 0,.int .i64 0,.int .i64 0,.int .i64 0] 30))).blk
 have k1:=aA hb 1;have k2:=aA hb 2;have k3:=aA hb 3;have k4:=aA hb 4;have k5:=aA hb 5
 simp [jP] at k1 k2 k3 k4 k5
 clear h hb
 go_enter Try.func63,Try.ntmps63
 go_wp2
 exact bodyPost_ret (v:=rA m.c) (by simp [results,Try.results63 ,go_sem,rA]) rfl ⟨rfl,Gr.new _ _⟩
theorem kN (ws:List Nat):(List.range ws.length).map (λj=>kS (ws.getD j 0))=ws.map kS:=by
 apply List.ext_getElem
 ·simp
 ·intro i h1 h2
  simp at h1 h2
  simp [List.getD_eq_getElem?_getD,h2]
def oV (ws:List Nat) (j _f:Nat):Value:=kS (ws.getD j 0)
theorem cB.sl {w:World} {bm:Nat} {bw:Option Nat} {m:fE} {wa:Option Addr} (h:cB w bm bw m) (hw:0<m.ws.length->∃ q rest,bw=some q/\wa=some ⟨q,0,none⟩/\w.heap[q]?=some (.cells (m.ws.map kS++rest).toArray 40 (0,0))) :
  bS w wa m.ws.length 1 (oV m.ws):=by
 refine⟨by have:=h.len;unfold maxLen;omega,λj hj=>?_⟩
 obtain⟨q,rest,hq,rfl,hr⟩:=hw (by omega)
 refine⟨q,0,rfl,h.low q hq,λf hf=>?_⟩
 obtain rfl:f=0:=by omega
 rw [aA hr]
 simp [oV,kS,List.getD_eq_getElem?_getD,hj,List.getElem?_append]
theorem EI (bm:Nat) (bw:Option Nat) (m:fE) (w:World) (h:cB w bm bw m):Calls Try.prog 62 #[.pointer (some ⟨bm,0,none⟩)] w λe w'=>∃ v,e=.returned v/\w'.ownsRow w.heap.size 40 1 v m.ws.length (m.ws.map kS)/\Below w.heap.size w w':=by
 obtain⟨wa,cap,hcap,hb,hw⟩:=h.blk
 have c0:w.cell? ⟨bm,0,none⟩=some (.slice wa m.ws.length cap):=by rw [aA hb];rfl
 have hc:=uV wa m.ws.length cap (oV m.ws) w (h.sl hw) (λj=>rfl) (by have:=h.len;omega) hcap.2
 rw [show(List.range m.ws.length).map (λj=>oV m.ws j 0)=m.ws.map kS from kN m.ws] at hc
 have Hc:=Lib.hid hc
 clear h hb hw hcap hc
 go_enter Try.func62,Try.ntmps62
 go_wp2_with fail
 refine Hc.out.mono ?_
 rintro e w1 ⟨v,rfl,ho,hb,_⟩
 have Ho:=Lib.hid ho;have Hb:=Lib.hid hb
 clear ho hb
 go_wp2
 go_ret
 exact⟨v,rfl,Ho.out,Hb.out⟩
theorem yG (bm:Nat) (bw:Option Nat) (m:fE) (a:Int) (w:World) (h:cB w bm bw m) (hcnt:m.c.all+1<1000000000000) :
  Calls Try.prog 144 #[.pointer (some ⟨bm,0,none⟩),.int .i64 a] w λe w'=>e=.returned (.int .u64 ((cZ m a).2:Int))/\cB w' bm bw (cZ m a).1/\Chg (bY bm bw) w w':=by
 cases ho:gB m a with
 | true=>unfold cZ;simp only [ho,if_true];exact JQ bm bw m a w h ho hcnt
 | false=>
  obtain⟨j,rfl,ht,hj⟩:=uZ ho
  unfold cZ;rw [if_neg (by rw [ho];simp)]
  simp only [ht]
  exact ME bm bw m j _ w h hj rfl hcnt
theorem uK (bm:Nat) (bw:Option Nat) (m:fE) (a:Int) (v:Nat) (w:World) (h:cB w bm bw m) (hv:v<18446744073709551616) (hcnt:m.c.all+1<1000000000000) :
  Calls Try.prog 151 #[.pointer (some ⟨bm,0,none⟩),.int .i64 a,.int .u64 (v:Int)] w λe w'=>e=.returned (.tuple #[])/\cB w' bm bw (bR m a v)/\Chg (bY bm bw) w w':=by
 cases ho:gB m a with
 | true=>unfold bR;simp only [ho,if_true];exact EQ bm bw m a v w h ho hcnt
 | false=>
  obtain⟨j,rfl,ht,hj⟩:=uZ ho
  unfold bR;rw [if_neg (by rw [ho];simp)]
  simp only [ht]
  exact JX bm bw m j v w h hj hv hcnt
def c0:dV:=⟨0,0,0,0,0⟩
theorem KF (a:Option Addr) (c:Nat) (ws:List Nat) (w:World) (hs:bS w a ws.length 1 (oV ws)) (hn:ws.length<=65536) (hc:a=none->c=0) (hv:∀ x∈ws,x<18446744073709551616) :
  Calls Try.prog 57 #[.slice a ws.length c] w λe w'=>∃ bm bw,e=.returned (.tuple #[.pointer (some ⟨bm,0,none⟩),.int .i64 0])/\cB w' bm bw ⟨ws,c0⟩/\Below w.heap.size w w'/\w.heap.size<=bm/\(∀ q,bw=some q->w.heap.size<=q):=by
 have h1:(ws.length:Int)<=65536:=by omega
 have hc:=uV a ws.length c (oV ws) w hs (λj=>rfl) (by omega) hc
 rw [show(List.range ws.length).map (λj=>oV ws j 0)=ws.map kS from kN ws] at hc
 have Hc:=Lib.hid hc
 have Hn:=Lib.hid hn;have Hv:=Lib.hid hv
 clear hs hc hn hv
 go_enter Try.func57,Try.ntmps57
 go_wp2_with fail
 refine Hc.out.mono ?_
 rintro e w1 ⟨v,rfl,ho,hb,hnil⟩
 obtain⟨a',c',rfl⟩:∃ a' c',v=.slice a' ws.length c':=by
  rcases ho.2 with⟨h,h0⟩|⟨q,cap,cur,h,_⟩
  ·exact⟨none,0,by rw [h,h0]⟩
  ·exact⟨_,_,h⟩
 have Hsz:=Lib.hid hb.size
 obtain⟨w2,hw2⟩:∃ w2,w2=w1.alloc (.cells #[.slice a' ws.length c',.int .i64 0,.int .i64 0,.int .i64 0,.int .i64 0,.int .i64 0,.nilFunc] 149):=⟨_,rfl⟩
 have hmem:∃ bw,cB w2 w1.heap.size bw ⟨ws,c0⟩/\(∀ q,bw=some q->w.heap.size<=q):=by
  obtain⟨_,h2⟩:=ho
  have hsz:=hb.size
  rcases h2 with⟨h9,h0⟩|⟨q,cap,cur,h9,hq,hh,hcap,_,hcs,htake⟩<;>simp only [Value.slice.injEq] at h9
  ·obtain⟨rfl,_,rfl⟩:=h9
   obtain rfl:ws=[]:=List.eq_nil_of_length_eq_zero h0
   refine⟨none,⟨⟨none,0,⟨Nat.le_refl _,λ_=>rfl⟩,?_,λh=>absurd h (by simp)⟩,by simp,(λ_ e=>by cases e),by simp,(by show dV.all c0<_;decide),(λ_ h=>by cases h)⟩,(λ_ e=>by cases e)⟩
   rw [hw2];exact heap_alloc_new _ _
  ·obtain⟨rfl,_,rfl⟩:=h9
   refine⟨some q,⟨⟨some ⟨q,0,none⟩,c',⟨hcap,λh=>by cases h⟩,?_,λ_=>⟨q,cur.toList.drop ws.length,rfl,rfl,?_⟩⟩,?_,?_,(by have:=Hn.out;simp only;omega),(by show dV.all c0<_;decide),Hv.out⟩,(λq2 e=>by cases e;exact hq)⟩
   ·rw [hw2];exact heap_alloc_new _ _
   ·rw [hw2,Below.heap_alloc _ _ _ (aC hh),hh]
    rw [Nat.mul_one] at htake
    rw [<-htake,List.take_append_drop]
   ·intro e;cases e;have:=aC hh;omega
   ·intro q2 e;cases e;rw [hw2];have:=aC hh;simp;omega
 have hb2:Below w.heap.size w w2:=by rw [hw2];exact Gr.alloc hb _
 obtain⟨bw,hm,hq⟩:=hmem
 have Hm:=Lib.hid hm;have Hq:=Lib.hid hq;have Hb2:=Lib.hid hb2;have Hw2:=Lib.hid hw2
 clear ho hb hnil hm hq hb2 hw2
 go_wp2
 rw [<-Hw2.out]
 go_ret2
 exact⟨_,bw,rfl,Hm.out,Hb2.out,Hsz.out,Hq.out⟩
end
section
open Go.RowKit
structure DT where
 err:Int
 val:Nat
 list:List Nat
deriving DecidableEq
structure EvD where
 call:Nat
 inv:Nat
 resp:Nat
 steps:Nat
 ans:DT
 key:List Int
deriving DecidableEq
structure jC where
 evs:List EvD
 words:List Nat
 c:dV
 ticks:Nat
 idle:Nat
deriving DecidableEq
structure WD where
 mem:fE
 now:Nat
 inv:List Nat
 marks:List (List Int)
 traces:Int->List Int
inductive Mc (σ:Type) where
 | refuse (e:Int)
 | run (s:σ)
structure Sys where
 σ:Type
 ω:Type
 start:ω->WD->Nat->aF->Mc σ
 step:ω->WD->Nat->σ->ω×WD×σ×Bool
 answer:σ->DT×List Int
 late:ω->WD->Nat->σ->Option (List Int)
def PR:DT:=⟨0,0,[]⟩
def jY:EvD:=⟨0,0,0,0,PR,[]⟩
structure aQ (S:Sys) where
 wd:WD
 obj:S.ω
 fin:List Bool
 hands:List (Option S.σ×Nat)
 evs:List EvD
 idle:Nat
def jF (wd:WD):List Int:=[2*(wd.now:Int)]
def keyOf (wd:WD) (p:Nat) (k:List Int):List Int:=if k=[] then (if wd.marks.getD p []=[] then jF wd else wd.marks.getD p []) else k
def bK (wd:WD) (p:Nat) (a:DT) (k:List Int) (e:EvD):EvD:={ e with steps:=e.steps+1,ans:=a,resp:=wd.now,key:=keyOf wd p k }
def aZ (e:EvD):EvD:={ e with steps:=e.steps+1 }
def cO (l:List EvD) (i:Nat) (f:EvD->EvD):List EvD:=l.set i (f (l.getD i jY))
variable (S:Sys)
def eY (st:aQ S) (p i:Nat) (s:S.σ):aQ S×Bool:=
 let r:=S.step st.obj st.wd p s
 if r.2.2.2 then ({ st with obj:=r.1,wd:=r.2.1,hands:=st.hands.set p (none,i),evs:=cO st.evs i (bK r.2.1 p (S.answer r.2.2.1).1 (S.answer r.2.2.1).2) },true)
 else ({ st with obj:=r.1,wd:=r.2.1,hands:=st.hands.set p (some r.2.2.1,i),evs:=cO st.evs i aZ },false)
def WD.tick (wd:WD):WD:={ wd with now:=wd.now+1 }
def WD.begin (wd:WD) (p:Nat):WD:={ wd with inv:=wd.inv.set p wd.now,marks:=wd.marks.set p [] }
def dC (i:Nat) (wd:WD):EvD:=⟨i,wd.now,0,0,PR,[]⟩
def dI (o:S.ω) (wd:WD) (p:Nat) (c:aF):Mc S.σ:=if c.obj=0 then S.start o wd p c else .refuse 12
def dF (calls:List aF) (st:aQ S) (p i:Nat):aQ S×Bool:=
 match (st.hands.getD p (none,0)).1 with
 | some s=>eY S { st with wd:=st.wd.tick } p (st.hands.getD p (none,0)).2 s
 | none=>
  let wd:=st.wd.tick.begin p
  match dI S st.obj wd p (calls.getD i d0) with
  | .refuse e=>({ st with wd:=wd,hands:=st.hands.set p (none,st.evs.length),evs:=st.evs++[bK wd p ⟨e,0,[]⟩ [] (dC i wd)] },true)
  | .run s=>eY S { st with wd:=wd,hands:=st.hands.set p (some s,st.evs.length),evs:=st.evs++[dC i wd] } p st.evs.length s
def gV (calls:List aF) (st:aQ S) (p:Int):aQ S:=
 match iF calls st.fin p with
 | none=>{ st with idle:=st.idle+1 }
 | some i=>
  let r:=dF S calls st p.toNat i
  if r.2 then { r.1 with fin:=r.1.fin.set i true } else r.1
def eH (calls:List aF) (st:aQ S) (picks:List Int):aQ S:=picks.foldl (gV S calls) st
def gD (st:aQ S) (evs:List EvD) (p:Nat):List EvD:=
 match st.hands.getD p (none,0) with
 | (none,_)=>evs
 | (some s,i)=>cO evs i λe=>{ e with key:=(S.late st.obj st.wd p s).getD (st.wd.marks.getD p []) }
def oP (st:aQ S):List EvD:=(List.range 16).foldl (gD S st) st.evs
def oI (st:aQ S):jC:=⟨oP S st,st.wd.mem.ws,st.wd.mem.c,st.wd.now,st.idle⟩
def dK (ws:List Nat):WD:=⟨⟨ws,c0⟩,0,List.replicate 16 0,List.replicate 16 [],λ_=>[]⟩
def bT (o:S.ω) (ws:List Nat) (calls:List aF):aQ S:=⟨dK ws,o,List.replicate calls.length false,List.replicate 16 (none,0),[],0⟩
def iO (o:S.ω) (ws:List Nat) (calls:List aF) (picks:List Int):jC:=oI S (eH S calls (bT S o ws calls) picks)
end
end Go.Proofs.Ytifhldnmcdbpfaa
