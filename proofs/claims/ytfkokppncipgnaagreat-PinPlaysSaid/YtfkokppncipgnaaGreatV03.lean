/- Layer 2: contracts of mem's methods: swap, addresses that are none, memories that are none, and what a memory is made of. -/
import Derived.Test.YtfkokppncipgnaaGreatV02
import Derived.Deep.QuietTactic
import Derived.BigQuiet
set_option maxRecDepth 100000
set_option linter.unusedVariables false
set_option linter.unusedSimpArgs false
set_option linter.unnecessarySimpa false
namespace Go.Proofs.YtfkokppncipgnaaGreat
section
open Go.RowKit
theorem access_out (bm:Nat) (wa:Option Addr) (len cap:Nat) (n k a:Int) (f1 f2:Value) (w:World) (h0:w.cell? ⟨bm,0,none⟩=some (.slice wa len cap)) (h1:w.cell? ⟨bm,5,none⟩=some (.int .i64 n)) (hn:0<=n) (hn2:n<1000000000000)
  (hlen:len<=1048576) (hf1:w.frozen? ⟨bm,5,none⟩=false) (ha:a<0∨(len:Int)<=a) :
  Calls Tryz.prog 164 #[.pointer (some ⟨bm,0,none⟩),.int .i64 k,.int .i64 a,f1,f2] w λe w'=>e=.returned (.tuple #[])/\w'=w.setCell ⟨bm,5,none⟩ (.int .i64 (n+1)):=by
 by_cases h:a<0
 ·clear ha
  go_enter Tryz.func164,Tryz.ntmps164
  go_wp2
  (refine bodyPost_ret (results_none rfl _ _ _) rfl ?_)
  exact⟨rfl,rfl⟩
 ·have ha2:(len:Int)<=a:=by omega
  clear ha
  go_enter Tryz.func164,Tryz.ntmps164
  go_wp2
  (refine bodyPost_ret (results_none rfl _ _ _) rfl ?_)
  exact⟨rfl,rfl⟩
theorem MemAt.faults {w w':World} {bm:Nat} {bw:Option Nat} {m:MemD} (h:MemAt w bm bw m) (hb:Below w.heap.size w w') (hcnt:m.c.all+1<1000000000000) :
  ∃ wa cap,w'.heap[bm]?=some (.cells (memCells wa m.ws.length cap m.c) 150 (0,0))/\MemAt (w'.setCell ⟨bm,5,none⟩ (.int .i64 ((m.c.fault:Int)+1))) bm bw m.fault/\Chg (MemSet bm bw) w (w'.setCell ⟨bm,5,none⟩ (.int .i64 ((m.c.fault:Int)+1))):=by
 have hg:=h.gr hb
 have hap:=h.apart;have hlow:=hg.low
 obtain⟨wa,cap,hl,hbm,hw⟩:=hg.blk
 refine⟨wa,cap,hbm,⟨⟨wa,cap,hl,?_,λhp=>?_⟩,hap,(λq e=>by have:=hlow q e;simpa using this),h.len,by unfold MemD.fault CountsD.all at *;simp only;omega,h.val⟩,(Chg.of_below hb).setCell (.inl (.inl rfl)) _⟩
 ·rw [blk_set hbm];simp [memCells,MemD.fault]
 ·obtain⟨q,rest,hq,ha,hr⟩:=hw hp
  exact⟨q,rest,hq,ha,by rw [blk_set_other (by rintro rfl;exact hap hq)];exact hr⟩
theorem outOf {m:MemD} {a:Int} (h:memOut m a=true):a<0∨(m.ws.length:Int)<=a:=by
 unfold memOut at h;simpa using h
theorem read_out (bm:Nat) (bw:Option Nat) (m:MemD) (a:Int) (w:World) (h:MemAt w bm bw m) (ha:memOut m a=true) (hcnt:m.c.all+1<1000000000000) :
  Calls Tryz.prog 162 #[.pointer (some ⟨bm,0,none⟩),.int .i64 a] w λe w'=>e=.returned (.int .u64 0)/\MemAt w' bm bw m.fault/\Chg (MemSet bm bw) w w':=by
 have hgr:=Gr.new w (.cells #[.int .u64 0] 46)
 obtain⟨wa,cap,hbm,hm,hc⟩:=h.faults hgr hcnt
 have hal:=all_lt h.cnt;have hlt:=h.lt
 have A:=access_out bm wa m.ws.length cap m.c.fault 0 a (.func (.func 165) #[] #[]) (.func (.func 166) #[] #[.pointer (some ⟨w.heap.size,0,none⟩)]) _ (by rw [cell_blk hbm];rfl) (by rw [cell_blk hbm];rfl) (by omega) (by omega) h.len (frozen_blk hbm 5) (outOf ha)
 obtain⟨w2,hw2⟩:∃ w2,w2=(w.alloc (.cells #[.int .u64 0] 46)).setCell ⟨bm,5,none⟩ (.int .i64 ((m.c.fault:Int)+1)):=⟨_,rfl⟩
 have hfin:w2.cell? ⟨w.heap.size,0,none⟩=some (.int .u64 0):=by rw [hw2,cell_set_other _ (by simp;omega),cell_new];rfl
 rw [<-hw2] at A hm hc
 have A':=Lib.hid A;have Hm:=Lib.hid hm;have Hc:=Lib.hid hc
 clear A hw2 hm hc hgr hbm hal hcnt ha h
 go_enter Tryz.func162,Tryz.ntmps162
 go_wp2_with fail
 refine A'.out.mono ?_
 rintro e w1 ⟨rfl,rfl⟩
 go_wp2
 go_ret
 exact⟨rfl,Hm.out,Hc.out⟩
theorem write_out (bm:Nat) (bw:Option Nat) (m:MemD) (a v:Int) (w:World) (h:MemAt w bm bw m) (ha:memOut m a=true) (hcnt:m.c.all+1<1000000000000) :
  Calls Tryz.prog 167 #[.pointer (some ⟨bm,0,none⟩),.int .i64 a,.int .u64 v] w λe w'=>e=.returned (.tuple #[])/\MemAt w' bm bw m.fault/\Chg (MemSet bm bw) w w':=by
 have hgr:=Gr.new w (.cells #[.int .u64 v] 46)
 obtain⟨wa,cap,hbm,hm,hc⟩:=h.faults hgr hcnt
 have hal:=all_lt h.cnt;have hlt:=h.lt
 have A:=access_out bm wa m.ws.length cap m.c.fault 1 a (.func (.func 170) #[] #[]) (.func (.func 171) #[] #[.pointer (some ⟨w.heap.size,0,none⟩)]) _ (by rw [cell_blk hbm];rfl) (by rw [cell_blk hbm];rfl) (by omega) (by omega) h.len (frozen_blk hbm 5) (outOf ha)
 obtain⟨w2,hw2⟩:∃ w2,w2=(w.alloc (.cells #[.int .u64 v] 46)).setCell ⟨bm,5,none⟩ (.int .i64 ((m.c.fault:Int)+1)):=⟨_,rfl⟩
 rw [<-hw2] at A hm hc
 have A':=Lib.hid A;have Hm:=Lib.hid hm;have Hc:=Lib.hid hc
 clear A hw2 hm hc hgr hbm hal hcnt ha h
 go_enter Tryz.func167,Tryz.ntmps167
 go_wp2_with fail
 refine A'.out.mono ?_
 rintro e w1 ⟨rfl,rfl⟩
 go_wp2
 go_end0
 exact⟨rfl,Hm.out,Hc.out⟩
theorem add_out (bm:Nat) (bw:Option Nat) (m:MemD) (a d:Int) (w:World) (h:MemAt w bm bw m) (ha:memOut m a=true) (hcnt:m.c.all+1<1000000000000) :
  Calls Tryz.prog 172 #[.pointer (some ⟨bm,0,none⟩),.int .i64 a,.int .u64 d] w λe w'=>e=.returned (.int .u64 0)/\MemAt w' bm bw m.fault/\Chg (MemSet bm bw) w w':=by
 have hgr:Below w.heap.size w ((w.alloc (.cells #[.int .u64 d] 46)).alloc (.cells #[.int .u64 0] 46)):=Gr.alloc (Gr.new w _) _
 obtain⟨wa,cap,hbm,hm,hc⟩:=h.faults hgr hcnt
 have hal:=all_lt h.cnt;have hlt:=h.lt
 have A:=access_out bm wa m.ws.length cap m.c.fault 3 a (.func (.func 173) #[] #[]) (.func (.func 174) #[] #[.pointer (some ⟨w.heap.size+1,0,none⟩),.pointer (some ⟨w.heap.size,0,none⟩)]) _ (by rw [cell_blk hbm];rfl) (by rw [cell_blk hbm];rfl) (by omega) (by omega) h.len (frozen_blk hbm 5) (outOf ha)
 obtain⟨w2,hw2⟩:∃ w2,w2=((w.alloc (.cells #[.int .u64 d] 46)).alloc (.cells #[.int .u64 0] 46)).setCell ⟨bm,5,none⟩ (.int .i64 ((m.c.fault:Int)+1)):=⟨_,rfl⟩
 have hfin:w2.cell? ⟨w.heap.size+1,0,none⟩=some (.int .u64 0):=by
  rw [hw2,cell_set_other _ (by simp;omega)]
  have:=cell_new (w.alloc (.cells #[.int .u64 d] 46)) #[.int .u64 0] 46 (0,0) 0
  rw [World.size_alloc] at this;exact this
 rw [<-hw2] at A hm hc
 have A':=Lib.hid A;have Hm:=Lib.hid hm;have Hc:=Lib.hid hc
 clear A hw2 hm hc hgr hbm hal hcnt ha h
 go_enter Tryz.func172,Tryz.ntmps172
 go_wp2_with fail
 refine A'.out.mono ?_
 rintro e w1 ⟨rfl,rfl⟩
 go_wp2
 go_ret
 exact⟨rfl,Hm.out,Hc.out⟩
def countsV (c:CountsD):Value:=.agg #[.int .i64 (c.read:Int),.int .i64 (c.write:Int),.int .i64 (c.swap:Int),.int .i64 (c.add:Int),.int .i64 (c.fault:Int)]
theorem counts_any (bm:Nat) (bw:Option Nat) (m:MemD) (w:World) (h:MemAt w bm bw m):Calls Tryz.prog 53 #[.pointer (some ⟨bm,0,none⟩)] w λe w'=>e=.returned (countsV m.c)/\Below w.heap.size w w':=by
 obtain⟨wa,cap,_,hb,_⟩:=(h.gr (Gr.new w (.cells #[.int .i64 0,.int .i64 0,.int .i64 0,.int .i64 0,.int .i64 0] 30))).blk
 have k1:=cell_blk hb 1;have k2:=cell_blk hb 2;have k3:=cell_blk hb 3;have k4:=cell_blk hb 4;have k5:=cell_blk hb 5
 simp [memCells] at k1 k2 k3 k4 k5
 clear h hb
 go_enter Tryz.func53,Tryz.ntmps53
 go_wp2
 exact bodyPost_ret (v:=countsV m.c) (by simp [results,Tryz.results53 ,go_sem,countsV]) rfl ⟨rfl,Gr.new _ _⟩
theorem range_map_words (ws:List Nat):(List.range ws.length).map (λj=>u64V (ws.getD j 0))=ws.map u64V:=by
 apply List.ext_getElem
 ·simp
 ·intro i h1 h2
  simp at h1 h2
  simp [List.getD_eq_getElem?_getD,h2]
def u64G (ws:List Nat) (j _f:Nat):Value:=u64V (ws.getD j 0)
theorem MemAt.sl {w:World} {bm:Nat} {bw:Option Nat} {m:MemD} {wa:Option Addr} (h:MemAt w bm bw m) (hw:0<m.ws.length->∃ q rest,bw=some q/\wa=some ⟨q,0,none⟩/\w.heap[q]?=some (.cells (m.ws.map u64V++rest).toArray 46 (0,0))) :
  SlAt w wa m.ws.length 1 (u64G m.ws):=by
 refine⟨by have:=h.len;unfold maxLen;omega,λj hj=>?_⟩
 obtain⟨q,rest,hq,rfl,hr⟩:=hw (by omega)
 refine⟨q,0,rfl,h.low q hq,λf hf=>?_⟩
 obtain rfl:f=0:=by omega
 rw [cell_blk hr]
 simp [u64G,u64V,List.getD_eq_getElem?_getD,hj,List.getElem?_append]
theorem words_any (bm:Nat) (bw:Option Nat) (m:MemD) (w:World) (h:MemAt w bm bw m):Calls Tryz.prog 52 #[.pointer (some ⟨bm,0,none⟩)] w λe w'=>∃ v,e=.returned v/\w'.ownsRow w.heap.size 46 1 v m.ws.length (m.ws.map u64V)/\Below w.heap.size w w':=by
 obtain⟨wa,cap,hcap,hb,hw⟩:=h.blk
 have c0:w.cell? ⟨bm,0,none⟩=some (.slice wa m.ws.length cap):=by rw [cell_blk hb];rfl
 have hc:=clone_u64 wa m.ws.length cap (u64G m.ws) w (h.sl hw) (λj=>rfl) (by have:=h.len;omega) hcap.2
 rw [show(List.range m.ws.length).map (λj=>u64G m.ws j 0)=m.ws.map u64V from range_map_words m.ws] at hc
 have Hc:=Lib.hid hc
 clear h hb hw hcap hc
 go_enter Tryz.func52,Tryz.ntmps52
 go_wp2_with fail
 refine Hc.out.mono ?_
 rintro e w1 ⟨v,rfl,ho,hb,_⟩
 have Ho:=Lib.hid ho;have Hb:=Lib.hid hb
 clear ho hb
 go_wp2
 go_ret
 exact⟨v,rfl,Ho.out,Hb.out⟩
theorem read_any (bm:Nat) (bw:Option Nat) (m:MemD) (a:Int) (w:World) (h:MemAt w bm bw m) (hcnt:m.c.all+1<1000000000000) :
  Calls Tryz.prog 162 #[.pointer (some ⟨bm,0,none⟩),.int .i64 a] w λe w'=>e=.returned (.int .u64 ((memRead m a).2:Int))/\MemAt w' bm bw (memRead m a).1/\Chg (MemSet bm bw) w w':=by
 cases ho:memOut m a with
 | true=>unfold memRead;simp only [ho,if_true];exact read_out bm bw m a w h ho hcnt
 | false=>
  obtain⟨j,rfl,ht,hj⟩:=memOut_in ho
  unfold memRead;rw [if_neg (by rw [ho];simp)]
  simp only [ht]
  exact read_in bm bw m j _ w h hj rfl hcnt
theorem write_any (bm:Nat) (bw:Option Nat) (m:MemD) (a:Int) (v:Nat) (w:World) (h:MemAt w bm bw m) (hv:v<18446744073709551616) (hcnt:m.c.all+1<1000000000000) :
  Calls Tryz.prog 167 #[.pointer (some ⟨bm,0,none⟩),.int .i64 a,.int .u64 (v:Int)] w λe w'=>e=.returned (.tuple #[])/\MemAt w' bm bw (memWrite m a v)/\Chg (MemSet bm bw) w w':=by
 cases ho:memOut m a with
 | true=>unfold memWrite;simp only [ho,if_true];exact write_out bm bw m a v w h ho hcnt
 | false=>
  obtain⟨j,rfl,ht,hj⟩:=memOut_in ho
  unfold memWrite;rw [if_neg (by rw [ho];simp)]
  simp only [ht]
  exact write_in bm bw m j v w h hj hv hcnt
theorem add_any (bm:Nat) (bw:Option Nat) (m:MemD) (a:Int) (d:Nat) (w:World) (h:MemAt w bm bw m) (hcnt:m.c.all+1<1000000000000) :
  Calls Tryz.prog 172 #[.pointer (some ⟨bm,0,none⟩),.int .i64 a,.int .u64 (d:Int)] w λe w'=>e=.returned (.int .u64 ((memAdd m a d).2:Int))/\MemAt w' bm bw (memAdd m a d).1/\Chg (MemSet bm bw) w w':=by
 cases ho:memOut m a with
 | true=>unfold memAdd;simp only [ho,if_true];exact add_out bm bw m a d w h ho hcnt
 | false=>
  obtain⟨j,rfl,ht,hj⟩:=memOut_in ho
  unfold memAdd;rw [if_neg (by rw [ho];simp)]
  simp only [ht]
  exact add_in bm bw m j d _ w h hj rfl hcnt
def c0:CountsD:=⟨0,0,0,0,0⟩
theorem new_mem (a:Option Addr) (c:Nat) (ws:List Nat) (w:World) (hs:SlAt w a ws.length 1 (u64G ws)) (hn:ws.length<=65536) (hc:a=none->c=0) (hv:∀ x∈ws,x<18446744073709551616) :
  Calls Tryz.prog 47 #[.slice a ws.length c] w λe w'=>∃ bm bw,e=.returned (.tuple #[.pointer (some ⟨bm,0,none⟩),.int .i64 0])/\MemAt w' bm bw ⟨ws,c0⟩/\Below w.heap.size w w'/\w.heap.size<=bm/\(∀ q,bw=some q->w.heap.size<=q):=by
 have h1:(ws.length:Int)<=65536:=by omega
 have hc:=clone_u64 a ws.length c (u64G ws) w hs (λj=>rfl) (by omega) hc
 rw [show(List.range ws.length).map (λj=>u64G ws j 0)=ws.map u64V from range_map_words ws] at hc
 have Hc:=Lib.hid hc
 have Hn:=Lib.hid hn;have Hv:=Lib.hid hv
 clear hs hc hn hv
 go_enter Tryz.func47,Tryz.ntmps47
 go_wp2_with fail
 refine Hc.out.mono ?_
 rintro e w1 ⟨v,rfl,ho,hb,hnil⟩
 obtain⟨a',c',rfl⟩:∃ a' c',v=.slice a' ws.length c':=by
  rcases ho.2 with⟨h,h0⟩|⟨q,cap,cur,h,_⟩
  ·exact⟨none,0,by rw [h,h0]⟩
  ·exact⟨_,_,h⟩
 have Hsz:=Lib.hid hb.size
 obtain⟨w2,hw2⟩:∃ w2,w2=w1.alloc (.cells #[.slice a' ws.length c',.int .i64 0,.int .i64 0,.int .i64 0,.int .i64 0,.int .i64 0,.nilFunc] 150):=⟨_,rfl⟩
 have hmem:∃ bw,MemAt w2 w1.heap.size bw ⟨ws,c0⟩/\(∀ q,bw=some q->w.heap.size<=q):=by
  obtain⟨_,h2⟩:=ho
  have hsz:=hb.size
  rcases h2 with⟨h9,h0⟩|⟨q,cap,cur,h9,hq,hh,hcap,_,hcs,htake⟩<;>simp only [Value.slice.injEq] at h9
  ·obtain⟨rfl,_,rfl⟩:=h9
   obtain rfl:ws=[]:=List.eq_nil_of_length_eq_zero h0
   refine⟨none,⟨⟨none,0,⟨Nat.le_refl _,λ_=>rfl⟩,?_,λh=>absurd h (by simp)⟩,by simp,(λ_ e=>by cases e),by simp,(by show CountsD.all c0<_;decide),(λ_ h=>by cases h)⟩,(λ_ e=>by cases e)⟩
   rw [hw2];exact heap_alloc_new _ _
  ·obtain⟨rfl,_,rfl⟩:=h9
   refine⟨some q,⟨⟨some ⟨q,0,none⟩,c',⟨hcap,λh=>by cases h⟩,?_,λ_=>⟨q,cur.toList.drop ws.length,rfl,rfl,?_⟩⟩,?_,?_,(by have:=Hn.out;simp only;omega),(by show CountsD.all c0<_;decide),Hv.out⟩,(λq2 e=>by cases e;exact hq)⟩
   ·rw [hw2];exact heap_alloc_new _ _
   ·rw [hw2,Below.heap_alloc _ _ _ (blk_lt hh),hh]
    rw [Nat.mul_one] at htake
    rw [<-htake,List.take_append_drop]
   ·intro e;cases e;have:=blk_lt hh;omega
   ·intro q2 e;cases e;rw [hw2];have:=blk_lt hh;simp;omega
 have hb2:Below w.heap.size w w2:=by rw [hw2];exact Gr.alloc hb _
 obtain⟨bw,hm,hq⟩:=hmem
 have Hm:=Lib.hid hm;have Hq:=Lib.hid hq;have Hb2:=Lib.hid hb2;have Hw2:=Lib.hid hw2
 clear ho hb hnil hm hq hb2 hw2
 go_wp2
 rw [<-Hw2.out]
 go_ret2
 exact⟨_,bw,rfl,Hm.out,Hb2.out,Hsz.out,Hq.out⟩
end
section

/- Layer 2: the reference's contracts. -/
open Go.RowKit
def b01 (b:Bool):Nat:=if b then 1 else 0
def memAcc (m:MemD) (kind a:Int) (x y:Nat):MemD×Nat:=
 if kind=0 then memRead m a else if kind=1 then (memWrite m a x,0) else if kind=2 then ((memSwap m a x y).1,b01 (memSwap m a x y).2) else memAdd m a x
def rmemCells (wa:Option Addr) (n cap:Nat) (c:CountsD) (tail:List Value):Array Value:=
 (.slice wa n cap::.int .i64 (c.read:Int)::.int .i64 (c.write:Int)::.int .i64 (c.swap:Int)::.int .i64 (c.add:Int)::.int .i64 (c.fault:Int)::tail).toArray
structure RMemAt (w:World) (b:Nat) (T:TypeId) (tail:List Value) (bw:Option Nat) (m:MemD):Prop where
 blk:∃ wa cap,CapOk wa m.ws.length cap/\w.heap[b]?=some (.cells (rmemCells wa m.ws.length cap m.c tail) T (0,0))/\
  (0<m.ws.length->∃ q rest,bw=some q/\wa=some ⟨q,0,none⟩/\w.heap[q]?=some (.cells (m.ws.map u64V++rest).toArray 46 (0,0)))
 apart:bw≠some b
 low:∀ q,bw=some q->q<w.heap.size
 len:m.ws.length<=1048576
 cnt:m.c.all<1000000000000
 val:∀ x∈m.ws,x<18446744073709551616
theorem RMemAt.lt {w:World} {b:Nat} {T:TypeId} {tail:List Value} {bw:Option Nat} {m:MemD} (h:RMemAt w b T tail bw m):b<w.heap.size:=by obtain⟨_,_,_,h1,_⟩:=h.blk;exact blk_lt h1
theorem RMemAt.chg {S:Nat->Prop} {w w':World} {b:Nat} {T:TypeId} {tail:List Value} {bw:Option Nat} {m:MemD} (h:RMemAt w b T tail bw m) (hc:Chg S w w') (h1:¬ S b) (h2:∀ q,bw=some q->¬ S q):RMemAt w' b T tail bw m:=by
 obtain⟨wa,cap,hl,hb,hw⟩:=h.blk
 refine⟨⟨wa,cap,hl,(hc.block _ (blk_lt hb) h1).trans hb,λhp=>?_⟩,h.apart,λq e=>Nat.lt_of_lt_of_le (h.low q e) hc.size,h.len,h.cnt,h.val⟩
 obtain⟨q,rest,hq,ha,hr⟩:=hw hp
 exact⟨q,rest,hq,ha,(hc.block _ (h.low q hq) (h2 q hq)).trans hr⟩
set_option maxHeartbeats 4000000 in
theorem racc_in (b:Nat) (T:TypeId) (tail:List Value) (bw:Option Nat) (m:MemD) (kind:Int) (j x y:Nat) (w:World) (h:RMemAt w b T tail bw m) (hj:j<m.ws.length) (hx:x<18446744073709551616) (hy:y<18446744073709551616) (hcnt:m.c.all+1<1000000000000) :
  Calls Tryz.prog 131 #[.pointer (some ⟨b,0,none⟩),.int .i64 kind,.int .i64 (j:Int),.int .u64 (x:Int),.int .u64 (y:Int)] w λe w'=>e=.returned (.int .u64 ((memAcc m kind (j:Int) x y).2:Int))/\RMemAt w' b T tail bw (memAcc m kind (j:Int) x y).1/\Chg (MemSet b bw) w w':=by
 have hout:memOut m (j:Int)=false:=by unfold memOut;simp;omega
 obtain⟨wa,cap,hcap,hb,hw⟩:=h.blk
 obtain⟨q,rest,rfl,rfl,hr⟩:=hw (by omega)
 have hap:q≠b:=λe=>h.apart (by rw [e])
 have hlen:=h.len;have hval:=h.val;have hal:=all_lt h.cnt;have hlow:=h.low q rfl
 have c0:w.cell? ⟨b,0,none⟩=some (.slice (some ⟨q,0,none⟩) m.ws.length cap):=by rw [cell_blk hb];simp [rmemCells]
 have c1:w.cell? ⟨b,1,none⟩=some (.int .i64 (m.c.read:Int)):=by rw [cell_blk hb];simp [rmemCells]
 have c2:w.cell? ⟨b,2,none⟩=some (.int .i64 (m.c.write:Int)):=by rw [cell_blk hb];simp [rmemCells]
 have c3:w.cell? ⟨b,3,none⟩=some (.int .i64 (m.c.swap:Int)):=by rw [cell_blk hb];simp [rmemCells]
 have c4:w.cell? ⟨b,4,none⟩=some (.int .i64 (m.c.add:Int)):=by rw [cell_blk hb];simp [rmemCells]
 have f1:w.frozen? ⟨b,1,none⟩=false:=frozen_blk hb 1
 have f2:w.frozen? ⟨b,2,none⟩=false:=frozen_blk hb 2
 have f3:w.frozen? ⟨b,3,none⟩=false:=frozen_blk hb 3
 have f4:w.frozen? ⟨b,4,none⟩=false:=frozen_blk hb 4
 have fq:w.frozen? ⟨q,j,none⟩=false:=frozen_blk hr j
 obtain⟨o,ho⟩:∃ o,o=m.ws.getD j 0:=⟨_,rfl⟩
 have cq:w.cell? ⟨q,j,none⟩=some (.int .u64 (o:Int)):=by rw [cell_blk hr,ho];simp [u64V,List.getD_eq_getElem?_getD,hj,List.getElem?_append]
 have hol:o<18446744073709551616:=by rw [ho,List.getD_eq_getElem?_getD];simp [hj];exact hval _ (List.getElem_mem hj)
 have hj1:(j:Int)<m.ws.length:=by omega
 have Ho:=Lib.hid ho
 clear ho
 by_cases k0:kind=0
 ·subst k0
  have e1:memAcc m 0 (j:Int) x y=({ m with c:={ m.c with read:=m.c.read+1 } },o):=by simp [memAcc,memRead,hout,Ho.out]
  have hm:RMemAt (w.setCell ⟨b,1,none⟩ (.int .i64 ((m.c.read:Int)+1))) b T tail (some q) { m with c:={ m.c with read:=m.c.read+1 } }:=by
   refine⟨⟨some ⟨q,0,none⟩,cap,hcap,?_,λ_=>⟨q,rest,rfl,rfl,?_⟩⟩,(λe=>hap (by simpa using e)),(λq2 e=>by cases e;simpa using hlow),hlen,by unfold CountsD.all at hcnt ⊢;simp only;omega,hval⟩
   ·rw [blk_set hb];simp [rmemCells]
   ·rw [blk_set_other hap];exact hr
  rw [e1]
  have Hm:=Lib.hid hm
  have Hc:=Lib.hid ((Chg.refl (MemSet b (some q)) w).setCell (p:=⟨b,1,none⟩) (.inl (.inl rfl)) (.int .i64 ((m.c.read:Int)+1)))
  clear h hb hw hr hm e1 hcnt hap hval hlow hcap hout
  go_enter Tryz.func131,Tryz.ntmps131
  go_wp2
  go_ret
  exact⟨rfl,Hm.out,Hc.out⟩
 by_cases k1:kind=1
 ·subst k1
  have e1:memAcc m 1 (j:Int) x y=({ ws:=m.ws.set j x,c:={ m.c with write:=m.c.write+1 } },0):=by simp [memAcc,memWrite,hout]
  have hm:RMemAt ((w.setCell ⟨b,2,none⟩ (.int .i64 ((m.c.write:Int)+1))).setCell ⟨q,j,none⟩ (.int .u64 (x:Int))) b T tail (some q) { ws:=m.ws.set j x,c:={ m.c with write:=m.c.write+1 } }:=by
   refine⟨⟨some ⟨q,0,none⟩,cap,by simpa [CapOk] using hcap,?_,λ_=>⟨q,rest,rfl,rfl,?_⟩⟩,(λe=>hap (by simpa using e)),(λq2 e=>by cases e;simpa using hlow),by simpa using hlen,by unfold CountsD.all at hcnt ⊢;simp only;omega,?_⟩
   ·rw [blk_set_other (Ne.symm hap),blk_set hb];simp [rmemCells]
   ·rw [blk_set (by rw [blk_set_other hap];exact hr),set_words _ _ _ _ hj]
   ·intro z hz
    rcases List.mem_or_eq_of_mem_set hz with h1|rfl
    ·exact hval z h1
    ·exact hx
  rw [e1]
  have Hm:=Lib.hid hm
  have Hc:=Lib.hid (((Chg.refl (MemSet b (some q)) w).setCell (p:=⟨b,2,none⟩) (.inl (.inl rfl)) (.int .i64 ((m.c.write:Int)+1))).setCell (p:=⟨q,j,none⟩) (.inl (.inr rfl)) (.int .u64 (x:Int)))
  have g1:(w.setCell ⟨b,2,none⟩ (.int .i64 ((m.c.write:Int)+1))).cell? ⟨q,j,none⟩=some (.int .u64 (o:Int)):=by rw [cell_set_other _ (by exact hap)];exact cq
  have g2:(w.setCell ⟨b,2,none⟩ (.int .i64 ((m.c.write:Int)+1))).frozen? ⟨q,j,none⟩=false:=by rw [frozen_set_other _ (by exact hap)];exact fq
  clear h hb hw hr hm e1 hcnt hval hlow hcap hout k0
  go_enter Tryz.func131,Tryz.ntmps131
  go_wp2
  go_ret
  exact⟨rfl,Hm.out,Hc.out⟩
 by_cases k2:kind=2
 ·subst k2
  have g1:(w.setCell ⟨b,3,none⟩ (.int .i64 ((m.c.swap:Int)+1))).cell? ⟨q,j,none⟩=some (.int .u64 (o:Int)):=by rw [cell_set_other _ (by exact hap)];exact cq
  have g2:(w.setCell ⟨b,3,none⟩ (.int .i64 ((m.c.swap:Int)+1))).frozen? ⟨q,j,none⟩=false:=by rw [frozen_set_other _ (by exact hap)];exact fq
  by_cases hox:o=x
  ·have e1:memAcc m 2 (j:Int) x y=({ ws:=m.ws.set j y,c:={ m.c with swap:=m.c.swap+1 } },1):=by simp only [memAcc,memSwap,hout,Int.toNat_natCast,<-Ho.out,if_pos hox];simp [b01]
   have hm:RMemAt ((w.setCell ⟨b,3,none⟩ (.int .i64 ((m.c.swap:Int)+1))).setCell ⟨q,j,none⟩ (.int .u64 (y:Int))) b T tail (some q) { ws:=m.ws.set j y,c:={ m.c with swap:=m.c.swap+1 } }:=by
    refine⟨⟨some ⟨q,0,none⟩,cap,by simpa [CapOk] using hcap,?_,λ_=>⟨q,rest,rfl,rfl,?_⟩⟩,(λe=>hap (by simpa using e)),(λq2 e=>by cases e;simpa using hlow),by simpa using hlen,by unfold CountsD.all at hcnt ⊢;simp only;omega,?_⟩
    ·rw [blk_set_other (Ne.symm hap),blk_set hb];simp [rmemCells]
    ·rw [blk_set (by rw [blk_set_other hap];exact hr),set_words _ _ _ _ hj]
    ·intro z hz
     rcases List.mem_or_eq_of_mem_set hz with h1|rfl
     ·exact hval z h1
     ·exact hy
   rw [e1]
   have Hm:=Lib.hid hm
   have Hc:=Lib.hid (((Chg.refl (MemSet b (some q)) w).setCell (p:=⟨b,3,none⟩) (.inl (.inl rfl)) (.int .i64 ((m.c.swap:Int)+1))).setCell (p:=⟨q,j,none⟩) (.inl (.inr rfl)) (.int .u64 (y:Int)))
   subst hox
   clear h hb hw hr hm e1 hcnt hval hlow hcap hout k0 k1 Ho
   go_enter Tryz.func131,Tryz.ntmps131
   go_wp2
   go_ret
   exact⟨rfl,Hm.out,Hc.out⟩
  ·have e1:memAcc m 2 (j:Int) x y=({ m with c:={ m.c with swap:=m.c.swap+1 } },0):=by simp only [memAcc,memSwap,hout,Int.toNat_natCast,<-Ho.out,if_neg hox];simp [b01]
   have hm:RMemAt (w.setCell ⟨b,3,none⟩ (.int .i64 ((m.c.swap:Int)+1))) b T tail (some q) { m with c:={ m.c with swap:=m.c.swap+1 } }:=by
    refine⟨⟨some ⟨q,0,none⟩,cap,hcap,?_,λ_=>⟨q,rest,rfl,rfl,?_⟩⟩,(λe=>hap (by simpa using e)),(λq2 e=>by cases e;simpa using hlow),hlen,by unfold CountsD.all at hcnt ⊢;simp only;omega,hval⟩
    ·rw [blk_set hb];simp [rmemCells]
    ·rw [blk_set_other hap];exact hr
   rw [e1]
   have Hm:=Lib.hid hm
   have Hc:=Lib.hid ((Chg.refl (MemSet b (some q)) w).setCell (p:=⟨b,3,none⟩) (.inl (.inl rfl)) (.int .i64 ((m.c.swap:Int)+1)))
   have hne:¬ ((o:Int)=(x:Int)):=by omega
   clear h hb hw hr hm e1 hcnt hap hval hlow hcap hout k0 k1 hox
   go_enter Tryz.func131,Tryz.ntmps131
   go_wp2
   go_ret
   exact⟨rfl,Hm.out,Hc.out⟩
 ·have hwr:IntKind.u64.wrap ((o:Int)+x)=(((o+x) % 18446744073709551616:Nat):Int):=by simp [IntKind.wrap,IntKind.bits,IntKind.signed]
  have e1:memAcc m kind (j:Int) x y=({ ws:=m.ws.set j ((o+x) % 18446744073709551616),c:={ m.c with add:=m.c.add+1 } },o):=by simp only [memAcc,memAdd,hout,if_neg k0,if_neg k1,if_neg k2];simp [Ho.out]
  have hm:RMemAt ((w.setCell ⟨b,4,none⟩ (.int .i64 ((m.c.add:Int)+1))).setCell ⟨q,j,none⟩ (.int .u64 (IntKind.u64.wrap ((o:Int)+x)))) b T tail (some q) { ws:=m.ws.set j ((o+x) % 18446744073709551616),c:={ m.c with add:=m.c.add+1 } }:=by
   refine⟨⟨some ⟨q,0,none⟩,cap,by simpa [CapOk] using hcap,?_,λ_=>⟨q,rest,rfl,rfl,?_⟩⟩,(λe=>hap (by simpa using e)),(λq2 e=>by cases e;simpa using hlow),by simpa using hlen,by unfold CountsD.all at hcnt ⊢;simp only;omega,?_⟩
   ·rw [blk_set_other (Ne.symm hap),blk_set hb];simp [rmemCells]
   ·rw [blk_set (by rw [blk_set_other hap];exact hr),hwr,set_words _ _ _ _ hj]
   ·intro z hz
    rcases List.mem_or_eq_of_mem_set hz with h1|rfl
    ·exact hval z h1
    ·exact Nat.mod_lt _ (by decide)
  rw [e1]
  have Hm:=Lib.hid hm
  have Hc:=Lib.hid (((Chg.refl (MemSet b (some q)) w).setCell (p:=⟨b,4,none⟩) (.inl (.inl rfl)) (.int .i64 ((m.c.add:Int)+1))).setCell (p:=⟨q,j,none⟩) (.inl (.inr rfl)) (.int .u64 (IntKind.u64.wrap ((o:Int)+x))))
  have g1:(w.setCell ⟨b,4,none⟩ (.int .i64 ((m.c.add:Int)+1))).cell? ⟨q,j,none⟩=some (.int .u64 (o:Int)):=by rw [cell_set_other _ (by exact hap)];exact cq
  have g2:(w.setCell ⟨b,4,none⟩ (.int .i64 ((m.c.add:Int)+1))).frozen? ⟨q,j,none⟩=false:=by rw [frozen_set_other _ (by exact hap)];exact fq
  have a0:(kind == 0)=false:=by simpa using k0
  have a1:(kind == 1)=false:=by simpa using k1
  have a2:(kind == 2)=false:=by simpa using k2
  clear h hb hw hr hm e1 hcnt hval hlow hcap hout k0 k1 k2 hwr
  go_enter Tryz.func131,Tryz.ntmps131
  go_wp2
  go_ret
  exact⟨rfl,Hm.out,Hc.out⟩
theorem racc_out (b:Nat) (T:TypeId) (tail:List Value) (bw:Option Nat) (m:MemD) (kind a:Int) (x y:Nat) (w:World) (h:RMemAt w b T tail bw m) (ho:memOut m a=true) (hcnt:m.c.all+1<1000000000000) :
  Calls Tryz.prog 131 #[.pointer (some ⟨b,0,none⟩),.int .i64 kind,.int .i64 a,.int .u64 (x:Int),.int .u64 (y:Int)] w λe w'=>e=.returned (.int .u64 0)/\RMemAt w' b T tail bw m.fault/\Chg (MemSet b bw) w w':=by
 obtain⟨wa,cap,hcap,hb,hw⟩:=h.blk
 have hap:=h.apart;have hlow:=h.low
 have hlen:=h.len;have hval:=h.val;have hal:=all_lt h.cnt
 have c0:w.cell? ⟨b,0,none⟩=some (.slice wa m.ws.length cap):=by rw [cell_blk hb];simp [rmemCells]
 have c5:w.cell? ⟨b,5,none⟩=some (.int .i64 (m.c.fault:Int)):=by rw [cell_blk hb];simp [rmemCells]
 have f5:w.frozen? ⟨b,5,none⟩=false:=frozen_blk hb 5
 have hm:RMemAt (w.setCell ⟨b,5,none⟩ (.int .i64 ((m.c.fault:Int)+1))) b T tail bw m.fault:=by
  refine⟨⟨wa,cap,hcap,?_,λhp=>?_⟩,hap,(λq e=>by have:=hlow q e;simpa using this),hlen,by unfold MemD.fault CountsD.all at *;simp only;omega,hval⟩
  ·rw [blk_set hb];simp [rmemCells,MemD.fault]
  ·obtain⟨q,rest,hq,ha,hr⟩:=hw hp
   exact⟨q,rest,hq,ha,by rw [blk_set_other (by rintro rfl;exact hap hq)];exact hr⟩
 have Hm:=Lib.hid hm
 have Hc:=Lib.hid ((Chg.refl (MemSet b bw) w).setCell (p:=⟨b,5,none⟩) (.inl (.inl rfl)) (.int .i64 ((m.c.fault:Int)+1)))
 have ho2:=outOf ho
 clear h hb hw hm hcnt hap hval hlow hcap ho
 by_cases h1:a<0
 ·clear ho2
  go_enter Tryz.func131,Tryz.ntmps131
  go_wp2
  go_ret
  exact⟨rfl,Hm.out,Hc.out⟩
 ·have h2:(m.ws.length:Int)<=a:=by omega
  clear ho2
  go_enter Tryz.func131,Tryz.ntmps131
  go_wp2
  go_ret
  exact⟨rfl,Hm.out,Hc.out⟩
theorem racc_any (b:Nat) (T:TypeId) (tail:List Value) (bw:Option Nat) (m:MemD) (kind a:Int) (x y:Nat) (w:World) (h:RMemAt w b T tail bw m) (hx:x<18446744073709551616) (hy:y<18446744073709551616) (hcnt:m.c.all+1<1000000000000) :
  Calls Tryz.prog 131 #[.pointer (some ⟨b,0,none⟩),.int .i64 kind,.int .i64 a,.int .u64 (x:Int),.int .u64 (y:Int)] w λe w'=>e=.returned (.int .u64 ((memAcc m kind a x y).2:Int))/\RMemAt w' b T tail bw (memAcc m kind a x y).1/\Chg (MemSet b bw) w w':=by
 cases ho:memOut m a with
 | true=>
  have e1:memAcc m kind a x y=(m.fault,0):=by
   unfold memAcc memRead memWrite memSwap memAdd
   simp only [ho,if_true,b01]
   repeat' (split<;>try rfl)
  rw [e1]
  exact racc_out b T tail bw m kind a x y w h ho hcnt
 | false=>
  obtain⟨j,rfl,ht,hj⟩:=memOut_in ho
  exact racc_in b T tail bw m kind j x y w h hj hx hy hcnt
theorem of_any (a:Option Addr) (c:Nat) (ws:List Nat) (w:World) (hs:SlAt w a ws.length 1 (u64G ws)) (hn:ws.length<=1000000000) (hc:a=none->c=0) :
  Calls Tryz.prog 38 #[.slice a ws.length c] w λe w'=>∃ v,e=.returned (.agg #[v,.int .i64 0,.int .i64 0,.int .i64 0,.int .i64 0,.int .i64 0])/\w'.ownsRow (w.heap.size+1) 46 1 v ws.length (ws.map u64V)/\Below w.heap.size w w':=by
 have Hs:=Lib.hid hs
 obtain⟨i0,hi,hz0,hz1,hz2⟩:=info_parts uint64_info0
 obtain⟨w0,hw0⟩:∃ w0,w0=(w.alloc (.cells #[.slice none 0 0,.int .i64 0,.int .i64 0,.int .i64 0,.int .i64 0,.int .i64 0] 88)).alloc (.cells #[] 46):=⟨_,rfl⟩
 have hgr:Below w.heap.size w w0:=by rw [hw0];exact Gr.alloc (Gr.new w _) _
 have hsz:w0.heap.size=w.heap.size+2:=by rw [hw0];simp
 have hblk:w0.heap[w.heap.size]?=some (.cells #[.slice none 0 0,.int .i64 0,.int .i64 0,.int .i64 0,.int .i64 0,.int .i64 0] 88 (0,0)):=by
  rw [hw0,Below.heap_alloc _ _ _ (by simp)];exact heap_alloc_new _ _
 have hown:w0.ownsRow (w.heap.size+1) 46 1 (.slice (some ⟨w.heap.size+1,0,none⟩) 0 0) 0 []:=by
  rw [hw0]
  have:=World.ownsRow_made (e:=46) (size:=1) (w.alloc (.cells #[.slice none 0 0,.int .i64 0,.int .i64 0,.int .i64 0,.int .i64 0,.int .i64 0] 88)) #[] 0 (base:=w.heap.size+1) (by simp) (Nat.zero_le _) rfl
  rw [World.size_alloc] at this;exact this
 have Hown:=Lib.hid hown;have Hblk:=Lib.hid hblk;have Hgr:=Lib.hid hgr;have Hsz:=Lib.hid hsz;have Hw0:=Lib.hid hw0
 clear hs hgr hsz hblk hown hw0
 cases a with
 | none=>
  obtain hn0:ws.length=0:=by
   rcases Nat.eq_zero_or_pos ws.length with h|h
   ·exact h
   ·obtain⟨b,off,h0,_⟩:=Hs.out.2 0 h;cases h0
  obtain rfl:ws=[]:=List.eq_nil_of_length_eq_zero hn0
  obtain rfl:=hc rfl
  clear hc hn0
  go_enter Tryz.func38,Tryz.ntmps38
  go_wp2
  refine bodyPost_ret (v:=.agg #[.slice (some ⟨w.heap.size+1,0,none⟩) 0 0,.int .i64 0,.int .i64 0,.int .i64 0,.int .i64 0,.int .i64 0]) (by simp [results,Tryz.results38 ,go_sem]) rfl ⟨_,rfl,?_,Gr.alloc (Gr.new w _) _⟩
  have:=World.ownsRow_made (e:=46) (size:=1) (w.alloc (.cells #[.slice (some ⟨w.heap.size+1,0,none⟩) 0 0,.int .i64 0,.int .i64 0,.int .i64 0,.int .i64 0,.int .i64 0] 88)) #[] 0 (base:=w.heap.size+1) (by simp) (Nat.zero_le _) rfl
  rw [World.size_alloc] at this;exact this
 | some ad=>
  clear hc
  have hnew:∀ j u,(ws.map u64V)[j]?=some u->w0.cell? (ad.add j)=some u:=by
   intro j u hu
   simp only [List.getElem?_map,Option.map_eq_some_iff] at hu
   obtain⟨i,hi2,rfl⟩:=hu
   rw [List.getElem?_eq_some_iff] at hi2
   obtain⟨hj,rfl⟩:=hi2
   obtain⟨b,off,h0,hb,hcell⟩:=(Hs.out.grown Hgr.out).2 j hj
   cases h0
   have:=hcell 0 (by omega)
   rw [Nat.mul_one,Nat.add_zero] at this
   have h8:u64G ws j 0=u64V ws[j]:=by simp [u64G,List.getD_eq_getElem?_getD,hj]
   rw [h8] at this
   rw [<-this]
   unfold Addr.add
   split
   ·rename_i h;rw [h];rfl
   ·rfl
  have Hnew:=Lib.hid hnew
  clear hnew
  go_enter Tryz.func38,Tryz.ntmps38
  go_wp2_with (at_builtin;rw [<-Hw0.out];refine wpList_append_own _ rfl (.tmp 3) (.tmp 4) 28 rfl (w.heap.size+1) 46 i0 (.int .u64 0) 1 8 Tryz.underlying28 hi hz0 hz1 hz2 rfl (by decide) (.slice (some ⟨w.heap.size+1,0,none⟩) 0 0) 0 [] rfl Hown.out ad ws.length c (ws.map u64V) rfl ?c1 Hnew.out ?c2 ?c3 ?c4 ?c5 ?_)
  case c1=>simp
  case c2=>
   intro u hu
   obtain⟨j,_,rfl⟩:=List.mem_map.1 hu
   rfl
  case c3=>unfold maxLen;omega
  case c4=>omega
  case c5=>have:=Hsz.out;omega
  intro v w1 hown1 hgrow hnil
  obtain⟨a',c',rfl⟩:=row_form hown1
  have hb1:w1.heap[w.heap.size]?=some (.cells #[.slice none 0 0,.int .i64 0,.int .i64 0,.int .i64 0,.int .i64 0,.int .i64 0] 88 (0,0)):=by
   rw [hgrow.block _ (by have:=Hsz.out;omega) (by simp [Value.ownBlock])];exact Hblk.out
  have k0:w1.cell? ⟨w.heap.size,0,none⟩=some (.slice none 0 0):=by rw [cell_blk hb1];rfl
  have k1:w1.cell? ⟨w.heap.size,1,none⟩=some (.int .i64 0):=by rw [cell_blk hb1];rfl
  have k2:w1.cell? ⟨w.heap.size,2,none⟩=some (.int .i64 0):=by rw [cell_blk hb1];rfl
  have k3:w1.cell? ⟨w.heap.size,3,none⟩=some (.int .i64 0):=by rw [cell_blk hb1];rfl
  have k4:w1.cell? ⟨w.heap.size,4,none⟩=some (.int .i64 0):=by rw [cell_blk hb1];rfl
  have k5:w1.cell? ⟨w.heap.size,5,none⟩=some (.int .i64 0):=by rw [cell_blk hb1];rfl
  have f0:w1.frozen? ⟨w.heap.size,0,none⟩=false:=frozen_blk hb1 0
  have f1:w1.frozen? ⟨w.heap.size,1,none⟩=false:=frozen_blk hb1 1
  have f2:w1.frozen? ⟨w.heap.size,2,none⟩=false:=frozen_blk hb1 2
  have f3:w1.frozen? ⟨w.heap.size,3,none⟩=false:=frozen_blk hb1 3
  have f4:w1.frozen? ⟨w.heap.size,4,none⟩=false:=frozen_blk hb1 4
  have f5:w1.frozen? ⟨w.heap.size,5,none⟩=false:=frozen_blk hb1 5
  have Hg:=Lib.hid hgrow;have Ho:=Lib.hid hown1
  clear hgrow hown1 hnil hb1
  go_wp2
  refine bodyPost_ret (v:=.agg #[.slice a' ws.length c',.int .i64 0,.int .i64 0,.int .i64 0,.int .i64 0,.int .i64 0]) (by simp [results,Tryz.results38 ,go_sem, *]) rfl ⟨_,rfl,?_,?_⟩
  ·refine row_chg (S:=λb=>b=w.heap.size) Ho.out ?_ (λb hb e=>by have:=(Ho.out.lt b hb).1;omega)
   iterate 6 refine Chg.setCell ?_ (by exact .inl rfl) _
   exact Chg.refl _ _
  ·have h1:Below w.heap.size w w1:=Hgr.out.grown Hg.out (by have:=Hsz.out;omega) (λk hk=>by simp only [Value.ownBlock,Option.some.injEq] at hk;omega)
   iterate 6 refine Below.setCell ?_ (by exact Nat.le_refl _) _
   exact h1
end
end Go.Proofs.YtfkokppncipgnaaGreat
