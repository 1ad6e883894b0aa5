/- Layer 2: contracts of mem's methods: swap, addresses that are none, memories that are none, and what a memory is made of. -/
import Derived.Test.YtlanekkbciffcaaG06
set_option maxRecDepth 100000
set_option linter.unusedVariables false
set_option linter.unusedSimpArgs false
set_option linter.unnecessarySimpa false
namespace Go.Proofs.Ytlanekkbciffcaa
open Go.RowKit
def swapTo (m:MemD) (j fresh:Nat) (b:Bool):MemD:={ ws:=if b then m.ws.set j fresh else m.ws,c:={ m.c with swap:=m.c.swap+1 } }
theorem swap_in (bm:Nat) (bw:Option Nat) (m:MemD) (j old fresh x:Nat) (w:World) (h:MemAt w bm bw m) (hj:j<m.ws.length) (hx:m.ws.getD j 0=x) (hv:fresh<18446744073709551616) (hcnt:m.c.all+1<1000000000000) (b:Bool) (hb:decide (x=old)=b) :
  Calls Try.prog 162 #[.pointer (some ⟨bm,0,none⟩),.int .i64 (j:Int),.int .u64 (old:Int),.int .u64 (fresh:Int)] w λe w'=>e=.returned (.bool b)/\MemAt w' bm bw (swapTo m j fresh b)/\Chg (MemSet bm bw) w w':=by
 obtain⟨w0,hw0⟩:∃ w0,w0=((w.alloc (.cells #[.int .u64 (old:Int)] 37)).alloc (.cells #[.int .u64 (fresh:Int)] 37)).alloc (.cells #[.bool false] 4):=⟨_,rfl⟩
 have hgr:Below w.heap.size w w0:=by rw [hw0];exact Gr.alloc (Gr.alloc (Gr.new w _) _) _
 have hsz:w0.heap.size=w.heap.size+3:=by rw [hw0];simp
 have c2:w0.cell? ⟨w.heap.size,0,none⟩=some (.int .u64 (old:Int)):=by rw [hw0,World.cell?_alloc_lt _ _ _ (by simp;omega),World.cell?_alloc_lt _ _ _ (by simp),cell_new];rfl
 have c3:w0.cell? ⟨w.heap.size+1,0,none⟩=some (.int .u64 (fresh:Int)):=by
  rw [hw0,World.cell?_alloc_lt _ _ _ (by simp)]
  have:=cell_new (w.alloc (.cells #[.int .u64 (old:Int)] 37)) #[.int .u64 (fresh:Int)] 37 (0,0) 0
  rw [World.size_alloc] at this;exact this
 have c4:w0.cell? ⟨w.heap.size+2,0,none⟩=some (.bool false):=by
  rw [hw0]
  have:=cell_new ((w.alloc (.cells #[.int .u64 (old:Int)] 37)).alloc (.cells #[.int .u64 (fresh:Int)] 37)) #[.bool false] 4 (0,0) 0
  rw [World.size_alloc,World.size_alloc] at this;exact this
 have f4:w0.frozen? ⟨w.heap.size+2,0,none⟩=false:=by
  rw [hw0]
  have:=World.frozen?_alloc_new ((w.alloc (.cells #[.int .u64 (old:Int)] 37)).alloc (.cells #[.int .u64 (fresh:Int)] 37)) #[.bool false] 4 0
  rw [World.size_alloc,World.size_alloc] at this;exact this
 obtain⟨q,cap,rest,rfl,hcap,hbm,hbw,hcell⟩:=h.parts hgr j hj
 rw [hx] at hcell
 have hlt:=h.lt;have hlw:=h.low q rfl;have hap:q≠bm:=(λe=>h.apart (by rw [e]));have hlen:=h.len;have hval:=h.val
 have hal:=all_lt h.cnt
 have A:=access_swap bm q j w.heap.size (w.heap.size+1) (w.heap.size+2) m.ws.length cap m.c.swap x old fresh w0
  (by rw [cell_blk hbm];rfl) (by rw [cell_blk hbm];rfl) (by omega) (by omega) (by rw [cell_blk hbm];rfl) hcell (frozen_blk hbw j) hj hlen hap c2 c3 c4 f4 (frozen_blk hbm 3) (by omega) (by omega) (by omega) (by omega)
 have hm1:MemAt (w0.setCell ⟨bm,3,none⟩ (.int .i64 ((m.c.swap:Int)+1))) bm (some q) { m with c:={ m.c with swap:=m.c.swap+1 } }:=by
  refine⟨⟨some ⟨q,0,none⟩,cap,hcap,?_,λ_=>⟨q,rest,rfl,rfl,?_⟩⟩,(λe=>hap (by simpa using e)),(λq2 e=>by cases e;simp;omega),hlen,by unfold CountsD.all at hcnt ⊢;simp only;omega,hval⟩
  ·rw [blk_set hbm];simp [memCells]
  ·rw [blk_set_other hap];exact hbw
 have hc1:Chg (MemSet bm (some q)) w (w0.setCell ⟨bm,3,none⟩ (.int .i64 ((m.c.swap:Int)+1))):=(Chg.of_below hgr).setCell (.inl (.inl rfl)) _
 have A2:Calls Try.prog 138 #[.pointer (some ⟨bm,0,none⟩),.int .i64 2,.int .i64 (j:Int),.func (.func 167) #[] #[],.func (.func 168) #[] #[.pointer (some ⟨w.heap.size,0,none⟩),.pointer (some ⟨w.heap.size+1,0,none⟩),.pointer (some ⟨w.heap.size+2,0,none⟩)]] w0 λe w'=>
   e=.returned (.tuple #[])/\w'.cell? ⟨w.heap.size+2,0,none⟩=some (.bool b)/\MemAt w' bm (some q) (swapTo m j fresh b)/\Chg (MemSet bm (some q)) w w':=by
  refine A.mono ?_
  rintro e w' ⟨rfl,nq,hw'⟩
  refine⟨rfl,?_⟩
  by_cases hxo:x=old
  ·obtain rfl:b=true:=by rw [<-hb];simp [hxo]
   rw [if_pos (by omega)] at hw'
   obtain⟨⟨wa',cap',hcap',hbm',hw1⟩,_⟩:=hm1
   obtain⟨q2,rest',hq2,rfl,hr'⟩:=hw1 (by simp;omega)
   cases hq2
   unfold swapTo
   refine⟨?_,?_,?_⟩
   ·rw [hw']
    exact World.cell?_setCell_same _ _ _ (u:=.bool false) (by rw [cell_set_other _ (by simp;omega)];show(World.setCell _ _ _).cell? _=_;rw [cell_set_other _ (by simp;omega)];exact c4)
   ·rw [hw']
    refine⟨⟨some ⟨q,0,none⟩,cap',by simpa [CapOk] using hcap',?_,λ_=>⟨q,rest',rfl,rfl,?_⟩⟩,(λe=>hap (by simpa using e)),(λq2 e=>by cases e;simp [World.drewN];omega),by simpa using hlen,by unfold CountsD.all at hcnt ⊢;simp only;omega,?_⟩
    ·rw [blk_set_other (by omega),blk_set_other (by omega)];simpa using hbm'
    ·rw [blk_set_other (by omega),blk_set (w:=(w0.setCell ⟨bm,3,none⟩ (.int .i64 ((m.c.swap:Int)+1))).drewN nq) hr',set_words _ _ _ _ hj];rfl
    ·intro y hy
     rcases List.mem_or_eq_of_mem_set hy with h1|rfl
     ·exact hval y h1
     ·exact hv
   ·rw [hw']
    exact((hc1.drewN nq).setCell (.inl (.inr rfl)) _).setCell (.inr (by simp)) _
  ·obtain rfl:b=false:=by rw [<-hb];simp [hxo]
   rw [if_neg (by omega)] at hw'
   unfold swapTo
   refine⟨?_,?_,?_⟩
   ·rw [hw'];show(World.setCell _ _ _).cell? _=_;rw [cell_set_other _ (by simp;omega)];exact c4
   ·rw [hw'];exact hm1.chg (S:=λ_=>False) ((Chg.refl _ _).drewN nq) (λh=>h) (λ_ _ h=>h)
   ·rw [hw'];exact hc1.drewN nq
 rw [hw0] at A2
 have A':=Lib.hid A2
 clear A A2 hw0 hm1 hc1 hgr hbm hbw hcell hlt hlw hap hval hal hcap hcnt h hx hb c2 c3 c4 f4 hsz
 go_enter Try.func162,Try.ntmps162
 go_wp2_with fail
 refine A'.out.mono ?_
 rintro e w1 ⟨rfl,hcell,hm,hc⟩
 have Hm:=Lib.hid hm;have Hc:=Lib.hid hc
 clear hm hc
 go_wp2
 go_ret
 exact⟨rfl,Hm.out,Hc.out⟩
theorem access_out (bm:Nat) (wa:Option Addr) (len cap:Nat) (n k a:Int) (f1 f2:Value) (w:World) (h0:w.cell? ⟨bm,0,none⟩=some (.slice wa len cap)) (h1:w.cell? ⟨bm,5,none⟩=some (.int .i64 n)) (hn:0<=n) (hn2:n<1000000000000)
  (hlen:len<=1048576) (hf1:w.frozen? ⟨bm,5,none⟩=false) (ha:a<0∨(len:Int)<=a) :
  Calls Try.prog 138 #[.pointer (some ⟨bm,0,none⟩),.int .i64 k,.int .i64 a,f1,f2] w λe w'=>e=.returned (.tuple #[])/\w'=w.setCell ⟨bm,5,none⟩ (.int .i64 (n+1)):=by
 by_cases h:a<0
 ·clear ha
  go_enter Try.func138,Try.ntmps138
  go_wp2
  (refine bodyPost_ret (results_none rfl _ _ _) rfl ?_)
  exact⟨rfl,rfl⟩
 ·have ha2:(len:Int)<=a:=by omega
  clear ha
  go_enter Try.func138,Try.ntmps138
  go_wp2
  (refine bodyPost_ret (results_none rfl _ _ _) rfl ?_)
  exact⟨rfl,rfl⟩
theorem MemAt.faults {w w':World} {bm:Nat} {bw:Option Nat} {m:MemD} (h:MemAt w bm bw m) (hb:Below w.heap.size w w') (hcnt:m.c.all+1<1000000000000) :
  ∃ wa cap,w'.heap[bm]?=some (.cells (memCells wa m.ws.length cap m.c) 152 (0,0))/\MemAt (w'.setCell ⟨bm,5,none⟩ (.int .i64 ((m.c.fault:Int)+1))) bm bw m.fault/\Chg (MemSet bm bw) w (w'.setCell ⟨bm,5,none⟩ (.int .i64 ((m.c.fault:Int)+1))):=by
 have hg:=h.gr hb
 have hap:=h.apart;have hlow:=hg.low
 obtain⟨wa,cap,hl,hbm,hw⟩:=hg.blk
 refine⟨wa,cap,hbm,⟨⟨wa,cap,hl,?_,λhp=>?_⟩,hap,(λq e=>by have:=hlow q e;simpa using this),h.len,by unfold MemD.fault CountsD.all at *;simp only;omega,h.val⟩,(Chg.of_below hb).setCell (.inl (.inl rfl)) _⟩
 ·rw [blk_set hbm];simp [memCells,MemD.fault]
 ·obtain⟨q,rest,hq,ha,hr⟩:=hw hp
  exact⟨q,rest,hq,ha,by rw [blk_set_other (by rintro rfl;exact hap hq)];exact hr⟩
theorem outOf {m:MemD} {a:Int} (h:memOut m a=true):a<0∨(m.ws.length:Int)<=a:=by
 unfold memOut at h;simpa using h
theorem read_out (bm:Nat) (bw:Option Nat) (m:MemD) (a:Int) (w:World) (h:MemAt w bm bw m) (ha:memOut m a=true) (hcnt:m.c.all+1<1000000000000) :
  Calls Try.prog 136 #[.pointer (some ⟨bm,0,none⟩),.int .i64 a] w λe w'=>e=.returned (.int .u64 0)/\MemAt w' bm bw m.fault/\Chg (MemSet bm bw) w w':=by
 have hgr:=Gr.new w (.cells #[.int .u64 0] 37)
 obtain⟨wa,cap,hbm,hm,hc⟩:=h.faults hgr hcnt
 have hal:=all_lt h.cnt;have hlt:=h.lt
 have A:=access_out bm wa m.ws.length cap m.c.fault 0 a (.func (.func 139) #[] #[]) (.func (.func 140) #[] #[.pointer (some ⟨w.heap.size,0,none⟩)]) _ (by rw [cell_blk hbm];rfl) (by rw [cell_blk hbm];rfl) (by omega) (by omega) h.len (frozen_blk hbm 5) (outOf ha)
 obtain⟨w2,hw2⟩:∃ w2,w2=(w.alloc (.cells #[.int .u64 0] 37)).setCell ⟨bm,5,none⟩ (.int .i64 ((m.c.fault:Int)+1)):=⟨_,rfl⟩
 have hfin:w2.cell? ⟨w.heap.size,0,none⟩=some (.int .u64 0):=by rw [hw2,cell_set_other _ (by simp;omega),cell_new];rfl
 rw [<-hw2] at A hm hc
 have A':=Lib.hid A;have Hm:=Lib.hid hm;have Hc:=Lib.hid hc
 clear A hw2 hm hc hgr hbm hal hcnt ha h
 go_enter Try.func136,Try.ntmps136
 go_wp2_with fail
 refine A'.out.mono ?_
 rintro e w1 ⟨rfl,rfl⟩
 go_wp2
 go_ret
 exact⟨rfl,Hm.out,Hc.out⟩
theorem swap_out (bm:Nat) (bw:Option Nat) (m:MemD) (a o f:Int) (w:World) (h:MemAt w bm bw m) (ha:memOut m a=true) (hcnt:m.c.all+1<1000000000000) :
  Calls Try.prog 162 #[.pointer (some ⟨bm,0,none⟩),.int .i64 a,.int .u64 o,.int .u64 f] w λe w'=>e=.returned (.bool false)/\MemAt w' bm bw m.fault/\Chg (MemSet bm bw) w w':=by
 have hgr:Below w.heap.size w (((w.alloc (.cells #[.int .u64 o] 37)).alloc (.cells #[.int .u64 f] 37)).alloc (.cells #[.bool false] 4)):=Gr.alloc (Gr.alloc (Gr.new w _) _) _
 obtain⟨wa,cap,hbm,hm,hc⟩:=h.faults hgr hcnt
 have hal:=all_lt h.cnt;have hlt:=h.lt
 have A:=access_out bm wa m.ws.length cap m.c.fault 2 a (.func (.func 167) #[] #[]) (.func (.func 168) #[] #[.pointer (some ⟨w.heap.size,0,none⟩),.pointer (some ⟨w.heap.size+1,0,none⟩),.pointer (some ⟨w.heap.size+2,0,none⟩)]) _ (by rw [cell_blk hbm];rfl) (by rw [cell_blk hbm];rfl) (by omega) (by omega) h.len (frozen_blk hbm 5) (outOf ha)
 obtain⟨w2,hw2⟩:∃ w2,w2=(((w.alloc (.cells #[.int .u64 o] 37)).alloc (.cells #[.int .u64 f] 37)).alloc (.cells #[.bool false] 4)).setCell ⟨bm,5,none⟩ (.int .i64 ((m.c.fault:Int)+1)):=⟨_,rfl⟩
 have hfin:w2.cell? ⟨w.heap.size+2,0,none⟩=some (.bool false):=by
  rw [hw2,cell_set_other _ (by simp;omega)]
  have:=cell_new ((w.alloc (.cells #[.int .u64 o] 37)).alloc (.cells #[.int .u64 f] 37)) #[.bool false] 4 (0,0) 0
  rw [World.size_alloc,World.size_alloc] at this;exact this
 rw [<-hw2] at A hm hc
 have A':=Lib.hid A;have Hm:=Lib.hid hm;have Hc:=Lib.hid hc
 clear A hw2 hm hc hgr hbm hal hcnt ha h
 go_enter Try.func162,Try.ntmps162
 go_wp2_with fail
 refine A'.out.mono ?_
 rintro e w1 ⟨rfl,rfl⟩
 go_wp2
 go_ret
 exact⟨rfl,Hm.out,Hc.out⟩
theorem range_map_words (ws:List Nat):(List.range ws.length).map (λj=>u64V (ws.getD j 0))=ws.map u64V:=by
 apply List.ext_getElem
 ·simp
 ·intro i h1 h2
  simp at h1 h2
  simp [List.getD_eq_getElem?_getD,h2]
def u64G (ws:List Nat) (j _f:Nat):Value:=u64V (ws.getD j 0)
theorem MemAt.sl {w:World} {bm:Nat} {bw:Option Nat} {m:MemD} {wa:Option Addr} (h:MemAt w bm bw m) (hw:0<m.ws.length->∃ q rest,bw=some q/\wa=some ⟨q,0,none⟩/\w.heap[q]?=some (.cells (m.ws.map u64V++rest).toArray 37 (0,0))) :
  SlAt w wa m.ws.length 1 (u64G m.ws):=by
 refine⟨by have:=h.len;unfold maxLen;omega,λj hj=>?_⟩
 obtain⟨q,rest,hq,rfl,hr⟩:=hw (by omega)
 refine⟨q,0,rfl,h.low q hq,λf hf=>?_⟩
 obtain rfl:f=0:=by omega
 rw [cell_blk hr]
 simp [u64G,u64V,List.getD_eq_getElem?_getD,hj,List.getElem?_append]
theorem words_any (bm:Nat) (bw:Option Nat) (m:MemD) (w:World) (h:MemAt w bm bw m):Calls Try.prog 72 #[.pointer (some ⟨bm,0,none⟩)] w λe w'=>∃ v,e=.returned v/\w'.ownsRow w.heap.size 37 1 v m.ws.length (m.ws.map u64V)/\Below w.heap.size w w':=by
 obtain⟨wa,cap,hcap,hb,hw⟩:=h.blk
 have c0:w.cell? ⟨bm,0,none⟩=some (.slice wa m.ws.length cap):=by rw [cell_blk hb];rfl
 have hc:=clone_u64 wa m.ws.length cap (u64G m.ws) w (h.sl hw) (λj=>rfl) (by have:=h.len;omega) hcap.2
 rw [show(List.range m.ws.length).map (λj=>u64G m.ws j 0)=m.ws.map u64V from range_map_words m.ws] at hc
 have Hc:=Lib.hid hc
 clear h hb hw hcap hc
 go_enter Try.func72,Try.ntmps72
 go_wp2_with fail
 refine Hc.out.mono ?_
 rintro e w1 ⟨v,rfl,ho,hb,_⟩
 have Ho:=Lib.hid ho;have Hb:=Lib.hid hb
 clear ho hb
 go_wp2
 go_ret
 exact⟨v,rfl,Ho.out,Hb.out⟩
theorem read_any (bm:Nat) (bw:Option Nat) (m:MemD) (a:Int) (w:World) (h:MemAt w bm bw m) (hcnt:m.c.all+1<1000000000000) :
  Calls Try.prog 136 #[.pointer (some ⟨bm,0,none⟩),.int .i64 a] w λe w'=>e=.returned (.int .u64 ((memRead m a).2:Int))/\MemAt w' bm bw (memRead m a).1/\Chg (MemSet bm bw) w w':=by
 cases ho:memOut m a with
 | true=>unfold memRead;simp only [ho,if_true];exact read_out bm bw m a w h ho hcnt
 | false=>
  obtain⟨j,rfl,ht,hj⟩:=memOut_in ho
  unfold memRead;rw [if_neg (by rw [ho];simp)]
  simp only [ht]
  exact read_in bm bw m j _ w h hj rfl hcnt
theorem swap_any (bm:Nat) (bw:Option Nat) (m:MemD) (a:Int) (old fresh:Nat) (w:World) (h:MemAt w bm bw m) (hv:fresh<18446744073709551616) (hcnt:m.c.all+1<1000000000000) :
  Calls Try.prog 162 #[.pointer (some ⟨bm,0,none⟩),.int .i64 a,.int .u64 (old:Int),.int .u64 (fresh:Int)] w λe w'=>e=.returned (.bool (memSwap m a old fresh).2)/\MemAt w' bm bw (memSwap m a old fresh).1/\Chg (MemSet bm bw) w w':=by
 cases ho:memOut m a with
 | true=>unfold memSwap;simp only [ho,if_true];exact swap_out bm bw m a old fresh w h ho hcnt
 | false=>
  obtain⟨j,rfl,ht,hj⟩:=memOut_in ho
  unfold memSwap;rw [if_neg (by rw [ho];simp)]
  simp only [ht]
  by_cases hx:m.ws.getD j 0=old
  ·rw [if_pos hx];exact swap_in bm bw m j old fresh _ w h hj rfl hv hcnt true (by rw [hx];simp)
  ·rw [if_neg hx];exact swap_in bm bw m j old fresh _ w h hj rfl hv hcnt false (decide_eq_false hx)
def c0:CountsD:=⟨0,0,0,0,0⟩
theorem new_mem (a:Option Addr) (c:Nat) (ws:List Nat) (w:World) (hs:SlAt w a ws.length 1 (u64G ws)) (hn:ws.length<=65536) (hc:a=none->c=0) (hv:∀ x∈ws,x<18446744073709551616) :
  Calls Try.prog 71 #[.slice a ws.length c] w λe w'=>∃ bm bw,e=.returned (.tuple #[.pointer (some ⟨bm,0,none⟩),.int .i64 0])/\MemAt w' bm bw ⟨ws,c0⟩/\Below w.heap.size w w'/\w.heap.size<=bm/\(∀ q,bw=some q->w.heap.size<=q):=by
 have h1:(ws.length:Int)<=65536:=by omega
 have hc:=clone_u64 a ws.length c (u64G ws) w hs (λj=>rfl) (by omega) hc
 rw [show(List.range ws.length).map (λj=>u64G ws j 0)=ws.map u64V from range_map_words ws] at hc
 have Hc:=Lib.hid hc
 have Hn:=Lib.hid hn;have Hv:=Lib.hid hv
 clear hs hc hn hv
 go_enter Try.func71,Try.ntmps71
 go_wp2_with fail
 refine Hc.out.mono ?_
 rintro e w1 ⟨v,rfl,ho,hb,hnil⟩
 obtain⟨a',c',rfl⟩:∃ a' c',v=.slice a' ws.length c':=by
  rcases ho.2 with⟨h,h0⟩|⟨q,cap,cur,h,_⟩
  ·exact⟨none,0,by rw [h,h0]⟩
  ·exact⟨_,_,h⟩
 have Hsz:=Lib.hid hb.size
 obtain⟨w2,hw2⟩:∃ w2,w2=w1.alloc (.cells #[.slice a' ws.length c',.int .i64 0,.int .i64 0,.int .i64 0,.int .i64 0,.int .i64 0,.nilFunc] 152):=⟨_,rfl⟩
 have hmem:∃ bw,MemAt w2 w1.heap.size bw ⟨ws,c0⟩/\(∀ q,bw=some q->w.heap.size<=q):=by
  obtain⟨_,h2⟩:=ho
  have hsz:=hb.size
  rcases h2 with⟨h9,h0⟩|⟨q,cap,cur,h9,hq,hh,hcap,_,hcs,htake⟩<;>simp only [Value.slice.injEq] at h9
  ·obtain⟨rfl,_,rfl⟩:=h9
   obtain rfl:ws=[]:=List.eq_nil_of_length_eq_zero h0
   refine⟨none,⟨⟨none,0,⟨Nat.le_refl _,λ_=>rfl⟩,?_,λh=>absurd h (by simp)⟩,by simp,(λ_ e=>by cases e),by simp,(by show CountsD.all c0<_;decide),(λ_ h=>by cases h)⟩,(λ_ e=>by cases e)⟩
   rw [hw2];exact heap_alloc_new _ _
  ·obtain⟨rfl,_,rfl⟩:=h9
   refine⟨some q,⟨⟨some ⟨q,0,none⟩,c',⟨hcap,λh=>by cases h⟩,?_,λ_=>⟨q,cur.toList.drop ws.length,rfl,rfl,?_⟩⟩,?_,?_,(by have:=Hn.out;simp only;omega),(by show CountsD.all c0<_;decide),Hv.out⟩,(λq2 e=>by cases e;exact hq)⟩
   ·rw [hw2];exact heap_alloc_new _ _
   ·rw [hw2,Below.heap_alloc _ _ _ (blk_lt hh),hh]
    rw [Nat.mul_one] at htake
    rw [<-htake,List.take_append_drop]
   ·intro e;cases e;have:=blk_lt hh;omega
   ·intro q2 e;cases e;rw [hw2];have:=blk_lt hh;simp;omega
 have hb2:Below w.heap.size w w2:=by rw [hw2];exact Gr.alloc hb _
 obtain⟨bw,hm,hq⟩:=hmem
 have Hm:=Lib.hid hm;have Hq:=Lib.hid hq;have Hb2:=Lib.hid hb2;have Hw2:=Lib.hid hw2
 clear ho hb hnil hm hq hb2 hw2
 go_wp2
 rw [<-Hw2.out]
 go_ret2
 exact⟨_,bw,rfl,Hm.out,Hb2.out,Hsz.out,Hq.out⟩
end Go.Proofs.Ytlanekkbciffcaa
