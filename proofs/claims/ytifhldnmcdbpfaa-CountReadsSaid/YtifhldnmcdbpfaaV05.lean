/- Layer 2: contracts of mem's methods: swap, addresses that are none, memories that are none, and what a memory is made of. -/
import Derived.Test.YtifhldnmcdbpfaaV04
import Derived.Test.YtifhldnmcdbpfaaV03
set_option maxRecDepth 100000
set_option linter.unusedVariables false
set_option linter.unusedSimpArgs false
set_option linter.unnecessarySimpa false
namespace Go.Proofs.Ytifhldnmcdbpfaa
section
open Go.RowKit
theorem tK (bm:Nat) (wa:Option Addr) (len cap:Nat) (n k a:Int) (f1 f2:Value) (w:World) (h0:w.cell? ⟨bm,0,none⟩=some (.slice wa len cap)) (h1:w.cell? ⟨bm,5,none⟩=some (.int .i64 n)) (hn:0<=n) (hn2:n<1000000000000)
  (hlen:len<=1048576) (hf1:w.frozen? ⟨bm,5,none⟩=false) (ha:a<0∨(len:Int)<=a) :
  Calls Try.prog 145 #[.pointer (some ⟨bm,0,none⟩),.int .i64 k,.int .i64 a,f1,f2] w λe w'=>e=.returned (.tuple #[])/\w'=w.setCell ⟨bm,5,none⟩ (.int .i64 (n+1)):=by
 by_cases h:a<0
 ·clear ha
  go_enter Try.func145,Try.ntmps145
  go_wp2
  (refine bodyPost_ret (results_none rfl _ _ _) rfl ?_)
  exact⟨rfl,rfl⟩
 ·have ha2:(len:Int)<=a:=by omega
  clear ha
  go_enter Try.func145,Try.ntmps145
  go_wp2
  (refine bodyPost_ret (results_none rfl _ _ _) rfl ?_)
  exact⟨rfl,rfl⟩
theorem bZ.faults {w w':World} {bm:Nat} {bw:Option Nat} {m:fE} (h:bZ w bm bw m) (hb:Below w.heap.size w w') (hcnt:m.c.all+1<1000000000000) :
  ∃ wa cap,w'.heap[bm]?=some (.cells (jX wa m.ws.length cap m.c) 149 (0,0))/\bZ (w'.setCell ⟨bm,5,none⟩ (.int .i64 ((m.c.fault:Int)+1))) bm bw m.fault/\Chg (bY bm bw) w (w'.setCell ⟨bm,5,none⟩ (.int .i64 ((m.c.fault:Int)+1))):=by
 have hg:=h.gr hb
 have hap:=h.apart;have hlow:=hg.low
 obtain⟨wa,cap,hl,hbm,hw⟩:=hg.blk
 refine⟨wa,cap,hbm,⟨⟨wa,cap,hl,?_,λhp=>?_⟩,hap,(λq e=>by have:=hlow q e;simpa using this),h.len,by unfold fE.fault dV.all at *;simp only;omega,h.val⟩,(Chg.of_below hb).setCell (.inl (.inl rfl)) _⟩
 ·rw [aH hbm];simp [jX,fE.fault]
 ·obtain⟨q,rest,hq,ha,hr⟩:=hw hp
  exact⟨q,rest,hq,ha,by rw [aX (by rintro rfl;exact hap hq)];exact hr⟩
theorem MQ {m:fE} {a:Int} (h:fU m a=true):a<0∨(m.ws.length:Int)<=a:=by
 unfold fU at h;simpa using h
theorem JP (bm:Nat) (bw:Option Nat) (m:fE) (a:Int) (w:World) (h:bZ w bm bw m) (ha:fU m a=true) (hcnt:m.c.all+1<1000000000000) :
  Calls Try.prog 144 #[.pointer (some ⟨bm,0,none⟩),.int .i64 a] w λe w'=>e=.returned (.int .u64 0)/\bZ w' bm bw m.fault/\Chg (bY bm bw) w w':=by
 have hgr:=Gr.new w (.cells #[.int .u64 0] 40)
 obtain⟨wa,cap,hbm,hm,hc⟩:=h.faults hgr hcnt
 have hal:=wH h.cnt;have hlt:=h.lt
 have A:=tK bm wa m.ws.length cap m.c.fault 0 a (.func (.func 146) #[] #[]) (.func (.func 147) #[] #[.pointer (some ⟨w.heap.size,0,none⟩)]) _ (by rw [aA hbm];rfl) (by rw [aA hbm];rfl) (by omega) (by omega) h.len (aB hbm 5) (MQ ha)
 obtain⟨w2,hw2⟩:∃ w2,w2=(w.alloc (.cells #[.int .u64 0] 40)).setCell ⟨bm,5,none⟩ (.int .i64 ((m.c.fault:Int)+1)):=⟨_,rfl⟩
 have hfin:w2.cell? ⟨w.heap.size,0,none⟩=some (.int .u64 0):=by rw [hw2,eX _ (by simp;omega),eF];rfl
 rw [<-hw2] at A hm hc
 have A':=Lib.hid A;have Hm:=Lib.hid hm;have Hc:=Lib.hid hc
 clear A hw2 hm hc hgr hbm hal hcnt ha h
 go_enter Try.func144,Try.ntmps144
 go_wp2_with fail
 refine A'.out.mono ?_
 rintro e w1 ⟨rfl,rfl⟩
 go_wp2
 go_ret
 exact⟨rfl,Hm.out,Hc.out⟩
theorem ET (bm:Nat) (bw:Option Nat) (m:fE) (a v:Int) (w:World) (h:bZ w bm bw m) (ha:fU m a=true) (hcnt:m.c.all+1<1000000000000) :
  Calls Try.prog 151 #[.pointer (some ⟨bm,0,none⟩),.int .i64 a,.int .u64 v] w λe w'=>e=.returned (.tuple #[])/\bZ w' bm bw m.fault/\Chg (bY bm bw) w w':=by
 have hgr:=Gr.new w (.cells #[.int .u64 v] 40)
 obtain⟨wa,cap,hbm,hm,hc⟩:=h.faults hgr hcnt
 have hal:=wH h.cnt;have hlt:=h.lt
 have A:=tK bm wa m.ws.length cap m.c.fault 1 a (.func (.func 154) #[] #[]) (.func (.func 155) #[] #[.pointer (some ⟨w.heap.size,0,none⟩)]) _ (by rw [aA hbm];rfl) (by rw [aA hbm];rfl) (by omega) (by omega) h.len (aB hbm 5) (MQ ha)
 obtain⟨w2,hw2⟩:∃ w2,w2=(w.alloc (.cells #[.int .u64 v] 40)).setCell ⟨bm,5,none⟩ (.int .i64 ((m.c.fault:Int)+1)):=⟨_,rfl⟩
 rw [<-hw2] at A hm hc
 have A':=Lib.hid A;have Hm:=Lib.hid hm;have Hc:=Lib.hid hc
 clear A hw2 hm hc hgr hbm hal hcnt ha h
 go_enter Try.func151,Try.ntmps151
 go_wp2_with fail
 refine A'.out.mono ?_
 rintro e w1 ⟨rfl,rfl⟩
 go_wp2
 go_end0
 exact⟨rfl,Hm.out,Hc.out⟩
def rH (c:dV):Value:=.agg #[.int .i64 (c.read:Int),.int .i64 (c.write:Int),.int .i64 (c.swap:Int),.int .i64 (c.add:Int),.int .i64 (c.fault:Int)]
theorem AQ (bm:Nat) (bw:Option Nat) (m:fE) (w:World) (h:bZ w bm bw m):Calls Try.prog 63 #[.pointer (some ⟨bm,0,none⟩)] w λe w'=>e=.returned (rH m.c)/\Below w.heap.size w w':=by
 obtain⟨wa,cap,_,hb,_⟩:=(h.gr (Gr.new w (.cells #[.int .i64 0,.int .i64 0,.int .i64 0,.int .i64 0,.int .i64 0] 30))).blk
 have k1:=aA hb 1;have k2:=aA hb 2;have k3:=aA hb 3;have k4:=aA hb 4;have k5:=aA hb 5
 simp [jX] at k1 k2 k3 k4 k5
 clear h hb
 go_enter Try.func63,Try.ntmps63
 go_wp2
 exact bodyPost_ret (v:=rH m.c) (by simp [results,Try.results63 ,go_sem,rH]) rfl ⟨rfl,Gr.new _ _⟩
theorem kQ (ws:List Nat):(List.range ws.length).map (λj=>lG (ws.getD j 0))=ws.map lG:=by
 apply List.ext_getElem
 ·simp
 ·intro i h1 h2
  simp at h1 h2
  simp [List.getD_eq_getElem?_getD,h2]
def pR (ws:List Nat) (j _f:Nat):Value:=lG (ws.getD j 0)
theorem bZ.sl {w:World} {bm:Nat} {bw:Option Nat} {m:fE} {wa:Option Addr} (h:bZ w bm bw m) (hw:0<m.ws.length->∃ q rest,bw=some q/\wa=some ⟨q,0,none⟩/\w.heap[q]?=some (.cells (m.ws.map lG++rest).toArray 40 (0,0))) :
  bQ w wa m.ws.length 1 (pR m.ws):=by
 refine⟨by have:=h.len;unfold maxLen;omega,λj hj=>?_⟩
 obtain⟨q,rest,hq,rfl,hr⟩:=hw (by omega)
 refine⟨q,0,rfl,h.low q hq,λf hf=>?_⟩
 obtain rfl:f=0:=by omega
 rw [aA hr]
 simp [pR,lG,List.getD_eq_getElem?_getD,hj,List.getElem?_append]
theorem EU (bm:Nat) (bw:Option Nat) (m:fE) (w:World) (h:bZ w bm bw m):Calls Try.prog 62 #[.pointer (some ⟨bm,0,none⟩)] w λe w'=>∃ v,e=.returned v/\w'.ownsRow w.heap.size 40 1 v m.ws.length (m.ws.map lG)/\Below w.heap.size w w':=by
 obtain⟨wa,cap,hcap,hb,hw⟩:=h.blk
 have c0:w.cell? ⟨bm,0,none⟩=some (.slice wa m.ws.length cap):=by rw [aA hb];rfl
 have hc:=uQ wa m.ws.length cap (pR m.ws) w (h.sl hw) (λj=>rfl) (by have:=h.len;omega) hcap.2
 rw [show(List.range m.ws.length).map (λj=>pR m.ws j 0)=m.ws.map lG from kQ m.ws] at hc
 have Hc:=Lib.hid hc
 clear h hb hw hcap hc
 go_enter Try.func62,Try.ntmps62
 go_wp2_with fail
 refine Hc.out.mono ?_
 rintro e w1 ⟨v,rfl,ho,hb,_⟩
 have Ho:=Lib.hid ho;have Hb:=Lib.hid hb
 clear ho hb
 go_wp2
 go_ret
 exact⟨v,rfl,Ho.out,Hb.out⟩
theorem zB (bm:Nat) (bw:Option Nat) (m:fE) (a:Int) (w:World) (h:bZ w bm bw m) (hcnt:m.c.all+1<1000000000000) :
  Calls Try.prog 144 #[.pointer (some ⟨bm,0,none⟩),.int .i64 a] w λe w'=>e=.returned (.int .u64 ((cZ m a).2:Int))/\bZ w' bm bw (cZ m a).1/\Chg (bY bm bw) w w':=by
 cases ho:fU m a with
 | true=>unfold cZ;simp only [ho,if_true];exact JP bm bw m a w h ho hcnt
 | false=>
  obtain⟨j,rfl,ht,hj⟩:=uK ho
  unfold cZ;rw [if_neg (by rw [ho];simp)]
  simp only [ht]
  exact KR bm bw m j _ w h hj rfl hcnt
theorem vB (bm:Nat) (bw:Option Nat) (m:fE) (a:Int) (v:Nat) (w:World) (h:bZ w bm bw m) (hv:v<18446744073709551616) (hcnt:m.c.all+1<1000000000000) :
  Calls Try.prog 151 #[.pointer (some ⟨bm,0,none⟩),.int .i64 a,.int .u64 (v:Int)] w λe w'=>e=.returned (.tuple #[])/\bZ w' bm bw (bS m a v)/\Chg (bY bm bw) w w':=by
 cases ho:fU m a with
 | true=>unfold bS;simp only [ho,if_true];exact ET bm bw m a v w h ho hcnt
 | false=>
  obtain⟨j,rfl,ht,hj⟩:=uK ho
  unfold bS;rw [if_neg (by rw [ho];simp)]
  simp only [ht]
  exact IX bm bw m j v w h hj hv hcnt
def c0:dV:=⟨0,0,0,0,0⟩
theorem KM (a:Option Addr) (c:Nat) (ws:List Nat) (w:World) (hs:bQ w a ws.length 1 (pR ws)) (hn:ws.length<=65536) (hc:a=none->c=0) (hv:∀ x∈ws,x<18446744073709551616) :
  Calls Try.prog 57 #[.slice a ws.length c] w λe w'=>∃ bm bw,e=.returned (.tuple #[.pointer (some ⟨bm,0,none⟩),.int .i64 0])/\bZ w' bm bw ⟨ws,c0⟩/\Below w.heap.size w w'/\w.heap.size<=bm/\(∀ q,bw=some q->w.heap.size<=q):=by
 have h1:(ws.length:Int)<=65536:=by omega
 have hc:=uQ a ws.length c (pR ws) w hs (λj=>rfl) (by omega) hc
 rw [show(List.range ws.length).map (λj=>pR ws j 0)=ws.map lG from kQ ws] at hc
 have Hc:=Lib.hid hc
 have Hn:=Lib.hid hn;have Hv:=Lib.hid hv
 clear hs hc hn hv
 go_enter Try.func57,Try.ntmps57
 go_wp2_with fail
 refine Hc.out.mono ?_
 rintro e w1 ⟨v,rfl,ho,hb,hnil⟩
 obtain⟨a',c',rfl⟩:∃ a' c',v=.slice a' ws.length c':=by
  rcases ho.2 with⟨h,h0⟩|⟨q,cap,cur,h,_⟩
  ·exact⟨none,0,by rw [h,h0]⟩
  ·exact⟨_,_,h⟩
 have Hsz:=Lib.hid hb.size
 obtain⟨w2,hw2⟩:∃ w2,w2=w1.alloc (.cells #[.slice a' ws.length c',.int .i64 0,.int .i64 0,.int .i64 0,.int .i64 0,.int .i64 0,.nilFunc] 149):=⟨_,rfl⟩
 have hmem:∃ bw,bZ w2 w1.heap.size bw ⟨ws,c0⟩/\(∀ q,bw=some q->w.heap.size<=q):=by
  obtain⟨_,h2⟩:=ho
  have hsz:=hb.size
  rcases h2 with⟨h9,h0⟩|⟨q,cap,cur,h9,hq,hh,hcap,_,hcs,htake⟩<;>simp only [Value.slice.injEq] at h9
  ·obtain⟨rfl,_,rfl⟩:=h9
   obtain rfl:ws=[]:=List.eq_nil_of_length_eq_zero h0
   refine⟨none,⟨⟨none,0,⟨Nat.le_refl _,λ_=>rfl⟩,?_,λh=>absurd h (by simp)⟩,by simp,(λ_ e=>by cases e),by simp,(by show dV.all c0<_;decide),(λ_ h=>by cases h)⟩,(λ_ e=>by cases e)⟩
   rw [hw2];exact heap_alloc_new _ _
  ·obtain⟨rfl,_,rfl⟩:=h9
   refine⟨some q,⟨⟨some ⟨q,0,none⟩,c',⟨hcap,λh=>by cases h⟩,?_,λ_=>⟨q,cur.toList.drop ws.length,rfl,rfl,?_⟩⟩,?_,?_,(by have:=Hn.out;simp only;omega),(by show dV.all c0<_;decide),Hv.out⟩,(λq2 e=>by cases e;exact hq)⟩
   ·rw [hw2];exact heap_alloc_new _ _
   ·rw [hw2,Below.heap_alloc _ _ _ (aC hh),hh]
    rw [Nat.mul_one] at htake
    rw [<-htake,List.take_append_drop]
   ·intro e;cases e;have:=aC hh;omega
   ·intro q2 e;cases e;rw [hw2];have:=aC hh;simp;omega
 have hb2:Below w.heap.size w w2:=by rw [hw2];exact Gr.alloc hb _
 obtain⟨bw,hm,hq⟩:=hmem
 have Hm:=Lib.hid hm;have Hq:=Lib.hid hq;have Hb2:=Lib.hid hb2;have Hw2:=Lib.hid hw2
 clear ho hb hnil hm hq hb2 hw2
 go_wp2
 rw [<-Hw2.out]
 go_ret2
 exact⟨_,bw,rfl,Hm.out,Hb2.out,Hsz.out,Hq.out⟩
end
section
open Go.RowKit
structure DX where
 err:Int
 val:Nat
 list:List Nat
deriving DecidableEq
structure EvD where
 call:Nat
 inv:Nat
 resp:Nat
 steps:Nat
 ans:DX
 key:List Int
deriving DecidableEq
structure iU where
 evs:List EvD
 words:List Nat
 c:dV
 ticks:Nat
 idle:Nat
deriving DecidableEq
structure WD where
 mem:fE
 now:Nat
 inv:List Nat
 marks:List (List Int)
 traces:Int->List Int
inductive Mc (σ:Type) where
 | refuse (e:Int)
 | run (s:σ)
structure Sys where
 σ:Type
 ω:Type
 start:ω->WD->Nat->aF->Mc σ
 step:ω->WD->Nat->σ->ω×WD×σ×Bool
 answer:σ->DX×List Int
 late:ω->WD->Nat->σ->Option (List Int)
def PQ:DX:=⟨0,0,[]⟩
def jZ:EvD:=⟨0,0,0,0,PQ,[]⟩
structure aQ (S:Sys) where
 wd:WD
 obj:S.ω
 fin:List Bool
 hands:List (Option S.σ×Nat)
 evs:List EvD
 idle:Nat
def jI (wd:WD):List Int:=[2*(wd.now:Int)]
def keyOf (wd:WD) (p:Nat) (k:List Int):List Int:=if k=[] then (if wd.marks.getD p []=[] then jI wd else wd.marks.getD p []) else k
def bK (wd:WD) (p:Nat) (a:DX) (k:List Int) (e:EvD):EvD:={ e with steps:=e.steps+1,ans:=a,resp:=wd.now,key:=keyOf wd p k }
def aZ (e:EvD):EvD:={ e with steps:=e.steps+1 }
def cB (l:List EvD) (i:Nat) (f:EvD->EvD):List EvD:=l.set i (f (l.getD i jZ))
variable (S:Sys)
def eZ (st:aQ S) (p i:Nat) (s:S.σ):aQ S×Bool:=
 let r:=S.step st.obj st.wd p s
 if r.2.2.2 then ({ st with obj:=r.1,wd:=r.2.1,hands:=st.hands.set p (none,i),evs:=cB st.evs i (bK r.2.1 p (S.answer r.2.2.1).1 (S.answer r.2.2.1).2) },true)
 else ({ st with obj:=r.1,wd:=r.2.1,hands:=st.hands.set p (some r.2.2.1,i),evs:=cB st.evs i aZ },false)
def WD.tick (wd:WD):WD:={ wd with now:=wd.now+1 }
def WD.begin (wd:WD) (p:Nat):WD:={ wd with inv:=wd.inv.set p wd.now,marks:=wd.marks.set p [] }
def dC (i:Nat) (wd:WD):EvD:=⟨i,wd.now,0,0,PQ,[]⟩
def dH (o:S.ω) (wd:WD) (p:Nat) (c:aF):Mc S.σ:=if c.obj=0 then S.start o wd p c else .refuse 12
def dJ (calls:List aF) (st:aQ S) (p i:Nat):aQ S×Bool:=
 match (st.hands.getD p (none,0)).1 with
 | some s=>eZ S { st with wd:=st.wd.tick } p (st.hands.getD p (none,0)).2 s
 | none=>
  let wd:=st.wd.tick.begin p
  match dH S st.obj wd p (calls.getD i d0) with
  | .refuse e=>({ st with wd:=wd,hands:=st.hands.set p (none,st.evs.length),evs:=st.evs++[bK wd p ⟨e,0,[]⟩ [] (dC i wd)] },true)
  | .run s=>eZ S { st with wd:=wd,hands:=st.hands.set p (some s,st.evs.length),evs:=st.evs++[dC i wd] } p st.evs.length s
def gV (calls:List aF) (st:aQ S) (p:Int):aQ S:=
 match iI calls st.fin p with
 | none=>{ st with idle:=st.idle+1 }
 | some i=>
  let r:=dJ S calls st p.toNat i
  if r.2 then { r.1 with fin:=r.1.fin.set i true } else r.1
def eO (calls:List aF) (st:aQ S) (picks:List Int):aQ S:=picks.foldl (gV S calls) st
def gF (st:aQ S) (evs:List EvD) (p:Nat):List EvD:=
 match st.hands.getD p (none,0) with
 | (none,_)=>evs
 | (some s,i)=>cB evs i λe=>{ e with key:=(S.late st.obj st.wd p s).getD (st.wd.marks.getD p []) }
def pU (st:aQ S):List EvD:=(List.range 16).foldl (gF S st) st.evs
def oM (st:aQ S):iU:=⟨pU S st,st.wd.mem.ws,st.wd.mem.c,st.wd.now,st.idle⟩
def dK (ws:List Nat):WD:=⟨⟨ws,c0⟩,0,List.replicate 16 0,List.replicate 16 [],λ_=>[]⟩
def bT (o:S.ω) (ws:List Nat) (calls:List aF):aQ S:=⟨dK ws,o,List.replicate calls.length false,List.replicate 16 (none,0),[],0⟩
def iM (o:S.ω) (ws:List Nat) (calls:List aF) (picks:List Int):iU:=oM S (eO S calls (bT S o ws calls) picks)
end
end Go.Proofs.Ytifhldnmcdbpfaa
