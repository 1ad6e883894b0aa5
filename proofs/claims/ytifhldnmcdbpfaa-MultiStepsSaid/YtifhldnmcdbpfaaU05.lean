/- Layer 2: contracts of mem's methods: swap, addresses that are none, memories that are none, and what a memory is made of. -/
import Derived.Test.YtifhldnmcdbpfaaU04
import Derived.Test.YtifhldnmcdbpfaaU03
import Derived.Laws.EntriesVeiled
import Derived.Deep.RegionHeld3
set_option maxRecDepth 100000
set_option linter.unusedVariables false
set_option linter.unusedSimpArgs false
set_option linter.unnecessarySimpa false
namespace Go.Proofs.Ytifhldnmcdbpfaa
section
open Go.RowKit
theorem uR (bm:Nat) (wa:Option Addr) (len cap:Nat) (n k a:Int) (f1 f2:Value) (w:World) (h0:w.cell? ⟨bm,0,none⟩=some (.slice wa len cap)) (h1:w.cell? ⟨bm,5,none⟩=some (.int .i64 n)) (hn:0<=n) (hn2:n<1000000000000)
  (hlen:len<=1048576) (hf1:w.frozen? ⟨bm,5,none⟩=false) (ha:a<0∨(len:Int)<=a) :
  Calls Try.prog 145 #[.pointer (some ⟨bm,0,none⟩),.int .i64 k,.int .i64 a,f1,f2] w λe w'=>e=.returned (.tuple #[])/\w'=w.setCell ⟨bm,5,none⟩ (.int .i64 (n+1)):=by
 by_cases h:a<0
 ·clear ha
  go_enter Try.func145,Try.ntmps145
  go_wp2
  (refine bodyPost_ret (results_none rfl _ _ _) rfl ?_)
  exact⟨rfl,rfl⟩
 ·have ha2:(len:Int)<=a:=by omega
  clear ha
  go_enter Try.func145,Try.ntmps145
  go_wp2
  (refine bodyPost_ret (results_none rfl _ _ _) rfl ?_)
  exact⟨rfl,rfl⟩
theorem dC.faults {w w':World} {bm:Nat} {bw:Option Nat} {m:eX} (h:dC w bm bw m) (hb:Below w.heap.size w w') (hcnt:m.c.all+1<1000000000000) :
  ∃ wa cap,w'.heap[bm]?=some (.cells (kZ wa m.ws.length cap m.c) 149 (0,0))/\dC (w'.setCell ⟨bm,5,none⟩ (.int .i64 ((m.c.fault:Int)+1))) bm bw m.fault/\Chg (bO bm bw) w (w'.setCell ⟨bm,5,none⟩ (.int .i64 ((m.c.fault:Int)+1))):=by
 have hg:=h.gr hb
 have hap:=h.apart;have hlow:=hg.low
 obtain⟨wa,cap,hl,hbm,hw⟩:=hg.blk
 refine⟨wa,cap,hbm,⟨⟨wa,cap,hl,?_,λhp=>?_⟩,hap,(λq e=>by have:=hlow q e;simpa using this),h.len,by unfold eX.fault dG.all at *;simp only;omega,h.val⟩,(Chg.of_below hb).setCell (.inl (.inl rfl)) _⟩
 ·rw [aG hbm];simp [kZ,eX.fault]
 ·obtain⟨q,rest,hq,ha,hr⟩:=hw hp
  exact⟨q,rest,hq,ha,by rw [aL (by rintro rfl;exact hap hq)];exact hr⟩
theorem QC {m:eX} {a:Int} (h:eT m a=true):a<0∨(m.ws.length:Int)<=a:=by
 unfold eT at h;simpa using h
theorem MM (bm:Nat) (bw:Option Nat) (m:eX) (a:Int) (w:World) (h:dC w bm bw m) (ha:eT m a=true) (hcnt:m.c.all+1<1000000000000) :
  Calls Try.prog 144 #[.pointer (some ⟨bm,0,none⟩),.int .i64 a] w λe w'=>e=.returned (.int .u64 0)/\dC w' bm bw m.fault/\Chg (bO bm bw) w w':=by
 have hgr:=Gr.new w (.cells #[.int .u64 0] 40)
 obtain⟨wa,cap,hbm,hm,hc⟩:=h.faults hgr hcnt
 have hal:=xA h.cnt;have hlt:=h.lt
 have A:=uR bm wa m.ws.length cap m.c.fault 0 a (.func (.func 146) #[] #[]) (.func (.func 147) #[] #[.pointer (some ⟨w.heap.size,0,none⟩)]) _ (by rw [aA hbm];rfl) (by rw [aA hbm];rfl) (by omega) (by omega) h.len (aC hbm 5) (QC ha)
 obtain⟨w2,hw2⟩:∃ w2,w2=(w.alloc (.cells #[.int .u64 0] 40)).setCell ⟨bm,5,none⟩ (.int .i64 ((m.c.fault:Int)+1)):=⟨_,rfl⟩
 have hfin:w2.cell? ⟨w.heap.size,0,none⟩=some (.int .u64 0):=by rw [hw2,eZ _ (by simp;omega),gY];rfl
 rw [<-hw2] at A hm hc
 have A':=Lib.hid A;have Hm:=Lib.hid hm;have Hc:=Lib.hid hc
 clear A hw2 hm hc hgr hbm hal hcnt ha h
 go_enter Try.func144,Try.ntmps144
 go_wp2_with fail
 refine A'.out.mono ?_
 rintro e w1 ⟨rfl,rfl⟩
 go_wp2
 go_ret
 exact⟨rfl,Hm.out,Hc.out⟩
theorem EW (bm:Nat) (bw:Option Nat) (m:eX) (a v:Int) (w:World) (h:dC w bm bw m) (ha:eT m a=true) (hcnt:m.c.all+1<1000000000000) :
  Calls Try.prog 151 #[.pointer (some ⟨bm,0,none⟩),.int .i64 a,.int .u64 v] w λe w'=>e=.returned (.tuple #[])/\dC w' bm bw m.fault/\Chg (bO bm bw) w w':=by
 have hgr:=Gr.new w (.cells #[.int .u64 v] 40)
 obtain⟨wa,cap,hbm,hm,hc⟩:=h.faults hgr hcnt
 have hal:=xA h.cnt;have hlt:=h.lt
 have A:=uR bm wa m.ws.length cap m.c.fault 1 a (.func (.func 154) #[] #[]) (.func (.func 155) #[] #[.pointer (some ⟨w.heap.size,0,none⟩)]) _ (by rw [aA hbm];rfl) (by rw [aA hbm];rfl) (by omega) (by omega) h.len (aC hbm 5) (QC ha)
 obtain⟨w2,hw2⟩:∃ w2,w2=(w.alloc (.cells #[.int .u64 v] 40)).setCell ⟨bm,5,none⟩ (.int .i64 ((m.c.fault:Int)+1)):=⟨_,rfl⟩
 rw [<-hw2] at A hm hc
 have A':=Lib.hid A;have Hm:=Lib.hid hm;have Hc:=Lib.hid hc
 clear A hw2 hm hc hgr hbm hal hcnt ha h
 go_enter Try.func151,Try.ntmps151
 go_wp2_with fail
 refine A'.out.mono ?_
 rintro e w1 ⟨rfl,rfl⟩
 go_wp2
 go_end0
 exact⟨rfl,Hm.out,Hc.out⟩
def sJ (c:dG):Value:=.agg #[.int .i64 (c.read:Int),.int .i64 (c.write:Int),.int .i64 (c.swap:Int),.int .i64 (c.add:Int),.int .i64 (c.fault:Int)]
theorem DD (bm:Nat) (bw:Option Nat) (m:eX) (w:World) (h:dC w bm bw m):Calls Try.prog 63 #[.pointer (some ⟨bm,0,none⟩)] w λe w'=>e=.returned (sJ m.c)/\Below w.heap.size w w':=by
 obtain⟨wa,cap,_,hb,_⟩:=(h.gr (Gr.new w (.cells #[.int .i64 0,.int .i64 0,.int .i64 0,.int .i64 0,.int .i64 0] 30))).blk
 have k1:=aA hb 1;have k2:=aA hb 2;have k3:=aA hb 3;have k4:=aA hb 4;have k5:=aA hb 5
 simp [kZ] at k1 k2 k3 k4 k5
 clear h hb
 go_enter Try.func63,Try.ntmps63
 go_wp2
 exact bodyPost_ret (v:=sJ m.c) (by simp [results,Try.results63 ,go_sem,sJ]) rfl ⟨rfl,Gr.new _ _⟩
theorem lZ (ws:List Nat):(List.range ws.length).map (λj=>cZ (ws.getD j 0))=ws.map cZ:=by
 apply List.ext_getElem
 ·simp
 ·intro i h1 h2
  simp at h1 h2
  simp [List.getD_eq_getElem?_getD,h2]
def dY (ws:List Nat) (j _f:Nat):Value:=cZ (ws.getD j 0)
theorem dC.sl {w:World} {bm:Nat} {bw:Option Nat} {m:eX} {wa:Option Addr} (h:dC w bm bw m) (hw:0<m.ws.length->∃ q rest,bw=some q/\wa=some ⟨q,0,none⟩/\w.heap[q]?=some (.cells (m.ws.map cZ++rest).toArray 40 (0,0))) :
  aW w wa m.ws.length 1 (dY m.ws):=by
 refine⟨by have:=h.len;unfold maxLen;omega,λj hj=>?_⟩
 obtain⟨q,rest,hq,rfl,hr⟩:=hw (by omega)
 refine⟨q,0,rfl,h.low q hq,λf hf=>?_⟩
 obtain rfl:f=0:=by omega
 rw [aA hr]
 simp [dY,cZ,List.getD_eq_getElem?_getD,hj,List.getElem?_append]
theorem FO (bm:Nat) (bw:Option Nat) (m:eX) (w:World) (h:dC w bm bw m):Calls Try.prog 62 #[.pointer (some ⟨bm,0,none⟩)] w λe w'=>∃ v,e=.returned v/\w'.ownsRow w.heap.size 40 1 v m.ws.length (m.ws.map cZ)/\Below w.heap.size w w':=by
 obtain⟨wa,cap,hcap,hb,hw⟩:=h.blk
 have c0:w.cell? ⟨bm,0,none⟩=some (.slice wa m.ws.length cap):=by rw [aA hb];rfl
 have hc:=wC wa m.ws.length cap (dY m.ws) w (h.sl hw) (λj=>rfl) (by have:=h.len;omega) hcap.2
 rw [show(List.range m.ws.length).map (λj=>dY m.ws j 0)=m.ws.map cZ from lZ m.ws] at hc
 have Hc:=Lib.hid hc
 clear h hb hw hcap hc
 go_enter Try.func62,Try.ntmps62
 go_wp2_with fail
 refine Hc.out.mono ?_
 rintro e w1 ⟨v,rfl,ho,hb,_⟩
 have Ho:=Lib.hid ho;have Hb:=Lib.hid hb
 clear ho hb
 go_wp2
 go_ret
 exact⟨v,rfl,Ho.out,Hb.out⟩
theorem yQ (bm:Nat) (bw:Option Nat) (m:eX) (a:Int) (w:World) (h:dC w bm bw m) (hcnt:m.c.all+1<1000000000000) :
  Calls Try.prog 144 #[.pointer (some ⟨bm,0,none⟩),.int .i64 a] w λe w'=>e=.returned (.int .u64 ((dI m a).2:Int))/\dC w' bm bw (dI m a).1/\Chg (bO bm bw) w w':=by
 cases ho:eT m a with
 | true=>unfold dI;simp only [ho,if_true];exact MM bm bw m a w h ho hcnt
 | false=>
  obtain⟨j,rfl,ht,hj⟩:=vP ho
  unfold dI;rw [if_neg (by rw [ho];simp)]
  simp only [ht]
  exact NT bm bw m j _ w h hj rfl hcnt
theorem vX (bm:Nat) (bw:Option Nat) (m:eX) (a:Int) (v:Nat) (w:World) (h:dC w bm bw m) (hv:v<18446744073709551616) (hcnt:m.c.all+1<1000000000000) :
  Calls Try.prog 151 #[.pointer (some ⟨bm,0,none⟩),.int .i64 a,.int .u64 (v:Int)] w λe w'=>e=.returned (.tuple #[])/\dC w' bm bw (iP m a v)/\Chg (bO bm bw) w w':=by
 cases ho:eT m a with
 | true=>unfold iP;simp only [ho,if_true];exact EW bm bw m a v w h ho hcnt
 | false=>
  obtain⟨j,rfl,ht,hj⟩:=vP ho
  unfold iP;rw [if_neg (by rw [ho];simp)]
  simp only [ht]
  exact LV bm bw m j v w h hj hv hcnt
def c0:dG:=⟨0,0,0,0,0⟩
theorem PR (a:Option Addr) (c:Nat) (ws:List Nat) (w:World) (hs:aW w a ws.length 1 (dY ws)) (hn:ws.length<=65536) (hc:a=none->c=0) (hv:∀ x∈ws,x<18446744073709551616) :
  Calls Try.prog 57 #[.slice a ws.length c] w λe w'=>∃ bm bw,e=.returned (.tuple #[.pointer (some ⟨bm,0,none⟩),.int .i64 0])/\dC w' bm bw ⟨ws,c0⟩/\Below w.heap.size w w'/\w.heap.size<=bm/\(∀ q,bw=some q->w.heap.size<=q):=by
 have h1:(ws.length:Int)<=65536:=by omega
 have hc:=wC a ws.length c (dY ws) w hs (λj=>rfl) (by omega) hc
 rw [show(List.range ws.length).map (λj=>dY ws j 0)=ws.map cZ from lZ ws] at hc
 have Hc:=Lib.hid hc
 have Hn:=Lib.hid hn;have Hv:=Lib.hid hv
 clear hs hc hn hv
 go_enter Try.func57,Try.ntmps57
 go_wp2_with fail
 refine Hc.out.mono ?_
 rintro e w1 ⟨v,rfl,ho,hb,hnil⟩
 obtain⟨a',c',rfl⟩:∃ a' c',v=.slice a' ws.length c':=by
  rcases ho.2 with⟨h,h0⟩|⟨q,cap,cur,h,_⟩
  ·exact⟨none,0,by rw [h,h0]⟩
  ·exact⟨_,_,h⟩
 have Hsz:=Lib.hid hb.size
 obtain⟨w2,hw2⟩:∃ w2,w2=w1.alloc (.cells #[.slice a' ws.length c',.int .i64 0,.int .i64 0,.int .i64 0,.int .i64 0,.int .i64 0,.nilFunc] 149):=⟨_,rfl⟩
 have hmem:∃ bw,dC w2 w1.heap.size bw ⟨ws,c0⟩/\(∀ q,bw=some q->w.heap.size<=q):=by
  obtain⟨_,h2⟩:=ho
  have hsz:=hb.size
  rcases h2 with⟨h9,h0⟩|⟨q,cap,cur,h9,hq,hh,hcap,_,hcs,htake⟩<;>simp only [Value.slice.injEq] at h9
  ·obtain⟨rfl,_,rfl⟩:=h9
   obtain rfl:ws=[]:=List.eq_nil_of_length_eq_zero h0
   refine⟨none,⟨⟨none,0,⟨Nat.le_refl _,λ_=>rfl⟩,?_,λh=>absurd h (by simp)⟩,by simp,(λ_ e=>by cases e),by simp,(by show dG.all c0<_;decide),(λ_ h=>by cases h)⟩,(λ_ e=>by cases e)⟩
   rw [hw2];exact heap_alloc_new _ _
  ·obtain⟨rfl,_,rfl⟩:=h9
   refine⟨some q,⟨⟨some ⟨q,0,none⟩,c',⟨hcap,λh=>by cases h⟩,?_,λ_=>⟨q,cur.toList.drop ws.length,rfl,rfl,?_⟩⟩,?_,?_,(by have:=Hn.out;simp only;omega),(by show dG.all c0<_;decide),Hv.out⟩,(λq2 e=>by cases e;exact hq)⟩
   ·rw [hw2];exact heap_alloc_new _ _
   ·rw [hw2,Below.heap_alloc _ _ _ (aH hh),hh]
    rw [Nat.mul_one] at htake
    rw [<-htake,List.take_append_drop]
   ·intro e;cases e;have:=aH hh;omega
   ·intro q2 e;cases e;rw [hw2];have:=aH hh;simp;omega
 have hb2:Below w.heap.size w w2:=by rw [hw2];exact Gr.alloc hb _
 obtain⟨bw,hm,hq⟩:=hmem
 have Hm:=Lib.hid hm;have Hq:=Lib.hid hq;have Hb2:=Lib.hid hb2;have Hw2:=Lib.hid hw2
 clear ho hb hnil hm hq hb2 hw2
 go_wp2
 rw [<-Hw2.out]
 go_ret2
 exact⟨_,bw,rfl,Hm.out,Hb2.out,Hsz.out,Hq.out⟩
end
section
open Go.RowKit
structure lU where
 err:Int
 val:Nat
 list:List Nat
deriving DecidableEq
structure EvD where
 call:Nat
 inv:Nat
 resp:Nat
 steps:Nat
 ans:lU
 key:List Int
deriving DecidableEq
structure gT where
 evs:List EvD
 words:List Nat
 c:dG
 ticks:Nat
 idle:Nat
deriving DecidableEq
structure WD where
 mem:eX
 now:Nat
 inv:List Nat
 marks:List (List Int)
 traces:Int->List Int
inductive Mc (σ:Type) where
 | refuse (e:Int)
 | run (s:σ)
structure Sys where
 σ:Type
 ω:Type
 start:ω->WD->Nat->aF->Mc σ
 step:ω->WD->Nat->σ->ω×WD×σ×Bool
 answer:σ->lU×List Int
 late:ω->WD->Nat->σ->Option (List Int)
def TY:lU:=⟨0,0,[]⟩
def lG:EvD:=⟨0,0,0,0,TY,[]⟩
structure aP (S:Sys) where
 wd:WD
 obj:S.ω
 fin:List Bool
 hands:List (Option S.σ×Nat)
 evs:List EvD
 idle:Nat
def iW (wd:WD):List Int:=[2*(wd.now:Int)]
def keyOf (wd:WD) (p:Nat) (k:List Int):List Int:=if k=[] then (if wd.marks.getD p []=[] then iW wd else wd.marks.getD p []) else k
def bL (wd:WD) (p:Nat) (a:lU) (k:List Int) (e:EvD):EvD:={ e with steps:=e.steps+1,ans:=a,resp:=wd.now,key:=keyOf wd p k }
def aV (e:EvD):EvD:={ e with steps:=e.steps+1 }
def bZ (l:List EvD) (i:Nat) (f:EvD->EvD):List EvD:=l.set i (f (l.getD i lG))
variable (S:Sys)
def eU (st:aP S) (p i:Nat) (s:S.σ):aP S×Bool:=
 let r:=S.step st.obj st.wd p s
 if r.2.2.2 then ({ st with obj:=r.1,wd:=r.2.1,hands:=st.hands.set p (none,i),evs:=bZ st.evs i (bL r.2.1 p (S.answer r.2.2.1).1 (S.answer r.2.2.1).2) },true)
 else ({ st with obj:=r.1,wd:=r.2.1,hands:=st.hands.set p (some r.2.2.1,i),evs:=bZ st.evs i aV },false)
def WD.tick (wd:WD):WD:={ wd with now:=wd.now+1 }
def WD.begin (wd:WD) (p:Nat):WD:={ wd with inv:=wd.inv.set p wd.now,marks:=wd.marks.set p [] }
def eB (i:Nat) (wd:WD):EvD:=⟨i,wd.now,0,0,TY,[]⟩
def dB (o:S.ω) (wd:WD) (p:Nat) (c:aF):Mc S.σ:=if c.obj=0 then S.start o wd p c else .refuse 12
def dJ (calls:List aF) (st:aP S) (p i:Nat):aP S×Bool:=
 match (st.hands.getD p (none,0)).1 with
 | some s=>eU S { st with wd:=st.wd.tick } p (st.hands.getD p (none,0)).2 s
 | none=>
  let wd:=st.wd.tick.begin p
  match dB S st.obj wd p (calls.getD i d0) with
  | .refuse e=>({ st with wd:=wd,hands:=st.hands.set p (none,st.evs.length),evs:=st.evs++[bL wd p ⟨e,0,[]⟩ [] (eB i wd)] },true)
  | .run s=>eU S { st with wd:=wd,hands:=st.hands.set p (some s,st.evs.length),evs:=st.evs++[eB i wd] } p st.evs.length s
def iL (calls:List aF) (st:aP S) (p:Int):aP S:=
 match gU calls st.fin p with
 | none=>{ st with idle:=st.idle+1 }
 | some i=>
  let r:=dJ S calls st p.toNat i
  if r.2 then { r.1 with fin:=r.1.fin.set i true } else r.1
def dX (calls:List aF) (st:aP S) (picks:List Int):aP S:=picks.foldl (iL S calls) st
def dV (st:aP S) (evs:List EvD) (p:Nat):List EvD:=
 match st.hands.getD p (none,0) with
 | (none,_)=>evs
 | (some s,i)=>bZ evs i λe=>{ e with key:=(S.late st.obj st.wd p s).getD (st.wd.marks.getD p []) }
def bR (st:aP S):List EvD:=(List.range 16).foldl (dV S st) st.evs
def kJ (st:aP S):gT:=⟨bR S st,st.wd.mem.ws,st.wd.mem.c,st.wd.now,st.idle⟩
def bQ (ws:List Nat):WD:=⟨⟨ws,c0⟩,0,List.replicate 16 0,List.replicate 16 [],λ_=>[]⟩
def bM (o:S.ω) (ws:List Nat) (calls:List aF):aP S:=⟨bQ ws,o,List.replicate calls.length false,List.replicate 16 (none,0),[],0⟩
def iM (o:S.ω) (ws:List Nat) (calls:List aF) (picks:List Int):gT:=kJ S (dX S calls (bM S o ws calls) picks)
end
section
open Go.RowKit
def Lst (w:World) (Mut:Nat->Prop) (v:Value) (l:List Int):Prop:=
 ∃ a c,v=.slice a l.length c/\(l=[]->v=.slice none 0 0)/\aW w a l.length 1 (iY l)/\(∀ b off,a=some ⟨b,off,none⟩->¬ Mut b)
def jQ (w:World) (Mut:Nat->Prop) (v:Value) (l:List Nat):Prop:=
 ∃ a c,v=.slice a l.length c/\aW w a l.length 1 (dY l)/\(0<l.length->∀ b off,a=some ⟨b,off,none⟩->¬ Mut b)
def bE (Mut:Nat->Prop) (w:World) (Mut':Nat->Prop):Prop:=∀ b,Mut' b->Mut b∨w.heap.size<=b
theorem bE.refl (Mut:Nat->Prop) (w:World):bE Mut w Mut:=λ_ h=>.inl h
theorem bE.trans {Mut Mut' Mut'':Nat->Prop} {w w':World} (h:bE Mut w Mut') (h':bE Mut' w' Mut'') (hs:w.heap.size<=w'.heap.size):bE Mut w Mut'':=
 λb x=>by rcases h' b x with y|y;exact h b y;exact .inr (Nat.le_trans hs y)
theorem aW.lt {w:World} {a:Option Addr} {n k:Nat} {g:Nat->Nat->Value} (h:aW w a n k g) (hn:0<n):∃ b off,a=some ⟨b,off,none⟩/\b<w.heap.size:=by
 obtain⟨b,off,h1,h2,_⟩:=h.2 0 hn
 exact⟨b,off,h1,h2⟩
theorem Lst.nil (w:World) (Mut:Nat->Prop):Lst w Mut (.slice none 0 0) []:=⟨none,0,rfl,λ_=>rfl,aW.nil _ _ _ _,λ_ _ h=>by cases h⟩
theorem Lst.keep {w w':World} {S Mut Mut':Nat->Prop} {v:Value} {l:List Int} (h:Lst w Mut v l) (hc:Chg S w w') (hS:∀ b,S b->Mut b) (hm:bE Mut w Mut'):Lst w' Mut' v l:=by
 obtain⟨a,c,h1,h2,h3,h4⟩:=h
 rcases Nat.eq_zero_or_pos l.length with h0|h0
 ·have:=h2 (List.eq_nil_of_length_eq_zero h0)
  obtain rfl:=List.eq_nil_of_length_eq_zero h0
  rw [this];exact Lst.nil _ _
 ·obtain⟨b0,zR,e0,hb0⟩:=h3.lt h0
  refine⟨a,c,h1,h2,h3.chg hc (λb off e hs=>h4 b off e (hS b hs)),λb off e hs=>?_⟩
  rw [e0] at e;cases e
  rcases hm b0 hs with h|h
  ·exact h4 b0 zR e0 h
  ·omega
theorem jQ.nil (w:World) (Mut:Nat->Prop):jQ w Mut (.slice none 0 0) []:=⟨none,0,rfl,aW.nil _ _ _ _,λ_ _ _ h=>by cases h⟩
theorem jQ.keep {w w':World} {S Mut Mut':Nat->Prop} {v:Value} {l:List Nat} (h:jQ w Mut v l) (hc:Chg S w w') (hS:∀ b,S b->Mut b) (hm:bE Mut w Mut'):jQ w' Mut' v l:=by
 obtain⟨a,c,h1,h3,h4⟩:=h
 rcases Nat.eq_zero_or_pos l.length with h0|h0
 ·exact⟨a,c,h1,by rw [h0];exact aW.nil _ _ _ _,λh=>by omega⟩
 ·obtain⟨b0,zR,e0,hb0⟩:=h3.lt h0
  refine⟨a,c,h1,h3.chg hc (λb off e hs=>h4 h0 b off e (hS b hs)),λ_ b off e hs=>?_⟩
  rw [e0] at e;cases e
  rcases hm b0 hs with h|h
  ·exact h4 h0 b0 zR e0 h
  ·omega
theorem Lst.of_row {w w':World} {Mut:Nat->Prop} {v:Value} {l:List Int} {B:Nat} (h:w'.ownsRow B 3 1 v l.length (l.map (Value.int .i64))) (hB:w.heap.size<=B) (hm:∀ b,Mut b->b<w.heap.size) (hl:l.length<=1000000000) (hn:l=[]->v=.slice none 0 0):Lst w' Mut v l:=by
 obtain⟨a,c,rfl⟩:=fO h
 obtain⟨h1,h2⟩:=tQ h (by unfold maxLen;omega) (g:=iY l) (λj hj=>by simp [iY,List.getD_eq_getElem?_getD,hj])
 exact⟨a,c,rfl,hn,h1,λb off e hs=>by have:=h2 b off e;have:=hm b hs;omega⟩
def oH (bm now:Nat) (inv:List Nat) (mks:List Value) (bt:Nat):List Value:=.pointer (some ⟨bm,0,none⟩)::.int .i64 (now:Int)::(inv.map dW++(mks++[.map (some bt)]))
def aY (bm now:Nat) (inv:List Nat) (mks:List Value) (bt:Nat):Array Value:=(oH bm now inv mks bt).toArray
structure eO where
 bW:Nat
 bm:Nat
 bt:Nat
 bw:Option Nat
def bC (I:eO) (b:Nat):Prop:=b=I.bW∨b=I.bm∨b=I.bt∨some b=I.bw
structure aT (w:World) (Mut:Nat->Prop) (I:eO) (N:Nat) (wd:WD):Prop where
 blk:∃ mks:List Value,w.heap[I.bW]?=some (.cells (aY I.bm wd.now wd.inv mks I.bt) 121 (0,0))/\mks.length=16/\∀ p,p<16->Lst w Mut (mks.getD p undef) (wd.marks.getD p [])
 inv16:wd.inv.length=16
 mk16:wd.marks.length=16
 mem:dC w I.bm I.bw wd.mem
 tr:∃ n M,MapAt w I.bt n M/\n<=N/\∀ key,Lst w Mut (M key) (wd.traces key)
 sep:I.bW≠I.bm/\I.bW≠I.bt/\I.bm≠I.bt/\I.bw≠some I.bW/\I.bw≠some I.bt
 muts:∀ b,bC I b->Mut b
 low:∀ b,Mut b->b<w.heap.size
 nowlt:wd.now<1000000000
 nlt:N<1000000000
theorem aT.wlt {w:World} {Mut:Nat->Prop} {I:eO} {N:Nat} {wd:WD} (h:aT w Mut I N wd):I.bW<w.heap.size:=by obtain⟨_,h1,_⟩:=h.blk;exact aH h1
theorem aT.keep {w w':World} {S Mut Mut':Nat->Prop} {I:eO} {N:Nat} {wd:WD} (h:aT w Mut I N wd) (hc:Chg S w w') (hS:∀ b,S b->Mut b) (hW:∀ b,S b->¬ bC I b) (hm:bE Mut w Mut') (hl:∀ b,Mut' b->b<w'.heap.size) (hWm:∀ b,bC I b->Mut' b):aT w' Mut' I N wd:=by
 obtain⟨⟨mks,h1,h2,h3⟩,h4,h5,h6,⟨n,M,h7,h8,h9⟩,h10,h11,h12,h13,h14⟩:=h
 have nS:∀ b,bC I b->¬ S b:=λb hb hs=>hW b hs hb
 exact⟨⟨mks,(hc.block _ (aH h1) (nS _ (.inl rfl))).trans h1,h2,λp hp=>(h3 p hp).keep hc hS hm⟩,h4,h5,h6.chg hc (nS _ (.inr (.inl rfl))) (λq e=>nS _ (.inr (.inr (.inr e.symm)))),⟨n,M,h7.block (hc.block _ h7.lt (nS _ (.inr (.inr (.inl rfl))))),h8,λk=>(h9 k).keep hc hS hm⟩,h10,hWm,hl,h13,h14⟩
theorem fP {bm now:Nat} {inv:List Nat} {mks:List Value} {bt:Nat}:(aY bm now inv mks bt)[1]?=some (.int .i64 (now:Int)):=rfl
theorem kN {bm now:Nat} {inv:List Nat} {mks:List Value} {bt:Nat}:(aY bm now inv mks bt)[0]?=some (.pointer (some ⟨bm,0,none⟩)):=rfl
theorem EN {bm now:Nat} {inv:List Nat} {mks:List Value} {bt p:Nat} (hi:inv.length=16) (hp:p<16):(aY bm now inv mks bt)[2+p]?=some (.int .i64 ((inv.getD p 0:Nat):Int)):=by
 have hp':p<inv.length:=by omega
 simp [aY,oH,Nat.add_comm 2 p,dW,List.getD_eq_getElem?_getD,List.getElem?_append,hp']
theorem lY {bm now:Nat} {inv:List Nat} {mks:List Value} {bt p:Nat} (hi:inv.length=16) (hm:mks.length=16) (hp:p<16):(aY bm now inv mks bt)[18+p]?=some (mks.getD p undef):=by
 have hp':p<mks.length:=by omega
 simp [aY,oH,show 18+p=(p+16)+1+1 by omega,List.getD_eq_getElem?_getD,List.getElem?_append,hi,hp']
theorem zL {bm now:Nat} {inv:List Nat} {mks:List Value} {bt:Nat} (hi:inv.length=16) (hm:mks.length=16):(aY bm now inv mks bt)[34]?=some (.map (some bt)):=by
 simp [aY,oH,hi,hm]
theorem vB {bm now now':Nat} {inv:List Nat} {mks:List Value} {bt:Nat}:(aY bm now inv mks bt).setIfInBounds 1 (.int .i64 (now':Int))=aY bm now' inv mks bt:=by
 simp [aY,oH]
theorem vD {bm now v:Nat} {inv:List Nat} {mks:List Value} {bt p:Nat} (hi:inv.length=16) (hp:p<16):(aY bm now inv mks bt).setIfInBounds (2+p) (.int .i64 (v:Int))=aY bm now (inv.set p v) mks bt:=by
 have hp':p<inv.length:=by omega
 simp [aY,oH,Nat.add_comm 2 p,dW,hp',List.map_set]
theorem uN {bm now:Nat} {v:Value} {inv:List Nat} {mks:List Value} {bt p:Nat} (hi:inv.length=16) (hm:mks.length=16) (hp:p<16):(aY bm now inv mks bt).setIfInBounds (18+p) v=aY bm now inv (mks.set p v) bt:=by
 have hp':p<mks.length:=by omega
 simp [aY,oH,show 18+p=(p+16)+1+1 by omega,hi,hp']
theorem RO {n:Nat} (h:n<1000000000):(Lit.int .i64 (n:Int)).wf=true:=by
 simp [Lit.wf,IntKind.min,IntKind.max,IntKind.signed,IntKind.bits];omega
theorem AA (w:World) (Mut:Nat->Prop) (I:eO) (N:Nat) (wd:WD) (h:aT w Mut I N wd) :
  Calls Try.prog 81 #[.pointer (some ⟨I.bW,0,none⟩)] w λe w'=>e=.returned (.slice (some ⟨w.heap.size,0,none⟩) 1 1)/\Lst w' Mut (.slice (some ⟨w.heap.size,0,none⟩) 1 1) (iW wd)/\Below w.heap.size w w':=by
 obtain⟨mks,hb,hm,_⟩:=h.blk
 obtain⟨x,hx⟩:∃ x:Nat,x=wd.now:=⟨_,rfl⟩
 have c0:w.cell? ⟨I.bW,1,none⟩=some (.int .i64 (x:Int)):=by rw [aA hb,fP,hx]
 have hl:=h.nowlt
 rw [<-hx] at hl
 have hk:iW wd=[2*(x:Int)]:=by unfold iW;rw [hx]
 have hlst:Lst (w.alloc (.cells #[.int .i64 (2*(x:Int))] 3)) Mut (.slice (some ⟨w.heap.size,0,none⟩) 1 1) (iW wd):=by
  rw [hk]
  refine⟨_,_,rfl,(λh=>by cases h),⟨by unfold maxLen;simp,λj hj=>⟨_,_,rfl,by simp,λf hf=>?_⟩⟩,λb off e hs=>?_⟩
  ·obtain rfl:f=0:=by omega
   obtain rfl:j=0:=by simpa using hj
   rw [gY];rfl
  ·cases e;have:=h.low _ hs;omega
 have Hl:=Lib.hid hlst
 clear h hb hx hk hlst
 go_enter Try.func81,Try.ntmps81
 go_wp2
 go_ret
 exact⟨rfl,Hl.out,Gr.new _ _⟩
theorem GD (w:World) (Mut:Nat->Prop) (I:eO) (N:Nat) (wd:WD) (a:Int) (h:aT w Mut I N wd) (ha:(Lit.int .i64 a).wf=true) :
  Calls Try.prog 168 #[.pointer (some ⟨I.bW,0,none⟩),.int .i64 a] w λe w'=>(∃ v,e=.returned v/\Lst w Mut v (wd.traces a))/\w=w':=by
 obtain⟨mks,hb,hm,_⟩:=h.blk
 obtain⟨n,M,h1,_,h3⟩:=h.tr
 have c0:w.cell? ⟨I.bW,34,none⟩=some (.map (some I.bt)):=by rw [aA hb,zL h.inv16 hm]
 have hlk:=h1.look ha
 have H3:=Lib.hid (h3 a)
 clear h hb h1 h3
 go_enter Try.func168,Try.ntmps168
 go_wp2
 go_ret
 exact⟨⟨_,rfl,H3.out⟩,rfl⟩
theorem wP {w w':World} {Mut:Nat->Prop} {v:Value} {l:List Int} (h:w'.ownsRow w.heap.size 3 1 v l.length ((List.range l.length).map λj=>iY l j 0)) (hm:∀ b,Mut b->b<w.heap.size) (hl:l.length<=1000000000) (hn:l≠[]):Lst w' Mut v l:=by
 refine Lst.of_row (B:=w.heap.size) ?_ (Nat.le_refl _) hm hl (λe=>absurd e hn)
 have e1:(List.range l.length).map (λj=>iY l j 0)=l.map (Value.int .i64):=by
  apply List.ext_getElem
  ·simp
  ·intro i h1 h2
   simp at h1 h2
   simp [iY,List.getD_eq_getElem?_getD,h2]
 rw [e1] at h
 exact h
def vH (t:Int->List Int) (a:Int) (l:List Int):Int->List Int:=λx=>if x=a then l else t x
theorem JD (w:World) (Mut:Nat->Prop) (I:eO) (N:Nat) (wd:WD) (k:Int) (a:Option Addr) (c:Nat) (l:List Int) (h:aT w Mut I N wd) (hk:(Lit.int .i64 k).wf=true) (hs:aW w a l.length 1 (iY l)) (hl:l.length<=1000000) (hn:l≠[]) (hc:a=none->c=0) (hN:N+1<1000000000) :
  Calls Try.prog 178 #[.pointer (some ⟨I.bW,0,none⟩),.int .i64 k,.slice a l.length c] w λe w'=>e=.returned (.tuple #[])/\aT w' Mut I (N+1) { wd with traces:=vH wd.traces k l }/\Chg (bC I) w w':=by
 have C:=Lib.hid (λ(u:World) (hb:Below w.heap.size w u)=>FU a l.length c (iY l) u (hs.grown hb) (λj=>rfl) (by omega) hc)
 obtain⟨mks,hb,hm,hmk⟩:=h.blk
 obtain⟨n,M,h7,h8,h9⟩:=h.tr
 have c0:w.cell? ⟨I.bW,34,none⟩=some (.map (some I.bt)):=by rw [aA hb,zL h.inv16 hm]
 have hwl:=h.wlt
 have hne:I.bW≠I.bt:=h.sep.2.1
 have Hmap:=Lib.hid (λ(u:World) (hb:Below w.heap.size w u)=>h7.block (hb.block _ h7.lt))
 have hn1:n<maxLen:=by have:=h.nlt;unfold maxLen;omega
 have Hfin:=Lib.hid (λ(u u2:World) (v:Value) (hr:u.ownsRow w.heap.size 3 1 v l.length ((List.range l.length).map λj=>iY l j 0)) (hbu:Below w.heap.size w u) (hm2:MapAt u2 I.bt (n+1) (upd M k v)) (hg:u.grownBy u2 (some I.bt))=>
  (show aT u2 Mut I (N+1) { wd with traces:=vH wd.traces k l }/\Chg (bC I) w u2 from by
   have rW:Chg (bC I) u u2:=(Chg.refl (bC I) u).grown hg (λq e=>by cases e;exact .inl (.inr (.inr (.inl rfl))))
   have hch:Chg (bC I) w u2:=(Chg.of_below hbu).trans rW
   have hlu:Lst u2 Mut v l:=(wP hr h.low (by omega) hn).keep (S:=bC I) (Mut:=Mut) rW h.muts (bE.refl _ _)
   refine⟨⟨⟨mks,?_,hm,λq hq=>(hmk q hq).keep hch h.muts (bE.refl _ _)⟩,h.inv16,h.mk16,?_,⟨n+1,_,hm2,by omega,λx=>?_⟩,h.sep,h.muts,λb hb=>Nat.lt_of_lt_of_le (h.low b hb) hch.size,h.nowlt,hN⟩,hch⟩
   ·rw [hg.block _ (Nat.lt_of_lt_of_le hwl hbu.size) (by simpa using hne),hbu.block _ hwl];exact hb
   ·refine(h.mem.gr hbu).chg (S:=λb=>b=I.bt) ((Chg.refl (λb=>b=I.bt) u).grown hg (λq e=>by cases e;exact .inl rfl)) (λe=>h.sep.2.2.1 e) (λq e1 e2=>h.sep.2.2.2.2 (by rw [e1,e2]))
   ·by_cases hx:x=k
    ·subst hx
     rw [upd_same];simp only [vH,if_true];exact hlu
    ·rw [iR _ _ hx];simp only [vH,if_neg hx];exact(h9 x).keep hch h.muts (bE.refl _ _)))
 clear h hb hmk hs hc hl hn h7 h9
 go_enter Try.func178,Try.ntmps178
 go_region_held3 (λu=>u.cell? ⟨I.bW,34,none⟩=some (.map (some I.bt)))
  (first|exact c0|exact c1|exact(hg4.cell_far _ (Nat.lt_of_lt_of_le hwl hbb.size) (by simpa using hne)).trans c1)
  ((go_at_call 179;refine(C.out _ ?_).mono ?_;(exact(Gr.refl _).drew);rintro e w1 ⟨v,rfl,ho,hbb,_⟩;obtain⟨va,vc,rfl⟩:=fO ho;replace hbb:=qO hbb;have c1:=(hbb.cell (p:=⟨I.bW,34,none⟩) hwl).trans c0;obtain⟨w4,hrun,NL,hg4⟩:=(Hmap.out _ hbb).put hn1 hk (.slice va l.length vc)))
 have Hf:=Lib.hid (Hfin.out _ _ _ ho hbb NL hg4)
 clear ho hbb NL hg4
 go_wp2
 go_end0
 exact⟨rfl,Hf.out⟩
end
end Go.Proofs.Ytifhldnmcdbpfaa
