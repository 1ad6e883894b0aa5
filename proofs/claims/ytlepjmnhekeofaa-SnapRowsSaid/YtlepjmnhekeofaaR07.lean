/- Layer 6: plays as numbers: what a play of one object comes to, whatever machines the object has. -/
import Derived.Test.YtlepjmnhekeofaaR05
import Derived.Test.YtlepjmnhekeofaaR06
import Derived.Laws.EntriesVeiled
import Derived.Deep.RegionHeld3
set_option maxRecDepth 100000
set_option linter.unusedVariables false
set_option linter.unusedSimpArgs false
set_option linter.unnecessarySimpa false
namespace Go.Proofs.Ytlepjmnhekeofaa
section
open Go.RowKit
structure AnsD where
 err:Int
 val:Nat
 list:List Nat
deriving DecidableEq
structure EvD where
 call:Nat
 inv:Nat
 resp:Nat
 steps:Nat
 ans:AnsD
 key:List Int
deriving DecidableEq
structure RepD where
 evs:List EvD
 words:List Nat
 c:CountsD
 ticks:Nat
 idle:Nat
deriving DecidableEq
structure WD where
 mem:MemD
 now:Nat
 inv:List Nat
 marks:List (List Int)
 traces:Int->List Int
inductive Mc (σ:Type) where
 | refuse (e:Int)
 | run (s:σ)
structure Sys where
 σ:Type
 ω:Type
 start:ω->WD->Nat->CallD->Mc σ
 step:ω->WD->Nat->σ->ω×WD×σ×Bool
 answer:σ->AnsD×List Int
 late:ω->WD->Nat->σ->Option (List Int)
def ans0:AnsD:=⟨0,0,[]⟩
def ev0:EvD:=⟨0,0,0,0,ans0,[]⟩
structure PlayD (S:Sys) where
 wd:WD
 obj:S.ω
 fin:List Bool
 hands:List (Option S.σ×Nat)
 evs:List EvD
 idle:Nat
def tickKey (wd:WD):List Int:=[2*(wd.now:Int)]
def keyOf (wd:WD) (p:Nat) (k:List Int):List Int:=if k=[] then (if wd.marks.getD p []=[] then tickKey wd else wd.marks.getD p []) else k
def finishEv (wd:WD) (p:Nat) (a:AnsD) (k:List Int) (e:EvD):EvD:={ e with steps:=e.steps+1,ans:=a,resp:=wd.now,key:=keyOf wd p k }
def stepEv (e:EvD):EvD:={ e with steps:=e.steps+1 }
def modEv (l:List EvD) (i:Nat) (f:EvD->EvD):List EvD:=l.set i (f (l.getD i ev0))
variable (S:Sys)
def goStep (st:PlayD S) (p i:Nat) (s:S.σ):PlayD S×Bool:=
 let r:=S.step st.obj st.wd p s
 if r.2.2.2 then ({ st with obj:=r.1,wd:=r.2.1,hands:=st.hands.set p (none,i),evs:=modEv st.evs i (finishEv r.2.1 p (S.answer r.2.2.1).1 (S.answer r.2.2.1).2) },true)
 else ({ st with obj:=r.1,wd:=r.2.1,hands:=st.hands.set p (some r.2.2.1,i),evs:=modEv st.evs i stepEv },false)
def WD.tick (wd:WD):WD:={ wd with now:=wd.now+1 }
def WD.begin (wd:WD) (p:Nat):WD:={ wd with inv:=wd.inv.set p wd.now,marks:=wd.marks.set p [] }
def newEv (i:Nat) (wd:WD):EvD:=⟨i,wd.now,0,0,ans0,[]⟩
def startD (o:S.ω) (wd:WD) (p:Nat) (c:CallD):Mc S.σ:=if c.obj=0 then S.start o wd p c else .refuse 12
def stepD (calls:List CallD) (st:PlayD S) (p i:Nat):PlayD S×Bool:=
 match (st.hands.getD p (none,0)).1 with
 | some s=>goStep S { st with wd:=st.wd.tick } p (st.hands.getD p (none,0)).2 s
 | none=>
  let wd:=st.wd.tick.begin p
  match startD S st.obj wd p (calls.getD i d0) with
  | .refuse e=>({ st with wd:=wd,hands:=st.hands.set p (none,st.evs.length),evs:=st.evs++[finishEv wd p ⟨e,0,[]⟩ [] (newEv i wd)] },true)
  | .run s=>goStep S { st with wd:=wd,hands:=st.hands.set p (some s,st.evs.length),evs:=st.evs++[newEv i wd] } p st.evs.length s
def pickD (calls:List CallD) (st:PlayD S) (p:Int):PlayD S:=
 match nowN calls st.fin p with
 | none=>{ st with idle:=st.idle+1 }
 | some i=>
  let r:=stepD S calls st p.toNat i
  if r.2 then { r.1 with fin:=r.1.fin.set i true } else r.1
def picksD (calls:List CallD) (st:PlayD S) (picks:List Int):PlayD S:=picks.foldl (pickD S calls) st
def endEv (st:PlayD S) (evs:List EvD) (p:Nat):List EvD:=
 match st.hands.getD p (none,0) with
 | (none,_)=>evs
 | (some s,i)=>modEv evs i λe=>{ e with key:=(S.late st.obj st.wd p s).getD (st.wd.marks.getD p []) }
def endD (st:PlayD S):List EvD:=(List.range 16).foldl (endEv S st) st.evs
def reportD (st:PlayD S):RepD:=⟨endD S st,st.wd.mem.ws,st.wd.mem.c,st.wd.now,st.idle⟩
def wd0 (ws:List Nat):WD:=⟨⟨ws,c0⟩,0,List.replicate 16 0,List.replicate 16 [],λ_=>[]⟩
def play0 (o:S.ω) (ws:List Nat) (calls:List CallD):PlayD S:=⟨wd0 ws,o,List.replicate calls.length false,List.replicate 16 (none,0),[],0⟩
def playD (o:S.ω) (ws:List Nat) (calls:List CallD) (picks:List Int):RepD:=reportD S (picksD S calls (play0 S o ws calls) picks)
end
section

/- Layer 6: where a play's world lies in memory; the methods of loom.World. -/
open Go.RowKit
def Lst (w:World) (Mut:Nat->Prop) (v:Value) (l:List Int):Prop:=
 ∃ a c,v=.slice a l.length c/\(l=[]->v=.slice none 0 0)/\SlAt w a l.length 1 (intG l)/\(∀ b off,a=some ⟨b,off,none⟩->¬ Mut b)
def LstU (w:World) (Mut:Nat->Prop) (v:Value) (l:List Nat):Prop:=
 ∃ a c,v=.slice a l.length c/\SlAt w a l.length 1 (u64G l)/\(0<l.length->∀ b off,a=some ⟨b,off,none⟩->¬ Mut b)
def MutUp (Mut:Nat->Prop) (w:World) (Mut':Nat->Prop):Prop:=∀ b,Mut' b->Mut b∨w.heap.size<=b
theorem MutUp.refl (Mut:Nat->Prop) (w:World):MutUp Mut w Mut:=λ_ h=>.inl h
theorem MutUp.trans {Mut Mut' Mut'':Nat->Prop} {w w':World} (h:MutUp Mut w Mut') (h':MutUp Mut' w' Mut'') (hs:w.heap.size<=w'.heap.size):MutUp Mut w Mut'':=
 λb x=>by rcases h' b x with y|y;exact h b y;exact .inr (Nat.le_trans hs y)
theorem SlAt.lt {w:World} {a:Option Addr} {n k:Nat} {g:Nat->Nat->Value} (h:SlAt w a n k g) (hn:0<n):∃ b off,a=some ⟨b,off,none⟩/\b<w.heap.size:=by
 obtain⟨b,off,h1,h2,_⟩:=h.2 0 hn
 exact⟨b,off,h1,h2⟩
theorem Lst.nil (w:World) (Mut:Nat->Prop):Lst w Mut (.slice none 0 0) []:=⟨none,0,rfl,λ_=>rfl,SlAt.nil _ _ _ _,λ_ _ h=>by cases h⟩
theorem Lst.keep {w w':World} {S Mut Mut':Nat->Prop} {v:Value} {l:List Int} (h:Lst w Mut v l) (hc:Chg S w w') (hS:∀ b,S b->Mut b) (hm:MutUp Mut w Mut'):Lst w' Mut' v l:=by
 obtain⟨a,c,h1,h2,h3,h4⟩:=h
 rcases Nat.eq_zero_or_pos l.length with h0|h0
 ·have:=h2 (List.eq_nil_of_length_eq_zero h0)
  obtain rfl:=List.eq_nil_of_length_eq_zero h0
  rw [this];exact Lst.nil _ _
 ·obtain⟨b0,off0,e0,hb0⟩:=h3.lt h0
  refine⟨a,c,h1,h2,h3.chg hc (λb off e hs=>h4 b off e (hS b hs)),λb off e hs=>?_⟩
  rw [e0] at e;cases e
  rcases hm b0 hs with h|h
  ·exact h4 b0 off0 e0 h
  ·omega
theorem LstU.nil (w:World) (Mut:Nat->Prop):LstU w Mut (.slice none 0 0) []:=⟨none,0,rfl,SlAt.nil _ _ _ _,λ_ _ _ h=>by cases h⟩
theorem LstU.keep {w w':World} {S Mut Mut':Nat->Prop} {v:Value} {l:List Nat} (h:LstU w Mut v l) (hc:Chg S w w') (hS:∀ b,S b->Mut b) (hm:MutUp Mut w Mut'):LstU w' Mut' v l:=by
 obtain⟨a,c,h1,h3,h4⟩:=h
 rcases Nat.eq_zero_or_pos l.length with h0|h0
 ·exact⟨a,c,h1,by rw [h0];exact SlAt.nil _ _ _ _,λh=>by omega⟩
 ·obtain⟨b0,off0,e0,hb0⟩:=h3.lt h0
  refine⟨a,c,h1,h3.chg hc (λb off e hs=>h4 h0 b off e (hS b hs)),λ_ b off e hs=>?_⟩
  rw [e0] at e;cases e
  rcases hm b0 hs with h|h
  ·exact h4 h0 b0 off0 e0 h
  ·omega
theorem Lst.of_row {w w':World} {Mut:Nat->Prop} {v:Value} {l:List Int} {B:Nat} (h:w'.ownsRow B 3 1 v l.length (l.map (Value.int .i64))) (hB:w.heap.size<=B) (hm:∀ b,Mut b->b<w.heap.size) (hl:l.length<=1000000000) (hn:l=[]->v=.slice none 0 0):Lst w' Mut v l:=by
 obtain⟨a,c,rfl⟩:=row_form h
 obtain⟨h1,h2⟩:=row_sl h (by unfold maxLen;omega) (g:=intG l) (λj hj=>by simp [intG,List.getD_eq_getElem?_getD,hj])
 exact⟨a,c,rfl,hn,h1,λb off e hs=>by have:=h2 b off e;have:=hm b hs;omega⟩
def worldL (bm now:Nat) (inv:List Nat) (mks:List Value) (bt:Nat):List Value:=.pointer (some ⟨bm,0,none⟩)::.int .i64 (now:Int)::(inv.map natV++(mks++[.map (some bt)]))
def worldCells (bm now:Nat) (inv:List Nat) (mks:List Value) (bt:Nat):Array Value:=(worldL bm now inv mks bt).toArray
structure WIds where
 bW:Nat
 bm:Nat
 bt:Nat
 bw:Option Nat
def WSet (I:WIds) (b:Nat):Prop:=b=I.bW∨b=I.bm∨b=I.bt∨some b=I.bw
structure WorldAt (w:World) (Mut:Nat->Prop) (I:WIds) (N:Nat) (wd:WD):Prop where
 blk:∃ mks:List Value,w.heap[I.bW]?=some (.cells (worldCells I.bm wd.now wd.inv mks I.bt) 113 (0,0))/\mks.length=16/\∀ p,p<16->Lst w Mut (mks.getD p undef) (wd.marks.getD p [])
 inv16:wd.inv.length=16
 mk16:wd.marks.length=16
 mem:MemAt w I.bm I.bw wd.mem
 tr:∃ n M,MapAt w I.bt n M/\n<=N/\∀ key,Lst w Mut (M key) (wd.traces key)
 sep:I.bW≠I.bm/\I.bW≠I.bt/\I.bm≠I.bt/\I.bw≠some I.bW/\I.bw≠some I.bt
 muts:∀ b,WSet I b->Mut b
 low:∀ b,Mut b->b<w.heap.size
 nowlt:wd.now<1000000000
 nlt:N<1000000000
theorem WorldAt.wlt {w:World} {Mut:Nat->Prop} {I:WIds} {N:Nat} {wd:WD} (h:WorldAt w Mut I N wd):I.bW<w.heap.size:=by obtain⟨_,h1,_⟩:=h.blk;exact blk_lt h1
theorem WorldAt.keep {w w':World} {S Mut Mut':Nat->Prop} {I:WIds} {N:Nat} {wd:WD} (h:WorldAt w Mut I N wd) (hc:Chg S w w') (hS:∀ b,S b->Mut b) (hW:∀ b,S b->¬ WSet I b) (hm:MutUp Mut w Mut') (hl:∀ b,Mut' b->b<w'.heap.size) (hWm:∀ b,WSet I b->Mut' b):WorldAt w' Mut' I N wd:=by
 obtain⟨⟨mks,h1,h2,h3⟩,h4,h5,h6,⟨n,M,h7,h8,h9⟩,h10,h11,h12,h13,h14⟩:=h
 have nS:∀ b,WSet I b->¬ S b:=λb hb hs=>hW b hs hb
 exact⟨⟨mks,(hc.block _ (blk_lt h1) (nS _ (.inl rfl))).trans h1,h2,λp hp=>(h3 p hp).keep hc hS hm⟩,h4,h5,h6.chg hc (nS _ (.inr (.inl rfl))) (λq e=>nS _ (.inr (.inr (.inr e.symm)))),⟨n,M,h7.block (hc.block _ h7.lt (nS _ (.inr (.inr (.inl rfl))))),h8,λk=>(h9 k).keep hc hS hm⟩,h10,hWm,hl,h13,h14⟩
theorem world_now {bm now:Nat} {inv:List Nat} {mks:List Value} {bt:Nat}:(worldCells bm now inv mks bt)[1]?=some (.int .i64 (now:Int)):=rfl
theorem world_mem {bm now:Nat} {inv:List Nat} {mks:List Value} {bt:Nat}:(worldCells bm now inv mks bt)[0]?=some (.pointer (some ⟨bm,0,none⟩)):=rfl
theorem world_inv {bm now:Nat} {inv:List Nat} {mks:List Value} {bt p:Nat} (hi:inv.length=16) (hp:p<16):(worldCells bm now inv mks bt)[2+p]?=some (.int .i64 ((inv.getD p 0:Nat):Int)):=by
 have hp':p<inv.length:=by omega
 simp [worldCells,worldL,Nat.add_comm 2 p,natV,List.getD_eq_getElem?_getD,List.getElem?_append,hp']
theorem world_mark {bm now:Nat} {inv:List Nat} {mks:List Value} {bt p:Nat} (hi:inv.length=16) (hm:mks.length=16) (hp:p<16):(worldCells bm now inv mks bt)[18+p]?=some (mks.getD p undef):=by
 have hp':p<mks.length:=by omega
 simp [worldCells,worldL,show 18+p=(p+16)+1+1 by omega,List.getD_eq_getElem?_getD,List.getElem?_append,hi,hp']
theorem world_tr {bm now:Nat} {inv:List Nat} {mks:List Value} {bt:Nat} (hi:inv.length=16) (hm:mks.length=16):(worldCells bm now inv mks bt)[34]?=some (.map (some bt)):=by
 simp [worldCells,worldL,hi,hm]
theorem world_set_now {bm now now':Nat} {inv:List Nat} {mks:List Value} {bt:Nat}:(worldCells bm now inv mks bt).setIfInBounds 1 (.int .i64 (now':Int))=worldCells bm now' inv mks bt:=by
 simp [worldCells,worldL]
theorem world_set_inv {bm now v:Nat} {inv:List Nat} {mks:List Value} {bt p:Nat} (hi:inv.length=16) (hp:p<16):(worldCells bm now inv mks bt).setIfInBounds (2+p) (.int .i64 (v:Int))=worldCells bm now (inv.set p v) mks bt:=by
 have hp':p<inv.length:=by omega
 simp [worldCells,worldL,Nat.add_comm 2 p,natV,hp',List.map_set]
theorem world_set_mark {bm now:Nat} {v:Value} {inv:List Nat} {mks:List Value} {bt p:Nat} (hi:inv.length=16) (hm:mks.length=16) (hp:p<16):(worldCells bm now inv mks bt).setIfInBounds (18+p) v=worldCells bm now inv (mks.set p v) bt:=by
 have hp':p<mks.length:=by omega
 simp [worldCells,worldL,show 18+p=(p+16)+1+1 by omega,hi,hp']
theorem tick_any (w:World) (Mut:Nat->Prop) (I:WIds) (N:Nat) (wd:WD) (h:WorldAt w Mut I N wd) :
  Calls Try.prog 80 #[.pointer (some ⟨I.bW,0,none⟩)] w λe w'=>e=.returned (.slice (some ⟨w.heap.size,0,none⟩) 1 1)/\Lst w' Mut (.slice (some ⟨w.heap.size,0,none⟩) 1 1) (tickKey wd)/\Below w.heap.size w w':=by
 obtain⟨mks,hb,hm,_⟩:=h.blk
 obtain⟨x,hx⟩:∃ x:Nat,x=wd.now:=⟨_,rfl⟩
 have c0:w.cell? ⟨I.bW,1,none⟩=some (.int .i64 (x:Int)):=by rw [cell_blk hb,world_now,hx]
 have hl:=h.nowlt
 rw [<-hx] at hl
 have hk:tickKey wd=[2*(x:Int)]:=by unfold tickKey;rw [hx]
 have hlst:Lst (w.alloc (.cells #[.int .i64 (2*(x:Int))] 3)) Mut (.slice (some ⟨w.heap.size,0,none⟩) 1 1) (tickKey wd):=by
  rw [hk]
  refine⟨_,_,rfl,(λh=>by cases h),⟨by unfold maxLen;simp,λj hj=>⟨_,_,rfl,by simp,λf hf=>?_⟩⟩,λb off e hs=>?_⟩
  ·obtain rfl:f=0:=by omega
   obtain rfl:j=0:=by simpa using hj
   rw [cell_new];rfl
  ·cases e;have:=h.low _ hs;omega
 have Hl:=Lib.hid hlst
 clear h hb hx hk hlst
 go_enter Try.func80,Try.ntmps80
 go_wp2
 go_ret
 exact⟨rfl,Hl.out,Gr.new _ _⟩
theorem trace_any (w:World) (Mut:Nat->Prop) (I:WIds) (N:Nat) (wd:WD) (a:Int) (h:WorldAt w Mut I N wd) (ha:(Lit.int .i64 a).wf=true) :
  Calls Try.prog 162 #[.pointer (some ⟨I.bW,0,none⟩),.int .i64 a] w λe w'=>(∃ v,e=.returned v/\Lst w Mut v (wd.traces a))/\w=w':=by
 obtain⟨mks,hb,hm,_⟩:=h.blk
 obtain⟨n,M,h1,_,h3⟩:=h.tr
 have c0:w.cell? ⟨I.bW,34,none⟩=some (.map (some I.bt)):=by rw [cell_blk hb,world_tr h.inv16 hm]
 have hlk:=h1.look ha
 have H3:=Lib.hid (h3 a)
 clear h hb h1 h3
 go_enter Try.func162,Try.ntmps162
 go_wp2
 go_ret
 exact⟨⟨_,rfl,H3.out⟩,rfl⟩
theorem lst_of_clone {w w':World} {Mut:Nat->Prop} {v:Value} {l:List Int} (h:w'.ownsRow w.heap.size 3 1 v l.length ((List.range l.length).map λj=>intG l j 0)) (hm:∀ b,Mut b->b<w.heap.size) (hl:l.length<=1000000000) (hn:l≠[]):Lst w' Mut v l:=by
 refine Lst.of_row (B:=w.heap.size) ?_ (Nat.le_refl _) hm hl (λe=>absurd e hn)
 have e1:(List.range l.length).map (λj=>intG l j 0)=l.map (Value.int .i64):=by
  apply List.ext_getElem
  ·simp
  ·intro i h1 h2
   simp at h1 h2
   simp [intG,List.getD_eq_getElem?_getD,h2]
 rw [e1] at h
 exact h
def updT (t:Int->List Int) (a:Int) (l:List Int):Int->List Int:=λx=>if x=a then l else t x
theorem note_any (w:World) (Mut:Nat->Prop) (I:WIds) (N:Nat) (wd:WD) (k:Int) (a:Option Addr) (c:Nat) (l:List Int) (h:WorldAt w Mut I N wd) (hk:(Lit.int .i64 k).wf=true) (hs:SlAt w a l.length 1 (intG l)) (hl:l.length<=1000000) (hn:l≠[]) (hc:a=none->c=0) (hN:N+1<1000000000) :
  Calls Try.prog 175 #[.pointer (some ⟨I.bW,0,none⟩),.int .i64 k,.slice a l.length c] w λe w'=>e=.returned (.tuple #[])/\WorldAt w' Mut I (N+1) { wd with traces:=updT wd.traces k l }/\Chg (WSet I) w w':=by
 have C:=Lib.hid (λ(u:World) (hb:Below w.heap.size w u)=>clone_int a l.length c (intG l) u (hs.grown hb) (λj=>rfl) (by omega) hc)
 obtain⟨mks,hb,hm,hmk⟩:=h.blk
 obtain⟨n,M,h7,h8,h9⟩:=h.tr
 have c0:w.cell? ⟨I.bW,34,none⟩=some (.map (some I.bt)):=by rw [cell_blk hb,world_tr h.inv16 hm]
 have hwl:=h.wlt
 have hne:I.bW≠I.bt:=h.sep.2.1
 have Hmap:=Lib.hid (λ(u:World) (hb:Below w.heap.size w u)=>h7.block (hb.block _ h7.lt))
 have hn1:n<maxLen:=by have:=h.nlt;unfold maxLen;omega
 have Hfin:=Lib.hid (λ(u u2:World) (v:Value) (hr:u.ownsRow w.heap.size 3 1 v l.length ((List.range l.length).map λj=>intG l j 0)) (hbu:Below w.heap.size w u) (hm2:MapAt u2 I.bt (n+1) (upd M k v)) (hg:u.grownBy u2 (some I.bt))=>
  (show WorldAt u2 Mut I (N+1) { wd with traces:=updT wd.traces k l }/\Chg (WSet I) w u2 from by
   have hch2:Chg (WSet I) u u2:=(Chg.refl (WSet I) u).grown hg (λq e=>by cases e;exact .inl (.inr (.inr (.inl rfl))))
   have hch:Chg (WSet I) w u2:=(Chg.of_below hbu).trans hch2
   have hlu:Lst u2 Mut v l:=(lst_of_clone hr h.low (by omega) hn).keep (S:=WSet I) (Mut:=Mut) hch2 h.muts (MutUp.refl _ _)
   refine⟨⟨⟨mks,?_,hm,λq hq=>(hmk q hq).keep hch h.muts (MutUp.refl _ _)⟩,h.inv16,h.mk16,?_,⟨n+1,_,hm2,by omega,λx=>?_⟩,h.sep,h.muts,λb hb=>Nat.lt_of_lt_of_le (h.low b hb) hch.size,h.nowlt,hN⟩,hch⟩
   ·rw [hg.block _ (Nat.lt_of_lt_of_le hwl hbu.size) (by simpa using hne),hbu.block _ hwl];exact hb
   ·refine(h.mem.gr hbu).chg (S:=λb=>b=I.bt) ((Chg.refl (λb=>b=I.bt) u).grown hg (λq e=>by cases e;exact .inl rfl)) (λe=>h.sep.2.2.1 e) (λq e1 e2=>h.sep.2.2.2.2 (by rw [e1,e2]))
   ·by_cases hx:x=k
    ·subst hx
     rw [upd_same];simp only [updT,if_true];exact hlu
    ·rw [upd_other _ _ hx];simp only [updT,if_neg hx];exact(h9 x).keep hch h.muts (MutUp.refl _ _)))
 clear h hb hmk hs hc hl hn h7 h9
 go_enter Try.func175,Try.ntmps175
 go_region_held3 (λu=>u.cell? ⟨I.bW,34,none⟩=some (.map (some I.bt)))
  (first|exact c0|exact c1|exact(hg4.cell_far _ (Nat.lt_of_lt_of_le hwl hbb.size) (by simpa using hne)).trans c1)
  ((go_at_call 176;refine(C.out _ ?_).mono ?_;(exact(Gr.refl _).drew);rintro e w1 ⟨v,rfl,ho,hbb,_⟩;obtain⟨va,vc,rfl⟩:=row_form ho;replace hbb:=undrew hbb;have c1:=(hbb.cell (p:=⟨I.bW,34,none⟩) hwl).trans c0;obtain⟨w4,hrun,hm4,hg4⟩:=(Hmap.out _ hbb).put hn1 hk (.slice va l.length vc)))
 have Hf:=Lib.hid (Hfin.out _ _ _ ho hbb hm4 hg4)
 clear ho hbb hm4 hg4
 go_wp2
 go_end0
 exact⟨rfl,Hf.out⟩
end
end Go.Proofs.Ytlepjmnhekeofaa
