/- Contracts of package pick: what a line is behind New, and how it goes on. -/
import Derived.Test.YtfkokppncipgnaaGreatV04
import Derived.Test.YtfkokppncipgnaaGreatV03
import Derived.Laws.EntriesVeiled
import Derived.Test.YtfkokppncipgnaaGreatV02
import Derived.Deep.RegionHeld3
set_option maxRecDepth 100000
set_option linter.unusedVariables false
set_option linter.unusedSimpArgs false
set_option linter.unnecessarySimpa false
namespace Go.Proofs.YtfkokppncipgnaaGreat
section
open Go.RowKit
theorem row_cap {w:World} {B:Nat} {v:Value} {e:TypeId} {n:Nat} {xs:List Value} {g:Nat->Nat->Value} (h:w.ownsRow B e 1 v n xs) (hm:n<=maxLen) (hg:∀ j,j<n->xs[j]?=some (g j 0)) :
  ∃ a c,v=.slice a n c/\n<=c/\SlAt w a n 1 g/\(∀ b off,a=some ⟨b,off,none⟩->B<=b/\v.ownBlock=some b):=by
 obtain⟨a,c,hv,hs,hB⟩:=sl_of_row h hm hg
 refine⟨a,c,hv,?_,hs,λb off e=>⟨hB b off e,by rw [hv,e];rfl⟩⟩
 obtain⟨_,h2⟩:=h
 rcases h2 with⟨h3,h0⟩|⟨q,cap,cur,h3,_,_,hn,_⟩
 ·omega
 ·rw [hv] at h3;cases h3;exact hn
theorem ret_i64 {a b:Int} (h:a=b):Ending.returned (.int .i64 a)=.returned (.int .i64 b):=by rw [h]
theorem line_of_new {w wr:World} {l:List CallD} {M:Int->Value} (h:NewSt w wr l l.length M) (hl:l.length<=1000) :
  LineAt wr (λb=>w.heap.size<=b/\b<wr.heap.size) (w.heap.size+1) w.heap.size l.length M (qOf l l.length) (l.length:Int):=by
 refine⟨h.line,h.map,λp=>?_⟩
 have hq:=qOf_len l l.length p
 obtain⟨a,c,h1,h2,h3,h4⟩:=row_cap (g:=natG (qOf l l.length p)) (h.rows p) (by unfold maxLen;omega) (λj hj=>by simp [natG,natV,List.getD_eq_getElem?_getD,hj])
 refine⟨a,c,h1,h2,h3,λb off e=>?_⟩
 have h5:=(h4 b off e).2
 obtain⟨_,h6⟩:=h.rows p
 rcases h6 with⟨h7,_⟩|⟨g,cap,cur,h7,h77,h8,_⟩
 ·rw [h7] at h5;cases h5
 ·rw [h7] at h5
  simp only [Value.ownBlock,Option.some.injEq] at h5
  subst h5
  refine⟨?_,?_,h77,blk_lt h8⟩
  ·rintro rfl;rw [h.line] at h8;simp at h8
  ·rintro rfl
   obtain⟨D,⟨es,clock,h9,_⟩,_⟩:=h.map
   rw [h9] at h8;cases h8
def boolG (l:List Bool) (j _f:Nat):Value:=.bool (l.getD j false)
def nowIs (l:List CallD) (fin:List Bool) (p:Int) (i:Nat):Bool:=decide ((l.getD i d0).thread=p) && !(fin.getD i false)
def nowN (l:List CallD) (fin:List Bool) (p:Int):Option Nat:=(List.range l.length).find? (nowIs l fin p)
def nowI (o:Option Nat):Int:=match o with|some i=>(i:Int)|none=>-1
theorem find_range_split (f:Nat->Bool) (n k:Nat) (hk:k<=n) (h:∀ j,j<k->f j=false):(List.range n).find? f=((List.range (n - k)).map (k+·)).find? f:=by
 rw [show List.range n=List.range k++(List.range (n - k)).map (k+·) from Deep.range_split hk,List.find?_append]
 have:(List.range k).find? f=none:=by
  rw [List.find?_eq_none]
  intro x hx
  simpa using h x (List.mem_range.1 hx)
 rw [this];rfl
def qF (l:List CallD) (fin:List Bool) (p:Int):List Nat:=(List.range l.length).filter (nowIs l fin p)
theorem qF_init (l:List CallD) (p:Int):qF l (List.replicate l.length false) p=qOf l l.length p:=by
 unfold qF qOf
 apply List.filter_congr
 intro i hi
 have:=List.mem_range.1 hi
 unfold nowIs d0
 simp [List.getD_eq_getElem?_getD,List.getElem?_replicate,this]
theorem nowN_head (l:List CallD) (fin:List Bool) (p:Int):nowN l fin p=(qF l fin p).head?:=by
 unfold nowN qF
 rw [List.head?_filter]
theorem nowN_spec {l:List CallD} {fin:List Bool} {p:Int} {i:Nat} (h:nowN l fin p=some i):i<l.length/\(l.getD i d0).thread=p/\fin.getD i false=false:=by
 unfold nowN at h
 have h1:=List.find?_some h
 have h2:=List.mem_of_find?_eq_some h
 unfold nowIs at h1
 simp at h1
 exact⟨List.mem_range.1 h2,by simpa using h1.1,by simpa using h1.2⟩
theorem qF_set {l:List CallD} {fin:List Bool} {p:Int} {i:Nat} {r:List Nat} (hlen:fin.length=l.length) (h:qF l fin p=i::r):qF l (fin.set i true)=qDrop (qF l fin) p:=by
 have hn:nowN l fin p=some i:=by rw [nowN_head,h];rfl
 obtain⟨hi,ht,hf⟩:=nowN_spec hn
 have hnd:(qF l fin p).Nodup:=List.Pairwise.filter _ List.nodup_range
 funext x
 have key:∀ j,nowIs l (fin.set i true) x j=(nowIs l fin x j && !(decide (j=i))):=by
  intro j
  unfold nowIs
  by_cases hj:j=i
  ·subst hj
   simp [List.getD_eq_getElem?_getD,List.getElem?_set,hlen,hi]
  ·simp [List.getD_eq_getElem?_getD,List.getElem?_set,Ne.symm hj,hj]
 unfold qDrop
 by_cases hx:x=p
 ·subst hx
  rw [if_pos rfl,h]
  have e1:qF l (fin.set i true) x=(qF l fin x).filter (λj=>!(decide (j=i))):=by
   unfold qF
   rw [List.filter_filter]
   apply List.filter_congr
   intro j _
   rw [key,Bool.and_comm]
  rw [e1,h]
  rw [h] at hnd
  simp only [List.tail_cons]
  rw [List.filter_cons_of_neg (by simp),List.filter_eq_self]
  intro j hj
  have:=(List.nodup_cons.1 hnd).1
  simp
  rintro rfl
  exact this hj
 ·rw [if_neg hx]
  unfold qF
  apply List.filter_congr
  intro j _
  rw [key]
  by_cases hj:j=i
  ·subst hj
   unfold nowIs
   rw [ht]
   simp [Ne.symm hx]
  ·simp [hj]
theorem wrongN_zero {n:Int} {l:List CallD} (h:wrongN n l=0):1<=n/\n<=16/\l.length<=1000/\anyBad n l=false:=by
 unfold wrongN at h
 split at h
 ·cases h
 ·split at h
  ·cases h
  ·rename_i h1 h2
   refine⟨by omega,by omega,by omega,?_⟩
   unfold anyBad
   cases hc:l.any (badT n) with
   | false=>rfl
   | true=>rw [hc] at h;simp at h
def NewAll (n:Int) (l:List CallD) (w:World) (e:Ending) (w':World):Prop:=
 (wrongN n l≠0/\e=.returned (.tuple #[.pointer none,.int .i64 (wrongN n l)])/\Below w.heap.size w w')∨
 (wrongN n l=0/\e=.returned (.tuple #[.pointer (some ⟨w.heap.size+1,0,none⟩),.int .i64 0])/\Below w.heap.size w w'/\∃ M,LineAt w' (λb=>w.heap.size<=b/\b<w'.heap.size) (w.heap.size+1) w.heap.size l.length M (qF l (List.replicate l.length false)) (l.length:Int))
theorem new_any (n:Int) (l:List CallD) (a:Option Addr) (c:Nat) (w:World) (hs:SlAt w a l.length 6 (callG l)) (hwf:∀ x∈l,(Lit.int .i64 x.thread).wf=true) :
  Calls Tryz.prog 31 #[.int .i64 n,.slice a l.length c] w λe w'=>NewAll n l w e w':=by
 by_cases h1:n<1∨16<n
 ·have hw:wrongN n l=1:=by unfold wrongN;rw [if_pos h1]
  refine(new_bad n a l.length c w 1 hs.1 (.inl ⟨h1,rfl⟩)).mono ?_
  rintro e w' ⟨rfl,rfl⟩
  exact .inl ⟨by rw [hw];decide,by rw [hw],Gr.refl _⟩
 by_cases h2:1000<l.length
 ·have hw:wrongN n l=3:=by unfold wrongN;rw [if_neg h1,if_pos h2]
  refine(new_bad n a l.length c w 3 hs.1 (.inr ⟨⟨by omega,by omega,h2⟩,rfl⟩)).mono ?_
  rintro e w' ⟨rfl,rfl⟩
  exact .inl ⟨by rw [hw];decide,by rw [hw],Gr.refl _⟩
 refine(new_go n l a c w hs (by omega) (by omega) (by omega) hwf).mono ?_
 rintro e w' (⟨hb,rfl,hbel⟩|⟨hb,rfl,M,hst⟩)
 ·have hw:wrongN n l=1:=by unfold wrongN;rw [if_neg h1,if_neg h2];exact if_pos hb
  exact .inl ⟨by rw [hw];decide,by rw [hw],hbel⟩
 ·have hw:wrongN n l=0:=by unfold wrongN;rw [if_neg h1,if_neg h2];exact if_neg (by unfold anyBad at hb;rw [hb];simp)
  have hq:qF l (List.replicate l.length false)=qOf l l.length:=funext (qF_init l)
  exact .inr ⟨hw,rfl,hst.below,M,by rw [hq];exact line_of_new hst (by omega)⟩
theorem LineAt.chg {S:Nat->Prop} {w w':World} {Z:Nat->Prop} {bl bm n:Nat} {M:Int->Value} {q:Int->List Nat} {left:Int} (h:LineAt w Z bl bm n M q left) (hc:Chg S w w') (h1:¬ S bl) (h2:¬ S bm) (h3:∀ b,Z b->¬ S b):LineAt w' Z bl bm n M q left:=by
 refine⟨(hc.block _ (blk_lt h.line) h1).trans h.line,h.map.block (hc.block _ h.map.lt h2),λp=>?_⟩
 obtain⟨a,c,g1,g2,g3,g4⟩:=h.rows p
 exact⟨a,c,g1,g2,g3.chg hc (λb off e=>h3 b (g4 b off e).2.2),g4⟩
theorem LineAt.mono {w:World} {Z Z':Nat->Prop} {bl bm n:Nat} {M:Int->Value} {q:Int->List Nat} {left:Int} (h:LineAt w Z bl bm n M q left) (hz:∀ b,Z b->Z' b):LineAt w Z' bl bm n M q left:=
 ⟨h.line,h.map,λp=>by obtain⟨a,c,g1,g2,g3,g4⟩:=h.rows p;exact⟨a,c,g1,g2,g3,λb off e=>⟨(g4 b off e).1,(g4 b off e).2.1,hz b (g4 b off e).2.2⟩⟩⟩
theorem madeCells_one (v:Value) (n:Nat):madeCells #[v] n=(List.replicate n v).toArray:=by
 unfold madeCells
 apply Array.ext
 ·simp
 ·intro i h1 h2
  simp at h1 h2 ⊢
  simp [Nat.mod_one]
end
section

/- Layer 6: plays as numbers: what a play of one object comes to, whatever machines the object has. -/
open Go.RowKit
structure AnsD where
 err:Int
 val:Nat
 list:List Nat
deriving DecidableEq
structure EvD where
 call:Nat
 inv:Nat
 resp:Nat
 steps:Nat
 ans:AnsD
 key:List Int
deriving DecidableEq
structure RepD where
 evs:List EvD
 words:List Nat
 c:CountsD
 ticks:Nat
 idle:Nat
deriving DecidableEq
structure WD where
 mem:MemD
 now:Nat
 inv:List Nat
 marks:List (List Int)
 traces:Int->List Int
inductive Mc (σ:Type) where
 | refuse (e:Int)
 | run (s:σ)
structure Sys where
 σ:Type
 ω:Type
 start:ω->WD->Nat->CallD->Mc σ
 step:ω->WD->Nat->σ->ω×WD×σ×Bool
 answer:σ->AnsD×List Int
 late:ω->WD->Nat->σ->Option (List Int)
def ans0:AnsD:=⟨0,0,[]⟩
def ev0:EvD:=⟨0,0,0,0,ans0,[]⟩
structure PlayD (S:Sys) where
 wd:WD
 obj:S.ω
 fin:List Bool
 hands:List (Option S.σ×Nat)
 evs:List EvD
 idle:Nat
def tickKey (wd:WD):List Int:=[2*(wd.now:Int)]
def keyOf (wd:WD) (p:Nat) (k:List Int):List Int:=if k=[] then (if wd.marks.getD p []=[] then tickKey wd else wd.marks.getD p []) else k
def finishEv (wd:WD) (p:Nat) (a:AnsD) (k:List Int) (e:EvD):EvD:={ e with steps:=e.steps+1,ans:=a,resp:=wd.now,key:=keyOf wd p k }
def stepEv (e:EvD):EvD:={ e with steps:=e.steps+1 }
def modEv (l:List EvD) (i:Nat) (f:EvD->EvD):List EvD:=l.set i (f (l.getD i ev0))
variable (S:Sys)
def goStep (st:PlayD S) (p i:Nat) (s:S.σ):PlayD S×Bool:=
 let r:=S.step st.obj st.wd p s
 if r.2.2.2 then ({ st with obj:=r.1,wd:=r.2.1,hands:=st.hands.set p (none,i),evs:=modEv st.evs i (finishEv r.2.1 p (S.answer r.2.2.1).1 (S.answer r.2.2.1).2) },true)
 else ({ st with obj:=r.1,wd:=r.2.1,hands:=st.hands.set p (some r.2.2.1,i),evs:=modEv st.evs i stepEv },false)
def WD.tick (wd:WD):WD:={ wd with now:=wd.now+1 }
def WD.begin (wd:WD) (p:Nat):WD:={ wd with inv:=wd.inv.set p wd.now,marks:=wd.marks.set p [] }
def newEv (i:Nat) (wd:WD):EvD:=⟨i,wd.now,0,0,ans0,[]⟩
def startD (o:S.ω) (wd:WD) (p:Nat) (c:CallD):Mc S.σ:=if c.obj=0 then S.start o wd p c else .refuse 12
def stepD (calls:List CallD) (st:PlayD S) (p i:Nat):PlayD S×Bool:=
 match (st.hands.getD p (none,0)).1 with
 | some s=>goStep S { st with wd:=st.wd.tick } p (st.hands.getD p (none,0)).2 s
 | none=>
  let wd:=st.wd.tick.begin p
  match startD S st.obj wd p (calls.getD i d0) with
  | .refuse e=>({ st with wd:=wd,hands:=st.hands.set p (none,st.evs.length),evs:=st.evs++[finishEv wd p ⟨e,0,[]⟩ [] (newEv i wd)] },true)
  | .run s=>goStep S { st with wd:=wd,hands:=st.hands.set p (some s,st.evs.length),evs:=st.evs++[newEv i wd] } p st.evs.length s
def pickD (calls:List CallD) (st:PlayD S) (p:Int):PlayD S:=
 match nowN calls st.fin p with
 | none=>{ st with idle:=st.idle+1 }
 | some i=>
  let r:=stepD S calls st p.toNat i
  if r.2 then { r.1 with fin:=r.1.fin.set i true } else r.1
def picksD (calls:List CallD) (st:PlayD S) (picks:List Int):PlayD S:=picks.foldl (pickD S calls) st
def endEv (st:PlayD S) (evs:List EvD) (p:Nat):List EvD:=
 match st.hands.getD p (none,0) with
 | (none,_)=>evs
 | (some s,i)=>modEv evs i λe=>{ e with key:=(S.late st.obj st.wd p s).getD (st.wd.marks.getD p []) }
def endD (st:PlayD S):List EvD:=(List.range 16).foldl (endEv S st) st.evs
def reportD (st:PlayD S):RepD:=⟨endD S st,st.wd.mem.ws,st.wd.mem.c,st.wd.now,st.idle⟩
def wd0 (ws:List Nat):WD:=⟨⟨ws,c0⟩,0,List.replicate 16 0,List.replicate 16 [],λ_=>[]⟩
def play0 (o:S.ω) (ws:List Nat) (calls:List CallD):PlayD S:=⟨wd0 ws,o,List.replicate calls.length false,List.replicate 16 (none,0),[],0⟩
def playD (o:S.ω) (ws:List Nat) (calls:List CallD) (picks:List Int):RepD:=reportD S (picksD S calls (play0 S o ws calls) picks)
end
section

/- Layer 6: where a play's world lies in memory; the methods of loom.World. -/
open Go.RowKit
def Lst (w:World) (Mut:Nat->Prop) (v:Value) (l:List Int):Prop:=
 ∃ a c,v=.slice a l.length c/\(l=[]->v=.slice none 0 0)/\SlAt w a l.length 1 (intG l)/\(∀ b off,a=some ⟨b,off,none⟩->¬ Mut b)
def LstU (w:World) (Mut:Nat->Prop) (v:Value) (l:List Nat):Prop:=
 ∃ a c,v=.slice a l.length c/\SlAt w a l.length 1 (u64G l)/\(0<l.length->∀ b off,a=some ⟨b,off,none⟩->¬ Mut b)
def MutUp (Mut:Nat->Prop) (w:World) (Mut':Nat->Prop):Prop:=∀ b,Mut' b->Mut b∨w.heap.size<=b
theorem MutUp.refl (Mut:Nat->Prop) (w:World):MutUp Mut w Mut:=λ_ h=>.inl h
theorem MutUp.trans {Mut Mut' Mut'':Nat->Prop} {w w':World} (h:MutUp Mut w Mut') (h':MutUp Mut' w' Mut'') (hs:w.heap.size<=w'.heap.size):MutUp Mut w Mut'':=
 λb x=>by rcases h' b x with y|y;exact h b y;exact .inr (Nat.le_trans hs y)
theorem SlAt.lt {w:World} {a:Option Addr} {n k:Nat} {g:Nat->Nat->Value} (h:SlAt w a n k g) (hn:0<n):∃ b off,a=some ⟨b,off,none⟩/\b<w.heap.size:=by
 obtain⟨b,off,h1,h2,_⟩:=h.2 0 hn
 exact⟨b,off,h1,h2⟩
theorem Lst.nil (w:World) (Mut:Nat->Prop):Lst w Mut (.slice none 0 0) []:=⟨none,0,rfl,λ_=>rfl,SlAt.nil _ _ _ _,λ_ _ h=>by cases h⟩
theorem Lst.keep {w w':World} {S Mut Mut':Nat->Prop} {v:Value} {l:List Int} (h:Lst w Mut v l) (hc:Chg S w w') (hS:∀ b,S b->Mut b) (hm:MutUp Mut w Mut'):Lst w' Mut' v l:=by
 obtain⟨a,c,h1,h2,h3,h4⟩:=h
 rcases Nat.eq_zero_or_pos l.length with h0|h0
 ·have:=h2 (List.eq_nil_of_length_eq_zero h0)
  obtain rfl:=List.eq_nil_of_length_eq_zero h0
  rw [this];exact Lst.nil _ _
 ·obtain⟨b0,off0,e0,hb0⟩:=h3.lt h0
  refine⟨a,c,h1,h2,h3.chg hc (λb off e hs=>h4 b off e (hS b hs)),λb off e hs=>?_⟩
  rw [e0] at e;cases e
  rcases hm b0 hs with h|h
  ·exact h4 b0 off0 e0 h
  ·omega
theorem LstU.nil (w:World) (Mut:Nat->Prop):LstU w Mut (.slice none 0 0) []:=⟨none,0,rfl,SlAt.nil _ _ _ _,λ_ _ _ h=>by cases h⟩
theorem LstU.keep {w w':World} {S Mut Mut':Nat->Prop} {v:Value} {l:List Nat} (h:LstU w Mut v l) (hc:Chg S w w') (hS:∀ b,S b->Mut b) (hm:MutUp Mut w Mut'):LstU w' Mut' v l:=by
 obtain⟨a,c,h1,h3,h4⟩:=h
 rcases Nat.eq_zero_or_pos l.length with h0|h0
 ·exact⟨a,c,h1,by rw [h0];exact SlAt.nil _ _ _ _,λh=>by omega⟩
 ·obtain⟨b0,off0,e0,hb0⟩:=h3.lt h0
  refine⟨a,c,h1,h3.chg hc (λb off e hs=>h4 h0 b off e (hS b hs)),λ_ b off e hs=>?_⟩
  rw [e0] at e;cases e
  rcases hm b0 hs with h|h
  ·exact h4 h0 b0 off0 e0 h
  ·omega
def worldL (bm now:Nat) (inv:List Nat) (mks:List Value) (bt:Nat):List Value:=.pointer (some ⟨bm,0,none⟩)::.int .i64 (now:Int)::(inv.map natV++(mks++[.map (some bt)]))
def worldCells (bm now:Nat) (inv:List Nat) (mks:List Value) (bt:Nat):Array Value:=(worldL bm now inv mks bt).toArray
structure WIds where
 bW:Nat
 bm:Nat
 bt:Nat
 bw:Option Nat
def WSet (I:WIds) (b:Nat):Prop:=b=I.bW∨b=I.bm∨b=I.bt∨some b=I.bw
structure WorldAt (w:World) (Mut:Nat->Prop) (I:WIds) (N:Nat) (wd:WD):Prop where
 blk:∃ mks:List Value,w.heap[I.bW]?=some (.cells (worldCells I.bm wd.now wd.inv mks I.bt) 127 (0,0))/\mks.length=16/\∀ p,p<16->Lst w Mut (mks.getD p undef) (wd.marks.getD p [])
 inv16:wd.inv.length=16
 mk16:wd.marks.length=16
 mem:MemAt w I.bm I.bw wd.mem
 tr:∃ n M,MapAt w I.bt n M/\n<=N/\∀ key,Lst w Mut (M key) (wd.traces key)
 sep:I.bW≠I.bm/\I.bW≠I.bt/\I.bm≠I.bt/\I.bw≠some I.bW/\I.bw≠some I.bt
 muts:∀ b,WSet I b->Mut b
 low:∀ b,Mut b->b<w.heap.size
 nowlt:wd.now<1000000000
 nlt:N<1000000000
theorem WorldAt.wlt {w:World} {Mut:Nat->Prop} {I:WIds} {N:Nat} {wd:WD} (h:WorldAt w Mut I N wd):I.bW<w.heap.size:=by obtain⟨_,h1,_⟩:=h.blk;exact blk_lt h1
theorem WorldAt.keep {w w':World} {S Mut Mut':Nat->Prop} {I:WIds} {N:Nat} {wd:WD} (h:WorldAt w Mut I N wd) (hc:Chg S w w') (hS:∀ b,S b->Mut b) (hW:∀ b,S b->¬ WSet I b) (hm:MutUp Mut w Mut') (hl:∀ b,Mut' b->b<w'.heap.size) (hWm:∀ b,WSet I b->Mut' b):WorldAt w' Mut' I N wd:=by
 obtain⟨⟨mks,h1,h2,h3⟩,h4,h5,h6,⟨n,M,h7,h8,h9⟩,h10,h11,h12,h13,h14⟩:=h
 have nS:∀ b,WSet I b->¬ S b:=λb hb hs=>hW b hs hb
 exact⟨⟨mks,(hc.block _ (blk_lt h1) (nS _ (.inl rfl))).trans h1,h2,λp hp=>(h3 p hp).keep hc hS hm⟩,h4,h5,h6.chg hc (nS _ (.inr (.inl rfl))) (λq e=>nS _ (.inr (.inr (.inr e.symm)))),⟨n,M,h7.block (hc.block _ h7.lt (nS _ (.inr (.inr (.inl rfl))))),h8,λk=>(h9 k).keep hc hS hm⟩,h10,hWm,hl,h13,h14⟩
theorem world_now {bm now:Nat} {inv:List Nat} {mks:List Value} {bt:Nat}:(worldCells bm now inv mks bt)[1]?=some (.int .i64 (now:Int)):=rfl
theorem world_mem {bm now:Nat} {inv:List Nat} {mks:List Value} {bt:Nat}:(worldCells bm now inv mks bt)[0]?=some (.pointer (some ⟨bm,0,none⟩)):=rfl
theorem world_inv {bm now:Nat} {inv:List Nat} {mks:List Value} {bt p:Nat} (hi:inv.length=16) (hp:p<16):(worldCells bm now inv mks bt)[2+p]?=some (.int .i64 ((inv.getD p 0:Nat):Int)):=by
 have hp':p<inv.length:=by omega
 simp [worldCells,worldL,Nat.add_comm 2 p,natV,List.getD_eq_getElem?_getD,List.getElem?_append,hp']
theorem world_mark {bm now:Nat} {inv:List Nat} {mks:List Value} {bt p:Nat} (hi:inv.length=16) (hm:mks.length=16) (hp:p<16):(worldCells bm now inv mks bt)[18+p]?=some (mks.getD p undef):=by
 have hp':p<mks.length:=by omega
 simp [worldCells,worldL,show 18+p=(p+16)+1+1 by omega,List.getD_eq_getElem?_getD,List.getElem?_append,hi,hp']
theorem world_set_now {bm now now':Nat} {inv:List Nat} {mks:List Value} {bt:Nat}:(worldCells bm now inv mks bt).setIfInBounds 1 (.int .i64 (now':Int))=worldCells bm now' inv mks bt:=by
 simp [worldCells,worldL]
theorem world_set_inv {bm now v:Nat} {inv:List Nat} {mks:List Value} {bt p:Nat} (hi:inv.length=16) (hp:p<16):(worldCells bm now inv mks bt).setIfInBounds (2+p) (.int .i64 (v:Int))=worldCells bm now (inv.set p v) mks bt:=by
 have hp':p<inv.length:=by omega
 simp [worldCells,worldL,Nat.add_comm 2 p,natV,hp',List.map_set]
theorem world_set_mark {bm now:Nat} {v:Value} {inv:List Nat} {mks:List Value} {bt p:Nat} (hi:inv.length=16) (hm:mks.length=16) (hp:p<16):(worldCells bm now inv mks bt).setIfInBounds (18+p) v=worldCells bm now inv (mks.set p v) bt:=by
 have hp':p<mks.length:=by omega
 simp [worldCells,worldL,show 18+p=(p+16)+1+1 by omega,hi,hp']
theorem tick_any (w:World) (Mut:Nat->Prop) (I:WIds) (N:Nat) (wd:WD) (h:WorldAt w Mut I N wd) :
  Calls Tryz.prog 60 #[.pointer (some ⟨I.bW,0,none⟩)] w λe w'=>e=.returned (.slice (some ⟨w.heap.size,0,none⟩) 1 1)/\Lst w' Mut (.slice (some ⟨w.heap.size,0,none⟩) 1 1) (tickKey wd)/\Below w.heap.size w w':=by
 obtain⟨mks,hb,hm,_⟩:=h.blk
 obtain⟨x,hx⟩:∃ x:Nat,x=wd.now:=⟨_,rfl⟩
 have c0:w.cell? ⟨I.bW,1,none⟩=some (.int .i64 (x:Int)):=by rw [cell_blk hb,world_now,hx]
 have hl:=h.nowlt
 rw [<-hx] at hl
 have hk:tickKey wd=[2*(x:Int)]:=by unfold tickKey;rw [hx]
 have hlst:Lst (w.alloc (.cells #[.int .i64 (2*(x:Int))] 3)) Mut (.slice (some ⟨w.heap.size,0,none⟩) 1 1) (tickKey wd):=by
  rw [hk]
  refine⟨_,_,rfl,(λh=>by cases h),⟨by unfold maxLen;simp,λj hj=>⟨_,_,rfl,by simp,λf hf=>?_⟩⟩,λb off e hs=>?_⟩
  ·obtain rfl:f=0:=by omega
   obtain rfl:j=0:=by simpa using hj
   rw [cell_new];rfl
  ·cases e;have:=h.low _ hs;omega
 have Hl:=Lib.hid hlst
 clear h hb hx hk hlst
 go_enter Tryz.func60,Tryz.ntmps60
 go_wp2
 go_ret
 exact⟨rfl,Hl.out,Gr.new _ _⟩
def updT (t:Int->List Int) (a:Int) (l:List Int):Int->List Int:=λx=>if x=a then l else t x
end
section

/- Layer 6: machines of one step; operations that are refused; calls through interfaces. -/
open Go.RowKit
structure Meth (T:TypeId) (x:Value) (name:String) (K:FuncId) (recv:Value):Prop where
 ahead:∀(F:Nat) (w:World),(nilAhead (F+1) T x name).run Tryz.prog w=.ok (some false) w
 meth:∀(F:Nat) (w:World),(method (F+1) T x name).run Tryz.prog w=.ok (K,recv) w
 enter:∀(args:Array Value) (w:World),(callFunc K args).run Tryz.prog w=.ok (.enter K args) w
theorem once_step_m (a : Addr) : Meth 208 (.pointer (some a)) "Step" 186 (.pointer (some a)) := ⟨fun _ _ => by kernel_rfl, fun _ _ => by kernel_rfl, fun _ _ => by kernel_rfl⟩
theorem once_answer_m (a : Addr) : Meth 208 (.pointer (some a)) "Answer" 185 (.pointer (some a)) := ⟨fun _ _ => by kernel_rfl, fun _ _ => by kernel_rfl, fun _ _ => by kernel_rfl⟩
def ansV (er:Int) (vl:Nat) (lv:Value):Value:=.agg #[.int .i64 er,.int .u64 (vl:Int),lv]
def onceCells (K:FuncId) (cap:Array Value) (er:Int) (vl:Nat):Array Value:=#[.func (.func K) #[] cap,.int .i64 er,.int .u64 (vl:Int),.slice none 0 0]
def OncePost (b K:Nat) (cap:Array Value) (Q:Int->Nat->World->Prop) (e:Ending) (w':World):Prop:=
 e=.returned (.bool true)/\∃ er vl w1,Q er vl w1/\w'.heap[b]?=some (.cells (onceCells K cap er vl) 210 (0,0))/\Chg (λk=>k=b) w1 w'
def OnceIn (b:Nat) (w:World) (Q:Int->Nat->World->Prop) (e:Ending) (w1:World):Prop:=∃(er:Int) (vl:Nat),e=.returned (ansV er vl (.slice none 0 0))/\w1.heap[b]?=w.heap[b]?/\Q er vl w1
theorem once_step (b K:Nat) (cap:Array Value) (pw:Value) (w:World) (Q:Int->Nat->World->Prop) {er0:Int} {vl0:Nat} (h:w.heap[b]?=some (.cells (onceCells K cap er0 vl0) 210 (0,0)))
  (hK:∀(args:Array Value) (u:World),(callFunc K args).run Tryz.prog u=.ok (.enter K args) u) (hC:Calls Tryz.prog K (#[pw]++cap) w (OnceIn b w Q)) :
  Calls Tryz.prog 186 #[.pointer (some ⟨b,0,none⟩),pw] w (OncePost b K cap Q):=by
 have c0:w.cell? ⟨b,0,none⟩=some (.func (.func K) #[] cap):=by rw [cell_blk h];rfl
 have HC:=Lib.hid hC;have Hh:=Lib.hid h
 clear hC h
 go_enter Tryz.func186,Tryz.ntmps186
 go_wp2_with fail
 refine HC.out.mono ?_
 rintro e w1 ⟨er,vl,rfl,hb,hq⟩
 have hb1:=hb.trans Hh.out
 have c1:w1.cell? ⟨b,1,none⟩=some (.int .i64 er0):=by rw [cell_blk hb1];rfl
 have c2:w1.cell? ⟨b,2,none⟩=some (.int .u64 (vl0:Int)):=by rw [cell_blk hb1];rfl
 have c3:w1.cell? ⟨b,3,none⟩=some (.slice none 0 0):=by rw [cell_blk hb1];rfl
 have f1:w1.frozen? ⟨b,1,none⟩=false:=frozen_blk hb1 1
 have f2:w1.frozen? ⟨b,2,none⟩=false:=frozen_blk hb1 2
 have f3:w1.frozen? ⟨b,3,none⟩=false:=frozen_blk hb1 3
 have Hq:=Lib.hid hq;have Hb1:=Lib.hid hb1
 unfold ansV
 clear hb hq hb1
 go_wp2
 go_ret
 refine⟨rfl,er,vl,w1,Hq.out,?_,?_⟩
 ·rw [blk_set (blk_set (blk_set Hb1.out _ _) _ _)]
  rfl
 ·exact(((Chg.refl (λk=>k=b) w1).setCell (p:=⟨b,1,none⟩) (.inl rfl) _).setCell (p:=⟨b,2,none⟩) (.inl rfl) _).setCell (p:=⟨b,3,none⟩) (.inl rfl) _
theorem once_answer (b K:Nat) (cap:Array Value) (er:Int) (vl:Nat) (w:World) (h:w.heap[b]?=some (.cells (onceCells K cap er vl) 210 (0,0))) :
  Calls Tryz.prog 185 #[.pointer (some ⟨b,0,none⟩)] w λe w'=>e=.returned (.tuple #[ansV er vl (.slice none 0 0),.slice none 0 0])/\Below w.heap.size w w':=by
 have hlt:=blk_lt h
 have hb2:(w.alloc (.cells #[.int .i64 0,.int .u64 0,.slice none 0 0] 50)).heap[b]?=some (.cells (onceCells K cap er vl) 210 (0,0)):=by rw [Below.heap_alloc _ _ _ hlt];exact h
 have c1:(w.alloc (.cells #[.int .i64 0,.int .u64 0,.slice none 0 0] 50)).cell? ⟨b,1,none⟩=some (.int .i64 er):=by rw [cell_blk hb2];rfl
 have c2:(w.alloc (.cells #[.int .i64 0,.int .u64 0,.slice none 0 0] 50)).cell? ⟨b,2,none⟩=some (.int .u64 (vl:Int)):=by rw [cell_blk hb2];rfl
 have c3:(w.alloc (.cells #[.int .i64 0,.int .u64 0,.slice none 0 0] 50)).cell? ⟨b,3,none⟩=some (.slice none 0 0):=by rw [cell_blk hb2];rfl
 clear h hb2
 unfold ansV
 go_enter Tryz.func185,Tryz.ntmps185
 go_wp2
 exact bodyPost_ret (v:=.tuple #[.agg #[.int .i64 er,.int .u64 (vl:Int),.slice none 0 0],.slice none 0 0]) (by simp [results,Tryz.results185 ,go_sem]) rfl ⟨rfl,Gr.new _ _⟩
theorem enter_refuse (args:Array Value) (u:World):(callFunc 115 args).run Tryz.prog u=.ok (.enter 115 args) u:=by kernel_rfl
def RefuseAt (w:World) (b be:Nat) (e:Int):Prop:=
 w.heap[b]?=some (.cells (onceCells 115 #[.pointer (some ⟨be,0,none⟩)] 0 0) 210 (0,0))/\w.cell? ⟨be,0,none⟩=some (.int .i64 e)/\be≠b
theorem refuse_any (er:Int) (w:World) :
  Calls Tryz.prog 85 #[.int .i64 er] w λe w'=>e=.returned (.iface 208 (.pointer (some ⟨w.heap.size+1,0,none⟩)))/\RefuseAt w' (w.heap.size+1) w.heap.size er/\Below w.heap.size w w':=by
 go_enter Tryz.func85,Tryz.ntmps85
 go_wp2
 go_ret
 refine⟨rfl,⟨?_,?_,by omega⟩,Gr.alloc (Gr.new _ _) _⟩
 ·have:=heap_alloc_new (w.alloc (.cells #[.int .i64 er] 33)) (.cells (onceCells 115 #[.pointer (some ⟨w.heap.size,0,none⟩)] 0 0) 210 (0,0))
  rw [World.size_alloc] at this
  exact this
 ·rw [World.cell?_alloc_lt _ _ _ (by simp),cell_new];rfl
theorem refuse_in (b be:Nat) (er:Int) (pw:Value) (w:World) (h:RefuseAt w b be er) :
  Calls Tryz.prog 115 (#[pw]++#[.pointer (some ⟨be,0,none⟩)]) w (OnceIn b w λe v w1=>e=er/\v=0/\Below w.heap.size w w1):=by
 obtain⟨h1,h2,h3⟩:=h
 have hlt:=blk_lt h1
 have hlt2:=World.block_lt_of_cell? _ _ h2
 show Calls Tryz.prog 115 #[pw,.pointer (some ⟨be,0,none⟩)] w _
 have c2:(w.alloc (.cells #[.int .i64 0,.int .u64 0,.slice none 0 0] 50)).cell? ⟨be,0,none⟩=some (.int .i64 er):=by rw [World.cell?_alloc_lt _ _ _ hlt2];exact h2
 clear h1 h2 h3
 go_enter Tryz.func115,Tryz.ntmps115
 go_wp2
 exact bodyPost_ret (v:=ansV er 0 (.slice none 0 0)) (by simp [results,Tryz.results115 ,go_sem,ansV]) rfl ⟨er,0,rfl,Below.heap_alloc _ _ _ hlt,rfl,rfl,Gr.new _ _⟩
end
end Go.Proofs.YtfkokppncipgnaaGreat
