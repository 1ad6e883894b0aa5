/- Contracts of package pick: what a line is behind New, and how it goes on. -/
import Derived.Test.YtfkokppncipgnaaGreatW04
import Derived.Test.YtfkokppncipgnaaGreatW02
import Derived.Laws.EntriesVeiled
import Derived.Deep.RegionHeld3
import Derived.Test.YtfkokppncipgnaaGreatW05
set_option maxRecDepth 100000
set_option linter.unusedVariables false
set_option linter.unusedSimpArgs false
set_option linter.unnecessarySimpa false
namespace Go.Proofs.YtfkokppncipgnaaGreat
open List renaming getElem_toArray → zq1, getElem_cons_zero → zq2, getElem_cons_succ → zq3, setIfInBounds_toArray → zq4, set_cons_zero → zq5, set_cons_succ → zq6
section
open Go.RowKit
theorem Ll {w:World} {B:Nat} {v:Value} {e:TypeId} {n:Nat} {xs:List Value} {g:Nat->Nat->Value} (h:w.ownsRow B e 1 v n xs) (hm:n<=maxLen) (hg:∀ j,j<n->xs[j]?=some (g j 0)) :
  ∃ a c,v=.slice a n c/\n<=c/\cB w a n 1 g/\(∀ b off,a=some ⟨b,off,none⟩->B<=b/\v.ownBlock=some b):=by
 obtain⟨a,c,hv,hs,hB⟩:=FM h hm hg
 refine⟨a,c,hv,?_,hs,λb off e=>⟨hB b off e,by rw [hv,e];rfl⟩⟩
 obtain⟨_,h2⟩:=h
 rcases h2 with⟨h3,h0⟩|⟨q,cap,cur,h3,_,_,hn,_⟩
 ·omega
 ·rw [hv] at h3;cases h3;exact hn
theorem Oc {a b:Int} (h:a=b):Ending.returned (.int .i64 a)=.returned (.int .i64 b):=by rw [h]
theorem UE {w wr:World} {l:List aD} {M:Int->Value} (h:ZH w wr l l.length M) (hl:l.length<=1000) :
  iT wr (λb=>w.heap.size<=b/\b<wr.heap.size) (w.heap.size+1) w.heap.size l.length M (qOf l l.length) (l.length:Int):=by
 refine⟨h.line,h.map,λp=>?_⟩
 have hq:=ZI l l.length p
 obtain⟨a,c,h1,h2,h3,h4⟩:=Ll (g:=Jz (qOf l l.length p)) (h.rows p) (by unfold maxLen;omega) (λj hj=>by simp [Jz,gD,List.getD_eq_getElem?_getD,hj])
 refine⟨a,c,h1,h2,h3,λb off e=>?_⟩
 have h5:=(h4 b off e).2
 obtain⟨_,h6⟩:=h.rows p
 rcases h6 with⟨h7,_⟩|⟨g,cap,cur,h7,h77,h8,_⟩
 ·rw [h7] at h5;cases h5
 ·rw [h7] at h5
  simp only [Value.ownBlock,Option.some.injEq] at h5
  subst h5
  refine⟨?_,?_,h77,aC h8⟩
  ·rintro rfl;rw [h.line] at h8;simp at h8
  ·rintro rfl
   obtain⟨D,⟨es,clock,h9,_⟩,_⟩:=h.map
   rw [h9] at h8;cases h8
def Ec (l:List Bool) (j _f:Nat):Value:=.bool (l.getD j false)
def wH (l:List aD) (fin:List Bool) (p:Int) (i:Nat):Bool:=decide ((l.getD i d0).thread=p) && !(fin.getD i false)
def gF (l:List aD) (fin:List Bool) (p:Int):Option Nat:=(List.range l.length).find? (wH l fin p)
def Dc (o:Option Nat):Int:=match o with|some i=>(i:Int)|none=>-1
theorem wY (f:Nat->Bool) (n k:Nat) (hk:k<=n) (h:∀ j,j<k->f j=false):(List.range n).find? f=((List.range (n - k)).map (k+·)).find? f:=by
 rw [show List.range n=List.range k++(List.range (n - k)).map (k+·) from Deep.range_split hk,List.find?_append]
 have:(List.range k).find? f=none:=by
  rw [List.find?_eq_none]
  intro x hx
  simpa using h x (List.mem_range.1 hx)
 rw [this];rfl
def qF (l:List aD) (fin:List Bool) (p:Int):List Nat:=(List.range l.length).filter (wH l fin p)
theorem Lh (l:List aD) (p:Int):qF l (List.replicate l.length false) p=qOf l l.length p:=by
 unfold qF qOf
 apply List.filter_congr
 intro i hi
 have:=List.mem_range.1 hi
 unfold wH d0
 simp [List.getD_eq_getElem?_getD,List.getElem?_replicate,this]
theorem vK (l:List aD) (fin:List Bool) (p:Int):gF l fin p=(qF l fin p).head?:=by
 unfold gF qF
 rw [List.head?_filter]
theorem fC {l:List aD} {fin:List Bool} {p:Int} {i:Nat} (h:gF l fin p=some i):i<l.length/\(l.getD i d0).thread=p/\fin.getD i false=false:=by
 unfold gF at h
 have h1:=List.find?_some h
 have h2:=List.mem_of_find?_eq_some h
 unfold wH at h1
 simp at h1
 exact⟨List.mem_range.1 h2,by simpa using h1.1,by simpa using h1.2⟩
theorem Gl {l:List aD} {fin:List Bool} {p:Int} {i:Nat} {r:List Nat} (hlen:fin.length=l.length) (h:qF l fin p=i::r):qF l (fin.set i true)=FT (qF l fin) p:=by
 have hn:gF l fin p=some i:=by rw [vK,h];rfl
 obtain⟨hi,ht,hf⟩:=fC hn
 have hnd:(qF l fin p).Nodup:=List.Pairwise.filter _ List.nodup_range
 funext x
 have key:∀ j,wH l (fin.set i true) x j=(wH l fin x j && !(decide (j=i))):=by
  intro j
  unfold wH
  by_cases hj:j=i
  ·subst hj
   simp [List.getD_eq_getElem?_getD,List.getElem?_set,hlen,hi]
  ·simp [List.getD_eq_getElem?_getD,List.getElem?_set,Ne.symm hj,hj]
 unfold FT
 by_cases hx:x=p
 ·subst hx
  rw [if_pos rfl,h]
  have e1:qF l (fin.set i true) x=(qF l fin x).filter (λj=>!(decide (j=i))):=by
   unfold qF
   rw [List.filter_filter]
   apply List.filter_congr
   intro j _
   rw [key,Bool.and_comm]
  rw [e1,h]
  rw [h] at hnd
  simp only [List.tail_cons]
  rw [List.filter_cons_of_neg (by simp),List.filter_eq_self]
  intro j hj
  have:=(List.nodup_cons.1 hnd).1
  simp
  rintro rfl
  exact this hj
 ·rw [if_neg hx]
  unfold qF
  apply List.filter_congr
  intro j _
  rw [key]
  by_cases hj:j=i
  ·subst hj
   unfold wH
   rw [ht]
   simp [Ne.symm hx]
  ·simp [hj]
theorem gZ {n:Int} {l:List aD} (h:gK n l=0):1<=n/\n<=16/\l.length<=1000/\kC n l=false:=by
 unfold gK at h
 split at h
 ·cases h
 ·split at h
  ·cases h
  ·rename_i h1 h2
   refine⟨by omega,by omega,by omega,?_⟩
   unfold kC
   cases hc:l.any (BU n) with
   | false=>rfl
   | true=>rw [hc] at h;simp at h
def Qw (n:Int) (l:List aD) (w:World) (e:Ending) (w':World):Prop:=
 (gK n l≠0/\e=.returned (.tuple #[.pointer none,.int .i64 (gK n l)])/\Below w.heap.size w w')∨
 (gK n l=0/\e=.returned (.tuple #[.pointer (some ⟨w.heap.size+1,0,none⟩),.int .i64 0])/\Below w.heap.size w w'/\∃ M,iT w' (λb=>w.heap.size<=b/\b<w'.heap.size) (w.heap.size+1) w.heap.size l.length M (qF l (List.replicate l.length false)) (l.length:Int))
theorem YZ (n:Int) (l:List aD) (a:Option Addr) (c:Nat) (w:World) (hs:cB w a l.length 6 (iX l)) (hwf:∀ x∈l,(Lit.int .i64 x.thread).wf=true) :
  Calls Tryz.prog 31 #[.int .i64 n,.slice a l.length c] w λe w'=>Qw n l w e w':=by
 by_cases h1:n<1∨16<n
 ·have hw:gK n l=1:=by unfold gK;rw [if_pos h1]
  refine(ZF n a l.length c w 1 hs.1 (.inl ⟨h1,rfl⟩)).mono ?_
  rintro e w' ⟨rfl,rfl⟩
  exact .inl ⟨by rw [hw];decide,by rw [hw],Gr.refl _⟩
 by_cases h2:1000<l.length
 ·have hw:gK n l=3:=by unfold gK;rw [if_neg h1,if_pos h2]
  refine(ZF n a l.length c w 3 hs.1 (.inr ⟨⟨by omega,by omega,h2⟩,rfl⟩)).mono ?_
  rintro e w' ⟨rfl,rfl⟩
  exact .inl ⟨by rw [hw];decide,by rw [hw],Gr.refl _⟩
 refine(Rb n l a c w hs (by omega) (by omega) (by omega) hwf).mono ?_
 rintro e w' (⟨hb,rfl,hbel⟩|⟨hb,rfl,M,hst⟩)
 ·have hw:gK n l=1:=by unfold gK;rw [if_neg h1,if_neg h2];exact if_pos hb
  exact .inl ⟨by rw [hw];decide,by rw [hw],hbel⟩
 ·have hw:gK n l=0:=by unfold gK;rw [if_neg h1,if_neg h2];exact if_neg (by unfold kC at hb;rw [hb];simp)
  have hq:qF l (List.replicate l.length false)=qOf l l.length:=funext (Lh l)
  exact .inr ⟨hw,rfl,hst.below,M,by rw [hq];exact UE hst (by omega)⟩
theorem iT.chg {S:Nat->Prop} {w w':World} {Z:Nat->Prop} {bl bm n:Nat} {M:Int->Value} {q:Int->List Nat} {left:Int} (h:iT w Z bl bm n M q left) (hc:Chg S w w') (h1:¬ S bl) (h2:¬ S bm) (h3:∀ b,Z b->¬ S b):iT w' Z bl bm n M q left:=by
 refine⟨(hc.block _ (aC h.line) h1).trans h.line,h.map.block (hc.block _ h.map.lt h2),λp=>?_⟩
 obtain⟨a,c,g1,g2,g3,g4⟩:=h.rows p
 exact⟨a,c,g1,g2,g3.chg hc (λb off e=>h3 b (g4 b off e).2.2),g4⟩
theorem iT.mono {w:World} {Z Z':Nat->Prop} {bl bm n:Nat} {M:Int->Value} {q:Int->List Nat} {left:Int} (h:iT w Z bl bm n M q left) (hz:∀ b,Z b->Z' b):iT w Z' bl bm n M q left:=
 ⟨h.line,h.map,λp=>by obtain⟨a,c,g1,g2,g3,g4⟩:=h.rows p;exact⟨a,c,g1,g2,g3,λb off e=>⟨(g4 b off e).1,(g4 b off e).2.1,hz b (g4 b off e).2.2⟩⟩⟩
theorem jT (v:Value) (n:Nat):madeCells #[v] n=(List.replicate n v).toArray:=by
 unfold madeCells
 apply Array.ext
 ·simp
 ·intro i h1 h2
  simp at h1 h2 ⊢
  simp [Nat.mod_one]
end
section
open Go.RowKit
structure TN where
 err:Int
 val:Nat
 list:List Nat
deriving DecidableEq
structure EvD where
 call:Nat
 inv:Nat
 resp:Nat
 steps:Nat
 ans:TN
 key:List Int
deriving DecidableEq
structure iN where
 evs:List EvD
 words:List Nat
 c:eO
 ticks:Nat
 idle:Nat
deriving DecidableEq
structure WD where
 mem:dR
 now:Nat
 inv:List Nat
 marks:List (List Int)
 traces:Int->List Int
inductive Mc (σ:Type) where
 | refuse (e:Int)
 | run (s:σ)
structure Sys where
 σ:Type
 ω:Type
 start:ω->WD->Nat->aD->Mc σ
 step:ω->WD->Nat->σ->ω×WD×σ×Bool
 answer:σ->TN×List Int
 late:ω->WD->Nat->σ->Option (List Int)
def SK:TN:=⟨0,0,[]⟩
def iO:EvD:=⟨0,0,0,0,SK,[]⟩
structure aP (S:Sys) where
 wd:WD
 obj:S.ω
 fin:List Bool
 hands:List (Option S.σ×Nat)
 evs:List EvD
 idle:Nat
def jW (wd:WD):List Int:=[2*(wd.now:Int)]
def keyOf (wd:WD) (p:Nat) (k:List Int):List Int:=if k=[] then (if wd.marks.getD p []=[] then jW wd else wd.marks.getD p []) else k
def dF (wd:WD) (p:Nat) (a:TN) (k:List Int) (e:EvD):EvD:={ e with steps:=e.steps+1,ans:=a,resp:=wd.now,key:=keyOf wd p k }
def aS (e:EvD):EvD:={ e with steps:=e.steps+1 }
def dA (l:List EvD) (i:Nat) (f:EvD->EvD):List EvD:=l.set i (f (l.getD i iO))
variable (S:Sys)
def gX (st:aP S) (p i:Nat) (s:S.σ):aP S×Bool:=
 let r:=S.step st.obj st.wd p s
 if r.2.2.2 then ({ st with obj:=r.1,wd:=r.2.1,hands:=st.hands.set p (none,i),evs:=dA st.evs i (dF r.2.1 p (S.answer r.2.2.1).1 (S.answer r.2.2.1).2) },true)
 else ({ st with obj:=r.1,wd:=r.2.1,hands:=st.hands.set p (some r.2.2.1,i),evs:=dA st.evs i aS },false)
def WD.tick (wd:WD):WD:={ wd with now:=wd.now+1 }
def WD.begin (wd:WD) (p:Nat):WD:={ wd with inv:=wd.inv.set p wd.now,marks:=wd.marks.set p [] }
def fZ (i:Nat) (wd:WD):EvD:=⟨i,wd.now,0,0,SK,[]⟩
def eG (o:S.ω) (wd:WD) (p:Nat) (c:aD):Mc S.σ:=if c.obj=0 then S.start o wd p c else .refuse 12
def fA (calls:List aD) (st:aP S) (p i:Nat):aP S×Bool:=
 match (st.hands.getD p (none,0)).1 with
 | some s=>gX S { st with wd:=st.wd.tick } p (st.hands.getD p (none,0)).2 s
 | none=>
  let wd:=st.wd.tick.begin p
  match eG S st.obj wd p (calls.getD i d0) with
  | .refuse e=>({ st with wd:=wd,hands:=st.hands.set p (none,st.evs.length),evs:=st.evs++[dF wd p ⟨e,0,[]⟩ [] (fZ i wd)] },true)
  | .run s=>gX S { st with wd:=wd,hands:=st.hands.set p (some s,st.evs.length),evs:=st.evs++[fZ i wd] } p st.evs.length s
def jQ (calls:List aD) (st:aP S) (p:Int):aP S:=
 match gF calls st.fin p with
 | none=>{ st with idle:=st.idle+1 }
 | some i=>
  let r:=fA S calls st p.toNat i
  if r.2 then { r.1 with fin:=r.1.fin.set i true } else r.1
def eF (calls:List aD) (st:aP S) (picks:List Int):aP S:=picks.foldl (jQ S calls) st
def yF (st:aP S) (evs:List EvD) (p:Nat):List EvD:=
 match st.hands.getD p (none,0) with
 | (none,_)=>evs
 | (some s,i)=>dA evs i λe=>{ e with key:=(S.late st.obj st.wd p s).getD (st.wd.marks.getD p []) }
def Je (st:aP S):List EvD:=(List.range 16).foldl (yF S st) st.evs
def zO (st:aP S):iN:=⟨Je S st,st.wd.mem.ws,st.wd.mem.c,st.wd.now,st.idle⟩
def cZ (ws:List Nat):WD:=⟨⟨ws,c0⟩,0,List.replicate 16 0,List.replicate 16 [],λ_=>[]⟩
def dG (o:S.ω) (ws:List Nat) (calls:List aD):aP S:=⟨cZ ws,o,List.replicate calls.length false,List.replicate 16 (none,0),[],0⟩
def uY (o:S.ω) (ws:List Nat) (calls:List aD) (picks:List Int):iN:=zO S (eF S calls (dG S o ws calls) picks)
end
section
open Go.RowKit
def Lst (w:World) (Mut:Nat->Prop) (v:Value) (l:List Int):Prop:=
 ∃ a c,v=.slice a l.length c/\(l=[]->v=.slice none 0 0)/\cB w a l.length 1 (kJ l)/\(∀ b off,a=some ⟨b,off,none⟩->¬ Mut b)
def fK (w:World) (Mut:Nat->Prop) (v:Value) (l:List Nat):Prop:=
 ∃ a c,v=.slice a l.length c/\cB w a l.length 1 (fE l)/\(0<l.length->∀ b off,a=some ⟨b,off,none⟩->¬ Mut b)
def aN (Mut:Nat->Prop) (w:World) (Mut':Nat->Prop):Prop:=∀ b,Mut' b->Mut b∨w.heap.size<=b
theorem aN.refl (Mut:Nat->Prop) (w:World):aN Mut w Mut:=λ_ h=>.inl h
theorem aN.trans {Mut Mut' Mut'':Nat->Prop} {w w':World} (h:aN Mut w Mut') (h':aN Mut' w' Mut'') (hs:w.heap.size<=w'.heap.size):aN Mut w Mut'':=
 λb x=>by rcases h' b x with y|y;exact h b y;exact .inr (Nat.le_trans hs y)
theorem cB.lt {w:World} {a:Option Addr} {n k:Nat} {g:Nat->Nat->Value} (h:cB w a n k g) (hn:0<n):∃ b off,a=some ⟨b,off,none⟩/\b<w.heap.size:=by
 obtain⟨b,off,h1,h2,_⟩:=h.2 0 hn
 exact⟨b,off,h1,h2⟩
theorem Lst.nil (w:World) (Mut:Nat->Prop):Lst w Mut (.slice none 0 0) []:=⟨none,0,rfl,λ_=>rfl,cB.nil _ _ _ _,λ_ _ h=>by cases h⟩
theorem Lst.keep {w w':World} {S Mut Mut':Nat->Prop} {v:Value} {l:List Int} (h:Lst w Mut v l) (hc:Chg S w w') (hS:∀ b,S b->Mut b) (hm:aN Mut w Mut'):Lst w' Mut' v l:=by
 obtain⟨a,c,h1,h2,h3,h4⟩:=h
 rcases Nat.eq_zero_or_pos l.length with h0|h0
 ·have:=h2 (List.eq_nil_of_length_eq_zero h0)
  obtain rfl:=List.eq_nil_of_length_eq_zero h0
  rw [this];exact Lst.nil _ _
 ·obtain⟨b0,KU,e0,hb0⟩:=h3.lt h0
  refine⟨a,c,h1,h2,h3.chg hc (λb off e hs=>h4 b off e (hS b hs)),λb off e hs=>?_⟩
  rw [e0] at e;cases e
  rcases hm b0 hs with h|h
  ·exact h4 b0 KU e0 h
  ·omega
theorem fK.nil (w:World) (Mut:Nat->Prop):fK w Mut (.slice none 0 0) []:=⟨none,0,rfl,cB.nil _ _ _ _,λ_ _ _ h=>by cases h⟩
theorem fK.keep {w w':World} {S Mut Mut':Nat->Prop} {v:Value} {l:List Nat} (h:fK w Mut v l) (hc:Chg S w w') (hS:∀ b,S b->Mut b) (hm:aN Mut w Mut'):fK w' Mut' v l:=by
 obtain⟨a,c,h1,h3,h4⟩:=h
 rcases Nat.eq_zero_or_pos l.length with h0|h0
 ·exact⟨a,c,h1,by rw [h0];exact cB.nil _ _ _ _,λh=>by omega⟩
 ·obtain⟨b0,KU,e0,hb0⟩:=h3.lt h0
  refine⟨a,c,h1,h3.chg hc (λb off e hs=>h4 h0 b off e (hS b hs)),λ_ b off e hs=>?_⟩
  rw [e0] at e;cases e
  rcases hm b0 hs with h|h
  ·exact h4 h0 b0 KU e0 h
  ·omega
theorem Lst.of_row {w w':World} {Mut:Nat->Prop} {v:Value} {l:List Int} {B:Nat} (h:w'.ownsRow B 3 1 v l.length (l.map (Value.int .i64))) (hB:w.heap.size<=B) (hm:∀ b,Mut b->b<w.heap.size) (hl:l.length<=1000000000) (hn:l=[]->v=.slice none 0 0):Lst w' Mut v l:=by
 obtain⟨a,c,rfl⟩:=dX h
 obtain⟨h1,h2⟩:=wR h (by unfold maxLen;omega) (g:=kJ l) (λj hj=>by simp [kJ,List.getD_eq_getElem?_getD,hj])
 exact⟨a,c,rfl,hn,h1,λb off e hs=>by have:=h2 b off e;have:=hm b hs;omega⟩
def BP (bm now:Nat) (inv:List Nat) (mks:List Value) (bt:Nat):List Value:=.pointer (some ⟨bm,0,none⟩)::.int .i64 (now:Int)::(inv.map gD++(mks++[.map (some bt)]))
def dD (bm now:Nat) (inv:List Nat) (mks:List Value) (bt:Nat):Array Value:=(BP bm now inv mks bt).toArray
structure iM where
 bW:Nat
 bm:Nat
 bt:Nat
 bw:Option Nat
def cK (I:iM) (b:Nat):Prop:=b=I.bW∨b=I.bm∨b=I.bt∨some b=I.bw
structure bJ (w:World) (Mut:Nat->Prop) (I:iM) (N:Nat) (wd:WD):Prop where
 blk:∃ mks:List Value,w.heap[I.bW]?=some (.cells (dD I.bm wd.now wd.inv mks I.bt) 127 (0,0))/\mks.length=16/\∀ p,p<16->Lst w Mut (mks.getD p undef) (wd.marks.getD p [])
 inv16:wd.inv.length=16
 mk16:wd.marks.length=16
 mem:fO w I.bm I.bw wd.mem
 tr:∃ n M,MapAt w I.bt n M/\n<=N/\∀ key,Lst w Mut (M key) (wd.traces key)
 sep:I.bW≠I.bm/\I.bW≠I.bt/\I.bm≠I.bt/\I.bw≠some I.bW/\I.bw≠some I.bt
 muts:∀ b,cK I b->Mut b
 low:∀ b,Mut b->b<w.heap.size
 nowlt:wd.now<1000000000
 nlt:N<1000000000
theorem bJ.wlt {w:World} {Mut:Nat->Prop} {I:iM} {N:Nat} {wd:WD} (h:bJ w Mut I N wd):I.bW<w.heap.size:=by obtain⟨_,h1,_⟩:=h.blk;exact aC h1
theorem bJ.keep {w w':World} {S Mut Mut':Nat->Prop} {I:iM} {N:Nat} {wd:WD} (h:bJ w Mut I N wd) (hc:Chg S w w') (hS:∀ b,S b->Mut b) (hW:∀ b,S b->¬ cK I b) (hm:aN Mut w Mut') (hl:∀ b,Mut' b->b<w'.heap.size) (hWm:∀ b,cK I b->Mut' b):bJ w' Mut' I N wd:=by
 obtain⟨⟨mks,h1,h2,h3⟩,h4,h5,h6,⟨n,M,h7,h8,h9⟩,h10,h11,h12,h13,h14⟩:=h
 have nS:∀ b,cK I b->¬ S b:=λb hb hs=>hW b hs hb
 exact⟨⟨mks,(hc.block _ (aC h1) (nS _ (.inl rfl))).trans h1,h2,λp hp=>(h3 p hp).keep hc hS hm⟩,h4,h5,h6.chg hc (nS _ (.inr (.inl rfl))) (λq e=>nS _ (.inr (.inr (.inr e.symm)))),⟨n,M,h7.block (hc.block _ h7.lt (nS _ (.inr (.inr (.inl rfl))))),h8,λk=>(h9 k).keep hc hS hm⟩,h10,hWm,hl,h13,h14⟩
theorem iL {bm now:Nat} {inv:List Nat} {mks:List Value} {bt:Nat}:(dD bm now inv mks bt)[1]?=some (.int .i64 (now:Int)):=rfl
theorem kE {bm now:Nat} {inv:List Nat} {mks:List Value} {bt:Nat}:(dD bm now inv mks bt)[0]?=some (.pointer (some ⟨bm,0,none⟩)):=rfl
theorem Bc {bm now:Nat} {inv:List Nat} {mks:List Value} {bt p:Nat} (hi:inv.length=16) (hp:p<16):(dD bm now inv mks bt)[2+p]?=some (.int .i64 ((inv.getD p 0:Nat):Int)):=by
 have hp':p<inv.length:=by omega
 simp [dD,BP,Nat.add_comm 2 p,gD,List.getD_eq_getElem?_getD,List.getElem?_append,hp']
theorem xO {bm now:Nat} {inv:List Nat} {mks:List Value} {bt p:Nat} (hi:inv.length=16) (hm:mks.length=16) (hp:p<16):(dD bm now inv mks bt)[18+p]?=some (mks.getD p undef):=by
 have hp':p<mks.length:=by omega
 simp [dD,BP,show 18+p=(p+16)+1+1 by omega,List.getD_eq_getElem?_getD,List.getElem?_append,hi,hp']
theorem UH {bm now:Nat} {inv:List Nat} {mks:List Value} {bt:Nat} (hi:inv.length=16) (hm:mks.length=16):(dD bm now inv mks bt)[34]?=some (.map (some bt)):=by
 simp [dD,BP,hi,hm]
theorem PN {bm now now':Nat} {inv:List Nat} {mks:List Value} {bt:Nat}:(dD bm now inv mks bt).setIfInBounds 1 (.int .i64 (now':Int))=dD bm now' inv mks bt:=by
 simp [dD,BP]
theorem PK {bm now v:Nat} {inv:List Nat} {mks:List Value} {bt p:Nat} (hi:inv.length=16) (hp:p<16):(dD bm now inv mks bt).setIfInBounds (2+p) (.int .i64 (v:Int))=dD bm now (inv.set p v) mks bt:=by
 have hp':p<inv.length:=by omega
 simp [dD,BP,Nat.add_comm 2 p,gD,hp',List.map_set]
theorem MM {bm now:Nat} {v:Value} {inv:List Nat} {mks:List Value} {bt p:Nat} (hi:inv.length=16) (hm:mks.length=16) (hp:p<16):(dD bm now inv mks bt).setIfInBounds (18+p) v=dD bm now inv (mks.set p v) bt:=by
 have hp':p<mks.length:=by omega
 simp [dD,BP,show 18+p=(p+16)+1+1 by omega,hi,hp']
theorem VS (w:World) (Mut:Nat->Prop) (I:iM) (N:Nat) (wd:WD) (h:bJ w Mut I N wd) :
  Calls Tryz.prog 60 #[.pointer (some ⟨I.bW,0,none⟩)] w λe w'=>e=.returned (.slice (some ⟨w.heap.size,0,none⟩) 1 1)/\Lst w' Mut (.slice (some ⟨w.heap.size,0,none⟩) 1 1) (jW wd)/\Below w.heap.size w w':=by
 obtain⟨mks,hb,hm,_⟩:=h.blk
 obtain⟨x,hx⟩:∃ x:Nat,x=wd.now:=⟨_,rfl⟩
 have c0:w.cell? ⟨I.bW,1,none⟩=some (.int .i64 (x:Int)):=by rw [aA hb,iL,hx]
 have hl:=h.nowlt
 rw [<-hx] at hl
 have hk:jW wd=[2*(x:Int)]:=by unfold jW;rw [hx]
 have hlst:Lst (w.alloc (.cells #[.int .i64 (2*(x:Int))] 3)) Mut (.slice (some ⟨w.heap.size,0,none⟩) 1 1) (jW wd):=by
  rw [hk]
  refine⟨_,_,rfl,(λh=>by cases h),⟨by unfold maxLen;simp,λj hj=>⟨_,_,rfl,by simp,λf hf=>?_⟩⟩,λb off e hs=>?_⟩
  ·obtain rfl:f=0:=by omega
   obtain rfl:j=0:=by simpa using hj
   rw [iI];rfl
  ·cases e;have:=h.low _ hs;omega
 have Hl:=Lib.hid hlst
 clear h hb hx hk hlst
 go_enter Tryz.func60,Tryz.ntmps60
 go_wp2
 go_ret
 exact⟨rfl,Hl.out,Gr.new _ _⟩
theorem Cq (w:World) (Mut:Nat->Prop) (I:iM) (N:Nat) (wd:WD) (a:Int) (h:bJ w Mut I N wd) (ha:(Lit.int .i64 a).wf=true) :
  Calls Tryz.prog 209 #[.pointer (some ⟨I.bW,0,none⟩),.int .i64 a] w λe w'=>(∃ v,e=.returned v/\Lst w Mut v (wd.traces a))/\w=w':=by
 obtain⟨mks,hb,hm,_⟩:=h.blk
 obtain⟨n,M,h1,_,h3⟩:=h.tr
 have c0:w.cell? ⟨I.bW,34,none⟩=some (.map (some I.bt)):=by rw [aA hb,UH h.inv16 hm]
 have hlk:=h1.look ha
 have H3:=Lib.hid (h3 a)
 clear h hb h1 h3
 go_enter Tryz.func209,Tryz.ntmps209
 go_wp2
 go_ret
 exact⟨⟨_,rfl,H3.out⟩,rfl⟩
theorem RY {w w':World} {Mut:Nat->Prop} {v:Value} {l:List Int} (h:w'.ownsRow w.heap.size 3 1 v l.length ((List.range l.length).map λj=>kJ l j 0)) (hm:∀ b,Mut b->b<w.heap.size) (hl:l.length<=1000000000) (hn:l≠[]):Lst w' Mut v l:=by
 refine Lst.of_row (B:=w.heap.size) ?_ (Nat.le_refl _) hm hl (λe=>absurd e hn)
 have e1:(List.range l.length).map (λj=>kJ l j 0)=l.map (Value.int .i64):=by
  apply List.ext_getElem
  ·simp
  ·intro i h1 h2
   simp at h1 h2
   simp [kJ,List.getD_eq_getElem?_getD,h2]
 rw [e1] at h
 exact h
def BF (t:Int->List Int) (a:Int) (l:List Int):Int->List Int:=λx=>if x=a then l else t x
theorem Fz (w:World) (Mut:Nat->Prop) (I:iM) (N:Nat) (wd:WD) (k:Int) (a:Option Addr) (c:Nat) (l:List Int) (h:bJ w Mut I N wd) (hk:(Lit.int .i64 k).wf=true) (hs:cB w a l.length 1 (kJ l)) (hl:l.length<=1000000) (hn:l≠[]) (hc:a=none->c=0) (hN:N+1<1000000000) :
  Calls Tryz.prog 222 #[.pointer (some ⟨I.bW,0,none⟩),.int .i64 k,.slice a l.length c] w λe w'=>e=.returned (.tuple #[])/\bJ w' Mut I (N+1) { wd with traces:=BF wd.traces k l }/\Chg (cK I) w w':=by
 have C:=Lib.hid (λ(u:World) (hb:Below w.heap.size w u)=>Bw a l.length c (kJ l) u (hs.grown hb) (λj=>rfl) (by omega) hc)
 obtain⟨mks,hb,hm,hmk⟩:=h.blk
 obtain⟨n,M,h7,h8,h9⟩:=h.tr
 have c0:w.cell? ⟨I.bW,34,none⟩=some (.map (some I.bt)):=by rw [aA hb,UH h.inv16 hm]
 have hwl:=h.wlt
 have hne:I.bW≠I.bt:=h.sep.2.1
 have Hmap:=Lib.hid (λ(u:World) (hb:Below w.heap.size w u)=>h7.block (hb.block _ h7.lt))
 have hn1:n<maxLen:=by have:=h.nlt;unfold maxLen;omega
 have Hfin:=Lib.hid (λ(u u2:World) (v:Value) (hr:u.ownsRow w.heap.size 3 1 v l.length ((List.range l.length).map λj=>kJ l j 0)) (hbu:Below w.heap.size w u) (hm2:MapAt u2 I.bt (n+1) (upd M k v)) (hg:u.grownBy u2 (some I.bt))=>
  (show bJ u2 Mut I (N+1) { wd with traces:=BF wd.traces k l }/\Chg (cK I) w u2 from by
   have VT:Chg (cK I) u u2:=(Chg.refl (cK I) u).grown hg (λq e=>by cases e;exact .inl (.inr (.inr (.inl rfl))))
   have hch:Chg (cK I) w u2:=(Chg.of_below hbu).trans VT
   have hlu:Lst u2 Mut v l:=(RY hr h.low (by omega) hn).keep (S:=cK I) (Mut:=Mut) VT h.muts (aN.refl _ _)
   refine⟨⟨⟨mks,?_,hm,λq hq=>(hmk q hq).keep hch h.muts (aN.refl _ _)⟩,h.inv16,h.mk16,?_,⟨n+1,_,hm2,by omega,λx=>?_⟩,h.sep,h.muts,λb hb=>Nat.lt_of_lt_of_le (h.low b hb) hch.size,h.nowlt,hN⟩,hch⟩
   ·rw [hg.block _ (Nat.lt_of_lt_of_le hwl hbu.size) (by simpa using hne),hbu.block _ hwl];exact hb
   ·refine(h.mem.gr hbu).chg (S:=λb=>b=I.bt) ((Chg.refl (λb=>b=I.bt) u).grown hg (λq e=>by cases e;exact .inl rfl)) (λe=>h.sep.2.2.1 e) (λq e1 e2=>h.sep.2.2.2.2 (by rw [e1,e2]))
   ·by_cases hx:x=k
    ·subst hx
     rw [upd_same];simp only [BF,if_true];exact hlu
    ·rw [lK _ _ hx];simp only [BF,if_neg hx];exact(h9 x).keep hch h.muts (aN.refl _ _)))
 clear h hb hmk hs hc hl hn h7 h9
 go_enter Tryz.func222,Tryz.ntmps222
 go_region_held3 (λu=>u.cell? ⟨I.bW,34,none⟩=some (.map (some I.bt)))
  (first|exact c0|exact c1|exact(hg4.cell_far _ (Nat.lt_of_lt_of_le hwl hbb.size) (by simpa using hne)).trans c1)
  ((go_at_call 223;refine(C.out _ ?_).mono ?_;(exact(Gr.refl _).drew);rintro e w1 ⟨v,rfl,ho,hbb,_⟩;obtain⟨va,vc,rfl⟩:=dX ho;replace hbb:=XQ hbb;have c1:=(hbb.cell (p:=⟨I.bW,34,none⟩) hwl).trans c0;obtain⟨w4,hrun,Ph,hg4⟩:=(Hmap.out _ hbb).put hn1 hk (.slice va l.length vc)))
 have Hf:=Lib.hid (Hfin.out _ _ _ ho hbb Ph hg4)
 clear ho hbb Ph hg4
 go_wp2
 go_end0
 exact⟨rfl,Hf.out⟩
end
section
open Go.RowKit
structure KD (T:TypeId) (x:Value) (name:String) (K:FuncId) (recv:Value):Prop where
 ahead:∀(F:Nat) (w:World),(nilAhead (F+1) T x name).run Tryz.prog w=.ok (some false) w
 meth:∀(F:Nat) (w:World),(method (F+1) T x name).run Tryz.prog w=.ok (K,recv) w
 enter:∀(args:Array Value) (w:World),(callFunc K args).run Tryz.prog w=.ok (.enter K args) w
theorem TY (a : Addr) : KD 208 (.pointer (some a)) "Step" 186 (.pointer (some a)) := ⟨fun _ _ => by kernel_rfl, fun _ _ => by kernel_rfl, fun _ _ => by kernel_rfl⟩
theorem PE (a : Addr) : KD 208 (.pointer (some a)) "Answer" 185 (.pointer (some a)) := ⟨fun _ _ => by kernel_rfl, fun _ _ => by kernel_rfl, fun _ _ => by kernel_rfl⟩
def EY (er:Int) (vl:Nat) (lv:Value):Value:=.agg #[.int .i64 er,.int .u64 (vl:Int),lv]
def kG (K:FuncId) (cap:Array Value) (er:Int) (vl:Nat):Array Value:=#[.func (.func K) #[] cap,.int .i64 er,.int .u64 (vl:Int),.slice none 0 0]
def Ef (b K:Nat) (cap:Array Value) (Q:Int->Nat->World->Prop) (e:Ending) (w':World):Prop:=
 e=.returned (.bool true)/\∃ er vl w1,Q er vl w1/\w'.heap[b]?=some (.cells (kG K cap er vl) 210 (0,0))/\Chg (λk=>k=b) w1 w'
def XI (b:Nat) (w:World) (Q:Int->Nat->World->Prop) (e:Ending) (w1:World):Prop:=∃(er:Int) (vl:Nat),e=.returned (EY er vl (.slice none 0 0))/\w1.heap[b]?=w.heap[b]?/\Q er vl w1
theorem Bb (b K:Nat) (cap:Array Value) (pw:Value) (w:World) (Q:Int->Nat->World->Prop) {OJ:Int} {LF:Nat} (h:w.heap[b]?=some (.cells (kG K cap OJ LF) 210 (0,0)))
  (hK:∀(args:Array Value) (u:World),(callFunc K args).run Tryz.prog u=.ok (.enter K args) u) (hC:Calls Tryz.prog K (#[pw]++cap) w (XI b w Q)) :
  Calls Tryz.prog 186 #[.pointer (some ⟨b,0,none⟩),pw] w (Ef b K cap Q):=by
 have c0:w.cell? ⟨b,0,none⟩=some (.func (.func K) #[] cap):=by rw [aA h];rfl
 have HC:=Lib.hid hC;have Hh:=Lib.hid h
 clear hC h
 go_enter Tryz.func186,Tryz.ntmps186
 go_wp2_with fail
 refine HC.out.mono ?_
 rintro e w1 ⟨er,vl,rfl,hb,hq⟩
 have hb1:=hb.trans Hh.out
 have c1:w1.cell? ⟨b,1,none⟩=some (.int .i64 OJ):=by rw [aA hb1];rfl
 have c2:w1.cell? ⟨b,2,none⟩=some (.int .u64 (LF:Int)):=by rw [aA hb1];rfl
 have c3:w1.cell? ⟨b,3,none⟩=some (.slice none 0 0):=by rw [aA hb1];rfl
 have f1:w1.frozen? ⟨b,1,none⟩=false:=aB hb1 1
 have f2:w1.frozen? ⟨b,2,none⟩=false:=aB hb1 2
 have f3:w1.frozen? ⟨b,3,none⟩=false:=aB hb1 3
 have Hq:=Lib.hid hq;have Hb1:=Lib.hid hb1
 unfold EY
 clear hb hq hb1
 go_wp2
 go_ret
 refine⟨rfl,er,vl,w1,Hq.out,?_,?_⟩
 ·rw [aG (aG (aG Hb1.out _ _) _ _)]
  rfl
 ·exact(((Chg.refl (λk=>k=b) w1).setCell (p:=⟨b,1,none⟩) (.inl rfl) _).setCell (p:=⟨b,2,none⟩) (.inl rfl) _).setCell (p:=⟨b,3,none⟩) (.inl rfl) _
theorem VR (b K:Nat) (cap:Array Value) (er:Int) (vl:Nat) (w:World) (h:w.heap[b]?=some (.cells (kG K cap er vl) 210 (0,0))) :
  Calls Tryz.prog 185 #[.pointer (some ⟨b,0,none⟩)] w λe w'=>e=.returned (.tuple #[EY er vl (.slice none 0 0),.slice none 0 0])/\Below w.heap.size w w':=by
 have hlt:=aC h
 have hb2:(w.alloc (.cells #[.int .i64 0,.int .u64 0,.slice none 0 0] 50)).heap[b]?=some (.cells (kG K cap er vl) 210 (0,0)):=by rw [Below.heap_alloc _ _ _ hlt];exact h
 have c1:(w.alloc (.cells #[.int .i64 0,.int .u64 0,.slice none 0 0] 50)).cell? ⟨b,1,none⟩=some (.int .i64 er):=by rw [aA hb2];rfl
 have c2:(w.alloc (.cells #[.int .i64 0,.int .u64 0,.slice none 0 0] 50)).cell? ⟨b,2,none⟩=some (.int .u64 (vl:Int)):=by rw [aA hb2];rfl
 have c3:(w.alloc (.cells #[.int .i64 0,.int .u64 0,.slice none 0 0] 50)).cell? ⟨b,3,none⟩=some (.slice none 0 0):=by rw [aA hb2];rfl
 clear h hb2
 unfold EY
 go_enter Tryz.func185,Tryz.ntmps185
 go_wp2
 exact bodyPost_ret (v:=.tuple #[.agg #[.int .i64 er,.int .u64 (vl:Int),.slice none 0 0],.slice none 0 0]) (by simp [results,Tryz.results185 ,go_sem]) rfl ⟨rfl,Gr.new _ _⟩
theorem RX (args:Array Value) (u:World):(callFunc 115 args).run Tryz.prog u=.ok (.enter 115 args) u:=by kernel_rfl
def DI (w:World) (b be:Nat) (e:Int):Prop:=
 w.heap[b]?=some (.cells (kG 115 #[.pointer (some ⟨be,0,none⟩)] 0 0) 210 (0,0))/\w.cell? ⟨be,0,none⟩=some (.int .i64 e)/\be≠b
theorem BC (er:Int) (w:World) :
  Calls Tryz.prog 85 #[.int .i64 er] w λe w'=>e=.returned (.iface 208 (.pointer (some ⟨w.heap.size+1,0,none⟩)))/\DI w' (w.heap.size+1) w.heap.size er/\Below w.heap.size w w':=by
 go_enter Tryz.func85,Tryz.ntmps85
 go_wp2
 go_ret
 refine⟨rfl,⟨?_,?_,by omega⟩,Gr.alloc (Gr.new _ _) _⟩
 ·have:=heap_alloc_new (w.alloc (.cells #[.int .i64 er] 33)) (.cells (kG 115 #[.pointer (some ⟨w.heap.size,0,none⟩)] 0 0) 210 (0,0))
  rw [World.size_alloc] at this
  exact this
 ·rw [World.cell?_alloc_lt _ _ _ (by simp),iI];rfl
theorem Ct (b be:Nat) (er:Int) (pw:Value) (w:World) (h:DI w b be er) :
  Calls Tryz.prog 115 (#[pw]++#[.pointer (some ⟨be,0,none⟩)]) w (XI b w λe v w1=>e=er/\v=0/\Below w.heap.size w w1):=by
 obtain⟨h1,h2,h3⟩:=h
 have hlt:=aC h1
 have hlt2:=World.block_lt_of_cell? _ _ h2
 show Calls Tryz.prog 115 #[pw,.pointer (some ⟨be,0,none⟩)] w _
 have c2:(w.alloc (.cells #[.int .i64 0,.int .u64 0,.slice none 0 0] 50)).cell? ⟨be,0,none⟩=some (.int .i64 er):=by rw [World.cell?_alloc_lt _ _ _ hlt2];exact h2
 clear h1 h2 h3
 go_enter Tryz.func115,Tryz.ntmps115
 go_wp2
 exact bodyPost_ret (v:=EY er 0 (.slice none 0 0)) (by simp [results,Tryz.results115 ,go_sem,EY]) rfl ⟨er,0,rfl,Below.heap_alloc _ _ _ hlt,rfl,rfl,Gr.new _ _⟩
end
section
open Go.RowKit
def KZ (c:aD):Value:=.agg #[.int .i64 c.thread,.int .i64 c.obj,.int .i64 c.kind,.int .u64 (c.a:Int),.int .u64 (c.b:Int),.int .u64 (c.c:Int)]
structure lF (x:aD):Prop where
 thread:(Lit.int .i64 x.thread).wf=true
 obj:(Lit.int .i64 x.obj).wf=true
 kind:(Lit.int .i64 x.kind).wf=true
 a:x.a<18446744073709551616
 b:x.b<18446744073709551616
 c:x.c<18446744073709551616
def jE (Mut B B':Nat->Prop) (b:Nat):Prop:=(Mut b/\¬ B b)∨B' b
def noB:Nat->Prop:=λ_=>False
structure Real (S:Sys) where
 T:TypeId
 x:Value
 OB:Nat->Prop
 ORep:World->(Nat->Prop)->S.ω->Prop
 MRep:World->(Nat->Prop)->(Nat->Prop)->TypeId->Value->Nat->S.σ->Prop
 inv:S.ω->WD->Prop
 dN:Nat
 live:S.ω->WD->Nat->S.σ->Prop:=λ_ _ _ _=>True
 done:S.σ->Prop:=λ_=>True
def Pi {S:Sys} (R:Real S) (w:World) (Mut B:Nat->Prop) (T:TypeId) (x:Value) (p:Nat):Mc S.σ->Prop
 | .refuse e=>T=208/\∃ b be,x=.pointer (some ⟨b,0,none⟩)/\DI w b be e/\B b/\¬ Mut be
 | .run s=>R.MRep w Mut B T x p s
def wX {S:Sys} (R:Real S) (w:World) (Mut B:Nat->Prop) (I:iM) (N:Nat) (wd:WD) (o:S.ω) (T:TypeId) (x:Value) (p:Nat) (s:S.σ) (e:Ending) (w':World):Prop:=
 e=.returned (.bool (S.step o wd p s).2.2.2)/\Chg (λb=>cK I b∨R.OB b∨B b) w w'/\∃ B',(∀ b,B' b->B b∨w.heap.size<=b)/\(∀ b,B' b->b<w'.heap.size)/\
  bJ w' (jE Mut B B') I (N+R.dN) (S.step o wd p s).2.1/\R.ORep w' (jE Mut B B') (S.step o wd p s).1/\R.MRep w' (jE Mut B B') B' T x p (S.step o wd p s).2.2.1
def OQ (w:World) (Mut:Nat->Prop) (a:TN) (k:List Int) (e:Ending) (w':World):Prop:=
 ∃ la lc kv,e=.returned (.tuple #[EY a.err a.val (.slice la a.list.length lc),kv])/\fK w' Mut (.slice la a.list.length lc) a.list/\Lst w' Mut kv k/\Below w.heap.size w w'
def PT {S:Sys} (R:Real S) (w:World) (Mut:Nat->Prop) (I:iM) (wd:WD) (o:S.ω) (p:Nat) (c:aD) (e:Ending) (w':World):Prop:=
 ∃ T x B,e=.returned (.iface T x)/\Below w.heap.size w w'/\(∀ b,B b->w.heap.size<=b/\b<w'.heap.size)/\Pi R w' (jE Mut noB B) B T x p (S.start o wd p c)
def PB {S:Sys} (R:Real S) (B0 b:Nat):Prop:=B0<=b∨R.OB b
structure gL {S:Sys} (R:Real S):Prop where
 keepM:∀ w w' Q Mut Mut' B T x p s,R.MRep w Mut B T x p s->Chg Q w w'->(∀ b,Q b->Mut b)->(∀ b,B b->¬ Q b)->aN Mut w Mut'->R.MRep w' Mut' B T x p s
 keepO:∀ w w' Q Mut Mut' o,R.ORep w Mut o->Chg Q w w'->(∀ b,Q b->Mut b)->(∀ b,R.OB b->¬ Q b)->aN Mut w Mut'->(∀ b,R.OB b->Mut' b)->R.ORep w' Mut' o
 lowO:∀ w Mut o,R.ORep w Mut o->∀ b,R.OB b->Mut b
 start : ∃ K recv, KD R.T R.x "Start" K recv ∧ ∀ w Mut I N wd o (p : Nat) c, bJ w Mut I N wd → R.ORep w Mut o → R.inv o wd → p < 16 → lF c →
  Calls Tryz.prog K #[recv,.pointer (some ⟨I.bW,0,none⟩),.int .i64 (p:Int),KZ c] w (PT R w Mut I wd o p c)
 step:∀ w Mut B I N wd o T x p s,bJ w Mut I N wd->R.ORep w Mut o->R.MRep w Mut B T x p s->R.inv o wd->p<16->N+R.dN<1000000000->wd.mem.c.all+1<1000000000000->(∀ b,B b->Mut b/\¬ cK I b/\¬ R.OB b)->(∀ b,R.OB b->¬ cK I b)->R.live o wd p s->
  ∃ K recv, KD T x "Step" K recv ∧ Calls Tryz.prog K #[recv, .pointer (some ⟨I.bW, 0, none⟩)] w (wX R w Mut B I N wd o T x p s)
 answer : ∀ w Mut B T x p s, R.MRep w Mut B T x p s → R.done s → ∃ K recv, KD T x "Answer" K recv ∧ Calls Tryz.prog K #[recv] w (OQ w Mut (S.answer s).1 (S.answer s).2)
 now:∀ o wd p s,(S.step o wd p s).2.1.now=wd.now
 cnt:∀ o wd p s,(S.step o wd p s).2.1.mem.c.all<=wd.mem.c.all+1
 invStep:∀ o wd p s,R.inv o wd->R.inv (S.step o wd p s).1 (S.step o wd p s).2.1
 invTick:∀ o wd,R.inv o wd->R.inv o wd.tick
 invBegin:∀ o wd p,R.inv o wd->R.inv o (wd.begin p)
 fin:∀ o wd p s,(S.step o wd p s).2.2.2=true->R.done (S.step o wd p s).2.2.1:=by intros;exact trivial
def dK (e:EvD) (v:Value×Value):List Value:=[gD e.call,gD e.inv,gD e.resp,gD e.steps,.int .i64 e.ans.err,.int .u64 (e.ans.val:Int),v.1,v.2]
def iP:List EvD->List (Value×Value)->List Value
 | e::es,v::vs=>dK e v++iP es vs
 | _,_=>[]
def zI:Value:=.int .i64 0
def kN (bW bl:Nat) (ov cv:Value) (turn:Int) (hs:List (Value×Nat)) (ev:Value) (idle:Nat):List Value:=
 .pointer (some ⟨bW,0,none⟩)::ov::cv::.pointer (some ⟨bl,0,none⟩)::.int .i64 turn::(hs.flatMap (λh=>[h.1,gD h.2])++[ev,.slice none 0 0,zI,zI,zI,zI,zI,zI,gD idle])
def aO (bW bl:Nat) (ov cv:Value) (turn:Int) (hs:List (Value×Nat)) (ev:Value) (idle:Nat):Array Value:=(kN bW bl ov cv turn hs ev idle).toArray
theorem kH (e:EvD) (v:Value×Value):(dK e v).length=8:=rfl
theorem yB:∀(es es':List EvD) (vs vs':List (Value×Value)),es.length=vs.length->iP (es++es') (vs++vs')=iP es vs++iP es' vs'
 | [],_,[],_,_=>rfl
 | e::es,es',v::vs,vs',h=>by
  simp only [List.cons_append,iP,List.append_assoc]
  rw [yB es es' vs vs' (by simpa using h)]
 | [],_,_::_,_,h=>by simp at h
 | _::_,_,[],_,h=>by simp at h
def wT:Value×Value:=(undef,undef)
theorem xC:∀(es:List EvD) (vs:List (Value×Value)) (i f:Nat),es.length=vs.length->i<es.length->f<8->(iP es vs)[i*8+f]?=(dK (es.getD i iO) (vs.getD i wT))[f]?
 | [],_,i,_,_,hi,_=>by simp at hi
 | e::es,[],_,_,h,_,_=>by simp at h
 | e::es,v::vs,0,f,h,_,hf=>by
  simp only [iP,Nat.zero_mul,Nat.zero_add,List.getD_cons_zero]
  rw [List.getElem?_append_left (by rw [kH];exact hf)]
 | e::es,v::vs,i+1,f,h,hi,hf=>by
  simp only [iP,List.getD_cons_succ]
  rw [List.getElem?_append_right (by rw [kH];omega),kH,show(i+1)*8+f - 8=i*8+f by omega]
  exact xC es vs i f (by simpa using h) (by simpa using hi) hf
theorem FD:∀(es:List EvD) (vs:List (Value×Value)) (i f:Nat) (u:Value) (e':EvD) (v':Value×Value),es.length=vs.length->i<es.length->f<8->
  (dK (es.getD i iO) (vs.getD i wT)).set f u=dK e' v'->(iP es vs).set (i*8+f) u=iP (es.set i e') (vs.set i v')
 | [],_,i,_,_,_,_,_,hi,_,_=>by simp at hi
 | e::es,[],_,_,_,_,_,h,_,_,_=>by simp at h
 | e::es,v::vs,0,f,u,e',v',h,_,hf,hs=>by
  simp only [List.getD_cons_zero] at hs
  simp only [iP,Nat.zero_mul,Nat.zero_add,zq5]
  rw [List.set_append_left _ _ (by rw [kH];exact hf),hs]
 | e::es,v::vs,i+1,f,u,e',v',h,hi,hf,hs=>by
  simp only [List.getD_cons_succ] at hs
  simp only [iP,zq6]
  rw [List.set_append_right _ _ (by rw [kH];omega),kH,show(i+1)*8+f - 8=i*8+f by omega,FD es vs i f u e' v' (by simpa using h) (by simpa using hi) hf hs]
theorem jS:∀ hs:List (Value×Nat),(hs.flatMap (λh=>[h.1,gD h.2])).length=hs.length*2
 | []=>rfl
 | x::hs=>by
  simp only [List.flatMap_cons,List.length_append,List.length_cons,List.length_nil]
  rw [jS hs];omega
theorem flat_get:∀(hs:List (Value×Nat)) (p:Nat),p<hs.length->(hs.flatMap (λh=>[h.1,gD h.2]))[p*2]?=some (hs.getD p (undef,0)).1/\(hs.flatMap (λh=>[h.1,gD h.2]))[p*2+1]?=some (gD (hs.getD p (undef,0)).2)
 | [],p,h=>by simp at h
 | x::hs,0,_=>by simp
 | x::hs,p+1,h=>by
  have:=flat_get hs p (by simpa using h)
  simp only [List.flatMap_cons,List.cons_append,List.nil_append,List.getD_cons_succ]
  rw [show(p+1)*2=p*2+1+1 by omega,List.getElem?_cons_succ,List.getElem?_cons_succ,List.getElem?_cons_succ,List.getElem?_cons_succ]
  exact this
theorem MG:∀(hs:List (Value×Nat)) (p:Nat) (v:Value) (k:Nat),p<hs.length->
  (hs.flatMap (λh=>[h.1,gD h.2])).set (p*2) v=(hs.set p (v,(hs.getD p (undef,0)).2)).flatMap (λh=>[h.1,gD h.2])/\(hs.flatMap (λh=>[h.1,gD h.2])).set (p*2+1) (gD k)=(hs.set p ((hs.getD p (undef,0)).1,k)).flatMap (λh=>[h.1,gD h.2])
 | [],p,_,_,h=>by simp at h
 | x::hs,0,_,_,_=>by simp
 | x::hs,p+1,v,k,h=>by
  have:=MG hs p v k (by simpa using h)
  simp only [List.flatMap_cons,List.cons_append,List.nil_append,List.getD_cons_succ,zq6]
  rw [show(p+1)*2=p*2+1+1 by omega]
  simp only [zq6]
  rw [this.1,this.2]
  exact⟨rfl,rfl⟩
variable {bW bl:Nat} {ov cv:Value} {turn:Int} {hs:List (Value×Nat)} {ev:Value} {idle p:Nat}
theorem fF:(aO bW bl ov cv turn hs ev idle)[0]?=some (.pointer (some ⟨bW,0,none⟩)):=rfl
theorem VU:(aO bW bl ov cv turn hs ev idle)[1]?=some ov:=rfl
theorem RI:(aO bW bl ov cv turn hs ev idle)[2]?=some cv:=rfl
theorem GJ:(aO bW bl ov cv turn hs ev idle)[3]?=some (.pointer (some ⟨bl,0,none⟩)):=rfl
theorem VY:(aO bW bl ov cv turn hs ev idle)[4]?=some (.int .i64 turn):=rfl
theorem dQ (hl:hs.length=16) (hp:p<16):(aO bW bl ov cv turn hs ev idle)[5+p*2]?=some (hs.getD p (undef,0)).1/\(aO bW bl ov cv turn hs ev idle)[5+p*2+1]?=some (gD (hs.getD p (undef,0)).2):=by
 have h:=flat_get hs p (by omega)
 have hl2:=jS hs
 simp only [aO,kN,List.getElem?_toArray]
 rw [show 5+p*2=p*2+1+1+1+1+1 by omega,show p*2+1+1+1+1+1+1=(p*2+1)+1+1+1+1+1 by omega]
 simp only [List.getElem?_cons_succ]
 rw [List.getElem?_append_left (by omega),List.getElem?_append_left (by omega)]
 exact h
theorem lN (hl:hs.length=16):(aO bW bl ov cv turn hs ev idle)[37]?=some ev:=by
 have hl2:=jS hs
 simp only [aO,kN,List.getElem?_toArray,List.getElem?_cons_succ]
 rw [List.getElem?_append_right (by omega),hl2,hl];rfl
theorem GY (hl:hs.length=16):(aO bW bl ov cv turn hs ev idle)[45]?=some (gD idle):=by
 have hl2:=jS hs
 simp only [aO,kN,List.getElem?_toArray,List.getElem?_cons_succ]
 rw [List.getElem?_append_right (by omega),hl2,hl];rfl
theorem KE (t:Int):(aO bW bl ov cv turn hs ev idle).setIfInBounds 4 (.int .i64 t)=aO bW bl ov cv t hs ev idle:=by simp [aO,kN]
theorem yG (hl:hs.length=16) (hp:p<16) (v:Value):(aO bW bl ov cv turn hs ev idle).setIfInBounds (5+p*2) v=aO bW bl ov cv turn (hs.set p (v,(hs.getD p (undef,0)).2)) ev idle:=by
 have h:=(MG hs p v 0 (by omega)).1
 have hl2:=jS hs
 simp only [aO,kN,zq4]
 rw [show 5+p*2=p*2+1+1+1+1+1 by omega]
 simp only [zq6]
 rw [List.set_append_left _ _ (by omega),h]
theorem PD (hl:hs.length=16) (hp:p<16) (k:Nat):(aO bW bl ov cv turn hs ev idle).setIfInBounds (5+p*2+1) (.int .i64 (k:Int))=aO bW bl ov cv turn (hs.set p ((hs.getD p (undef,0)).1,k)) ev idle:=by
 have h:=(MG hs p undef k (by omega)).2
 have hl2:=jS hs
 simp only [aO,kN,zq4]
 rw [show 5+p*2+1=(p*2+1)+1+1+1+1+1 by omega]
 simp only [zq6]
 rw [List.set_append_left _ _ (by omega)]
 have h':(hs.flatMap (λh=>[h.1,gD h.2])).set (p*2+1) (.int .i64 (k:Int))=(hs.set p ((hs.getD p (undef,0)).1,k)).flatMap (λh=>[h.1,gD h.2]):=h
 rw [h']
theorem PI (hl:hs.length=16) (v:Value):(aO bW bl ov cv turn hs ev idle).setIfInBounds 37 v=aO bW bl ov cv turn hs v idle:=by
 have hl2:=jS hs
 simp only [aO,kN,zq4,zq6]
 rw [List.set_append_right _ _ (by omega),hl2,hl];rfl
theorem KO (hl:hs.length=16) (k:Nat):(aO bW bl ov cv turn hs ev idle).setIfInBounds 45 (.int .i64 (k:Int))=aO bW bl ov cv turn hs ev k:=by
 have hl2:=jS hs
 simp only [aO,kN,zq4,zq6]
 rw [List.set_append_right _ _ (by omega),hl2,hl];rfl
end
section
open Go.RowKit
structure aAL (t:iZ) (m:dR):Prop where
 halt:t.halt=false
 fresh:t.fresh=true
 at_:t.at_=t.got.length
 cnt:m.c.all+1<1000000000000
 glen:t.got.length+1<=100000000
 klen:t.ticks.length+1<=100000000
variable (I:wM) (G K L:Value) (t:iZ) (m:dR) (now:Nat) (w:World)
def QG (c:aD):Value:=.agg #[.int .i64 c.thread,.int .i64 c.obj,.int .i64 c.kind,.int .u64 (c.a:Int),.int .u64 (c.b:Int),.int .u64 (c.c:Int)]
end
end Go.Proofs.YtfkokppncipgnaaGreat
