/- A region that draws its order: what is held of the world is asked only till one operation, number L, that waits for all that is taken first. -/
import Derived.Test.YtifhldnmcdbpfaaW01
import Derived.Deep.RegionHeld3
import Derived.Deep.AppendLies
import Derived.StillTailTactics
set_option maxRecDepth 100000
set_option linter.unusedVariables false
set_option linter.unusedSimpArgs false
set_option linter.unnecessarySimpa false
namespace Go.Proofs.Ytifhldnmcdbpfaa
section
open Go.RowKit
section
variable {P:Program} {md:Region.Mode} {ops:Array Oper} {Q:Exit->Act->World->Prop} {S:World->Prop} {L:Nat}
def fP (md:Region.Mode) (ops:Array Oper) (listed:Array Bool):Prop:=
 ∀(j:Nat) (o:Oper),ops[j]?=some o->listed.getD j false=true->∀ e∈o.after,Region.binds md e=true->listed.getD e.on false=true
def kF (md:Region.Mode) (ops:Array Oper) (i:Nat):Nat->Nat->Bool
 | 0,j=>j == i
 | f+1,j=>j == i || (match ops[j]? with|some o=>o.after.any λe=>Region.binds md e && kF md ops i f e.on|none=>false)
theorem qC {i:Nat} {listed:Array Bool} (hc:fP md ops listed):∀(f j:Nat),kF md ops i f j=true->j<ops.size->listed.getD j false=true->listed.getD i false=true
 | 0,j,h,_,hj=>by simp only [kF,beq_iff_eq] at h;subst h;exact hj
 | f+1,j,h,hlt,hj=>by
  simp only [kF,Bool.or_eq_true,beq_iff_eq] at h
  rcases h with rfl|h
  ·exact hj
  ·have ho:ops[j]?=some ops[j]:=by simp [hlt]
   rw [ho] at h
   simp only at h
   obtain⟨e,he,h2⟩:=Array.any_eq_true'.1 h
   simp only [Bool.and_eq_true] at h2
   have h3:=hc j _ ho hj e he h2.1
   by_cases hlt':e.on<ops.size
   ·exact qC hc f e.on h2.2 hlt' h3
   ·cases f with
    | zero=>have:=h2.2;simp only [kF,beq_iff_eq] at this;rw [this] at h3;exact h3
    | succ f=>
     have h4:=h2.2
     simp only [kF,Bool.or_eq_true,beq_iff_eq] at h4
     rcases h4 with h4|h4
     ·rw [h4] at h3;exact h3
     ·rw [show ops[e.on]?=none by simp;omega] at h4;cases h4
theorem fP.set {listed:Array Bool} (hc:fP md ops listed) {i:Nat} (hi:i∈Region.ready md ops listed):fP md ops (listed.setIfInBounds i true):=by
 intro j o ho hj e he hb
 obtain⟨_,o',ho',hall⟩:=mem_ready.1 hi
 by_cases hji:i=j
 ·subst hji
  rw [ho] at ho'
  cases ho'
  exact getD_set_true (hall e he hb)
 ·rw [getD_set_ne false hji] at hj
  exact getD_set_true (hc j o ho hj e he hb)
def wpAnyL (P:Program) (md:Region.Mode) (ops:Array Oper) (Q:Exit->Act->World->Prop) (S:World->Prop) (L:Nat):Nat->Array Bool->Act->World->Prop
 | 0,listed,a,w=>Region.ready md ops listed=[]/\Q .normal a w
 | fuel+1,listed,a,w=>
  (Region.ready md ops listed=[]->Q .normal a w)/\
  ∀ i∈Region.ready md ops listed,wpOp P ops Q i (λa' w'=>((listed.setIfInBounds i true).getD L true=false->S w')/\wpAnyL P md ops Q S L fuel (listed.setIfInBounds i true) a' w') a w
theorem sO:∀(fuel:Nat) (listed:Array Bool) (a:Act) (w:World),wpAnyL P md ops Q S L fuel listed a w->wpAny P md ops Q fuel listed a w
 | 0,_,_,_,h=>h
 | fuel+1,_,_,_,h=>⟨h.1,λi hi=>wpOp_mono (λa' w' h'=>sO fuel _ a' w' h'.2) (h.2 i hi)⟩
theorem wX {listed:Array Bool} {i:Nat} (h:listed.getD i true=false):listed.getD i false=false:=by
 rcases Nat.lt_or_ge i listed.size with h'|h'
 ·simp [h'] at h ⊢;exact h
 ·simp [Array.getElem?_eq_none h'] at h
theorem wpAnyL_first {i:Nat} {oi:Oper} {v:Value} (hi:ops[i]?=some oi) (hsel:∀(j:Nat) (o:Oper) cs b,ops[j]?=some o->o.op≠.select cs b)
  (hQ:∀ c a w,Q (.panic c) (a.put oi.dst v) w->Q (.panic c) a w) {F:Nat} (hneed:kF md ops i F L=true) (hL:L<ops.size) (hiL:i≠L) :
  ∀(fuel:Nat) (listed:Array Bool) (a:Act) (w:World),
   (∀ j oj,ops[j]?=some oj->j≠i->listed.getD j true=false->(∀ e∈oj.after,Region.binds md e=true->e.on≠i)->oi.apart ops oj=true)->
   listed.size=ops.size->fP md ops listed->i∈Region.ready md ops listed->YieldsIf P ops S oi v a->S w->
   wpAnyL P md ops Q S L fuel (listed.setIfInBounds i true) (a.put oi.dst v) w->wpAnyL P md ops Q S L (fuel+1) listed a w:=by
 intro fuel
 induction fuel with
 | zero=>
  intro listed a w _ _ _ hr hy hS H
  refine⟨λh=>(by rw [h] at hr;cases hr),λj hj=>?_⟩
  by_cases hji:j=i
  ·subst hji;exact hy.wpOp hi hS ⟨λ_=>hS,H⟩
  ·have:=ready_mono hj hji
   rw [H.1] at this
   cases this
 | succ fuel ih=>
  intro listed a w hfree hsz hc hr hy hS H
  refine⟨λh=>(by rw [h] at hr;cases hr),λj hj=>?_⟩
  by_cases hji:j=i
  ·subst hji;exact hy.wpOp hi hS ⟨λ_=>hS,H⟩
  ·have h1:=H.2 j (ready_mono hj hji)
   obtain⟨hjun,oj,hoj,hall⟩:=mem_ready.1 hj
   have hnot:∀ e∈oj.after,Region.binds md e=true->e.on≠i:=λe he hb heq=>by
    have h1:=hall e he hb
    have h0:=wX (mem_ready.1 hr).1
    rw [heq,h0] at h1
    cases h1
   have h2:=wpOp_putIf hoj (hfree j oj hoj hji hjun hnot) (λcs b=>hsel i oi cs b hi) (λcs b=>hsel j oj cs b hoj) hQ hy h1
   have hfree':∀ k ok,ops[k]?=some ok->k≠i->(listed.setIfInBounds j true).getD k true=false->
     (∀ e∈ok.after,Region.binds md e=true->e.on≠i)->oi.apart ops ok=true:=λk ok hk hki hun hno=>by
    refine hfree k ok hk hki ?_ hno
    by_cases hjk:j=k
    ·subst hjk;exact hjun
    ·rw [getD_set_ne true hjk] at hun;exact hun
   have hc':=hc.set hj
   have hsz':(listed.setIfInBounds j true).size=ops.size:=by simpa using hsz
   have hri:=ready_mono hr (Ne.symm hji)
   have hLun:(listed.setIfInBounds j true).getD L true=false:=by
    cases hx:(listed.setIfInBounds j true).getD L true with
    | false=>rfl
    | true=>
     have hx':(listed.setIfInBounds j true).getD L false=true:=by
      simp only [Array.getD_eq_getD_getElem?] at hx ⊢
      rw [Array.getElem?_eq_getElem (by omega)] at hx ⊢
      simpa using hx
     have:=qC hc' F L hneed hL hx'
     rw [wX (mem_ready.1 hri).1] at this
     cases this
   refine wpOp_mono (λa' w' h3=>?_) h2
   obtain⟨hy',hS',hrest⟩:=h3
   have hSw:S w':=by
    refine hS' ?_
    rw [Array.setIfInBounds_comm _ _ (Ne.symm hji),getD_set_ne true hiL]
    exact hLun
   refine⟨λ_=>hSw,ih (listed.setIfInBounds j true) a' w' hfree' hsz' hc' hri hy' hSw ?_⟩
   rw [Array.setIfInBounds_comm _ _ hji]
   exact hrest
theorem aS {i:Nat} {oi:Oper} {v:Value} {fuel:Nat} {listed:Array Bool} {a:Act} {w:World} (F:Nat) (hi:ops[i]?=some oi)
  (hs:Region.noSelect ops=true) (hf:Region.free md ops listed i=true) (hr:(Region.ready md ops listed).contains i=true) (hneed:kF md ops i F L=true) (hL:decide (L<ops.size/\i≠L/\listed.size=ops.size)=true)
  (hc:fP md ops listed) (hQ:∀ c a w,Q (.panic c) (a.put oi.dst v) w->Q (.panic c) a w) (hy:YieldsIf P ops S oi v a) (hS:S w)
  (h:fP md ops (listed.setIfInBounds i true)->wpAnyL P md ops Q S L fuel (listed.setIfInBounds i true) (a.put oi.dst v) w):wpAnyL P md ops Q S L (fuel+1) listed a w:=by
 have h3:=of_decide_eq_true hL
 have hr':i∈Region.ready md ops listed:=by simpa using hr
 exact wpAnyL_first hi (Region.noSelect_spec hs) hQ hneed h3.1 h3.2.1 fuel listed a w (Region.free_spec hi hf) h3.2.2 hc hr' hy hS (h (hc.set hr'))
theorem wL {i:Nat} {oi:Oper} {v:Value} {fuel:Nat} {listed:Array Bool} {a:Act} {w:World} (F:Nat) (hi:ops[i]?=some oi)
  (hc:fP md ops listed) (hS:S w)
  (h:fP md ops (listed.setIfInBounds i true)->wpAnyL P md ops Q S L fuel (listed.setIfInBounds i true) (a.put oi.dst v) w)
  (hs:Region.noSelect ops=true:=by kernel_rfl) (hf:Region.free md ops listed i=true:=by kernel_rfl) (hr:(Region.ready md ops listed).contains i=true:=by kernel_rfl) (hneed:kF md ops i F L=true:=by kernel_rfl) (hL:decide (L<ops.size/\i≠L/\listed.size=ops.size)=true:=by kernel_rfl)
  (hw:Region.wanted oi (yielded ops a.tmps)=true:=by rfl) (ht:∀ w,S w->(execOp a.eval oi).run P w=.ok (.value v) w:=by(intro w hSw;go_simp;with_reducible rfl))
  (hQ:∀ c a w,Q (.panic c) (a.put oi.dst v) w->Q (.panic c) a w:=by exact λ_ _ _ h=>h):wpAnyL P md ops Q S L (fuel+1) listed a w:=
 aS F hi hs hf hr hneed hL hc hQ (Or.inl ⟨hw,ht⟩) hS h
theorem wC (n:Nat):fP md ops (Array.replicate n false):=by
 intro j o _ h
 simp [Array.getElem?_replicate] at h
 split at h<;>simp at h
theorem kU {id:Nat} {a:Act} {w:World} (S:World->Prop) (L:Nat) (hm:P.follows .mixedOrders=true) (hS:S w.drew)
  (h:S w.drew->fP .any ops (Array.replicate ops.size false)->wpAnyL P .any ops Q S L ops.size (Array.replicate ops.size false) a w.drew):(Code.region id ops true).wp P Q a w:=
 wp_region_any hm (sO _ _ _ _ (h hS (wC _)))
theorem bZ {i:Nat} {o:Oper} {fuel:Nat} {listed:Array Bool} {a:Act} {w:World} (hr:Region.ready md ops listed=[i]) (ho:ops[i]?=some o) (hc:fP md ops listed)
  (h:∀ K':Act->World->Prop,(∀ a w,((listed.setIfInBounds i true).getD L true=false->S w)->(fP md ops (listed.setIfInBounds i true)->wpAnyL P md ops Q S L fuel (listed.setIfInBounds i true) a w)->K' a w)->
   if Region.wanted o (yielded ops a.tmps)=true then Oper.wp P o a w K' Q else K' (a.put o.dst undef) w):wpAnyL P md ops Q S L (fuel+1) listed a w:=by
 have hmem:i∈Region.ready md ops listed:=by rw [hr];simp
 refine⟨λh=>(by rw [hr] at h;cases h),λj hj=>?_⟩
 rw [hr] at hj
 obtain rfl:j=i:=by simpa using hj
 exact wpOp_step ho (λK' hK=>h K' (λa w h1 h2=>hK a w ⟨h1,h2 (hc.set hmem)⟩))
theorem lH {listed:Array Bool} {a:Act} {w:World} (hr:Region.ready md ops listed=[]) (h:Q .normal a w):∀ fuel,wpAnyL P md ops Q S L fuel listed a w
 | 0=>⟨hr,h⟩
 | fuel+1=>⟨λ_=>h,λi hi=>(by rw [hr] at hi;cases hi)⟩
end
end
section
open Go.RowKit
structure Chg (S:Nat->Prop) (w w':World):Prop where
 os:w'.os=w.os
 tape:w'.tape=w.tape
 output:w'.output=w.output
 size:w.heap.size<=w'.heap.size
 block:∀ k,k<w.heap.size->¬ S k->w'.heap[k]?=w.heap[k]?
theorem Chg.refl (S:Nat->Prop) (w:World):Chg S w w:=⟨rfl,rfl,rfl,Nat.le_refl _,λ_ _ _=>rfl⟩
theorem Chg.trans {S:Nat->Prop} {a b c:World} (h:Chg S a b) (k:Chg S b c):Chg S a c:=
 ⟨k.os.trans h.os,k.tape.trans h.tape,k.output.trans h.output,Nat.le_trans h.size k.size,λi hi hs=>(k.block i (Nat.lt_of_lt_of_le hi h.size) hs).trans (h.block i hi hs)⟩
theorem Chg.mono {S S':Nat->Prop} {a b:World} (h:Chg S a b) (hs:∀ k,k<a.heap.size->S k->S' k):Chg S' a b:=
 ⟨h.os,h.tape,h.output,h.size,λi hi hn=>h.block i hi (λx=>hn (hs i hi x))⟩
theorem Chg.of_below {S:Nat->Prop} {a b:World} (h:Below a.heap.size a b):Chg S a b:=⟨h.os,h.tape,h.output,h.size,λi hi _=>h.block i hi⟩
theorem Chg.below {S:Nat->Prop} {B:Nat} {a b:World} (h:Chg S a b) (hS:∀ k,S k->B<=k) (hB:B<=a.heap.size):Below B a b:=
 ⟨h.os,h.tape,h.output,h.size,λi hi=>h.block i (by omega) (λx=>by have:=hS i x;omega)⟩
theorem Chg.cell {S:Nat->Prop} {a b:World} (h:Chg S a b) {p:Addr} (hp:p.block<a.heap.size) (hS:¬ S p.block):b.cell? p=a.cell? p:=World.cell?_of_block (w:=a) (h.block _ hp hS)
theorem Chg.setCell {S:Nat->Prop} {a b:World} (h:Chg S a b) {p:Addr} (hp:S p.block∨a.heap.size<=p.block) (u:Value):Chg S a (b.setCell p u):=
 ⟨h.os,h.tape,h.output,by simpa [World.setCell] using h.size,λk hk hs=>by
  rw [Below.heap_setCell _ _ _ _ (by rintro rfl;rcases hp with hp|hp;exact hs hp;omega)]
  exact h.block k hk hs⟩
theorem Chg.alloc {S:Nat->Prop} {a b:World} (h:Chg S a b) (o:Obj):Chg S a (b.alloc o):=
 ⟨h.os,h.tape,h.output,by have:=h.size;simp;omega,λk hk hs=>(Below.heap_alloc _ _ _ (by have:=h.size;omega)).trans (h.block k hk hs)⟩
theorem Chg.drew {S:Nat->Prop} {a b:World} (h:Chg S a b):Chg S a b.drew:=⟨h.os,h.tape,h.output,h.size,h.block⟩
theorem Chg.drewN {S:Nat->Prop} {a b:World} (h:Chg S a b) (n:Nat):Chg S a (b.drewN n):=⟨h.os,h.tape,h.output,h.size,h.block⟩
theorem Chg.grown {S:Nat->Prop} {a b c:World} {row:Option Nat} (h:Chg S a b) (hg:b.grownBy c row) (hr:∀ k,row=some k->S k∨a.heap.size<=k):Chg S a c:=
 ⟨hg.os.trans h.os,hg.tape.trans h.tape,hg.output.trans h.output,Nat.le_trans h.size hg.size,λk hk hs=>
  (hg.block k (by have:=h.size;omega) (λe=>by rcases hr k e.symm with h1|h1;exact hs h1;omega)).trans (h.block k hk hs)⟩
theorem bS.chg {S:Nat->Prop} {w w':World} {a:Option Addr} {n k:Nat} {g:Nat->Nat->Value} (h:bS w a n k g) (hc:Chg S w w') (ha:∀ b off,a=some ⟨b,off,none⟩->¬ S b):bS w' a n k g:=by
 refine⟨h.1,λj hj=>?_⟩
 obtain⟨b,off,hab,hs,hcell⟩:=h.2 j hj
 exact⟨b,off,hab,Nat.lt_of_lt_of_le hs hc.size,λf hf=>by rw [hc.cell hs (ha b off hab)];exact hcell f hf⟩
theorem aA {w:World} {b:Nat} {c:Array Value} {e:TypeId} {fz:Nat×Nat} (h:w.heap[b]?=some (.cells c e fz)) (j:Nat):w.cell? ⟨b,j,none⟩=c[j]?:=by
 simp only [World.cell?,h]
 rfl
theorem aB {w:World} {b:Nat} {c:Array Value} {e:TypeId} (h:w.heap[b]?=some (.cells c e (0,0))) (j:Nat):w.frozen? ⟨b,j,none⟩=false:=by
 simp [World.frozen?,h]
theorem aC {w:World} {b:Nat} {o:Obj} (h:w.heap[b]?=some o):b<w.heap.size:=by
 rcases Nat.lt_or_ge b w.heap.size with h'|h'
 ·exact h'
 ·rw [Array.getElem?_eq_none h'] at h;cases h
theorem aH {w:World} {b:Nat} {c:Array Value} {e:TypeId} (h:w.heap[b]?=some (.cells c e (0,0))) (j:Nat) (v:Value):(w.setCell ⟨b,j,none⟩ v).heap[b]?=some (.cells (c.setIfInBounds j v) e (0,0)):=by
 simp [World.setCell,Array.getElem?_modify,h]
theorem aX {w:World} {b b':Nat} (hne:b'≠b) (j:Nat) (v:Value):(w.setCell ⟨b,j,none⟩ v).heap[b']?=w.heap[b']?:=Below.heap_setCell _ _ _ _ hne
theorem iM {w:World} {B:Nat} {v:Value} {e:TypeId} {k n:Nat} {xs:List Value} (h:w.ownsRow B e k v n xs):∃ a c,v=.slice a n c:=by
 rcases h.2 with⟨h1,h0⟩|⟨q,cap,cur,h1,_⟩
 ·exact⟨none,0,by rw [h1,h0]⟩
 ·exact⟨_,_,h1⟩
theorem iA {S:Nat->Prop} {w w':World} {B:Nat} {v:Value} {e:TypeId} {k n:Nat} {xs:List Value} (h:w.ownsRow B e k v n xs) (hc:Chg S w w') (hS:∀ b,v.ownBlock=some b->¬ S b):w'.ownsRow B e k v n xs:=by
 obtain⟨h1,h2⟩:=h
 refine⟨h1,?_⟩
 rcases h2 with h2|⟨g,cap,cur,hv,hg,hh,r⟩
 ·exact .inl h2
 ·exact .inr ⟨g,cap,cur,hv,hg,(hc.block g (aC hh) (hS g (by rw [hv];rfl))).trans hh,r⟩
theorem IQ {w:World} {B:Nat} {a:Option Addr} {c:Nat} {e:TypeId} {n:Nat} {xs:List Value} {g:Nat->Nat->Value} (h:w.ownsRow B e 1 (.slice a n c) n xs) (hm:n<=maxLen) (hg:∀ j,j<n->xs[j]?=some (g j 0)) :
  bS w a n 1 g/\(∀ b off,a=some ⟨b,off,none⟩->B<=b):=by
 obtain⟨a',c',h1,h2,h3⟩:=uI h hm hg
 cases h1
 exact⟨h2,h3⟩
theorem rO {w u:World} (h:Below w.drew.heap.size w.drew u):Below w.heap.size w u:=⟨h.os,h.tape,h.output,h.size,h.block⟩
theorem vI {w u:World} {n:Nat} (h:Below (w.drewN n).heap.size (w.drewN n) u):Below w.heap.size w u:=⟨h.os,h.tape,h.output,h.size,h.block⟩
theorem oN {w w':World} {B:Nat} {v:Value} {e:TypeId} {k n:Nat} {xs:List Value} (h:w.ownsRow B e k v n xs) (hb:Below w.heap.size w w'):w'.ownsRow B e k v n xs:=
 h.kept (row:=none) ⟨hb.os,hb.tape,hb.output,hb.size,λi hi _=>hb.block i hi⟩ (by cases v.ownBlock<;>simp)
theorem aY {S:Nat->Prop} {a b:World} {k j:Nat} {v:Value} (hc:Chg S a b) (hk:¬ S k) (h:a.cell? ⟨k,j,none⟩=some v):b.cell? ⟨k,j,none⟩=some v:=by
 refine(hc.cell ?_ hk).trans h
 exact World.block_lt_of_cell? _ _ h
end
section
open Go.RowKit
structure aF where
  thread:Int
  obj:Int
  kind:Int
  a:Nat
  b:Nat
  c:Nat
def gJ (l:List aF) (j f:Nat):Value:=
  let x:=l.getD j ⟨0,0,0,0,0,0⟩
  if f=0 then .int .i64 x.thread else if f=1 then .int .i64 x.obj else if f=2 then .int .i64 x.kind else if f=3 then .int .u64 (x.a:Int) else if f=4 then .int .u64 (x.b:Int) else .int .u64 (x.c:Int)
def IE (l:List Nat) (j _f:Nat):Value:=.int .i64 ((l.getD j 0:Nat):Int)
def qOf (calls:List aF) (k:Nat) (p:Int):List Nat:=(List.range k).filter λi=>decide ((calls.getD i ⟨0,0,0,0,0,0⟩).thread=p)
theorem xO (calls:List aF) (k:Nat) (p:Int):qOf calls (k+1) p=qOf calls k p++(if (calls.getD k ⟨0,0,0,0,0,0⟩).thread=p then [k] else []):=by
  unfold qOf
  rw [List.range_succ,List.filter_append]
  congr 1
  simp [List.filter_cons]
theorem BO (calls:List aF) (k:Nat) (p:Int):(qOf calls k p).length<=k:=by
  unfold qOf
  exact Nat.le_trans (List.length_filter_le _ _) (by simp)
structure fC (w:World) (Z:Nat->Prop) (bl bm n:Nat) (M:Int->Value) (q:Int->List Nat) (left:Int):Prop where
  line:w.heap[bl]?=some (.cells #[.map (some bm),.int .i64 left] 113 (0,0))
  map:MapAt w bm n M
  rows:∀ p,∃ a c,M p=.slice a (q p).length c/\(q p).length<=c/\bS w a (q p).length 1 (IE (q p))/\(∀ b off,a=some ⟨b,off,none⟩->b≠bl/\b≠bm/\Z b)
theorem NQ (Z:Nat->Prop) (bl bm n:Nat) (M:Int->Value) (q:Int->List Nat) (left p:Int) (w:World) (h:fC w Z bl bm n M q left) (hw:(Lit.int .i64 p).wf=true) (hq:(q p).length=0) :
    Calls Try.prog 58 #[.pointer (some ⟨bl,0,none⟩),.int .i64 p] w λe w'=>e=.returned (.tuple #[.int .i64 0,.bool false])/\w=w':=by
  have hl0:w.cell? ⟨bl,0,none⟩=some (.map (some bm)):=by rw [aA h.line];rfl
  obtain⟨a,c,hM,hcap,hs,_⟩:=h.rows p
  have hlk:=h.map.look hw
  rw [hq] at hM
  rw [hM] at hlk
  clear h hM hs hq hcap
  go_enter Try.func58,Try.ntmps58
  go_wp2
  go_ret2
  exact⟨rfl,rfl⟩
theorem BQ (Z:Nat->Prop) (bl bm n:Nat) (M:Int->Value) (q:Int->List Nat) (left p:Int) (w:World) (h:fC w Z bl bm n M q left) (hw:(Lit.int .i64 p).wf=true) (i:Nat) (r:List Nat) (hq:q p=i::r) :
    Calls Try.prog 58 #[.pointer (some ⟨bl,0,none⟩),.int .i64 p] w λe w'=>e=.returned (.tuple #[.int .i64 (i:Int),.bool true])/\w=w':=by
  have hl0:w.cell? ⟨bl,0,none⟩=some (.map (some bm)):=by rw [aA h.line];rfl
  obtain⟨a,c,hM,hcap,hs,_⟩:=h.rows p
  have hlk:=h.map.look hw
  obtain⟨m,hm⟩:∃ m,m=r.length:=⟨_,rfl⟩
  have hlen:(q p).length=m+1:=by rw [hq,hm];rfl
  obtain⟨b,off,rfl,_,hc⟩:=hs.2 0 (by omega)
  have h0:w.cell? ⟨b,off,none⟩=some (.int .i64 (i:Int)):=by have:=hc 0 (by omega);simpa [IE,hq] using this
  have hmx:=hs.1
  rw [hlen] at hM hmx
  unfold maxLen at hmx
  rw [hM] at hlk
  clear h hM hs hq hc hlen hm hcap
  go_enter Try.func58,Try.ntmps58
  go_wp2
  go_ret2
  exact⟨rfl,rfl⟩
def qI (q:Int->List Nat) (p:Int):Int->List Nat:=λx=>if x=p then (q x).tail else q x
theorem AY (Z:Nat->Prop) (bl bm n:Nat) (M:Int->Value) (q:Int->List Nat) (left p:Int) (w:World) (h:fC w Z bl bm n M q left) (hn:n<maxLen) (hw:(Lit.int .i64 p).wf=true) (i:Nat) (r:List Nat) (hq:q p=i::r)
    (hleft:-1000000<=left) (AQ:left<=1000000) :
    Calls Try.prog 60 #[.pointer (some ⟨bl,0,none⟩),.int .i64 p] w λe w'=>e=.returned (.int .i64 0)/\Chg (λb=>b=bl∨b=bm) w w'/\
      ∃ M',fC w' Z bl bm (n+1) M' (qI q p) (left - 1):=by
  have H:=Lib.hid (BQ Z bl bm n M q left p w h hw i r hq)
  have Hh:=Lib.hid h
  have hl0:w.cell? ⟨bl,0,none⟩=some (.map (some bm)):=by rw [aA h.line];rfl
  have hlkd:=(MapAt.block (w':=w.drew) h.map rfl).look hw
  have hne:bl≠bm:=by
    rintro rfl
    obtain⟨D,⟨es,clock,h1,_⟩,_⟩:=h.map
    rw [h.line] at h1;cases h1
  obtain⟨a,c,hM,hcap,hs,hab⟩:=h.rows p
  have hlk:=h.map.look hw
  obtain⟨m,hm⟩:∃ m,m=r.length:=⟨_,rfl⟩
  have hlen:(q p).length=m+1:=by rw [hq,hm];rfl
  obtain⟨b,off,rfl,_,hc⟩:=hs.2 0 (by omega)
  have hmx:=hs.1
  rw [hlen] at hM hmx hcap
  unfold maxLen at hmx
  rw [hM] at hlk hlkd
  have hcap1:(1:Int)<=(m:Int)+1:=by omega
  have Hs:=Lib.hid hs;have Hm:=Lib.hid hm;have Hab:=Lib.hid hab;have Hlen:=Lib.hid hlen;have Hq:=Lib.hid hq;have HM:=Lib.hid hM
  clear h hs hq hc hlen hm hab hM
  by_cases hc1:c=1
  all_goals
    go_enter Try.func60,Try.ntmps60
    go_wp2_with (go_at_call 58;refine(H.out).mono ?_;rintro e w' ⟨rfl,rfl⟩)
    go_still_tail 12,(by kernel_rfl)
    change wpList _ _ _ _ _ w.drew
    go_wp2_with (at_mapUpdate;refine lX _ rfl _ _ _ rfl bm n M rfl (MapAt.block (w:=w) Hh.out.map rfl) hn p _ rfl rfl hw ?_)
    intro w2 hmap hgrow
    have hb2:w2.heap[bl]?=some (.cells #[.map (some bm),.int .i64 left] 113 (0,0)):=by rw [hgrow.block bl (aC Hh.out.line) (by simpa using hne)];exact Hh.out.line
    have hl1:w2.cell? ⟨bl,1,none⟩=some (.int .i64 left):=by rw [aA hb2];rfl
    have hf1:w2.frozen? ⟨bl,1,none⟩=false:=aB hb2 1
    have Hb2:=Lib.hid hb2;have Hmap:=Lib.hid hmap;have Hgrow:=Lib.hid hgrow
    clear hb2 hmap hgrow hlk hlkd
    go_wp2
    go_ret
    have hchg:Chg (λb=>b=bl∨b=bm) w (w2.setCell ⟨bl,1,none⟩ (.int .i64 (left - 1))):=((Chg.refl _ w).drew.grown Hgrow.out (λk hk=>by cases hk;exact .inl (.inr rfl))).setCell (.inl (.inl rfl)) _
    refine⟨rfl,hchg,_,⟨aH Hb2.out 1 (.int .i64 (left - 1)),Hmap.out.block (aX hne.symm 1 _),?_⟩⟩
    · intro x
      by_cases hx:x=p
      · subst hx
        rw [upd_same]
        have htl:qI q x x=r:=by simp [qI,Hq.out]
        have hrl:r.length=m:=Hm.out.symm
        rw [htl,hrl]
        refine⟨_,_,rfl,by omega,⟨by unfold maxLen;omega,λj hj=>?_⟩,?_⟩
        · obtain⟨b',off',e,hbs,hc⟩:=(Hs.out.chg hchg (λb' off' e=>by have:=Hab.out b' off' e;rintro(h|h);exact this.1 h;exact this.2.1 h)).2 (j+1) (by rw [Hlen.out];omega)
          cases e
          first
            | (refine⟨b,off+1,rfl,hbs,λf hf=>?_⟩
               obtain rfl:f=0:=by omega
               have:=hc 0 (by omega)
               rw [show off+1+(j*1+0)=off+((j+1)*1+0) by omega,this]
               simp [IE,Hq.out])
            | omega
        · intro b' off' e
          cases e
          exact Hab.out b off rfl
      · rw [iG _ _ hx]
        have htl:qI q p x=q x:=by simp [qI,hx]
        rw [htl]
        obtain⟨a',c',h1,h2,h3,h4⟩:=Hh.out.rows x
        exact⟨a',c',h1,h2,h3.chg hchg (λb' off' e=>by have:=h4 b' off' e;rintro(h|h);exact this.1 h;exact this.2.1 h),h4⟩
end
end Go.Proofs.Ytifhldnmcdbpfaa
