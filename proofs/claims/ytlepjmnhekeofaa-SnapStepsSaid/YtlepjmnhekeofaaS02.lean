/- Maps from ints to slices of ints, read as functions on keys. -/
import Derived.Test.YtlepjmnhekeofaaS01
import Derived.Maps.OwnOps
import Derived.Maps.Views
import Derived.Deep.RegionHeld3
import Derived.Deep.AppendLies
set_option maxRecDepth 100000
set_option linter.unusedVariables false
set_option linter.unusedSimpArgs false
set_option linter.unnecessarySimpa false
namespace Go.Proofs.Ytlepjmnhekeofaa
section
open Go.RowKit
def RV (v:Value):Option (DataW Value×List MemPlace):=some (.held v,[])
def upd (M:Int->Value) (k:Int) (v:Value):Int->Value:=λx=>if x=k then v else M x
theorem upd_same (M:Int->Value) (k:Int) (v:Value):upd M k v k=v:=by simp [upd]
theorem upd_other (M:Int->Value) {k x:Int} (v:Value) (h:x≠k):upd M k v x=M x:=by simp [upd,h]
def MapAt (w:World) (b n:Nat) (M:Int->Value):Prop:=
 ∃ D:DataW Value,w.ownsMap Try.prog 3 RV b n D/\Maps.IsMap D/\∀ key,D.atKey (.int .i64 key) (.held (.slice none 0 0))=.held (M key)
theorem keyedInt:Maps.Keyed Try.prog 3:=Maps.int_keyed Try.underlying3
theorem keyInt {key:Int} (hw:(Lit.int .i64 key).wf=true):keyOf Try.prog 3 (.int .i64 key)=some (.int .i64 key):=Maps.keyOf_int_mk Try.underlying3 hw
theorem zeroInts (w:World):(zeroValue 24).run Try.prog w=.ok (.slice none 0 0) w:=by kernel_rfl
theorem MapAt.made (w:World):MapAt (w.alloc (.map #[] 0)) w.heap.size 0 (λ_=>.slice none 0 0):=
 ⟨.map [],World.ownsMap_made _ _ _ _,Maps.isMap_empty,λ_=>rfl⟩
theorem MapAt.lt {w:World} {b n:Nat} {M:Int->Value} (h:MapAt w b n M):b<w.heap.size:=by obtain⟨D,h1,_⟩:=h;exact h1.lt
theorem MapAt.mono {w:World} {b n n':Nat} {M:Int->Value} (h:MapAt w b n M) (hn:n<=n'):MapAt w b n' M:=by obtain⟨D,h1,h2⟩:=h;exact⟨D,h1.mono hn,h2⟩
theorem MapAt.block {w w':World} {b n:Nat} {M:Int->Value} (h:MapAt w b n M) (hb:w'.heap[b]?=w.heap[b]?):MapAt w' b n M:=by
 obtain⟨D,⟨es,clock,h1,h3⟩,h2⟩:=h
 exact⟨D,⟨es,clock,hb.trans h1,h3⟩,h2⟩
theorem MapAt.look {w:World} {b n:Nat} {M:Int->Value} (h:MapAt w b n M) {key:Int} (hw:(Lit.int .i64 key).wf=true) :
  (Instr.lookup 104 (.map (some b)) (.int .i64 key) false).run Try.prog w=.ok (M key) w:=by
 obtain⟨D,h1,_,h2⟩:=h
 obtain⟨v,ps,hrun,hv⟩:=h1.lookup keyedInt Try.underlying104 (zeroInts w) (zd:=.held (.slice none 0 0)) (zp:=[]) rfl (keyInt hw)
 rw [h2] at hv
 simp only [RV,Option.some.injEq,Prod.mk.injEq,DataW.held.injEq] at hv
 rw [hrun,hv.1]
theorem isKeyInt {key:Int}:WideAt.IsKeyLit (.int .i64 key):=by trivial
theorem MapAt.put {w:World} {b n:Nat} {M:Int->Value} (h:MapAt w b n M) (hn:n<maxLen) {key:Int} (hw:(Lit.int .i64 key).wf=true) (val:Value) :
  ∃ w',(Instr.mapUpdate 104 (.map (some b)) (.int .i64 key) val).run Try.prog w=.ok () w'/\MapAt w' b (n+1) (upd M key val)/\w.grownBy w' (some b):=by
 obtain⟨D,h1,h3,h2⟩:=h
 obtain⟨w',hrun,h4,h5⟩:=h1.update keyedInt Try.underlying104 hn (keyInt hw) (val:=val) (d:=.held val) (ps:=[]) rfl
 refine⟨w',hrun,⟨_,h4,h3.put _ _,λk=>?_⟩,h5⟩
 by_cases hk:k=key
 ·subst hk
  rw [Maps.atKey_put_same h3 isKeyInt,upd_same]
 ·rw [Maps.atKey_put_other (by simpa using hk),upd_other _ _ hk,h2]
theorem wpList_mapUpdate_at (w:World) {ops:Array Oper} {rest:List Oper} {o:Oper} {a:Act} {Q:Exit->Act->World->Prop}
  (hg:o.guard=none) (m x v:Operand) (hop:o.op=Op.mapUpdate 104 m x v) (b n:Nat) (M:Int->Value)
  (hm:a.eval m=.map (some b)) (hown:MapAt w b n M) (hn:n<maxLen) (key:Int) (val:Value) (hx:a.eval x=.int .i64 key) (hv:a.eval v=val) (hw:(Lit.int .i64 key).wf=true)
  (hK:∀ w',MapAt w' b (n+1) (upd M key val)->w.grownBy w' (some b)->wpList Try.prog ops Q rest (a.put o.dst undef) w') :
  wpList Try.prog ops Q (o::rest) a w:=by
 refine wpList_plain hg λK' hK'=>?_
 obtain⟨w',hrun,r1,r2⟩:=hown.put hn hw val
 unfold Oper.wp
 simp [execOp,hop,hm,hx,hv,hrun,Result.andThen]
 exact hK' _ _ (hK w' r1 r2)
end
section

/- A region that draws its order: what is held of the world is asked only till one operation, number L, that waits for all that is taken first. -/
open Go.RowKit
section
variable {P:Program} {md:Region.Mode} {ops:Array Oper} {Q:Exit->Act->World->Prop} {S:World->Prop} {L:Nat}
def ClosedR (md:Region.Mode) (ops:Array Oper) (listed:Array Bool):Prop:=
 ∀(j:Nat) (o:Oper),ops[j]?=some o->listed.getD j false=true->∀ e∈o.after,Region.binds md e=true->listed.getD e.on false=true
def needsR (md:Region.Mode) (ops:Array Oper) (i:Nat):Nat->Nat->Bool
 | 0,j=>j == i
 | f+1,j=>j == i || (match ops[j]? with|some o=>o.after.any λe=>Region.binds md e && needsR md ops i f e.on|none=>false)
theorem needsR_spec {i:Nat} {listed:Array Bool} (hc:ClosedR md ops listed):∀(f j:Nat),needsR md ops i f j=true->j<ops.size->listed.getD j false=true->listed.getD i false=true
 | 0,j,h,_,hj=>by simp only [needsR,beq_iff_eq] at h;subst h;exact hj
 | f+1,j,h,hlt,hj=>by
  simp only [needsR,Bool.or_eq_true,beq_iff_eq] at h
  rcases h with rfl|h
  ·exact hj
  ·have ho:ops[j]?=some ops[j]:=by simp [hlt]
   rw [ho] at h
   simp only at h
   obtain⟨e,he,h2⟩:=Array.any_eq_true'.1 h
   simp only [Bool.and_eq_true] at h2
   have h3:=hc j _ ho hj e he h2.1
   by_cases hlt':e.on<ops.size
   ·exact needsR_spec hc f e.on h2.2 hlt' h3
   ·cases f with
    | zero=>have:=h2.2;simp only [needsR,beq_iff_eq] at this;rw [this] at h3;exact h3
    | succ f=>
     have h4:=h2.2
     simp only [needsR,Bool.or_eq_true,beq_iff_eq] at h4
     rcases h4 with h4|h4
     ·rw [h4] at h3;exact h3
     ·rw [show ops[e.on]?=none by simp;omega] at h4;cases h4
theorem ClosedR.set {listed:Array Bool} (hc:ClosedR md ops listed) {i:Nat} (hi:i∈Region.ready md ops listed):ClosedR md ops (listed.setIfInBounds i true):=by
 intro j o ho hj e he hb
 obtain⟨_,o',ho',hall⟩:=mem_ready.1 hi
 by_cases hji:i=j
 ·subst hji
  rw [ho] at ho'
  cases ho'
  exact getD_set_true (hall e he hb)
 ·rw [getD_set_ne false hji] at hj
  exact getD_set_true (hc j o ho hj e he hb)
def wpAnyL (P:Program) (md:Region.Mode) (ops:Array Oper) (Q:Exit->Act->World->Prop) (S:World->Prop) (L:Nat):Nat->Array Bool->Act->World->Prop
 | 0,listed,a,w=>Region.ready md ops listed=[]/\Q .normal a w
 | fuel+1,listed,a,w=>
  (Region.ready md ops listed=[]->Q .normal a w)/\
  ∀ i∈Region.ready md ops listed,wpOp P ops Q i (λa' w'=>((listed.setIfInBounds i true).getD L true=false->S w')/\wpAnyL P md ops Q S L fuel (listed.setIfInBounds i true) a' w') a w
theorem wpAny_of_L:∀(fuel:Nat) (listed:Array Bool) (a:Act) (w:World),wpAnyL P md ops Q S L fuel listed a w->wpAny P md ops Q fuel listed a w
 | 0,_,_,_,h=>h
 | fuel+1,_,_,_,h=>⟨h.1,λi hi=>wpOp_mono (λa' w' h'=>wpAny_of_L fuel _ a' w' h'.2) (h.2 i hi)⟩
theorem getD_not {listed:Array Bool} {i:Nat} (h:listed.getD i true=false):listed.getD i false=false:=by
 rcases Nat.lt_or_ge i listed.size with h'|h'
 ·simp [h'] at h ⊢;exact h
 ·simp [Array.getElem?_eq_none h'] at h
theorem wpAnyL_first {i:Nat} {oi:Oper} {v:Value} (hi:ops[i]?=some oi) (hsel:∀(j:Nat) (o:Oper) cs b,ops[j]?=some o->o.op≠.select cs b)
  (hQ:∀ c a w,Q (.panic c) (a.put oi.dst v) w->Q (.panic c) a w) {F:Nat} (hneed:needsR md ops i F L=true) (hL:L<ops.size) (hiL:i≠L) :
  ∀(fuel:Nat) (listed:Array Bool) (a:Act) (w:World),
   (∀ j oj,ops[j]?=some oj->j≠i->listed.getD j true=false->(∀ e∈oj.after,Region.binds md e=true->e.on≠i)->oi.apart ops oj=true)->
   listed.size=ops.size->ClosedR md ops listed->i∈Region.ready md ops listed->YieldsIf P ops S oi v a->S w->
   wpAnyL P md ops Q S L fuel (listed.setIfInBounds i true) (a.put oi.dst v) w->wpAnyL P md ops Q S L (fuel+1) listed a w:=by
 intro fuel
 induction fuel with
 | zero=>
  intro listed a w _ _ _ hr hy hS H
  refine⟨λh=>(by rw [h] at hr;cases hr),λj hj=>?_⟩
  by_cases hji:j=i
  ·subst hji;exact hy.wpOp hi hS ⟨λ_=>hS,H⟩
  ·have:=ready_mono hj hji
   rw [H.1] at this
   cases this
 | succ fuel ih=>
  intro listed a w hfree hsz hc hr hy hS H
  refine⟨λh=>(by rw [h] at hr;cases hr),λj hj=>?_⟩
  by_cases hji:j=i
  ·subst hji;exact hy.wpOp hi hS ⟨λ_=>hS,H⟩
  ·have h1:=H.2 j (ready_mono hj hji)
   obtain⟨hjun,oj,hoj,hall⟩:=mem_ready.1 hj
   have hnot:∀ e∈oj.after,Region.binds md e=true->e.on≠i:=λe he hb heq=>by
    have h1:=hall e he hb
    have h0:=getD_not (mem_ready.1 hr).1
    rw [heq,h0] at h1
    cases h1
   have h2:=wpOp_putIf hoj (hfree j oj hoj hji hjun hnot) (λcs b=>hsel i oi cs b hi) (λcs b=>hsel j oj cs b hoj) hQ hy h1
   have hfree':∀ k ok,ops[k]?=some ok->k≠i->(listed.setIfInBounds j true).getD k true=false->
     (∀ e∈ok.after,Region.binds md e=true->e.on≠i)->oi.apart ops ok=true:=λk ok hk hki hun hno=>by
    refine hfree k ok hk hki ?_ hno
    by_cases hjk:j=k
    ·subst hjk;exact hjun
    ·rw [getD_set_ne true hjk] at hun;exact hun
   have hc':=hc.set hj
   have hsz':(listed.setIfInBounds j true).size=ops.size:=by simpa using hsz
   have hri:=ready_mono hr (Ne.symm hji)
   have hLun:(listed.setIfInBounds j true).getD L true=false:=by
    cases hx:(listed.setIfInBounds j true).getD L true with
    | false=>rfl
    | true=>
     have hx':(listed.setIfInBounds j true).getD L false=true:=by
      simp only [Array.getD_eq_getD_getElem?] at hx ⊢
      rw [Array.getElem?_eq_getElem (by omega)] at hx ⊢
      simpa using hx
     have:=needsR_spec hc' F L hneed hL hx'
     rw [getD_not (mem_ready.1 hri).1] at this
     cases this
   refine wpOp_mono (λa' w' h3=>?_) h2
   obtain⟨hy',hS',hrest⟩:=h3
   have hSw:S w':=by
    refine hS' ?_
    rw [Array.setIfInBounds_comm _ _ (Ne.symm hji),getD_set_ne true hiL]
    exact hLun
   refine⟨λ_=>hSw,ih (listed.setIfInBounds j true) a' w' hfree' hsz' hc' hri hy' hSw ?_⟩
   rw [Array.setIfInBounds_comm _ _ hji]
   exact hrest
theorem wpAnyL_take {i:Nat} {oi:Oper} {v:Value} {fuel:Nat} {listed:Array Bool} {a:Act} {w:World} (F:Nat) (hi:ops[i]?=some oi)
  (hs:Region.noSelect ops=true) (hf:Region.free md ops listed i=true) (hr:(Region.ready md ops listed).contains i=true) (hneed:needsR md ops i F L=true) (hL:decide (L<ops.size/\i≠L/\listed.size=ops.size)=true)
  (hc:ClosedR md ops listed) (hQ:∀ c a w,Q (.panic c) (a.put oi.dst v) w->Q (.panic c) a w) (hy:YieldsIf P ops S oi v a) (hS:S w)
  (h:ClosedR md ops (listed.setIfInBounds i true)->wpAnyL P md ops Q S L fuel (listed.setIfInBounds i true) (a.put oi.dst v) w):wpAnyL P md ops Q S L (fuel+1) listed a w:=by
 have h3:=of_decide_eq_true hL
 have hr':i∈Region.ready md ops listed:=by simpa using hr
 exact wpAnyL_first hi (Region.noSelect_spec hs) hQ hneed h3.1 h3.2.1 fuel listed a w (Region.free_spec hi hf) h3.2.2 hc hr' hy hS (h (hc.set hr'))
theorem closedR_none (n:Nat):ClosedR md ops (Array.replicate n false):=by
 intro j o _ h
 simp [Array.getElem?_replicate] at h
 split at h<;>simp at h
theorem wp_region_L {id:Nat} {a:Act} {w:World} (S:World->Prop) (L:Nat) (hm:P.follows .mixedOrders=true) (hS:S w.drew)
  (h:S w.drew->ClosedR .any ops (Array.replicate ops.size false)->wpAnyL P .any ops Q S L ops.size (Array.replicate ops.size false) a w.drew):(Code.region id ops true).wp P Q a w:=
 wp_region_any hm (wpAny_of_L _ _ _ _ (h hS (closedR_none _)))
theorem wpAnyL_one {i:Nat} {o:Oper} {fuel:Nat} {listed:Array Bool} {a:Act} {w:World} (hr:Region.ready md ops listed=[i]) (ho:ops[i]?=some o) (hc:ClosedR md ops listed)
  (h:∀ K':Act->World->Prop,(∀ a w,((listed.setIfInBounds i true).getD L true=false->S w)->(ClosedR md ops (listed.setIfInBounds i true)->wpAnyL P md ops Q S L fuel (listed.setIfInBounds i true) a w)->K' a w)->
   if Region.wanted o (yielded ops a.tmps)=true then Oper.wp P o a w K' Q else K' (a.put o.dst undef) w):wpAnyL P md ops Q S L (fuel+1) listed a w:=by
 have hmem:i∈Region.ready md ops listed:=by rw [hr];simp
 refine⟨λh=>(by rw [hr] at h;cases h),λj hj=>?_⟩
 rw [hr] at hj
 obtain rfl:j=i:=by simpa using hj
 exact wpOp_step ho (λK' hK=>h K' (λa w h1 h2=>hK a w ⟨h1,h2 (hc.set hmem)⟩))
theorem wpAnyL_done {listed:Array Bool} {a:Act} {w:World} (hr:Region.ready md ops listed=[]) (h:Q .normal a w):∀ fuel,wpAnyL P md ops Q S L fuel listed a w
 | 0=>⟨hr,h⟩
 | fuel+1=>⟨λ_=>h,λi hi=>(by rw [hr] at hi;cases hi)⟩
end
end
end Go.Proofs.Ytlepjmnhekeofaa
