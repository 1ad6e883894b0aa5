/- Layer 6: an object as the program has it; where a play lies in memory. -/
import Derived.Test.YtfkokppncipgnaaGreatV07
import Derived.Test.YtfkokppncipgnaaGreatV06
set_option maxRecDepth 100000
set_option linter.unusedVariables false
set_option linter.unusedSimpArgs false
set_option linter.unnecessarySimpa false
namespace Go.Proofs.YtfkokppncipgnaaGreat
open List renaming getElem_toArray → zq1, getElem_cons_zero → zq2, getElem_cons_succ → zq3, setIfInBounds_toArray → zq4, set_cons_zero → zq5, set_cons_succ → zq6
section
open Go.RowKit
def callAgg (c:CallD):Value:=.agg #[.int .i64 c.thread,.int .i64 c.obj,.int .i64 c.kind,.int .u64 (c.a:Int),.int .u64 (c.b:Int),.int .u64 (c.c:Int)]
structure CallOk (x:CallD):Prop where
 thread:(Lit.int .i64 x.thread).wf=true
 obj:(Lit.int .i64 x.obj).wf=true
 kind:(Lit.int .i64 x.kind).wf=true
 a:x.a<18446744073709551616
 b:x.b<18446744073709551616
 c:x.c<18446744073709551616
def mutTo (Mut B B':Nat->Prop) (b:Nat):Prop:=(Mut b/\¬ B b)∨B' b
def noB:Nat->Prop:=λ_=>False
structure Real (S:Sys) where
 T:TypeId
 x:Value
 OB:Nat->Prop
 ORep:World->(Nat->Prop)->S.ω->Prop
 MRep:World->(Nat->Prop)->(Nat->Prop)->TypeId->Value->Nat->S.σ->Prop
 inv:S.ω->WD->Prop
 dN:Nat
 live:S.ω->WD->Nat->S.σ->Prop:=λ_ _ _ _=>True
 done:S.σ->Prop:=λ_=>True
def McRep {S:Sys} (R:Real S) (w:World) (Mut B:Nat->Prop) (T:TypeId) (x:Value) (p:Nat):Mc S.σ->Prop
 | .refuse e=>T=208/\∃ b be,x=.pointer (some ⟨b,0,none⟩)/\RefuseAt w b be e/\B b/\¬ Mut be
 | .run s=>R.MRep w Mut B T x p s
def StepPost {S:Sys} (R:Real S) (w:World) (Mut B:Nat->Prop) (I:WIds) (N:Nat) (wd:WD) (o:S.ω) (T:TypeId) (x:Value) (p:Nat) (s:S.σ) (e:Ending) (w':World):Prop:=
 e=.returned (.bool (S.step o wd p s).2.2.2)/\Chg (λb=>WSet I b∨R.OB b∨B b) w w'/\∃ B',(∀ b,B' b->B b∨w.heap.size<=b)/\(∀ b,B' b->b<w'.heap.size)/\
  WorldAt w' (mutTo Mut B B') I (N+R.dN) (S.step o wd p s).2.1/\R.ORep w' (mutTo Mut B B') (S.step o wd p s).1/\R.MRep w' (mutTo Mut B B') B' T x p (S.step o wd p s).2.2.1
def AnswerPost (w:World) (Mut:Nat->Prop) (a:AnsD) (k:List Int) (e:Ending) (w':World):Prop:=
 ∃ la lc kv,e=.returned (.tuple #[ansV a.err a.val (.slice la a.list.length lc),kv])/\LstU w' Mut (.slice la a.list.length lc) a.list/\Lst w' Mut kv k/\Below w.heap.size w w'
def StartPost {S:Sys} (R:Real S) (w:World) (Mut:Nat->Prop) (I:WIds) (wd:WD) (o:S.ω) (p:Nat) (c:CallD) (e:Ending) (w':World):Prop:=
 ∃ T x B,e=.returned (.iface T x)/\Below w.heap.size w w'/\(∀ b,B b->w.heap.size<=b/\b<w'.heap.size)/\McRep R w' (mutTo Mut noB B) B T x p (S.start o wd p c)
def PB {S:Sys} (R:Real S) (B0 b:Nat):Prop:=B0<=b∨R.OB b
structure RealOk {S:Sys} (R:Real S):Prop where
 keepM:∀ w w' Q Mut Mut' B T x p s,R.MRep w Mut B T x p s->Chg Q w w'->(∀ b,Q b->Mut b)->(∀ b,B b->¬ Q b)->MutUp Mut w Mut'->R.MRep w' Mut' B T x p s
 keepO:∀ w w' Q Mut Mut' o,R.ORep w Mut o->Chg Q w w'->(∀ b,Q b->Mut b)->(∀ b,R.OB b->¬ Q b)->MutUp Mut w Mut'->(∀ b,R.OB b->Mut' b)->R.ORep w' Mut' o
 lowO:∀ w Mut o,R.ORep w Mut o->∀ b,R.OB b->Mut b
 start : ∃ K recv, Meth R.T R.x "Start" K recv ∧ ∀ w Mut I N wd o (p : Nat) c, WorldAt w Mut I N wd → R.ORep w Mut o → R.inv o wd → p < 16 → CallOk c →
  Calls Tryz.prog K #[recv,.pointer (some ⟨I.bW,0,none⟩),.int .i64 (p:Int),callAgg c] w (StartPost R w Mut I wd o p c)
 step:∀ w Mut B I N wd o T x p s,WorldAt w Mut I N wd->R.ORep w Mut o->R.MRep w Mut B T x p s->R.inv o wd->p<16->N+R.dN<1000000000->wd.mem.c.all+1<1000000000000->(∀ b,B b->Mut b/\¬ WSet I b/\¬ R.OB b)->(∀ b,R.OB b->¬ WSet I b)->R.live o wd p s->
  ∃ K recv, Meth T x "Step" K recv ∧ Calls Tryz.prog K #[recv, .pointer (some ⟨I.bW, 0, none⟩)] w (StepPost R w Mut B I N wd o T x p s)
 answer : ∀ w Mut B T x p s, R.MRep w Mut B T x p s → R.done s → ∃ K recv, Meth T x "Answer" K recv ∧ Calls Tryz.prog K #[recv] w (AnswerPost w Mut (S.answer s).1 (S.answer s).2)
 now:∀ o wd p s,(S.step o wd p s).2.1.now=wd.now
 cnt:∀ o wd p s,(S.step o wd p s).2.1.mem.c.all<=wd.mem.c.all+1
 invStep:∀ o wd p s,R.inv o wd->R.inv (S.step o wd p s).1 (S.step o wd p s).2.1
 invTick:∀ o wd,R.inv o wd->R.inv o wd.tick
 invBegin:∀ o wd p,R.inv o wd->R.inv o (wd.begin p)
 fin:∀ o wd p s,(S.step o wd p s).2.2.2=true->R.done (S.step o wd p s).2.2.1:=by intros;exact trivial
def evCells (e:EvD) (v:Value×Value):List Value:=[natV e.call,natV e.inv,natV e.resp,natV e.steps,.int .i64 e.ans.err,.int .u64 (e.ans.val:Int),v.1,v.2]
def evRow:List EvD->List (Value×Value)->List Value
 | e::es,v::vs=>evCells e v++evRow es vs
 | _,_=>[]
def zI:Value:=.int .i64 0
def playerL (bW bl:Nat) (ov cv:Value) (turn:Int) (hs:List (Value×Nat)) (ev:Value) (idle:Nat):List Value:=
 .pointer (some ⟨bW,0,none⟩)::ov::cv::.pointer (some ⟨bl,0,none⟩)::.int .i64 turn::(hs.flatMap (λh=>[h.1,natV h.2])++[ev,.slice none 0 0,zI,zI,zI,zI,zI,zI,natV idle])
def playerCells (bW bl:Nat) (ov cv:Value) (turn:Int) (hs:List (Value×Nat)) (ev:Value) (idle:Nat):Array Value:=(playerL bW bl ov cv turn hs ev idle).toArray
theorem evCells_len (e:EvD) (v:Value×Value):(evCells e v).length=8:=rfl
theorem evRow_append:∀(es es':List EvD) (vs vs':List (Value×Value)),es.length=vs.length->evRow (es++es') (vs++vs')=evRow es vs++evRow es' vs'
 | [],_,[],_,_=>rfl
 | e::es,es',v::vs,vs',h=>by
  simp only [List.cons_append,evRow,List.append_assoc]
  rw [evRow_append es es' vs vs' (by simpa using h)]
 | [],_,_::_,_,h=>by simp at h
 | _::_,_,[],_,h=>by simp at h
def vv0:Value×Value:=(undef,undef)
theorem evRow_get:∀(es:List EvD) (vs:List (Value×Value)) (i f:Nat),es.length=vs.length->i<es.length->f<8->(evRow es vs)[i*8+f]?=(evCells (es.getD i ev0) (vs.getD i vv0))[f]?
 | [],_,i,_,_,hi,_=>by simp at hi
 | e::es,[],_,_,h,_,_=>by simp at h
 | e::es,v::vs,0,f,h,_,hf=>by
  simp only [evRow,Nat.zero_mul,Nat.zero_add,List.getD_cons_zero]
  rw [List.getElem?_append_left (by rw [evCells_len];exact hf)]
 | e::es,v::vs,i+1,f,h,hi,hf=>by
  simp only [evRow,List.getD_cons_succ]
  rw [List.getElem?_append_right (by rw [evCells_len];omega),evCells_len,show(i+1)*8+f - 8=i*8+f by omega]
  exact evRow_get es vs i f (by simpa using h) (by simpa using hi) hf
theorem evRow_set:∀(es:List EvD) (vs:List (Value×Value)) (i f:Nat) (u:Value) (e':EvD) (v':Value×Value),es.length=vs.length->i<es.length->f<8->
  (evCells (es.getD i ev0) (vs.getD i vv0)).set f u=evCells e' v'->(evRow es vs).set (i*8+f) u=evRow (es.set i e') (vs.set i v')
 | [],_,i,_,_,_,_,_,hi,_,_=>by simp at hi
 | e::es,[],_,_,_,_,_,h,_,_,_=>by simp at h
 | e::es,v::vs,0,f,u,e',v',h,_,hf,hs=>by
  simp only [List.getD_cons_zero] at hs
  simp only [evRow,Nat.zero_mul,Nat.zero_add,zq5]
  rw [List.set_append_left _ _ (by rw [evCells_len];exact hf),hs]
 | e::es,v::vs,i+1,f,u,e',v',h,hi,hf,hs=>by
  simp only [List.getD_cons_succ] at hs
  simp only [evRow,zq6]
  rw [List.set_append_right _ _ (by rw [evCells_len];omega),evCells_len,show(i+1)*8+f - 8=i*8+f by omega,evRow_set es vs i f u e' v' (by simpa using h) (by simpa using hi) hf hs]
theorem flat_len:∀ hs:List (Value×Nat),(hs.flatMap (λh=>[h.1,natV h.2])).length=hs.length*2
 | []=>rfl
 | x::hs=>by
  simp only [List.flatMap_cons,List.length_append,List.length_cons,List.length_nil]
  rw [flat_len hs];omega
theorem flat_get:∀(hs:List (Value×Nat)) (p:Nat),p<hs.length->(hs.flatMap (λh=>[h.1,natV h.2]))[p*2]?=some (hs.getD p (undef,0)).1/\(hs.flatMap (λh=>[h.1,natV h.2]))[p*2+1]?=some (natV (hs.getD p (undef,0)).2)
 | [],p,h=>by simp at h
 | x::hs,0,_=>by simp
 | x::hs,p+1,h=>by
  have:=flat_get hs p (by simpa using h)
  simp only [List.flatMap_cons,List.cons_append,List.nil_append,List.getD_cons_succ]
  rw [show(p+1)*2=p*2+1+1 by omega,List.getElem?_cons_succ,List.getElem?_cons_succ,List.getElem?_cons_succ,List.getElem?_cons_succ]
  exact this
theorem flat_set:∀(hs:List (Value×Nat)) (p:Nat) (v:Value) (k:Nat),p<hs.length->
  (hs.flatMap (λh=>[h.1,natV h.2])).set (p*2) v=(hs.set p (v,(hs.getD p (undef,0)).2)).flatMap (λh=>[h.1,natV h.2])/\(hs.flatMap (λh=>[h.1,natV h.2])).set (p*2+1) (natV k)=(hs.set p ((hs.getD p (undef,0)).1,k)).flatMap (λh=>[h.1,natV h.2])
 | [],p,_,_,h=>by simp at h
 | x::hs,0,_,_,_=>by simp
 | x::hs,p+1,v,k,h=>by
  have:=flat_set hs p v k (by simpa using h)
  simp only [List.flatMap_cons,List.cons_append,List.nil_append,List.getD_cons_succ,zq6]
  rw [show(p+1)*2=p*2+1+1 by omega]
  simp only [zq6]
  rw [this.1,this.2]
  exact⟨rfl,rfl⟩
variable {bW bl:Nat} {ov cv:Value} {turn:Int} {hs:List (Value×Nat)} {ev:Value} {idle p:Nat}
theorem player_w:(playerCells bW bl ov cv turn hs ev idle)[0]?=some (.pointer (some ⟨bW,0,none⟩)):=rfl
theorem player_objs:(playerCells bW bl ov cv turn hs ev idle)[1]?=some ov:=rfl
theorem player_calls:(playerCells bW bl ov cv turn hs ev idle)[2]?=some cv:=rfl
theorem player_line:(playerCells bW bl ov cv turn hs ev idle)[3]?=some (.pointer (some ⟨bl,0,none⟩)):=rfl
theorem player_turn:(playerCells bW bl ov cv turn hs ev idle)[4]?=some (.int .i64 turn):=rfl
theorem player_hand (hl:hs.length=16) (hp:p<16):(playerCells bW bl ov cv turn hs ev idle)[5+p*2]?=some (hs.getD p (undef,0)).1/\(playerCells bW bl ov cv turn hs ev idle)[5+p*2+1]?=some (natV (hs.getD p (undef,0)).2):=by
 have h:=flat_get hs p (by omega)
 have hl2:=flat_len hs
 simp only [playerCells,playerL,List.getElem?_toArray]
 rw [show 5+p*2=p*2+1+1+1+1+1 by omega,show p*2+1+1+1+1+1+1=(p*2+1)+1+1+1+1+1 by omega]
 simp only [List.getElem?_cons_succ]
 rw [List.getElem?_append_left (by omega),List.getElem?_append_left (by omega)]
 exact h
theorem player_ev (hl:hs.length=16):(playerCells bW bl ov cv turn hs ev idle)[37]?=some ev:=by
 have hl2:=flat_len hs
 simp only [playerCells,playerL,List.getElem?_toArray,List.getElem?_cons_succ]
 rw [List.getElem?_append_right (by omega),hl2,hl];rfl
theorem player_idle (hl:hs.length=16):(playerCells bW bl ov cv turn hs ev idle)[45]?=some (natV idle):=by
 have hl2:=flat_len hs
 simp only [playerCells,playerL,List.getElem?_toArray,List.getElem?_cons_succ]
 rw [List.getElem?_append_right (by omega),hl2,hl];rfl
theorem player_set_turn (t:Int):(playerCells bW bl ov cv turn hs ev idle).setIfInBounds 4 (.int .i64 t)=playerCells bW bl ov cv t hs ev idle:=by simp [playerCells,playerL]
theorem player_set_hand (hl:hs.length=16) (hp:p<16) (v:Value):(playerCells bW bl ov cv turn hs ev idle).setIfInBounds (5+p*2) v=playerCells bW bl ov cv turn (hs.set p (v,(hs.getD p (undef,0)).2)) ev idle:=by
 have h:=(flat_set hs p v 0 (by omega)).1
 have hl2:=flat_len hs
 simp only [playerCells,playerL,zq4]
 rw [show 5+p*2=p*2+1+1+1+1+1 by omega]
 simp only [zq6]
 rw [List.set_append_left _ _ (by omega),h]
theorem player_set_at (hl:hs.length=16) (hp:p<16) (k:Nat):(playerCells bW bl ov cv turn hs ev idle).setIfInBounds (5+p*2+1) (.int .i64 (k:Int))=playerCells bW bl ov cv turn (hs.set p ((hs.getD p (undef,0)).1,k)) ev idle:=by
 have h:=(flat_set hs p undef k (by omega)).2
 have hl2:=flat_len hs
 simp only [playerCells,playerL,zq4]
 rw [show 5+p*2+1=(p*2+1)+1+1+1+1+1 by omega]
 simp only [zq6]
 rw [List.set_append_left _ _ (by omega)]
 have h':(hs.flatMap (λh=>[h.1,natV h.2])).set (p*2+1) (.int .i64 (k:Int))=(hs.set p ((hs.getD p (undef,0)).1,k)).flatMap (λh=>[h.1,natV h.2]):=h
 rw [h']
theorem player_set_ev (hl:hs.length=16) (v:Value):(playerCells bW bl ov cv turn hs ev idle).setIfInBounds 37 v=playerCells bW bl ov cv turn hs v idle:=by
 have hl2:=flat_len hs
 simp only [playerCells,playerL,zq4,zq6]
 rw [List.set_append_right _ _ (by omega),hl2,hl];rfl
theorem player_set_idle (hl:hs.length=16) (k:Nat):(playerCells bW bl ov cv turn hs ev idle).setIfInBounds 45 (.int .i64 (k:Int))=playerCells bW bl ov cv turn hs ev k:=by
 have hl2:=flat_len hs
 simp only [playerCells,playerL,zq4,zq6]
 rw [List.set_append_right _ _ (by omega),hl2,hl];rfl
end
section

/- Layer 6's reference: R, W, C, A on a tape, and an operation on words, where the access is made now. -/
open Go.RowKit
structure NewOk (t:TapeD) (m:MemD):Prop where
 halt:t.halt=false
 fresh:t.fresh=true
 at_:t.at_=t.got.length
 cnt:m.c.all+1<1000000000000
 glen:t.got.length+1<=100000000
 klen:t.ticks.length+1<=100000000
variable (I:TIds) (G K L:Value) (t:TapeD) (m:MemD) (now:Nat) (w:World)
def callW (c:CallD):Value:=.agg #[.int .i64 c.thread,.int .i64 c.obj,.int .i64 c.kind,.int .u64 (c.a:Int),.int .u64 (c.b:Int),.int .u64 (c.c:Int)]
end
section

/- The reference's tape and world, with all that they hold: in plain numbers, and as they lie. -/
open Go.RowKit
structure TapeP where
 thread:Nat
 inv:Nat
 got:List Nat
 ticks:List Int
 at_:Nat
 fresh:Bool
 halt:Bool
 priv:List Nat
 err:Int
 val:Nat
 list:List Nat
 key:List Int
structure RWD where
 mem:MemD
 now:Nat
 marks:List (List Int)
 traces:List (List Int)
def accP (kd a:Int) (x y:Nat) (t:TapeP) (r:RWD):Nat×TapeP×RWD:=
 if t.halt=true then (0,t,r)
 else if t.at_<t.got.length then (t.got.getD t.at_ 0,{ t with at_:=t.at_+1 },r)
 else if t.fresh=true then ((memAcc r.mem kd a x y).2,{ t with got:=t.got++[(memAcc r.mem kd a x y).2],ticks:=t.ticks++[(r.now:Int)],at_:=t.at_+1,fresh:=false },{ r with mem:=(memAcc r.mem kd a x y).1 })
 else (0,{ t with halt:=true },r)
def lastP (t:TapeP):Int:=if t.at_=0 then (t.inv:Int) else t.ticks.getD (t.at_ - 1) 0
def justP (t:TapeP):Bool:=!t.halt && !t.fresh && decide (t.at_=t.got.length) && decide (0<t.at_)
def markP (p:Int) (k:List Int) (t:TapeP) (r:RWD):RWD:=if justP t=true/\0<=p/\p<r.marks.length then { r with marks:=r.marks.set p.toNat k } else r
def traceP (a:Int) (r:RWD):List Int:=if a<0∨(r.traces.length:Int)<=a then [] else r.traces.getD a.toNat []
structure RIds where
 tb:Nat
 pre:List Value
 post:List Value
 T:TypeId
 bW:Nat
 bw:Option Nat
 bM:Nat
 bT:Nat
 nM:Nat
 nT:Nat
 Mx:Nat->Prop
def RIds.tids (I:RIds):TIds:=⟨I.tb,I.pre,I.post,I.T,I.bW,I.bw,.slice (some ⟨I.bM,0,none⟩) I.nM I.nM,.slice (some ⟨I.bT,0,none⟩) I.nT I.nT⟩
def TapeP.raw (t:TapeP) (PV LV KV:Value):TapeD:=⟨(t.thread:Int),(t.inv:Int),t.got,t.ticks,t.at_,t.fresh,t.halt,PV,t.err,t.val,LV,KV⟩
def RSet (I:RIds) (G K L:Value) (b:Nat):Prop:=TSet I.tids G K L b∨b=I.bM∨b=I.bT
def RMut (I:RIds) (G K L:Value) (b:Nat):Prop:=RSet I G K L b∨I.Mx b
def LstV (w:World) (Mut:Nat->Prop) (v:Value) (l:List Nat):Prop:=LstU w Mut v l/\(l=[]->v=.slice none 0 0)
theorem LstV.keep {w w':World} {S Mut Mut':Nat->Prop} {v:Value} {l:List Nat} (h:LstV w Mut v l) (hc:Chg S w w') (hS:∀ b,S b->Mut b) (hm:MutUp Mut w Mut'):LstV w' Mut' v l:=⟨h.1.keep hc hS hm,h.2⟩
theorem LstV.nil (w:World) (Mut:Nat->Prop):LstV w Mut (.slice none 0 0) []:=⟨LstU.nil w Mut,λ_=>rfl⟩
structure ListsAt (w:World) (Mut:Nat->Prop) (b n:Nat) (ls:List (List Int)):Prop where
 len:ls.length=n
 blk:∃ vs:List Value,w.heap[b]?=some (.cells vs.toArray 24 (0,0))/\vs.length=n/\∀ i,i<n->Lst w Mut (vs.getD i undef) (ls.getD i [])
structure RTapeAt (w:World) (I:RIds) (G K L:Value) (t:TapeP) (r:RWD):Prop where
 tape:∃ PV LV KV,TapeAt w I.tids G K L (t.raw PV LV KV) r.mem r.now/\LstU w (RMut I G K L) PV t.priv/\LstV w (RMut I G K L) LV t.list/\Lst w (RMut I G K L) KV t.key
 marks:ListsAt w (RMut I G K L) I.bM I.nM r.marks
 traces:ListsAt w (RMut I G K L) I.bT I.nT r.traces
 sep:I.bM≠I.bT/\I.T≠24/\∀ q,I.bw=some q->q≠I.bM/\q≠I.bT
 dis:∀ b,I.Mx b->¬ RSet I G K L b
 low:∀ b,I.Mx b->b<w.heap.size
 at_le:t.at_<=t.got.length
 tl:t.ticks.length=t.got.length
 room:t.fresh=true->t.halt=false->r.mem.c.all+1<1000000000000/\t.got.length+1<=100000000
structure RTo (w w':World) (I:RIds) (G K L G' K' L':Value):Prop where
 chg:Chg (RSet I G K L) w w'
 kg:KeepB w G G'
 kk:KeepB w K K'
 kl:KeepB w L L'
structure RBase where
 w0:World
 I:RIds
 G:Value
 K:Value
 L:Value
def RAt (B:RBase) (w:World) (t:TapeP) (r:RWD):Prop:=∃ G K L,RTapeAt w B.I G K L t r/\RTo B.w0 w B.I B.G B.K B.L G K L
def RAtL (B:RBase) (w:World) (t:TapeP) (r:RWD) (v:Value) (l:List Int):Prop:=∃ G K L,RTapeAt w B.I G K L t r/\RTo B.w0 w B.I B.G B.K B.L G K L/\Lst w (RMut B.I G K L) v l
def RAtU (B:RBase) (w:World) (t:TapeP) (r:RWD) (v:Value) (l:List Nat):Prop:=∃ G K L,RTapeAt w B.I G K L t r/\RTo B.w0 w B.I B.G B.K B.L G K L/\LstU w (RMut B.I G K L) v l
theorem RAtL.at {B:RBase} {w:World} {t:TapeP} {r:RWD} {v:Value} {l:List Int} (h:RAtL B w t r v l):RAt B w t r:=by obtain⟨G,K,L,h1,h2,_⟩:=h;exact⟨G,K,L,h1,h2⟩
theorem RAtU.at {B:RBase} {w:World} {t:TapeP} {r:RWD} {v:Value} {l:List Nat} (h:RAtU B w t r v l):RAt B w t r:=by obtain⟨G,K,L,h1,h2,_⟩:=h;exact⟨G,K,L,h1,h2⟩
theorem RTo.refl (w:World) (I:RIds) (G K L:Value):RTo w w I G K L G K L:=⟨Chg.refl _ _,KeepB.refl _ _,KeepB.refl _ _,KeepB.refl _ _⟩
theorem RTo.sub {w w':World} {I:RIds} {G K L G' K' L':Value} (h:RTo w w' I G K L G' K' L'):∀ b,RSet I G' K' L' b->RSet I G K L b∨w.heap.size<=b:=λb hs=>by
 rcases hs with(e|e|e|e|e|e)|e
 ·exact .inl (.inl (.inl e))
 ·exact .inl (.inl (.inr (.inl e)))
 ·exact .inl (.inl (.inr (.inr (.inl e))))
 ·rcases h.kg b e with h9|h9
  ·exact .inl (.inl (.inr (.inr (.inr (.inl h9)))))
  ·exact .inr h9
 ·rcases h.kk b e with h9|h9
  ·exact .inl (.inl (.inr (.inr (.inr (.inr (.inl h9))))))
  ·exact .inr h9
 ·rcases h.kl b e with h9|h9
  ·exact .inl (.inl (.inr (.inr (.inr (.inr (.inr h9))))))
  ·exact .inr h9
 ·exact .inl (.inr e)
theorem RTo.trans {w w1 w2:World} {I:RIds} {G K L G1 K1 L1 G2 K2 L2:Value} (h:RTo w w1 I G K L G1 K1 L1) (h1:RTo w1 w2 I G1 K1 L1 G2 K2 L2):RTo w w2 I G K L G2 K2 L2:=
 ⟨chg_trans2 h.chg h1.chg (λx hx hs=>(h.sub x hs).elim id (λh9=>by omega)),h.kg.trans h1.kg h.chg.size,h.kk.trans h1.kk h.chg.size,h.kl.trans h1.kl h.chg.size⟩
theorem RTo.mut {w w':World} {I:RIds} {G K L G' K' L':Value} (h:RTo w w' I G K L G' K' L'):MutUp (RMut I G K L) w (RMut I G' K' L'):=λb hb=>by
 rcases hb with hb|hb
 ·rcases h.sub b hb with h9|h9
  ·exact .inl (.inl h9)
  ·exact .inr h9
 ·exact .inl (.inr hb)
theorem TapeTo.rto {w w':World} {I:RIds} {G K L G' K' L':Value} (h:TapeTo w w' I.tids G K L G' K' L'):RTo w w' I G K L G' K' L':=⟨h.chg.mono (λ_ _ e=>.inl e),h.kg,h.kk,h.kl⟩
theorem ListsAt.keep {w w':World} {S Mut Mut':Nat->Prop} {b n:Nat} {ls:List (List Int)} (h:ListsAt w Mut b n ls) (hc:Chg S w w') (hS:∀ b,S b->Mut b) (hm:MutUp Mut w Mut') (hb:¬ S b):ListsAt w' Mut' b n ls:=by
 obtain⟨vs,h1,h2,h3⟩:=h.blk
 exact⟨h.len,vs,(hc.block _ (blk_lt h1) hb).trans h1,h2,λi hi=>(h3 i hi).keep hc hS hm⟩
variable {w w':World} {I:RIds} {G K L G' K' L':Value} {t t':TapeP} {r r':RWD}
theorem RTapeAt.bm (h:RTapeAt w I G K L t r):¬ TSet I.tids G K L I.bM/\¬ TSet I.tids G K L I.bT:=by
 obtain⟨PV,LV,KV,ht,_⟩:=h.tape
 obtain⟨ms,hm,_⟩:=h.marks.blk
 obtain⟨ts,htr,_⟩:=h.traces.blk
 obtain⟨s1,s2,s3⟩:=h.sep
 obtain⟨n,xs,_,hl⟩:=ht.log
 obtain⟨_,_,_,hW,_⟩:=ht.mem.blk
 have key:∀(b:Nat) (cs:Array Value),w.heap[b]?=some (.cells cs 24 (0,0))->(∀ q,I.bw=some q->q≠b)->¬ TSet I.tids G K L b:=λb cs hb hq hs=>by
  rcases hs with e|e|e|e|e|e
  ·rw [e,ht.blk] at hb
   simp only [Option.some.injEq,Obj.cells.injEq] at hb
   exact s2 hb.2.1
  ·rw [e,hW] at hb
   simp only [Option.some.injEq,Obj.cells.injEq] at hb
   exact absurd hb.2.1 (by decide)
  ·exact hq b e rfl
  ·exact row_ne ht.got hb (by decide) e
  ·exact row_ne ht.ticks hb (by decide) e
  ·exact row_ne hl hb (by decide) e
 exact⟨key _ _ hm (λq e=>(s3 q e).1),key _ _ htr (λq e=>(s3 q e).2)⟩
theorem RTapeAt.lift (h:RTapeAt w I G K L t r):∃ PV LV KV,TapeAt w I.tids G K L (t.raw PV LV KV) r.mem r.now/\∀ {w' G' K' L' t' r'},TapeAt w' I.tids G' K' L' (TapeP.raw t' PV LV KV) (RWD.mem r') (RWD.now r')->TapeTo w w' I.tids G K L G' K' L'->t'.priv=t.priv->t'.list=t.list->t'.key=t.key->r'.marks=r.marks->r'.traces=r.traces->
  t'.at_<=t'.got.length->t'.ticks.length=t'.got.length->(t'.fresh=true->t'.halt=false->r'.mem.c.all+1<1000000000000/\t'.got.length+1<=100000000)->RTapeAt w' I G' K' L' t' r'/\RTo w w' I G K L G' K' L':=by
 obtain⟨PV,LV,KV,ht,hp,hl,hk⟩:=h.tape
 obtain⟨bm,bt⟩:=h.bm
 refine⟨PV,LV,KV,ht,λ{w' G' K' L' t' r'} ht' tto e1 e2 e3 e4 e5 h1 h2 h3=>?_⟩
 have rto:RTo w w' I G K L G' K' L':=tto.rto
 have hS:∀ b,TSet I.tids G K L b->RMut I G K L b:=λb hb=>.inl (.inl hb)
 refine⟨⟨⟨PV,LV,KV,ht',by rw [e1];exact hp.keep tto.chg hS rto.mut,by rw [e2];exact hl.keep tto.chg hS rto.mut,by rw [e3];exact hk.keep tto.chg hS rto.mut⟩,by rw [e4];exact h.marks.keep tto.chg hS rto.mut bm,by rw [e5];exact h.traces.keep tto.chg hS rto.mut bt,h.sep,λb hb hs=>?_,λb hb=>Nat.lt_of_lt_of_le (h.low b hb) tto.chg.size,h1,h2,h3⟩,rto⟩
 rcases rto.sub b hs with h9|h9
 ·exact h.dis b hb h9
 ·have:=h.low b hb;omega
theorem RTapeAt.grown (h:RTapeAt w I G K L t r) (hb:Below w.heap.size w w'):RTapeAt w' I G K L t r/\RTo w w' I G K L G K L:=by
 obtain⟨PV,LV,KV,ht,hl⟩:=h.lift
 obtain⟨h1,h2⟩:=ht.grown hb
 exact hl h1 h2 rfl rfl rfl rfl rfl h.at_le h.tl h.room
variable {B:RBase}
theorem RAt.grown (h:RAt B w t r) (hb:Below w.heap.size w w'):RAt B w' t r:=by
 obtain⟨G,K,L,h1,h2⟩:=h
 obtain⟨h3,h4⟩:=h1.grown hb
 exact⟨G,K,L,h3,h2.trans h4⟩
theorem RAtL.grown {v:Value} {l:List Int} (h:RAtL B w t r v l) (hb:Below w.heap.size w w'):RAtL B w' t r v l:=by
 obtain⟨G,K,L,h1,h2,h5⟩:=h
 obtain⟨h3,h4⟩:=h1.grown hb
 exact⟨G,K,L,h3,h2.trans h4,h5.keep (S:=noB) (Chg.of_below hb) (λ_ h=>h.elim) (MutUp.refl _ _)⟩
theorem RAtU.grown {v:Value} {l:List Nat} (h:RAtU B w t r v l) (hb:Below w.heap.size w w'):RAtU B w' t r v l:=by
 obtain⟨G,K,L,h1,h2,h5⟩:=h
 obtain⟨h3,h4⟩:=h1.grown hb
 exact⟨G,K,L,h3,h2.trans h4,h5.keep (S:=noB) (Chg.of_below hb) (λ_ h=>h.elim) (MutUp.refl _ _)⟩
theorem RAt.cell (h:RAt B w t r):∃ G K PV LV KV,w.heap[B.I.tb]?=some (.cells (B.I.pre++(tapeL B.I.bW G K (t.raw PV LV KV)++B.I.post)).toArray B.I.T (0,0)):=by
 obtain⟨G,K,L,h1,_⟩:=h
 obtain⟨PV,LV,KV,ht,_⟩:=h1.tape
 exact⟨G,K,PV,LV,KV,ht.blk⟩
theorem RAt.frozen (h:RAt B w t r) (i:Nat):w.frozen? ⟨B.I.tb,i,none⟩=false:=by
 obtain⟨G,K,PV,LV,KV,hb⟩:=h.cell
 exact frozen_blk hb _
theorem RAt.lt (h:RAt B w t r):B.I.tb<w.heap.size:=by
 obtain⟨G,K,PV,LV,KV,hb⟩:=h.cell
 exact blk_lt hb
theorem RAt.get (h:RAt B w t r) {i:Nat} (hi:i<13):∃ G K PV LV KV,w.cell? ⟨B.I.tb,B.I.pre.length+i,none⟩=(tapeL B.I.bW G K (t.raw PV LV KV))[i]?:=by
 obtain⟨G,K,PV,LV,KV,hb⟩:=h.cell
 exact⟨G,K,PV,LV,KV,by rw [cell_blk hb];exact mid_get hi⟩
theorem RAt.cThread (h:RAt B w t r):w.cell? ⟨B.I.tb,B.I.pre.length+1,none⟩=some (.int .i64 (t.thread:Int)):=by obtain⟨_,_,_,_,_,h1⟩:=h.get (i:=1) (by omega);exact h1
theorem RAt.cInv (h:RAt B w t r):w.cell? ⟨B.I.tb,B.I.pre.length+2,none⟩=some (.int .i64 (t.inv:Int)):=by obtain⟨_,_,_,_,_,h1⟩:=h.get (i:=2) (by omega);exact h1
theorem RAt.cAt (h:RAt B w t r):w.cell? ⟨B.I.tb,B.I.pre.length+5,none⟩=some (.int .i64 (t.at_:Int)):=by obtain⟨_,_,_,_,_,h1⟩:=h.get (i:=5) (by omega);exact h1
theorem RAt.cHalt (h:RAt B w t r):w.cell? ⟨B.I.tb,B.I.pre.length+7,none⟩=some (.bool t.halt):=by obtain⟨_,_,_,_,_,h1⟩:=h.get (i:=7) (by omega);exact h1
theorem RAt.cErr (h:RAt B w t r):w.cell? ⟨B.I.tb,B.I.pre.length+9,none⟩=some (.int .i64 t.err):=by obtain⟨_,_,_,_,_,h1⟩:=h.get (i:=9) (by omega);exact h1
theorem RAt.put (h:RAt B w t r) {i:Nat} (hi:i<13) (v:Value) {t':TapeP} (hv:∀ G K PV LV KV,(tapeL B.I.bW G K (t.raw PV LV KV)).set i v=tapeL B.I.bW G K (t'.raw PV LV KV)) (hg:t'.got=t.got) (hk:t'.ticks=t.ticks) (e1:t'.priv=t.priv) (e2:t'.list=t.list) (e3:t'.key=t.key) (ha:t'.at_<=t.got.length) (hf:t'.fresh=true->t'.halt=false->t.fresh=true/\t.halt=false) :
  RAt B (w.setCell ⟨B.I.tb,B.I.pre.length+i,none⟩ v) t' r:=by
 obtain⟨G,K,L,h1,h2⟩:=h
 obtain⟨PV,LV,KV,ht,hl⟩:=h1.lift
 obtain⟨h3,h4⟩:=ht.put hi v (t':=t'.raw PV LV KV) (hv G K PV LV KV) hg hk
 obtain⟨h5,h6⟩:=hl h3 h4 e1 e2 e3 rfl rfl (by rw [hg];exact ha) (by rw [hg,hk];exact h1.tl) (λx y=>by rw [hg];exact h1.room (hf x y).1 (hf x y).2)
 exact⟨G,K,L,h5,h2.trans h6⟩
theorem RAt.putErr (h:RAt B w t r) (x:Int):RAt B (w.setCell ⟨B.I.tb,B.I.pre.length+9,none⟩ (.int .i64 x)) { t with err:=x } r:=by
 obtain⟨_,_,_,h1,_⟩:=id h
 exact h.put (i:=9) (by omega) _ (λ_ _ _ _ _=>rfl) rfl rfl rfl rfl rfl h1.at_le (λx y=>⟨x,y⟩)
theorem RAtL.putKey {v:Value} {l:List Int} (h:RAtL B w t r v l):RAt B (w.setCell ⟨B.I.tb,B.I.pre.length+12,none⟩ v) { t with key:=l } r:=by
 obtain⟨G,K,L,h1,h2,h9⟩:=h
 obtain⟨PV,LV,KV,ht,hp,hl,hk⟩:=h1.tape
 obtain⟨bm,bt⟩:=h1.bm
 obtain⟨h3,h4⟩:=ht.put (i:=12) (by omega) v (t':=TapeP.raw { t with key:=l } PV LV v) rfl rfl rfl
 have hS:∀ b,TSet B.I.tids G K L b->RMut B.I G K L b:=λb hb=>.inl (.inl hb)
 have rto:RTo w _ B.I G K L G K L:=h4.rto
 exact⟨G,K,L,⟨⟨PV,LV,v,h3,hp.keep h4.chg hS rto.mut,hl.keep h4.chg hS rto.mut,h9.keep h4.chg hS rto.mut⟩,h1.marks.keep h4.chg hS rto.mut bm,h1.traces.keep h4.chg hS rto.mut bt,h1.sep,h1.dis,λb hb=>Nat.lt_of_lt_of_le (h1.low b hb) h4.chg.size,h1.at_le,h1.tl,h1.room⟩,h2.trans rto⟩
theorem RAtU.putPriv {v:Value} {l:List Nat} (h:RAtU B w t r v l):RAt B (w.setCell ⟨B.I.tb,B.I.pre.length+8,none⟩ v) { t with priv:=l } r:=by
 obtain⟨G,K,L,h1,h2,h9⟩:=h
 obtain⟨PV,LV,KV,ht,hp,hl,hk⟩:=h1.tape
 obtain⟨bm,bt⟩:=h1.bm
 obtain⟨h3,h4⟩:=ht.put (i:=8) (by omega) v (t':=TapeP.raw { t with priv:=l } v LV KV) rfl rfl rfl
 have hS:∀ b,TSet B.I.tids G K L b->RMut B.I G K L b:=λb hb=>.inl (.inl hb)
 have rto:RTo w _ B.I G K L G K L:=h4.rto
 exact⟨G,K,L,⟨⟨v,LV,KV,h3,h9.keep h4.chg hS rto.mut,hl.keep h4.chg hS rto.mut,hk.keep h4.chg hS rto.mut⟩,h1.marks.keep h4.chg hS rto.mut bm,h1.traces.keep h4.chg hS rto.mut bt,h1.sep,h1.dis,λb hb=>Nat.lt_of_lt_of_le (h1.low b hb) h4.chg.size,h1.at_le,h1.tl,h1.room⟩,h2.trans rto⟩
theorem RTapeAt.mutlow (h:RTapeAt w I G K L t r):∀ b,RMut I G K L b->b<w.heap.size:=λb hb=>by
 obtain⟨PV,LV,KV,ht,_⟩:=h.tape
 obtain⟨ms,hm,_⟩:=h.marks.blk
 obtain⟨ts,htr,_⟩:=h.traces.blk
 obtain⟨n,xs,_,hl⟩:=ht.log
 have row:∀ {e:TypeId} {k n:Nat} {V:Value} {xs:List Value},w.ownsRow 0 e k V n xs->V.ownBlock=some b->b<w.heap.size:=λh1 e=>by
  obtain⟨cs,fz,h9⟩:=row_type h1 e
  exact blk_lt h9
 rcases hb with((e|e|e|e|e|e)|e|e)|e
 ·rw [e];exact blk_lt ht.blk
 ·rw [e];exact ht.mem.lt
 ·exact ht.mem.low b e
 ·exact row ht.got e
 ·exact row ht.ticks e
 ·exact row hl e
 ·rw [e];exact blk_lt hm
 ·rw [e];exact blk_lt htr
 ·exact h.low b e
theorem RAt.newL (h:RAt B w t r) (hb:Below w.heap.size w w') {a:Option Addr} {c:Nat} {l:List Int} (hs:SlAt w' a l.length 1 (intG l)) (hn:l=[]->a=none/\c=0) (hlo:∀ b off,a=some ⟨b,off,none⟩->w.heap.size<=b):RAtL B w' t r (.slice a l.length c) l:=by
 obtain⟨G,K,L,h1,h2⟩:=h
 obtain⟨h3,h4⟩:=h1.grown hb
 refine⟨G,K,L,h3,h2.trans h4,a,c,rfl,λe=>?_,hs,λb off e hm=>?_⟩
 ·obtain⟨rfl,rfl⟩:=hn e;rw [e];rfl
 ·have:=hlo b off e;have:=h1.mutlow b hm;omega
end
section

/- Layer 6: machines whatever they are: how they step, and answer. -/
open Go.RowKit
inductive Mh (σ:Type) where
 | refuse (e:Int)
 | refused (e:Int)
 | run (s:σ)
def Mh.of {σ:Type}:Mc σ->Mh σ
 | .refuse e=>.refuse e
 | .run s=>.run s
def mhStep (S:Sys) (o:S.ω) (wd:WD) (p:Nat):Mh S.σ->S.ω×WD×Mh S.σ×Bool
 | .refuse e=>(o,wd,.refused e,true)
 | .refused e=>(o,wd,.refused e,true)
 | .run s=>let r:=S.step o wd p s;(r.1,r.2.1,.run r.2.2.1,r.2.2.2)
def mhAnswer (S:Sys):Mh S.σ->AnsD×List Int
 | .refuse e=>(⟨e,0,[]⟩,[])
 | .refused e=>(⟨e,0,[]⟩,[])
 | .run s=>S.answer s
def MhRep {S:Sys} (R:Real S) (w:World) (Mut B:Nat->Prop) (T:TypeId) (x:Value) (p:Nat):Mh S.σ->Prop
 | .refuse e=>T=208/\∃ b be,x=.pointer (some ⟨b,0,none⟩)/\RefuseAt w b be e/\B b/\¬ Mut be
 | .refused e=>T=208/\∃ b K cap,x=.pointer (some ⟨b,0,none⟩)/\w.heap[b]?=some (.cells (onceCells K cap e 0) 210 (0,0))/\B b
 | .run s=>R.MRep w Mut B T x p s
variable {S:Sys} {R:Real S}
theorem MhRep.of_mc {w:World} {Mut B:Nat->Prop} {T:TypeId} {x:Value} {p:Nat} {m:Mc S.σ} (h:McRep R w Mut B T x p m):MhRep R w Mut B T x p (Mh.of m):=by
 cases m<;>exact h
theorem MhRep.keep (ok:RealOk R) {w w':World} {Q Mut Mut' B:Nat->Prop} {T:TypeId} {x:Value} {p:Nat} {m:Mh S.σ} (h:MhRep R w Mut B T x p m) (hc:Chg Q w w') (hQ:∀ b,Q b->Mut b) (hB:∀ b,B b->¬ Q b) (hm:MutUp Mut w Mut'):MhRep R w' Mut' B T x p m:=by
 cases m with
 | run s=>exact ok.keepM _ _ _ _ _ _ _ _ _ _ h hc hQ hB hm
 | refuse e=>
  obtain⟨h1,b,be,h2,⟨h3,h4,h5⟩,h6,h7⟩:=h
  have hlt:=World.block_lt_of_cell? _ _ h4
  refine⟨h1,b,be,h2,⟨(hc.block _ (blk_lt h3) (hB b h6)).trans h3,box_keep hc (λhq=>h7 (hQ _ hq)) h4,h5⟩,h6,λhx=>?_⟩
  rcases hm _ hx with hy|hy
  ·exact h7 hy
  ·simp only at hlt;omega
 | refused e=>
  obtain⟨h1,b,K,cap,h2,h3,h6⟩:=h
  exact⟨h1,b,K,cap,h2,(hc.block _ (blk_lt h3) (hB b h6)).trans h3,h6⟩
def MhPost (R:Real S) (w:World) (Mut B:Nat->Prop) (I:WIds) (N:Nat) (wd:WD) (o:S.ω) (T:TypeId) (x:Value) (p:Nat) (m:Mh S.σ) (e:Ending) (w':World):Prop:=
 e=.returned (.bool (mhStep S o wd p m).2.2.2)/\Chg (λb=>WSet I b∨R.OB b∨B b) w w'/\∃ B',(∀ b,B' b->B b∨w.heap.size<=b)/\(∀ b,B' b->b<w'.heap.size)/\
  WorldAt w' (mutTo Mut B B') I (N+R.dN) (mhStep S o wd p m).2.1/\R.ORep w' (mutTo Mut B B') (mhStep S o wd p m).1/\MhRep R w' (mutTo Mut B B') B' T x p (mhStep S o wd p m).2.2.1
theorem mutTo_up {Mut B B':Nat->Prop} {w:World} (h:∀ b,B' b->B b∨w.heap.size<=b) (hB:∀ b,B b->Mut b):MutUp Mut w (mutTo Mut B B'):=by
 rintro b (⟨h1,_⟩|h1)
 ·exact .inl h1
 ·rcases h b h1 with h2|h2
  ·exact .inl (hB b h2)
  ·exact .inr h2
theorem WorldAt.more {w:World} {Mut:Nat->Prop} {I:WIds} {N N':Nat} {wd:WD} (h:WorldAt w Mut I N wd) (hN:N<=N') (hl:N'<1000000000):WorldAt w Mut I N' wd:=by
 obtain⟨h1,h4,h5,h6,⟨n,M,h7,h8,h9⟩,h10,h11,h12,h13,h14⟩:=h
 exact⟨h1,h4,h5,h6,⟨n,M,h7,by omega,h9⟩,h10,h11,h12,h13,hl⟩
theorem mh_step (ok:RealOk R) {w:World} {Mut B:Nat->Prop} {I:WIds} {N:Nat} {wd:WD} {o:S.ω} {T:TypeId} {x:Value} {p:Nat} {m:Mh S.σ} (hw:WorldAt w Mut I N wd) (ho:R.ORep w Mut o) (hm:MhRep R w Mut B T x p m) (hi:R.inv o wd) (hp:p<16)
  (hN:N+R.dN<1000000000) (hc:wd.mem.c.all+1<1000000000000) (hB:∀ b,B b->Mut b/\¬ WSet I b/\¬ R.OB b) (hr:∀ e,m≠.refused e) (how:∀ b,R.OB b->¬ WSet I b) (hlv:∀ s,m=.run s->R.live o wd p s) :
  ∃ K recv, Meth T x "Step" K recv ∧ Calls Tryz.prog K #[recv, .pointer (some ⟨I.bW, 0, none⟩)] w (MhPost R w Mut B I N wd o T x p m) := by
 cases m with
 | run s=>exact ok.step w Mut B I N wd o T x p s hw ho hm hi hp hN hc hB how (hlv s rfl)
 | refused e=>exact absurd rfl (hr e)
 | refuse e=>
  obtain⟨rfl,b,be,rfl,h3,h6,h7⟩:=hm
  refine⟨_,_,once_step_m _,?_⟩
  refine(once_step b _ _ (.pointer (some ⟨I.bW,0,none⟩)) w _ h3.1 enter_refuse (refuse_in b be e _ w h3)).mono ?_
  rintro e' w' ⟨rfl,er,vl,w1,⟨rfl,rfl,hb1⟩,hblk,hch⟩
  have hcb:Chg (λk=>k=b) w w':=(Chg.of_below hb1).trans hch
  have hlt:=blk_lt h3.1
  have hsub:∀ k,(λk=>k=b) k->Mut k:=by rintro k rfl;exact(hB _ h6).1
  have hup:MutUp Mut w (mutTo Mut B (λk=>k=b)):=mutTo_up (λk hk=>by cases hk;exact .inl h6) (λk hk=>(hB k hk).1)
  refine⟨rfl,hcb.mono (λk _ hk=>by cases hk;exact .inr (.inr h6)),λk=>k=b,(λk hk=>by cases hk;exact .inl h6),(λk hk=>by cases hk;exact Nat.lt_of_lt_of_le hlt hcb.size),?_,?_,rfl,b,_,_,rfl,hblk,rfl⟩
  ·refine(hw.keep hcb hsub (by rintro k rfl;exact(hB _ h6).2.1) hup ?_ ?_).more (by omega) hN
   ·rintro k (⟨h1,_⟩|h1)
    ·exact Nat.lt_of_lt_of_le (hw.low k h1) hcb.size
    ·cases h1;exact Nat.lt_of_lt_of_le hlt hcb.size
   ·intro k hk
    by_cases hkb:B k
    ·exact absurd hk (hB k hkb).2.1
    ·exact .inl ⟨hw.muts k hk,hkb⟩
  ·exact ok.keepO _ _ _ _ _ _ ho hcb hsub (by rintro k hk rfl;exact(hB _ h6).2.2 hk) hup (λb hb=>.inl ⟨ok.lowO _ _ _ ho b hb,λhx=>(hB b hx).2.2 hb⟩)
theorem mh_fin (ok:RealOk R) {o:S.ω} {wd:WD} {p:Nat} {m:Mh S.σ} {s:S.σ} (h:(mhStep S o wd p m).2.2.2=true) (hs:(mhStep S o wd p m).2.2.1=.run s):R.done s:=by
 cases m with
 | run s0=>
  have e:(S.step o wd p s0).2.2.1=s:=by injection hs
  rw [<-e];exact ok.fin o wd p s0 h
 | refuse e=>cases hs
 | refused e=>cases hs
theorem mh_answer (ok:RealOk R) {w:World} {Mut B:Nat->Prop} {T:TypeId} {x:Value} {p:Nat} {m:Mh S.σ} (hm:MhRep R w Mut B T x p m) (hr:∀ e,m≠.refuse e) (hd:∀ s,m=.run s->R.done s) :
  ∃ K recv, Meth T x "Answer" K recv ∧ Calls Tryz.prog K #[recv] w (AnswerPost w Mut (mhAnswer S m).1 (mhAnswer S m).2) := by
 cases m with
 | run s=>exact ok.answer w Mut B T x p s hm (hd s rfl)
 | refuse e=>exact absurd rfl (hr e)
 | refused e=>
  obtain⟨rfl,b,K,cap,rfl,h3,h6⟩:=hm
  refine⟨_,_,once_answer_m _,(once_answer b K cap e 0 w h3).mono ?_⟩
  rintro e' w' ⟨rfl,hb⟩
  exact⟨none,0,.slice none 0 0,rfl,LstU.nil _ _,Lst.nil _ _,hb⟩
end
end Go.Proofs.YtfkokppncipgnaaGreat
