/- Layer 6: machines of one step; operations that are refused; calls through interfaces. -/
import Derived.Test.YtlepjmnhekeofaaR07
set_option maxRecDepth 100000
set_option linter.unusedVariables false
set_option linter.unusedSimpArgs false
set_option linter.unnecessarySimpa false
namespace Go.Proofs.Ytlepjmnhekeofaa
open List renaming getElem_toArray → zq1, getElem_cons_zero → zq2, getElem_cons_succ → zq3, setIfInBounds_toArray → zq4, set_cons_zero → zq5, set_cons_succ → zq6
section
open Go.RowKit
structure Meth (T:TypeId) (x:Value) (name:String) (K:FuncId) (recv:Value):Prop where
 ahead:∀(F:Nat) (w:World),(nilAhead (F+1) T x name).run Try.prog w=.ok (some false) w
 meth:∀(F:Nat) (w:World),(method (F+1) T x name).run Try.prog w=.ok (K,recv) w
 enter:∀(args:Array Value) (w:World),(callFunc K args).run Try.prog w=.ok (.enter K args) w
theorem once_step_m (a : Addr) : Meth 164 (.pointer (some a)) "Step" 139 (.pointer (some a)) := ⟨fun _ _ => by kernel_rfl, fun _ _ => by kernel_rfl, fun _ _ => by kernel_rfl⟩
theorem once_answer_m (a : Addr) : Meth 164 (.pointer (some a)) "Answer" 138 (.pointer (some a)) := ⟨fun _ _ => by kernel_rfl, fun _ _ => by kernel_rfl, fun _ _ => by kernel_rfl⟩
def ansV (er:Int) (vl:Nat) (lv:Value):Value:=.agg #[.int .i64 er,.int .u64 (vl:Int),lv]
def onceCells (K:FuncId) (cap:Array Value) (er:Int) (vl:Nat):Array Value:=#[.func (.func K) #[] cap,.int .i64 er,.int .u64 (vl:Int),.slice none 0 0]
def OncePost (b K:Nat) (cap:Array Value) (Q:Int->Nat->World->Prop) (e:Ending) (w':World):Prop:=
 e=.returned (.bool true)/\∃ er vl w1,Q er vl w1/\w'.heap[b]?=some (.cells (onceCells K cap er vl) 166 (0,0))/\Chg (λk=>k=b) w1 w'
def OnceIn (b:Nat) (w:World) (Q:Int->Nat->World->Prop) (e:Ending) (w1:World):Prop:=∃(er:Int) (vl:Nat),e=.returned (ansV er vl (.slice none 0 0))/\w1.heap[b]?=w.heap[b]?/\Q er vl w1
theorem once_step (b K:Nat) (cap:Array Value) (pw:Value) (w:World) (Q:Int->Nat->World->Prop) {er0:Int} {vl0:Nat} (h:w.heap[b]?=some (.cells (onceCells K cap er0 vl0) 166 (0,0)))
  (hK:∀(args:Array Value) (u:World),(callFunc K args).run Try.prog u=.ok (.enter K args) u) (hC:Calls Try.prog K (#[pw]++cap) w (OnceIn b w Q)) :
  Calls Try.prog 139 #[.pointer (some ⟨b,0,none⟩),pw] w (OncePost b K cap Q):=by
 have c0:w.cell? ⟨b,0,none⟩=some (.func (.func K) #[] cap):=by rw [cell_blk h];rfl
 have HC:=Lib.hid hC;have Hh:=Lib.hid h
 clear hC h
 go_enter Try.func139,Try.ntmps139
 go_wp2_with fail
 refine HC.out.mono ?_
 rintro e w1 ⟨er,vl,rfl,hb,hq⟩
 have hb1:=hb.trans Hh.out
 have c1:w1.cell? ⟨b,1,none⟩=some (.int .i64 er0):=by rw [cell_blk hb1];rfl
 have c2:w1.cell? ⟨b,2,none⟩=some (.int .u64 (vl0:Int)):=by rw [cell_blk hb1];rfl
 have c3:w1.cell? ⟨b,3,none⟩=some (.slice none 0 0):=by rw [cell_blk hb1];rfl
 have f1:w1.frozen? ⟨b,1,none⟩=false:=frozen_blk hb1 1
 have f2:w1.frozen? ⟨b,2,none⟩=false:=frozen_blk hb1 2
 have f3:w1.frozen? ⟨b,3,none⟩=false:=frozen_blk hb1 3
 have Hq:=Lib.hid hq;have Hb1:=Lib.hid hb1
 unfold ansV
 clear hb hq hb1
 go_wp2
 go_ret
 refine⟨rfl,er,vl,w1,Hq.out,?_,?_⟩
 ·rw [blk_set (blk_set (blk_set Hb1.out _ _) _ _)]
  rfl
 ·exact(((Chg.refl (λk=>k=b) w1).setCell (p:=⟨b,1,none⟩) (.inl rfl) _).setCell (p:=⟨b,2,none⟩) (.inl rfl) _).setCell (p:=⟨b,3,none⟩) (.inl rfl) _
theorem once_answer (b K:Nat) (cap:Array Value) (er:Int) (vl:Nat) (w:World) (h:w.heap[b]?=some (.cells (onceCells K cap er vl) 166 (0,0))) :
  Calls Try.prog 138 #[.pointer (some ⟨b,0,none⟩)] w λe w'=>e=.returned (.tuple #[ansV er vl (.slice none 0 0),.slice none 0 0])/\Below w.heap.size w w':=by
 have hlt:=blk_lt h
 have hb2:(w.alloc (.cells #[.int .i64 0,.int .u64 0,.slice none 0 0] 42)).heap[b]?=some (.cells (onceCells K cap er vl) 166 (0,0)):=by rw [Below.heap_alloc _ _ _ hlt];exact h
 have c1:(w.alloc (.cells #[.int .i64 0,.int .u64 0,.slice none 0 0] 42)).cell? ⟨b,1,none⟩=some (.int .i64 er):=by rw [cell_blk hb2];rfl
 have c2:(w.alloc (.cells #[.int .i64 0,.int .u64 0,.slice none 0 0] 42)).cell? ⟨b,2,none⟩=some (.int .u64 (vl:Int)):=by rw [cell_blk hb2];rfl
 have c3:(w.alloc (.cells #[.int .i64 0,.int .u64 0,.slice none 0 0] 42)).cell? ⟨b,3,none⟩=some (.slice none 0 0):=by rw [cell_blk hb2];rfl
 clear h hb2
 unfold ansV
 go_enter Try.func138,Try.ntmps138
 go_wp2
 exact bodyPost_ret (v:=.tuple #[.agg #[.int .i64 er,.int .u64 (vl:Int),.slice none 0 0],.slice none 0 0]) (by simp [results,Try.results138 ,go_sem]) rfl ⟨rfl,Gr.new _ _⟩
theorem enter_refuse (args:Array Value) (u:World):(callFunc 89 args).run Try.prog u=.ok (.enter 89 args) u:=by kernel_rfl
def RefuseAt (w:World) (b be:Nat) (e:Int):Prop:=
 w.heap[b]?=some (.cells (onceCells 89 #[.pointer (some ⟨be,0,none⟩)] 0 0) 166 (0,0))/\w.cell? ⟨be,0,none⟩=some (.int .i64 e)/\be≠b
theorem refuse_any (er:Int) (w:World) :
  Calls Try.prog 85 #[.int .i64 er] w λe w'=>e=.returned (.iface 164 (.pointer (some ⟨w.heap.size+1,0,none⟩)))/\RefuseAt w' (w.heap.size+1) w.heap.size er/\Below w.heap.size w w':=by
 go_enter Try.func85,Try.ntmps85
 go_wp2
 go_ret
 refine⟨rfl,⟨?_,?_,by omega⟩,Gr.alloc (Gr.new _ _) _⟩
 ·have:=heap_alloc_new (w.alloc (.cells #[.int .i64 er] 33)) (.cells (onceCells 89 #[.pointer (some ⟨w.heap.size,0,none⟩)] 0 0) 166 (0,0))
  rw [World.size_alloc] at this
  exact this
 ·rw [World.cell?_alloc_lt _ _ _ (by simp),cell_new];rfl
theorem refuse_in (b be:Nat) (er:Int) (pw:Value) (w:World) (h:RefuseAt w b be er) :
  Calls Try.prog 89 (#[pw]++#[.pointer (some ⟨be,0,none⟩)]) w (OnceIn b w λe v w1=>e=er/\v=0/\Below w.heap.size w w1):=by
 obtain⟨h1,h2,h3⟩:=h
 have hlt:=blk_lt h1
 have hlt2:=World.block_lt_of_cell? _ _ h2
 show Calls Try.prog 89 #[pw,.pointer (some ⟨be,0,none⟩)] w _
 have c2:(w.alloc (.cells #[.int .i64 0,.int .u64 0,.slice none 0 0] 42)).cell? ⟨be,0,none⟩=some (.int .i64 er):=by rw [World.cell?_alloc_lt _ _ _ hlt2];exact h2
 clear h1 h2 h3
 go_enter Try.func89,Try.ntmps89
 go_wp2
 exact bodyPost_ret (v:=ansV er 0 (.slice none 0 0)) (by simp [results,Try.results89 ,go_sem,ansV]) rfl ⟨er,0,rfl,Below.heap_alloc _ _ _ hlt,rfl,rfl,Gr.new _ _⟩
end
section

/- Layer 6: an object as the program has it; where a play lies in memory. -/
open Go.RowKit
def callAgg (c:CallD):Value:=.agg #[.int .i64 c.thread,.int .i64 c.obj,.int .i64 c.kind,.int .u64 (c.a:Int),.int .u64 (c.b:Int),.int .u64 (c.c:Int)]
structure CallOk (x:CallD):Prop where
 thread:(Lit.int .i64 x.thread).wf=true
 obj:(Lit.int .i64 x.obj).wf=true
 kind:(Lit.int .i64 x.kind).wf=true
 a:x.a<18446744073709551616
 b:x.b<18446744073709551616
 c:x.c<18446744073709551616
def mutTo (Mut B B':Nat->Prop) (b:Nat):Prop:=(Mut b/\¬ B b)∨B' b
def noB:Nat->Prop:=λ_=>False
structure Real (S:Sys) where
 T:TypeId
 x:Value
 OB:Nat->Prop
 ORep:World->(Nat->Prop)->S.ω->Prop
 MRep:World->(Nat->Prop)->(Nat->Prop)->TypeId->Value->Nat->S.σ->Prop
 inv:S.ω->WD->Prop
 dN:Nat
 live:S.ω->WD->Nat->S.σ->Prop:=λ_ _ _ _=>True
 done:S.σ->Prop:=λ_=>True
def McRep {S:Sys} (R:Real S) (w:World) (Mut B:Nat->Prop) (T:TypeId) (x:Value) (p:Nat):Mc S.σ->Prop
 | .refuse e=>T=164/\∃ b be,x=.pointer (some ⟨b,0,none⟩)/\RefuseAt w b be e/\B b/\¬ Mut be
 | .run s=>R.MRep w Mut B T x p s
def StepPost {S:Sys} (R:Real S) (w:World) (Mut B:Nat->Prop) (I:WIds) (N:Nat) (wd:WD) (o:S.ω) (T:TypeId) (x:Value) (p:Nat) (s:S.σ) (e:Ending) (w':World):Prop:=
 e=.returned (.bool (S.step o wd p s).2.2.2)/\Chg (λb=>WSet I b∨R.OB b∨B b) w w'/\∃ B',(∀ b,B' b->B b∨w.heap.size<=b)/\(∀ b,B' b->b<w'.heap.size)/\
  WorldAt w' (mutTo Mut B B') I (N+R.dN) (S.step o wd p s).2.1/\R.ORep w' (mutTo Mut B B') (S.step o wd p s).1/\R.MRep w' (mutTo Mut B B') B' T x p (S.step o wd p s).2.2.1
def AnswerPost (w:World) (Mut:Nat->Prop) (a:AnsD) (k:List Int) (e:Ending) (w':World):Prop:=
 ∃ la lc kv,e=.returned (.tuple #[ansV a.err a.val (.slice la a.list.length lc),kv])/\LstU w' Mut (.slice la a.list.length lc) a.list/\Lst w' Mut kv k/\Below w.heap.size w w'
def StartPost {S:Sys} (R:Real S) (w:World) (Mut:Nat->Prop) (I:WIds) (wd:WD) (o:S.ω) (p:Nat) (c:CallD) (e:Ending) (w':World):Prop:=
 ∃ T x B,e=.returned (.iface T x)/\Below w.heap.size w w'/\(∀ b,B b->w.heap.size<=b/\b<w'.heap.size)/\McRep R w' (mutTo Mut noB B) B T x p (S.start o wd p c)
def PB {S:Sys} (R:Real S) (B0 b:Nat):Prop:=B0<=b∨R.OB b
structure RealOk {S:Sys} (R:Real S):Prop where
 keepM:∀ w w' Q Mut Mut' B T x p s,R.MRep w Mut B T x p s->Chg Q w w'->(∀ b,Q b->Mut b)->(∀ b,B b->¬ Q b)->MutUp Mut w Mut'->R.MRep w' Mut' B T x p s
 keepO:∀ w w' Q Mut Mut' o,R.ORep w Mut o->Chg Q w w'->(∀ b,Q b->Mut b)->(∀ b,R.OB b->¬ Q b)->MutUp Mut w Mut'->(∀ b,R.OB b->Mut' b)->R.ORep w' Mut' o
 lowO:∀ w Mut o,R.ORep w Mut o->∀ b,R.OB b->Mut b
 start : ∃ K recv, Meth R.T R.x "Start" K recv ∧ ∀ w Mut I N wd o (p : Nat) c, WorldAt w Mut I N wd → R.ORep w Mut o → R.inv o wd → p < 16 → CallOk c →
  Calls Try.prog K #[recv,.pointer (some ⟨I.bW,0,none⟩),.int .i64 (p:Int),callAgg c] w (StartPost R w Mut I wd o p c)
 step:∀ w Mut B I N wd o T x p s,WorldAt w Mut I N wd->R.ORep w Mut o->R.MRep w Mut B T x p s->R.inv o wd->p<16->N+R.dN<1000000000->wd.mem.c.all+1<1000000000000->(∀ b,B b->Mut b/\¬ WSet I b/\¬ R.OB b)->(∀ b,R.OB b->¬ WSet I b)->R.live o wd p s->
  ∃ K recv, Meth T x "Step" K recv ∧ Calls Try.prog K #[recv, .pointer (some ⟨I.bW, 0, none⟩)] w (StepPost R w Mut B I N wd o T x p s)
 answer : ∀ w Mut B T x p s, R.MRep w Mut B T x p s → R.done s → ∃ K recv, Meth T x "Answer" K recv ∧ Calls Try.prog K #[recv] w (AnswerPost w Mut (S.answer s).1 (S.answer s).2)
 now:∀ o wd p s,(S.step o wd p s).2.1.now=wd.now
 cnt:∀ o wd p s,(S.step o wd p s).2.1.mem.c.all<=wd.mem.c.all+1
 invStep:∀ o wd p s,R.inv o wd->R.inv (S.step o wd p s).1 (S.step o wd p s).2.1
 invTick:∀ o wd,R.inv o wd->R.inv o wd.tick
 invBegin:∀ o wd p,R.inv o wd->R.inv o (wd.begin p)
 fin:∀ o wd p s,(S.step o wd p s).2.2.2=true->R.done (S.step o wd p s).2.2.1:=by intros;exact trivial
def evCells (e:EvD) (v:Value×Value):List Value:=[natV e.call,natV e.inv,natV e.resp,natV e.steps,.int .i64 e.ans.err,.int .u64 (e.ans.val:Int),v.1,v.2]
def evRow:List EvD->List (Value×Value)->List Value
 | e::es,v::vs=>evCells e v++evRow es vs
 | _,_=>[]
def zI:Value:=.int .i64 0
def playerL (bW bl:Nat) (ov cv:Value) (turn:Int) (hs:List (Value×Nat)) (ev:Value) (idle:Nat):List Value:=
 .pointer (some ⟨bW,0,none⟩)::ov::cv::.pointer (some ⟨bl,0,none⟩)::.int .i64 turn::(hs.flatMap (λh=>[h.1,natV h.2])++[ev,.slice none 0 0,zI,zI,zI,zI,zI,zI,natV idle])
def playerCells (bW bl:Nat) (ov cv:Value) (turn:Int) (hs:List (Value×Nat)) (ev:Value) (idle:Nat):Array Value:=(playerL bW bl ov cv turn hs ev idle).toArray
theorem evCells_len (e:EvD) (v:Value×Value):(evCells e v).length=8:=rfl
theorem evRow_append:∀(es es':List EvD) (vs vs':List (Value×Value)),es.length=vs.length->evRow (es++es') (vs++vs')=evRow es vs++evRow es' vs'
 | [],_,[],_,_=>rfl
 | e::es,es',v::vs,vs',h=>by
  simp only [List.cons_append,evRow,List.append_assoc]
  rw [evRow_append es es' vs vs' (by simpa using h)]
 | [],_,_::_,_,h=>by simp at h
 | _::_,_,[],_,h=>by simp at h
def vv0:Value×Value:=(undef,undef)
theorem evRow_get:∀(es:List EvD) (vs:List (Value×Value)) (i f:Nat),es.length=vs.length->i<es.length->f<8->(evRow es vs)[i*8+f]?=(evCells (es.getD i ev0) (vs.getD i vv0))[f]?
 | [],_,i,_,_,hi,_=>by simp at hi
 | e::es,[],_,_,h,_,_=>by simp at h
 | e::es,v::vs,0,f,h,_,hf=>by
  simp only [evRow,Nat.zero_mul,Nat.zero_add,List.getD_cons_zero]
  rw [List.getElem?_append_left (by rw [evCells_len];exact hf)]
 | e::es,v::vs,i+1,f,h,hi,hf=>by
  simp only [evRow,List.getD_cons_succ]
  rw [List.getElem?_append_right (by rw [evCells_len];omega),evCells_len,show(i+1)*8+f - 8=i*8+f by omega]
  exact evRow_get es vs i f (by simpa using h) (by simpa using hi) hf
theorem evRow_set:∀(es:List EvD) (vs:List (Value×Value)) (i f:Nat) (u:Value) (e':EvD) (v':Value×Value),es.length=vs.length->i<es.length->f<8->
  (evCells (es.getD i ev0) (vs.getD i vv0)).set f u=evCells e' v'->(evRow es vs).set (i*8+f) u=evRow (es.set i e') (vs.set i v')
 | [],_,i,_,_,_,_,_,hi,_,_=>by simp at hi
 | e::es,[],_,_,_,_,_,h,_,_,_=>by simp at h
 | e::es,v::vs,0,f,u,e',v',h,_,hf,hs=>by
  simp only [List.getD_cons_zero] at hs
  simp only [evRow,Nat.zero_mul,Nat.zero_add,zq5]
  rw [List.set_append_left _ _ (by rw [evCells_len];exact hf),hs]
 | e::es,v::vs,i+1,f,u,e',v',h,hi,hf,hs=>by
  simp only [List.getD_cons_succ] at hs
  simp only [evRow,zq6]
  rw [List.set_append_right _ _ (by rw [evCells_len];omega),evCells_len,show(i+1)*8+f - 8=i*8+f by omega,evRow_set es vs i f u e' v' (by simpa using h) (by simpa using hi) hf hs]
theorem flat_len:∀ hs:List (Value×Nat),(hs.flatMap (λh=>[h.1,natV h.2])).length=hs.length*2
 | []=>rfl
 | x::hs=>by
  simp only [List.flatMap_cons,List.length_append,List.length_cons,List.length_nil]
  rw [flat_len hs];omega
theorem flat_get:∀(hs:List (Value×Nat)) (p:Nat),p<hs.length->(hs.flatMap (λh=>[h.1,natV h.2]))[p*2]?=some (hs.getD p (undef,0)).1/\(hs.flatMap (λh=>[h.1,natV h.2]))[p*2+1]?=some (natV (hs.getD p (undef,0)).2)
 | [],p,h=>by simp at h
 | x::hs,0,_=>by simp
 | x::hs,p+1,h=>by
  have:=flat_get hs p (by simpa using h)
  simp only [List.flatMap_cons,List.cons_append,List.nil_append,List.getD_cons_succ]
  rw [show(p+1)*2=p*2+1+1 by omega,List.getElem?_cons_succ,List.getElem?_cons_succ,List.getElem?_cons_succ,List.getElem?_cons_succ]
  exact this
theorem flat_set:∀(hs:List (Value×Nat)) (p:Nat) (v:Value) (k:Nat),p<hs.length->
  (hs.flatMap (λh=>[h.1,natV h.2])).set (p*2) v=(hs.set p (v,(hs.getD p (undef,0)).2)).flatMap (λh=>[h.1,natV h.2])/\(hs.flatMap (λh=>[h.1,natV h.2])).set (p*2+1) (natV k)=(hs.set p ((hs.getD p (undef,0)).1,k)).flatMap (λh=>[h.1,natV h.2])
 | [],p,_,_,h=>by simp at h
 | x::hs,0,_,_,_=>by simp
 | x::hs,p+1,v,k,h=>by
  have:=flat_set hs p v k (by simpa using h)
  simp only [List.flatMap_cons,List.cons_append,List.nil_append,List.getD_cons_succ,zq6]
  rw [show(p+1)*2=p*2+1+1 by omega]
  simp only [zq6]
  rw [this.1,this.2]
  exact⟨rfl,rfl⟩
variable {bW bl:Nat} {ov cv:Value} {turn:Int} {hs:List (Value×Nat)} {ev:Value} {idle p:Nat}
theorem player_w:(playerCells bW bl ov cv turn hs ev idle)[0]?=some (.pointer (some ⟨bW,0,none⟩)):=rfl
theorem player_objs:(playerCells bW bl ov cv turn hs ev idle)[1]?=some ov:=rfl
theorem player_calls:(playerCells bW bl ov cv turn hs ev idle)[2]?=some cv:=rfl
theorem player_line:(playerCells bW bl ov cv turn hs ev idle)[3]?=some (.pointer (some ⟨bl,0,none⟩)):=rfl
theorem player_turn:(playerCells bW bl ov cv turn hs ev idle)[4]?=some (.int .i64 turn):=rfl
theorem player_hand (hl:hs.length=16) (hp:p<16):(playerCells bW bl ov cv turn hs ev idle)[5+p*2]?=some (hs.getD p (undef,0)).1/\(playerCells bW bl ov cv turn hs ev idle)[5+p*2+1]?=some (natV (hs.getD p (undef,0)).2):=by
 have h:=flat_get hs p (by omega)
 have hl2:=flat_len hs
 simp only [playerCells,playerL,List.getElem?_toArray]
 rw [show 5+p*2=p*2+1+1+1+1+1 by omega,show p*2+1+1+1+1+1+1=(p*2+1)+1+1+1+1+1 by omega]
 simp only [List.getElem?_cons_succ]
 rw [List.getElem?_append_left (by omega),List.getElem?_append_left (by omega)]
 exact h
theorem player_ev (hl:hs.length=16):(playerCells bW bl ov cv turn hs ev idle)[37]?=some ev:=by
 have hl2:=flat_len hs
 simp only [playerCells,playerL,List.getElem?_toArray,List.getElem?_cons_succ]
 rw [List.getElem?_append_right (by omega),hl2,hl];rfl
theorem player_idle (hl:hs.length=16):(playerCells bW bl ov cv turn hs ev idle)[45]?=some (natV idle):=by
 have hl2:=flat_len hs
 simp only [playerCells,playerL,List.getElem?_toArray,List.getElem?_cons_succ]
 rw [List.getElem?_append_right (by omega),hl2,hl];rfl
theorem player_set_turn (t:Int):(playerCells bW bl ov cv turn hs ev idle).setIfInBounds 4 (.int .i64 t)=playerCells bW bl ov cv t hs ev idle:=by simp [playerCells,playerL]
theorem player_set_hand (hl:hs.length=16) (hp:p<16) (v:Value):(playerCells bW bl ov cv turn hs ev idle).setIfInBounds (5+p*2) v=playerCells bW bl ov cv turn (hs.set p (v,(hs.getD p (undef,0)).2)) ev idle:=by
 have h:=(flat_set hs p v 0 (by omega)).1
 have hl2:=flat_len hs
 simp only [playerCells,playerL,zq4]
 rw [show 5+p*2=p*2+1+1+1+1+1 by omega]
 simp only [zq6]
 rw [List.set_append_left _ _ (by omega),h]
theorem player_set_at (hl:hs.length=16) (hp:p<16) (k:Nat):(playerCells bW bl ov cv turn hs ev idle).setIfInBounds (5+p*2+1) (.int .i64 (k:Int))=playerCells bW bl ov cv turn (hs.set p ((hs.getD p (undef,0)).1,k)) ev idle:=by
 have h:=(flat_set hs p undef k (by omega)).2
 have hl2:=flat_len hs
 simp only [playerCells,playerL,zq4]
 rw [show 5+p*2+1=(p*2+1)+1+1+1+1+1 by omega]
 simp only [zq6]
 rw [List.set_append_left _ _ (by omega)]
 have h':(hs.flatMap (λh=>[h.1,natV h.2])).set (p*2+1) (.int .i64 (k:Int))=(hs.set p ((hs.getD p (undef,0)).1,k)).flatMap (λh=>[h.1,natV h.2]):=h
 rw [h']
theorem player_set_ev (hl:hs.length=16) (v:Value):(playerCells bW bl ov cv turn hs ev idle).setIfInBounds 37 v=playerCells bW bl ov cv turn hs v idle:=by
 have hl2:=flat_len hs
 simp only [playerCells,playerL,zq4,zq6]
 rw [List.set_append_right _ _ (by omega),hl2,hl];rfl
theorem player_set_idle (hl:hs.length=16) (k:Nat):(playerCells bW bl ov cv turn hs ev idle).setIfInBounds 45 (.int .i64 (k:Int))=playerCells bW bl ov cv turn hs ev k:=by
 have hl2:=flat_len hs
 simp only [playerCells,playerL,zq4,zq6]
 rw [List.set_append_right _ _ (by omega),hl2,hl];rfl
end
end Go.Proofs.Ytlepjmnhekeofaa
