/- Layer 6: an object as the program has it; where a play lies in memory. -/
import Derived.Test.YtifhldnmcdbpfaaW06
set_option maxRecDepth 100000
set_option linter.unusedVariables false
set_option linter.unusedSimpArgs false
set_option linter.unnecessarySimpa false
namespace Go.Proofs.Ytifhldnmcdbpfaa
open List renaming getElem_toArray → zq1, getElem_cons_zero → zq2, getElem_cons_succ → zq3, setIfInBounds_toArray → zq4, set_cons_zero → zq5, set_cons_succ → zq6
section
open Go.RowKit
def qY (c:aF):Value:=.agg #[.int .i64 c.thread,.int .i64 c.obj,.int .i64 c.kind,.int .u64 (c.a:Int),.int .u64 (c.b:Int),.int .u64 (c.c:Int)]
structure mY (x:aF):Prop where
 thread:(Lit.int .i64 x.thread).wf=true
 obj:(Lit.int .i64 x.obj).wf=true
 kind:(Lit.int .i64 x.kind).wf=true
 a:x.a<18446744073709551616
 b:x.b<18446744073709551616
 c:x.c<18446744073709551616
def aT (Mut B B':Nat->Prop) (b:Nat):Prop:=(Mut b/\¬ B b)∨B' b
def noB:Nat->Prop:=λ_=>False
structure Real (S:Sys) where
 T:TypeId
 x:Value
 OB:Nat->Prop
 ORep:World->(Nat->Prop)->S.ω->Prop
 MRep:World->(Nat->Prop)->(Nat->Prop)->TypeId->Value->Nat->S.σ->Prop
 inv:S.ω->WD->Prop
 dN:Nat
 live:S.ω->WD->Nat->S.σ->Prop:=λ_ _ _ _=>True
 done:S.σ->Prop:=λ_=>True
 thr:Nat->Prop:=λp=>p<16
def MR {S:Sys} (R:Real S) (w:World) (Mut B:Nat->Prop) (T:TypeId) (x:Value) (p:Nat):Mc S.σ->Prop
 | .refuse e=>T=181/\∃ b be,x=.pointer (some ⟨b,0,none⟩)/\nM w b be e/\B b/\¬ Mut be
 | .run s=>R.MRep w Mut B T x p s
def oC {S:Sys} (R:Real S) (w:World) (Mut B:Nat->Prop) (I:dG) (N:Nat) (wd:WD) (o:S.ω) (T:TypeId) (x:Value) (p:Nat) (s:S.σ) (e:Ending) (w':World):Prop:=
 e=.returned (.bool (S.step o wd p s).2.2.2)/\Chg (λb=>aW I b∨R.OB b∨B b) w w'/\∃ B',(∀ b,B' b->B b∨w.heap.size<=b)/\(∀ b,B' b->b<w'.heap.size)/\
  aM w' (aT Mut B B') I (N+R.dN) (S.step o wd p s).2.1/\R.ORep w' (aT Mut B B') (S.step o wd p s).1/\R.MRep w' (aT Mut B B') B' T x p (S.step o wd p s).2.2.1
def rR (w:World) (Mut:Nat->Prop) (a:DT) (k:List Int) (e:Ending) (w':World):Prop:=
 ∃ la lc kv,e=.returned (.tuple #[mD a.err a.val (.slice la a.list.length lc),kv])/\jK w' Mut (.slice la a.list.length lc) a.list/\Lst w' Mut kv k/\Below w.heap.size w w'
def vE {S:Sys} (R:Real S) (w:World) (Mut:Nat->Prop) (I:dG) (wd:WD) (o:S.ω) (p:Nat) (c:aF) (e:Ending) (w':World):Prop:=
 ∃ T x B,e=.returned (.iface T x)/\Below w.heap.size w w'/\(∀ b,B b->w.heap.size<=b/\b<w'.heap.size)/\MR R w' (aT Mut noB B) B T x p (S.start o wd p c)
def PB {S:Sys} (R:Real S) (B0 b:Nat):Prop:=B0<=b∨R.OB b
structure dP {S:Sys} (R:Real S):Prop where
 keepM:∀ w w' Q Mut Mut' B T x p s,R.MRep w Mut B T x p s->Chg Q w w'->(∀ b,Q b->Mut b)->(∀ b,B b->¬ Q b)->aV Mut w Mut'->R.MRep w' Mut' B T x p s
 keepO:∀ w w' Q Mut Mut' o,R.ORep w Mut o->Chg Q w w'->(∀ b,Q b->Mut b)->(∀ b,R.OB b->¬ Q b)->aV Mut w Mut'->(∀ b,R.OB b->Mut' b)->R.ORep w' Mut' o
 lowO:∀ w Mut o,R.ORep w Mut o->∀ b,R.OB b->Mut b
 start : ∃ K recv, lK R.T R.x "Start" K recv ∧ ∀ w Mut I N wd o (p : Nat) c, aM w Mut I N wd → R.ORep w Mut o → R.inv o wd → R.thr p → mY c →
  Calls Try.prog K #[recv,.pointer (some ⟨I.bW,0,none⟩),.int .i64 (p:Int),qY c] w (vE R w Mut I wd o p c)
 step:∀ w Mut B I N wd o T x p s,aM w Mut I N wd->R.ORep w Mut o->R.MRep w Mut B T x p s->R.inv o wd->p<16->N+R.dN<1000000000->wd.mem.c.all+1<1000000000000->(∀ b,B b->Mut b/\¬ aW I b/\¬ R.OB b)->(∀ b,R.OB b->¬ aW I b)->R.live o wd p s->
  ∃ K recv, lK T x "Step" K recv ∧ Calls Try.prog K #[recv, .pointer (some ⟨I.bW, 0, none⟩)] w (oC R w Mut B I N wd o T x p s)
 answer : ∀ w Mut B T x p s, R.MRep w Mut B T x p s → R.done s → ∃ K recv, lK T x "Answer" K recv ∧ Calls Try.prog K #[recv] w (rR w Mut (S.answer s).1 (S.answer s).2)
 now:∀ o wd p s,(S.step o wd p s).2.1.now=wd.now
 cnt:∀ o wd p s,(S.step o wd p s).2.1.mem.c.all<=wd.mem.c.all+1
 invStep:∀ o wd p s,R.inv o wd->R.inv (S.step o wd p s).1 (S.step o wd p s).2.1
 invTick:∀ o wd,R.inv o wd->R.inv o wd.tick
 invBegin:∀ o wd p,R.inv o wd->R.inv o (wd.begin p)
 fin:∀ o wd p s,(S.step o wd p s).2.2.2=true->R.done (S.step o wd p s).2.2.1:=by intros;exact trivial
def dM (e:EvD) (v:Value×Value):List Value:=[fG e.call,fG e.inv,fG e.resp,fG e.steps,.int .i64 e.ans.err,.int .u64 (e.ans.val:Int),v.1,v.2]
def gP:List EvD->List (Value×Value)->List Value
 | e::es,v::vs=>dM e v++gP es vs
 | _,_=>[]
def zI:Value:=.int .i64 0
def gZ (bW bl:Nat) (ov cv:Value) (turn:Int) (hs:List (Value×Nat)) (ev:Value) (idle:Nat):List Value:=
 .pointer (some ⟨bW,0,none⟩)::ov::cv::.pointer (some ⟨bl,0,none⟩)::.int .i64 turn::(hs.flatMap (λh=>[h.1,fG h.2])++[ev,.slice none 0 0,zI,zI,zI,zI,zI,zI,fG idle])
def aN (bW bl:Nat) (ov cv:Value) (turn:Int) (hs:List (Value×Nat)) (ev:Value) (idle:Nat):Array Value:=(gZ bW bl ov cv turn hs ev idle).toArray
theorem gK (e:EvD) (v:Value×Value):(dM e v).length=8:=rfl
theorem nV:∀(es es':List EvD) (vs vs':List (Value×Value)),es.length=vs.length->gP (es++es') (vs++vs')=gP es vs++gP es' vs'
 | [],_,[],_,_=>rfl
 | e::es,es',v::vs,vs',h=>by
  simp only [List.cons_append,gP,List.append_assoc]
  rw [nV es es' vs vs' (by simpa using h)]
 | [],_,_::_,_,h=>by simp at h
 | _::_,_,[],_,h=>by simp at h
def tQ:Value×Value:=(undef,undef)
theorem oQ:∀(es:List EvD) (vs:List (Value×Value)) (i f:Nat),es.length=vs.length->i<es.length->f<8->(gP es vs)[i*8+f]?=(dM (es.getD i jY) (vs.getD i tQ))[f]?
 | [],_,i,_,_,hi,_=>by simp at hi
 | e::es,[],_,_,h,_,_=>by simp at h
 | e::es,v::vs,0,f,h,_,hf=>by
  simp only [gP,Nat.zero_mul,Nat.zero_add,List.getD_cons_zero]
  rw [List.getElem?_append_left (by rw [gK];exact hf)]
 | e::es,v::vs,i+1,f,h,hi,hf=>by
  simp only [gP,List.getD_cons_succ]
  rw [List.getElem?_append_right (by rw [gK];omega),gK,show(i+1)*8+f - 8=i*8+f by omega]
  exact oQ es vs i f (by simpa using h) (by simpa using hi) hf
theorem vD:∀(es:List EvD) (vs:List (Value×Value)) (i f:Nat) (u:Value) (e':EvD) (v':Value×Value),es.length=vs.length->i<es.length->f<8->
  (dM (es.getD i jY) (vs.getD i tQ)).set f u=dM e' v'->(gP es vs).set (i*8+f) u=gP (es.set i e') (vs.set i v')
 | [],_,i,_,_,_,_,_,hi,_,_=>by simp at hi
 | e::es,[],_,_,_,_,_,h,_,_,_=>by simp at h
 | e::es,v::vs,0,f,u,e',v',h,_,hf,hs=>by
  simp only [List.getD_cons_zero] at hs
  simp only [gP,Nat.zero_mul,Nat.zero_add,zq5]
  rw [List.set_append_left _ _ (by rw [gK];exact hf),hs]
 | e::es,v::vs,i+1,f,u,e',v',h,hi,hf,hs=>by
  simp only [List.getD_cons_succ] at hs
  simp only [gP,zq6]
  rw [List.set_append_right _ _ (by rw [gK];omega),gK,show(i+1)*8+f - 8=i*8+f by omega,vD es vs i f u e' v' (by simpa using h) (by simpa using hi) hf hs]
theorem gG:∀ hs:List (Value×Nat),(hs.flatMap (λh=>[h.1,fG h.2])).length=hs.length*2
 | []=>rfl
 | x::hs=>by
  simp only [List.flatMap_cons,List.length_append,List.length_cons,List.length_nil]
  rw [gG hs];omega
theorem flat_get:∀(hs:List (Value×Nat)) (p:Nat),p<hs.length->(hs.flatMap (λh=>[h.1,fG h.2]))[p*2]?=some (hs.getD p (undef,0)).1/\(hs.flatMap (λh=>[h.1,fG h.2]))[p*2+1]?=some (fG (hs.getD p (undef,0)).2)
 | [],p,h=>by simp at h
 | x::hs,0,_=>by simp
 | x::hs,p+1,h=>by
  have:=flat_get hs p (by simpa using h)
  simp only [List.flatMap_cons,List.cons_append,List.nil_append,List.getD_cons_succ]
  rw [show(p+1)*2=p*2+1+1 by omega,List.getElem?_cons_succ,List.getElem?_cons_succ,List.getElem?_cons_succ,List.getElem?_cons_succ]
  exact this
theorem rJ:∀(hs:List (Value×Nat)) (p:Nat) (v:Value) (k:Nat),p<hs.length->
  (hs.flatMap (λh=>[h.1,fG h.2])).set (p*2) v=(hs.set p (v,(hs.getD p (undef,0)).2)).flatMap (λh=>[h.1,fG h.2])/\(hs.flatMap (λh=>[h.1,fG h.2])).set (p*2+1) (fG k)=(hs.set p ((hs.getD p (undef,0)).1,k)).flatMap (λh=>[h.1,fG h.2])
 | [],p,_,_,h=>by simp at h
 | x::hs,0,_,_,_=>by simp
 | x::hs,p+1,v,k,h=>by
  have:=rJ hs p v k (by simpa using h)
  simp only [List.flatMap_cons,List.cons_append,List.nil_append,List.getD_cons_succ,zq6]
  rw [show(p+1)*2=p*2+1+1 by omega]
  simp only [zq6]
  rw [this.1,this.2]
  exact⟨rfl,rfl⟩
variable {bW bl:Nat} {ov cv:Value} {turn:Int} {hs:List (Value×Nat)} {ev:Value} {idle p:Nat}
theorem dA:(aN bW bl ov cv turn hs ev idle)[0]?=some (.pointer (some ⟨bW,0,none⟩)):=rfl
theorem yY:(aN bW bl ov cv turn hs ev idle)[1]?=some ov:=rfl
theorem wD:(aN bW bl ov cv turn hs ev idle)[2]?=some cv:=rfl
theorem pX:(aN bW bl ov cv turn hs ev idle)[3]?=some (.pointer (some ⟨bl,0,none⟩)):=rfl
theorem xZ:(aN bW bl ov cv turn hs ev idle)[4]?=some (.int .i64 turn):=rfl
theorem bI (hl:hs.length=16) (hp:p<16):(aN bW bl ov cv turn hs ev idle)[5+p*2]?=some (hs.getD p (undef,0)).1/\(aN bW bl ov cv turn hs ev idle)[5+p*2+1]?=some (fG (hs.getD p (undef,0)).2):=by
 have h:=flat_get hs p (by omega)
 have hl2:=gG hs
 simp only [aN,gZ,List.getElem?_toArray]
 rw [show 5+p*2=p*2+1+1+1+1+1 by omega,show p*2+1+1+1+1+1+1=(p*2+1)+1+1+1+1+1 by omega]
 simp only [List.getElem?_cons_succ]
 rw [List.getElem?_append_left (by omega),List.getElem?_append_left (by omega)]
 exact h
theorem iE (hl:hs.length=16):(aN bW bl ov cv turn hs ev idle)[37]?=some ev:=by
 have hl2:=gG hs
 simp only [aN,gZ,List.getElem?_toArray,List.getElem?_cons_succ]
 rw [List.getElem?_append_right (by omega),hl2,hl];rfl
theorem pV (hl:hs.length=16):(aN bW bl ov cv turn hs ev idle)[45]?=some (fG idle):=by
 have hl2:=gG hs
 simp only [aN,gZ,List.getElem?_toArray,List.getElem?_cons_succ]
 rw [List.getElem?_append_right (by omega),hl2,hl];rfl
theorem qU (t:Int):(aN bW bl ov cv turn hs ev idle).setIfInBounds 4 (.int .i64 t)=aN bW bl ov cv t hs ev idle:=by simp [aN,gZ]
theorem kL (hl:hs.length=16) (hp:p<16) (v:Value):(aN bW bl ov cv turn hs ev idle).setIfInBounds (5+p*2) v=aN bW bl ov cv turn (hs.set p (v,(hs.getD p (undef,0)).2)) ev idle:=by
 have h:=(rJ hs p v 0 (by omega)).1
 have hl2:=gG hs
 simp only [aN,gZ,zq4]
 rw [show 5+p*2=p*2+1+1+1+1+1 by omega]
 simp only [zq6]
 rw [List.set_append_left _ _ (by omega),h]
theorem uD (hl:hs.length=16) (hp:p<16) (k:Nat):(aN bW bl ov cv turn hs ev idle).setIfInBounds (5+p*2+1) (.int .i64 (k:Int))=aN bW bl ov cv turn (hs.set p ((hs.getD p (undef,0)).1,k)) ev idle:=by
 have h:=(rJ hs p undef k (by omega)).2
 have hl2:=gG hs
 simp only [aN,gZ,zq4]
 rw [show 5+p*2+1=(p*2+1)+1+1+1+1+1 by omega]
 simp only [zq6]
 rw [List.set_append_left _ _ (by omega)]
 have h':(hs.flatMap (λh=>[h.1,fG h.2])).set (p*2+1) (.int .i64 (k:Int))=(hs.set p ((hs.getD p (undef,0)).1,k)).flatMap (λh=>[h.1,fG h.2]):=h
 rw [h']
theorem uB (hl:hs.length=16) (v:Value):(aN bW bl ov cv turn hs ev idle).setIfInBounds 37 v=aN bW bl ov cv turn hs v idle:=by
 have hl2:=gG hs
 simp only [aN,gZ,zq4,zq6]
 rw [List.set_append_right _ _ (by omega),hl2,hl];rfl
theorem qM (hl:hs.length=16) (k:Nat):(aN bW bl ov cv turn hs ev idle).setIfInBounds 45 (.int .i64 (k:Int))=aN bW bl ov cv turn hs ev k:=by
 have hl2:=gG hs
 simp only [aN,gZ,zq4,zq6]
 rw [List.set_append_right _ _ (by omega),hl2,hl];rfl
end
section
open Go.RowKit
inductive Mh (σ:Type) where
 | refuse (e:Int)
 | refused (e:Int)
 | run (s:σ)
def Mh.of {σ:Type}:Mc σ->Mh σ
 | .refuse e=>.refuse e
 | .run s=>.run s
def aP (S:Sys) (o:S.ω) (wd:WD) (p:Nat):Mh S.σ->S.ω×WD×Mh S.σ×Bool
 | .refuse e=>(o,wd,.refused e,true)
 | .refused e=>(o,wd,.refused e,true)
 | .run s=>let r:=S.step o wd p s;(r.1,r.2.1,.run r.2.2.1,r.2.2.2)
def bE (S:Sys):Mh S.σ->DT×List Int
 | .refuse e=>(⟨e,0,[]⟩,[])
 | .refused e=>(⟨e,0,[]⟩,[])
 | .run s=>S.answer s
def jN {S:Sys} (R:Real S) (w:World) (Mut B:Nat->Prop) (T:TypeId) (x:Value) (p:Nat):Mh S.σ->Prop
 | .refuse e=>T=181/\∃ b be,x=.pointer (some ⟨b,0,none⟩)/\nM w b be e/\B b/\¬ Mut be
 | .refused e=>T=181/\∃ b K cap,x=.pointer (some ⟨b,0,none⟩)/\w.heap[b]?=some (.cells (gN K cap e 0) 183 (0,0))/\B b
 | .run s=>R.MRep w Mut B T x p s
variable {S:Sys} {R:Real S}
theorem jN.of_mc {w:World} {Mut B:Nat->Prop} {T:TypeId} {x:Value} {p:Nat} {m:Mc S.σ} (h:MR R w Mut B T x p m):jN R w Mut B T x p (Mh.of m):=by
 cases m<;>exact h
theorem jN.keep (ok:dP R) {w w':World} {Q Mut Mut' B:Nat->Prop} {T:TypeId} {x:Value} {p:Nat} {m:Mh S.σ} (h:jN R w Mut B T x p m) (hc:Chg Q w w') (hQ:∀ b,Q b->Mut b) (hB:∀ b,B b->¬ Q b) (hm:aV Mut w Mut'):jN R w' Mut' B T x p m:=by
 cases m with
 | run s=>exact ok.keepM _ _ _ _ _ _ _ _ _ _ h hc hQ hB hm
 | refuse e=>
  obtain⟨h1,b,be,h2,⟨h3,h4,h5⟩,h6,h7⟩:=h
  have hlt:=World.block_lt_of_cell? _ _ h4
  refine⟨h1,b,be,h2,⟨(hc.block _ (aC h3) (hB b h6)).trans h3,aY hc (λhq=>h7 (hQ _ hq)) h4,h5⟩,h6,λhx=>?_⟩
  rcases hm _ hx with hy|hy
  ·exact h7 hy
  ·simp only at hlt;omega
 | refused e=>
  obtain⟨h1,b,K,cap,h2,h3,h6⟩:=h
  exact⟨h1,b,K,cap,h2,(hc.block _ (aC h3) (hB b h6)).trans h3,h6⟩
def JI (R:Real S) (w:World) (Mut B:Nat->Prop) (I:dG) (N:Nat) (wd:WD) (o:S.ω) (T:TypeId) (x:Value) (p:Nat) (m:Mh S.σ) (e:Ending) (w':World):Prop:=
 e=.returned (.bool (aP S o wd p m).2.2.2)/\Chg (λb=>aW I b∨R.OB b∨B b) w w'/\∃ B',(∀ b,B' b->B b∨w.heap.size<=b)/\(∀ b,B' b->b<w'.heap.size)/\
  aM w' (aT Mut B B') I (N+R.dN) (aP S o wd p m).2.1/\R.ORep w' (aT Mut B B') (aP S o wd p m).1/\jN R w' (aT Mut B B') B' T x p (aP S o wd p m).2.2.1
theorem wM {Mut B B':Nat->Prop} {w:World} (h:∀ b,B' b->B b∨w.heap.size<=b) (hB:∀ b,B b->Mut b):aV Mut w (aT Mut B B'):=by
 rintro b (⟨h1,_⟩|h1)
 ·exact .inl h1
 ·rcases h b h1 with h2|h2
  ·exact .inl (hB b h2)
  ·exact .inr h2
theorem aM.more {w:World} {Mut:Nat->Prop} {I:dG} {N N':Nat} {wd:WD} (h:aM w Mut I N wd) (hN:N<=N') (hl:N'<1000000000):aM w Mut I N' wd:=by
 obtain⟨h1,h4,h5,h6,⟨n,M,h7,h8,h9⟩,h10,h11,h12,h13,h14⟩:=h
 exact⟨h1,h4,h5,h6,⟨n,M,h7,by omega,h9⟩,h10,h11,h12,h13,hl⟩
theorem CP (ok:dP R) {w:World} {Mut B:Nat->Prop} {I:dG} {N:Nat} {wd:WD} {o:S.ω} {T:TypeId} {x:Value} {p:Nat} {m:Mh S.σ} (hw:aM w Mut I N wd) (ho:R.ORep w Mut o) (hm:jN R w Mut B T x p m) (hi:R.inv o wd) (hp:p<16)
  (hN:N+R.dN<1000000000) (hc:wd.mem.c.all+1<1000000000000) (hB:∀ b,B b->Mut b/\¬ aW I b/\¬ R.OB b) (hr:∀ e,m≠.refused e) (how:∀ b,R.OB b->¬ aW I b) (hlv:∀ s,m=.run s->R.live o wd p s) :
  ∃ K recv, lK T x "Step" K recv ∧ Calls Try.prog K #[recv, .pointer (some ⟨I.bW, 0, none⟩)] w (JI R w Mut B I N wd o T x p m) := by
 cases m with
 | run s=>exact ok.step w Mut B I N wd o T x p s hw ho hm hi hp hN hc hB how (hlv s rfl)
 | refused e=>exact absurd rfl (hr e)
 | refuse e=>
  obtain⟨rfl,b,be,rfl,h3,h6,h7⟩:=hm
  refine⟨_,_,yM _,?_⟩
  refine(EK b _ _ (.pointer (some ⟨I.bW,0,none⟩)) w _ h3.1 vU (ES b be e _ w h3)).mono ?_
  rintro e' w' ⟨rfl,er,vl,w1,⟨rfl,rfl,hb1⟩,hblk,hch⟩
  have hcb:Chg (λk=>k=b) w w':=(Chg.of_below hb1).trans hch
  have hlt:=aC h3.1
  have hsub:∀ k,(λk=>k=b) k->Mut k:=by rintro k rfl;exact(hB _ h6).1
  have hup:aV Mut w (aT Mut B (λk=>k=b)):=wM (λk hk=>by cases hk;exact .inl h6) (λk hk=>(hB k hk).1)
  refine⟨rfl,hcb.mono (λk _ hk=>by cases hk;exact .inr (.inr h6)),λk=>k=b,(λk hk=>by cases hk;exact .inl h6),(λk hk=>by cases hk;exact Nat.lt_of_lt_of_le hlt hcb.size),?_,?_,rfl,b,_,_,rfl,hblk,rfl⟩
  ·refine(hw.keep hcb hsub (by rintro k rfl;exact(hB _ h6).2.1) hup ?_ ?_).more (by omega) hN
   ·rintro k (⟨h1,_⟩|h1)
    ·exact Nat.lt_of_lt_of_le (hw.low k h1) hcb.size
    ·cases h1;exact Nat.lt_of_lt_of_le hlt hcb.size
   ·intro k hk
    by_cases hkb:B k
    ·exact absurd hk (hB k hkb).2.1
    ·exact .inl ⟨hw.muts k hk,hkb⟩
  ·exact ok.keepO _ _ _ _ _ _ ho hcb hsub (by rintro k hk rfl;exact(hB _ h6).2.2 hk) hup (λb hb=>.inl ⟨ok.lowO _ _ _ ho b hb,λhx=>(hB b hx).2.2 hb⟩)
theorem JL (ok:dP R) {o:S.ω} {wd:WD} {p:Nat} {m:Mh S.σ} {s:S.σ} (h:(aP S o wd p m).2.2.2=true) (hs:(aP S o wd p m).2.2.1=.run s):R.done s:=by
 cases m with
 | run s0=>
  have e:(S.step o wd p s0).2.2.1=s:=by injection hs
  rw [<-e];exact ok.fin o wd p s0 h
 | refuse e=>cases hs
 | refused e=>cases hs
theorem uO (ok:dP R) {w:World} {Mut B:Nat->Prop} {T:TypeId} {x:Value} {p:Nat} {m:Mh S.σ} (hm:jN R w Mut B T x p m) (hr:∀ e,m≠.refuse e) (hd:∀ s,m=.run s->R.done s) :
  ∃ K recv, lK T x "Answer" K recv ∧ Calls Try.prog K #[recv] w (rR w Mut (bE S m).1 (bE S m).2) := by
 cases m with
 | run s=>exact ok.answer w Mut B T x p s hm (hd s rfl)
 | refuse e=>exact absurd rfl (hr e)
 | refused e=>
  obtain⟨rfl,b,K,cap,rfl,h3,h6⟩:=hm
  refine⟨_,_,tZ _,(zA b K cap e 0 w h3).mono ?_⟩
  rintro e' w' ⟨rfl,hb⟩
  exact⟨none,0,.slice none 0 0,rfl,jK.nil _ _,Lst.nil _ _,hb⟩
end
section
open Go.RowKit
structure iZ where
 W:dG
 bP:Nat
 bl:Nat
 blm:Nat
 old:Nat->Prop
structure PG where
 Mut:Nat->Prop
 MB:Nat->Nat->Prop
 hs:List (Value×Nat)
 ev:Value
 ers:List (Value×Value)
 turn:Int
 N:Nat
def vQ (J:iZ) (ev:Value) (b:Nat):Prop:=b=J.bP∨b=J.bl∨b=J.blm∨ev.ownBlock=some b
structure CF {S:Sys} (R:Real S) (w:World) (Mut:Nat->Prop) (calls:List aF) (ov cv:Value):Prop where
 cs:∃ ca cc,cv=.slice ca calls.length cc/\bS w ca calls.length 6 (gJ calls)/\(0<calls.length->∀ b off,ca=some ⟨b,off,none⟩->¬ Mut b)
 ok:∀ x∈calls,mY x/\0<=x.thread/\x.thread<16
 clen:calls.length<=1000
 objs:∃ bo oo oc,ov=.slice (some ⟨bo,oo,none⟩) 1 oc/\w.cell? ⟨bo,oo,none⟩=some (.iface R.T R.x)/\¬ Mut bo
structure KC (w:World) (Mut:Nat->Prop) (B0:Nat) (ev:Value) (ers:List (Value×Value)) (evs:List EvD):Prop where
 row:w.ownsRow B0 44 8 ev evs.length (gP evs ers)
 elen:ers.length=evs.length
 ans:∀ i,i<evs.length->jK w Mut (ers.getD i tQ).1 (evs.getD i jY).ans.list/\Lst w Mut (ers.getD i tQ).2 (evs.getD i jY).key
variable {S:Sys} {R:Real S}
def gH (R:Real S) (w:World) (Mut B:Nat->Prop) (p:Nat) (hv:Value×Nat) (hd:Option (Mh S.σ)×Nat):Prop:=
 hv.2=hd.2/\match hd.1 with
 | none=>hv.1=.nilIface
 | some m=>∃ T x,hv.1=.iface T x/\jN R w Mut B T x p m
theorem CF.keep {w w':World} {Q Mut Mut':Nat->Prop} {calls:List aF} {ov cv:Value} (h:CF R w Mut calls ov cv) (hc:Chg Q w w') (hQ:∀ b,Q b->Mut b) (hm:aV Mut w Mut'):CF R w' Mut' calls ov cv:=by
 obtain⟨⟨ca,cc,h1,h2,h3⟩,h4,h9,⟨bo,oo,oc,h5,h6,h7⟩⟩:=h
 have hlt:=World.block_lt_of_cell? _ _ h6
 refine⟨⟨ca,cc,h1,?_,λhp b off e hx=>?_⟩,h4,h9,⟨bo,oo,oc,h5,aY hc (λhq=>h7 (hQ _ hq)) h6,λhx=>?_⟩⟩
 ·rcases Nat.eq_zero_or_pos calls.length with h0|h0
  ·rw [h0];exact bS.nil _ _ _ _
  ·exact h2.chg hc (λb off e hq=>h3 h0 b off e (hQ b hq))
 ·obtain⟨b0,yO,e0,hb0⟩:=h2.lt hp
  rw [e0] at e;cases e
  rcases hm _ hx with hy|hy
  ·exact h3 hp _ _ e0 hy
  ·omega
 ·rcases hm _ hx with hy|hy
  ·exact h7 hy
  ·simp only at hlt;omega
theorem KC.keep {w w':World} {Q Mut Mut':Nat->Prop} {B0:Nat} {ev:Value} {ers:List (Value×Value)} {evs:List EvD} (h:KC w Mut B0 ev ers evs) (hc:Chg Q w w') (hQ:∀ b,Q b->Mut b) (hm:aV Mut w Mut') (he:∀ b,ev.ownBlock=some b->¬ Q b):KC w' Mut' B0 ev ers evs:=
 ⟨iA h.row hc he,h.elen,λi hi=>⟨(h.ans i hi).1.keep hc hQ hm,(h.ans i hi).2.keep hc hQ hm⟩⟩
theorem gH.keep (ok:dP R) {w w':World} {Q Mut Mut' B:Nat->Prop} {p:Nat} {hv:Value×Nat} {hd:Option (Mh S.σ)×Nat} (h:gH R w Mut B p hv hd) (hc:Chg Q w w') (hQ:∀ b,Q b->Mut b) (hB:∀ b,B b->¬ Q b) (hm:aV Mut w Mut'):gH R w' Mut' B p hv hd:=by
 obtain⟨h1,h2⟩:=h
 refine⟨h1,?_⟩
 cases hd1:hd.1 with
 | none=>rw [hd1] at h2;exact h2
 | some m=>
  rw [hd1] at h2
  obtain⟨T,x,h3,h4⟩:=h2
  exact⟨T,x,h3,h4.keep ok hc hQ hB hm⟩
theorem fC.keepP {w w':World} {Q Mut Mut':Nat->Prop} {bl bm n:Nat} {M:Int->Value} {q:Int->List Nat} {left:Int} (h:fC w (λb=>b<w.heap.size/\¬ Mut b) bl bm n M q left) (hc:Chg Q w w') (hQ:∀ b,Q b->Mut b) (hl:¬ Q bl) (hb:¬ Q bm) (hm:aV Mut w Mut') :
  fC w' (λb=>b<w'.heap.size/\¬ Mut' b) bl bm n M q left:=by
 refine(h.chg hc hl hb (λb hz hq=>hz.2 (hQ b hq))).mono (λb hz=>⟨Nat.lt_of_lt_of_le hz.1 hc.size,λhx=>?_⟩)
 rcases hm b hx with hy|hy
 ·exact hz.2 hy
 ·omega
structure aK (R:Real S) (calls:List aF) (w:World) (J:iZ) (ov cv:Value) (B0:Nat) (G:PG) (wd:WD) (o:S.ω) (fin:List Bool) (hands:List (Option (Mh S.σ)×Nat)) (evs:List EvD) (idle:Nat):Prop where
 blk:w.heap[J.bP]?=some (.cells (aN J.W.bW J.bl ov cv G.turn G.hs G.ev idle) 128 (0,0))
 h1:G.hs.length=16
 h2:hands.length=16
 hand:∀ p,p<16->gH R w G.Mut (G.MB p) p (G.hs.getD p (undef,0)) (hands.getD p (none,0))
 world:aM w G.Mut J.W G.N wd
 obj:R.ORep w G.Mut o
 inv:R.inv o wd
 line:∃ n M left,fC w (λb=>b<w.heap.size/\¬ G.Mut b) J.bl J.blm n M (qF calls fin) left/\n<=1000+fin.count true/\left=(calls.length:Int) - (fin.count true:Int)
 flen:fin.length=calls.length
 eva:KC w G.Mut B0 G.ev G.ers evs
 ele:evs.length<=wd.now
 at_:∀ p,p<16->∀ m,(hands.getD p (none,0)).1=some m->(hands.getD p (none,0)).2<evs.length
 imm:CF R w G.Mut calls ov cv
 pmut:∀ b,vQ J G.ev b->G.Mut b/\¬ aW J.W b/\¬ R.OB b
 ow:∀ b,R.OB b->¬ aW J.W b
 psep:J.bP≠J.bl/\J.bP≠J.blm/\G.ev.ownBlock≠some J.bP/\G.ev.ownBlock≠some J.bl/\G.ev.ownBlock≠some J.blm
 mb:∀ p b,p<16->G.MB p b->G.Mut b/\¬ aW J.W b/\¬ R.OB b/\¬ vQ J G.ev b
 mbd:∀ p q b,p<16->q<16->p≠q->G.MB p b->¬ G.MB q b
 cnt:wd.mem.c.all<=wd.now
 nowb:wd.now<=70000
 nb:G.N<=R.dN*wd.now
 base:B0<=w.heap.size/\B0<=J.bP/\(∀ b,aW J.W b->B0<=b)/\B0<=J.bl/\B0<=J.blm/\(∀ b,R.OB b->PB R B0 b)/\(∀ p b,p<16->G.MB p b->B0<=b)
 stp:∀ i,(evs.getD i jY).steps<=wd.now
 oldm:∀ b,J.old b->G.Mut b/\b<B0
end
end Go.Proofs.Ytifhldnmcdbpfaa
