/- Layer 6: objects whose operations have one step each. -/
import Derived.Test.YtifhldnmcdbpfaaV11
set_option maxRecDepth 100000
set_option linter.unusedVariables false
set_option linter.unusedSimpArgs false
set_option linter.unnecessarySimpa false
namespace Go.Proofs.Ytifhldnmcdbpfaa
section
open Go.RowKit
def KZ (ref:aF->Option Int) (act:aF->WD->WD×(Int×Nat)):Sys where
 σ:=aF×(Int×Nat)
 ω:=Unit
 start:=λ_ _ _ c=>match ref c with|some e=>.refuse e|none=>.run (c,(0,0))
 step:=λ_ wd _ s=>((),(act s.1 wd).1,(s.1,(act s.1 wd).2),true)
 answer:=λs=>(⟨s.2.1,s.2.2,[]⟩,[])
 late:=λ_ _ _ _=>none
theorem jG (m:fE) (a:Int):(cZ m a).1.c.all<=m.c.all+1:=by unfold cZ;split<;>simp [fE.fault,dV.all]<;>omega
theorem oC (m:fE) (a:Int) (v:Nat):(bS m a v).c.all<=m.c.all+1:=by unfold bS;split<;>simp [fE.fault,dV.all]<;>omega
end
section
open Go.RowKit
def IG (c:aF):Option Int:=if c.kind=0∨c.kind=1∨c.kind=2 then none else some 9
def JS (c:aF):Nat:=if c.kind=2 then 1 else c.a
def IB (c:aF) (wd:WD):WD×(Int×Nat):=
 if c.kind=1 then ({ wd with mem:=(cZ wd.mem 0).1 },(0,(cZ wd.mem 0).2)) else ({ wd with mem:=(FL wd.mem 0 (JS c)).1 },(0,(FL wd.mem 0 (JS c)).2))
theorem kF {w:World} {Mut:Nat->Prop} {I:dG} {N:Nat} {wd:WD} (h:aM w Mut I N wd):(∀ b,bY I.bm I.bw b->Mut b)/\¬ bY I.bm I.bw I.bW/\(∀ b,bY I.bm I.bw b->aW I b/\b<w.heap.size):=by
 have hS:∀ b,bY I.bm I.bw b->aW I b:=by
  rintro b (rfl|e)
  ·exact .inr (.inl rfl)
  ·exact .inr (.inr (.inr e))
 refine⟨λb hb=>h.muts b (hS b hb),?_,λb hb=>⟨hS b hb,h.low b (h.muts b (hS b hb))⟩⟩
 rintro(e|e)
 ·exact h.sep.1 e
 ·exact h.sep.2.2.2.1 e.symm
end
section
open Go.RowKit
inductive CoS where
 | once (c:aF) (r:Int×Nat)
 | prop (v:Nat) (pc:Bool)
def CK (_:aF) (wd:WD):WD×(Int×Nat):=({ wd with mem:=(cZ wd.mem 0).1 },if (cZ wd.mem 0).2=0 then (7,0) else (0,(cZ wd.mem 0).2 - 1))
def MC (x:Nat):Nat:=if x=0 then 18446744073709551615 else x - 1
def FK (wd:WD) (p v:Nat):WD:={ wd with mem:=(KP wd.mem 0 0 (v+1)).1,marks:=wd.marks.set p (jI wd) }
def IA (wd:WD):WD:={ wd with mem:=(cZ wd.mem 0).1 }
def QQ:Sys where
 σ:=CoS
 ω:=Unit
 start:=λ_ _ _ c=>if c.kind=1 then .run (.once c (0,0)) else if c.kind≠0 then .refuse 9 else if 4294967296<=c.a then .refuse 10 else .run (.prop c.a false)
 step:=λ_ wd p s=>match s with
  | .once c _=>((),(CK c wd).1,.once c (CK c wd).2,true)
  | .prop v false=>((),FK wd p v,.prop v true,false)
  | .prop _ true=>((),IA wd,.prop (MC (cZ wd.mem 0).2) true,true)
 answer:=λs=>match s with
  | .once _ r=>(⟨r.1,r.2,[]⟩,[])
  | .prop v _=>(⟨0,v,[]⟩,[])
 late:=λ_ _ _ _=>none
end
end Go.Proofs.Ytifhldnmcdbpfaa
