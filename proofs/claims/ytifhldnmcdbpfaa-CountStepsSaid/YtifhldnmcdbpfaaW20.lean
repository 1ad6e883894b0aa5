/- Layer 8: what every play of a tally keeps, in plain numbers. -/
import Derived.Test.YtifhldnmcdbpfaaW19
set_option maxRecDepth 100000
set_option linter.unusedVariables false
set_option linter.unusedSimpArgs false
set_option linter.unnecessarySimpa false
namespace Go.Proofs.Ytifhldnmcdbpfaa
section
open Go.RowKit
def lL (calls:List aF) (e:EvD):Int:=(calls.getD e.call d0).obj
def kindOf (calls:List aF) (e:EvD):Int:=(calls.getD e.call d0).kind
def isK (calls:List aF) (kd:Int) (e:EvD):Bool:=decide (lL calls e=0) && decide (kindOf calls e=kd) && decide (e.resp≠0)
theorem sF {calls:List aF} {kd:Int} {e:EvD}:isK calls kd e=true↔lL calls e=0/\kindOf calls e=kd/\e.resp≠0:=by
 unfold isK;simp [and_assoc]
def tP1 (calls:List aF) (t:Nat) (e:EvD):Bool:=isK calls 0 e && decide (tn calls e=t)
def tP2 (calls:List aF) (a:Nat) (e:EvD):Bool:=isK calls 0 e && decide (tn calls e<a)
def tP3 (calls:List aF) (a iv:Nat) (e:EvD):Bool:=isK calls 0 e && decide (tn calls e<a) && decide (e.resp<iv)
def tP4 (calls:List aF) (t:Nat) (e:EvD):Bool:=isK calls 0 e && decide (e.resp<=t)
theorem xX {calls:List aF} {kd:Int} {e:EvD} (h:e.resp=0):isK calls kd e=false:=by unfold isK;simp [h]
theorem sV {calls:List aF} {t:Nat} (e:EvD) (h:e.resp=0):tP4 calls t e=false:=by unfold tP4;rw [xX h];rfl
def NG (n:Nat) (calls:List aF) (st:aQ (GR n)) (p:Nat) (e:EvD):TaS->Prop
 | .count seen v=>seen=true/\v=cnt (tP1 calls p) st.evs/\e.steps=1/\kindOf calls e=0
 | .read a s _=>a<n/\cnt (tP3 calls a e.inv) st.evs<=s/\s<=cnt (tP2 calls a) st.evs/\e.steps=a/\kindOf calls e=1/\(∀ i,i<st.evs.length->isK calls 0 (aD st.evs i)=true->(aD st.evs i).resp≠e.inv)
def NZ (n:Nat) (calls:List aF) (evs:List EvD) (e:EvD):Prop:=
 if lL calls e≠0 then e.ans=⟨12,0,[]⟩/\e.key=[2*(e.resp:Int)]/\e.steps=1
 else if kindOf calls e=0 then e.ans=⟨0,0,[]⟩/\e.key=[2*(e.resp:Int)]/\e.steps=2/\e.inv<e.resp
 else if kindOf calls e=1 then ∃ wn v:Nat,e.ans=⟨0,v,[]⟩/\e.key=[2*(wn:Int),2*(e.resp:Int)]/\e.inv<=wn/\wn<=e.resp/\cnt (tP4 calls wn) evs=v/\cnt (tP3 calls n e.inv) evs<=v/\v<=cnt (tP4 calls e.resp) evs/\e.steps=n
 else e.ans=⟨9,0,[]⟩/\e.key=[2*(e.resp:Int)]/\e.steps=1
structure VG (n:Nat) (calls:List aF) (st:aQ (GR n)):Prop where
 wlen:st.wd.mem.ws.length=n
 words:∀ t,t<n->st.wd.mem.ws.getD t 0=cnt (tP1 calls t) st.evs
 tr:∀ t:Nat,((st.wd.traces 0).filter λx=>decide (x<=(t:Int))).length=cnt (tP4 calls t) st.evs
 tinc:(st.wd.traces 0).Pairwise (·<·)
 tpos:∀ x∈st.wd.traces 0,1<=x/\x<=(st.wd.now:Int)
 hand:∀ p s k,st.hands.getD p (none,0)=(some s,k)->lL calls (aD st.evs k)=0/\NG n calls st p (aD st.evs k) s/\st.wd.inv.getD p 0=(aD st.evs k).inv
 done:∀ i,i<st.evs.length->(aD st.evs i).resp≠0->NZ n calls st.evs (aD st.evs i)
 marks:st.wd.marks=List.replicate 16 []
 ilen:st.wd.inv.length=16
 fault:st.wd.mem.c.fault=0
 all:st.wd.mem.c.all<=st.wd.now
theorem PI {m:fE} {a:Nat} (h:a<m.ws.length):(cZ m (a:Int)).1.ws=m.ws/\(cZ m (a:Int)).2=m.ws.getD a 0/\(cZ m (a:Int)).1.c.fault=m.c.fault/\(cZ m (a:Int)).1.c.all=m.c.all+1:=by
 have ho:gB m (a:Int)=false:=by unfold gB;simp;omega
 unfold cZ
 rw [if_neg (by rw [ho];simp)]
 exact⟨rfl,by simp,rfl,by simp [dV.all];omega⟩
theorem QU {m:fE} {a:Nat} (v:Nat) (h:a<m.ws.length):(bR m (a:Int) v).ws=m.ws.set a v/\(bR m (a:Int) v).c.fault=m.c.fault/\(bR m (a:Int) v).c.all=m.c.all+1:=by
 have ho:gB m (a:Int)=false:=by unfold gB;simp;omega
 unfold bR
 rw [if_neg (by rw [ho];simp)]
 exact⟨by simp,rfl,by simp [dV.all];omega⟩
theorem From.tn {S:Sys} {calls:List aF} {st:aQ S} {q i k:Nat} {s:S.σ} {bJ:List EvD} {dK:WD} (h:From calls st q i k s bJ dK) (hN:iF calls st.fin (q:Int)=some i):tn calls (aD bJ k)=q:=by
 unfold Go.Proofs.Ytifhldnmcdbpfaa.tn
 rw [h.call,(dO hN).2.1];simp
theorem From.apart {S:Sys} {calls:List aF} {st:aQ S} {q i k:Nat} {s:S.σ} {bJ:List EvD} {dK:WD} (h:From calls st q i k s bJ dK) (hg:eB calls st) (hN:iF calls st.fin (q:Int)=some i) {p k2:Nat} {s2:S.σ} (hp:p≠q) (hh:st.hands.getD p (none,0)=(some s2,k2)):k2≠k/\k2<st.evs.length:=by
 obtain⟨a1,a2,a3,a4⟩:=hg.ev.hand p k2 (by unfold eT;rw [hh];rfl)
 refine⟨?_,a1⟩
 rintro rfl
 apply hp
 rw [<-a2,<-h.tn hN,h.obj.2 k2 a1]
theorem From.or {S:Sys} {calls:List aF} {st:aQ S} {q i k:Nat} {s:S.σ} {bJ:List EvD} {dK:WD} (h:From calls st q i k s bJ dK) :
  (st.hands.getD q (none,0)=(some s,k)/\k<st.evs.length/\(aD st.evs k).call=i/\(aD st.evs k).resp=0/\bJ=st.evs/\dK=st.wd.tick)∨
  ((st.hands.getD q (none,0)).1=none/\dI S st.obj (st.wd.tick.begin q) q (calls.getD i d0)=.run s/\k=st.evs.length/\bJ=st.evs++[dC i (st.wd.tick.begin q)]/\dK=st.wd.tick.begin q):=by
 cases h with
 | old k s hh hk hc hr=>exact .inl ⟨hh,hk,hc,hr,rfl,rfl⟩
 | new s hh hs=>exact .inr ⟨hh,hs,rfl,rfl,rfl⟩
theorem From.inv {S:Sys} {calls:List aF} {st:aQ S} {q i k:Nat} {s:S.σ} {bJ:List EvD} {dK:WD} (h:From calls st q i k s bJ dK) {p:Nat} (hp:p≠q):dK.inv.getD p 0=st.wd.inv.getD p 0:=by
 cases h with
 | old k s hh hk hc hr=>rfl
 | new s hh hs=>exact aR (Ne.symm hp)
theorem xL {wd:WD} {q:Nat} (h:wd.marks=List.replicate 16 []):(wd.tick.begin q).marks=List.replicate 16 []:=by
 show wd.marks.set q []=_
 rw [h]
 apply List.ext_getElem?
 intro j
 rw [List.getElem?_set]
 split
 ·rename_i e
  subst e
  rw [List.length_replicate,List.getElem?_replicate]
 ·rfl
theorem From.marks {S:Sys} {calls:List aF} {st:aQ S} {q i k:Nat} {s:S.σ} {bJ:List EvD} {dK:WD} (h:From calls st q i k s bJ dK) (hm:st.wd.marks=List.replicate 16 []):dK.marks=List.replicate 16 []:=by
 cases h with
 | old k s hh hk hc hr=>exact hm
 | new s hh hs=>exact xL hm
theorem From.ilen {S:Sys} {calls:List aF} {st:aQ S} {q i k:Nat} {s:S.σ} {bJ:List EvD} {dK:WD} (h:From calls st q i k s bJ dK) (hm:st.wd.inv.length=16):dK.inv.length=16:=by
 cases h with
 | old k s hh hk hc hr=>exact hm
 | new s hh hs=>show(st.wd.inv.set q _).length=16;rw [List.length_set];exact hm
theorem DZ {n:Int} {calls:List aF} {np:Nat} (hck:checkN n calls np=0):1<=n/\n<=16:=by
 obtain⟨hw0,_⟩:=gM hck
 obtain⟨z1,z2,z3,z4⟩:=iL hw0
 omega
theorem MP {n:Int} {calls:List aF} {np:Nat} (hck:checkN n calls np=0):np<=65536:=by
 obtain⟨_,h⟩:=gM hck
 omega
end
section
open Go.RowKit
variable {S:Sys}
structure Next (calls:List aF) (st:aQ S) (q:Nat) (evs':List EvD) (k:Nat) (e1:EvD):Prop where
 lt:k<evs'.length
 self:aD evs' k=e1
 other:∀ j,j<evs'.length->j≠k->j<st.evs.length/\aD evs' j=aD st.evs j
 size:st.evs.length<=evs'.length
 old:k<st.evs.length->(aD st.evs k).resp=0
 cnt:∀ {P:EvD->Bool},(∀ e,e.resp=0->P e=false)->cnt P evs'=cnt P st.evs+(if P e1 then 1 else 0)
 apart:∀ p s2 k2,p≠q->st.hands.getD p (none,0)=(some s2,k2)->k2≠k/\k2<st.evs.length
 thr:tn calls e1=q
theorem From.next {calls:List aF} {st:aQ S} {q i k:Nat} {s:S.σ} {bJ:List EvD} {dK:WD} (hg:eB calls st) (hf:From calls st q i k s bJ dK) (hN:iF calls st.fin (q:Int)=some i) (e1:EvD) (he:e1.call=(aD bJ k).call):Next calls st q (bJ.set k e1) k e1 where
 lt:=by rw [List.length_set];exact hf.len
 self:=hf.self e1
 other:=λj hj hjk=>hf.other e1 hj hjk
 size:=hf.size e1
 old:=λhk=>by have h1:=hf.obj.2 k hk;rw [<-h1];exact hf.open_
 cnt:=λhP=>hf.cnt hP e1
 apart:=λp s2 k2 hp hh=>hf.apart hg hN hp hh
 thr:=by have h1:=hf.tn hN;unfold Go.Proofs.Ytifhldnmcdbpfaa.tn at h1 ⊢;rw [he];exact h1
theorem xU {calls:List aF} {st:aQ S} {q i:Nat} (hg:eB calls st) (hN:iF calls st.fin (q:Int)=some i) (e1:EvD) (he:e1.call=i):Next calls st q (st.evs++[e1]) st.evs.length e1 where
 lt:=by simp
 self:=jT
 other:=λj hj hjk=>by
  have h1:j<st.evs.length:=by simp at hj;omega
  exact⟨h1,sW h1⟩
 size:=by simp
 old:=λhk=>absurd hk (Nat.lt_irrefl _)
 cnt:=λhP=>by rw [tX,eQ,CO];omega
 apart:=λp s2 k2 hp hh=>by
  obtain⟨a1,a2,a3,a4⟩:=hg.ev.hand p k2 (by unfold eT;rw [hh];rfl)
  exact⟨by omega,a1⟩
 thr:=by unfold tn;rw [he,(dO hN).2.1];simp
theorem Next.past {calls:List aF} {st:aQ S} {q k:Nat} {evs':List EvD} {e1:EvD} (h:Next calls st q evs' k e1) (hr:e1.resp=0∨e1.resp=st.wd.now+1) {t:Nat} (ht:t<=st.wd.now):Go.Proofs.Ytifhldnmcdbpfaa.cnt (tP4 calls t) evs'=Go.Proofs.Ytifhldnmcdbpfaa.cnt (tP4 calls t) st.evs:=by
 rw [h.cnt sV]
 have:tP4 calls t e1=false:=by
  rcases hr with h0|h0
  ·exact sV _ h0
  ·unfold tP4;rw [h0];simp;omega
 rw [this];simp
theorem Next.more {calls:List aF} {st:aQ S} {q k:Nat} {evs':List EvD} {e1:EvD} (h:Next calls st q evs' k e1) (h1:isK calls 0 e1=true) (h2:e1.resp=st.wd.now+1):Go.Proofs.Ytifhldnmcdbpfaa.cnt (tP4 calls st.wd.now) st.evs+1<=Go.Proofs.Ytifhldnmcdbpfaa.cnt (tP4 calls (st.wd.now+1)) evs':=by
 rw [h.cnt sV]
 have h3:tP4 calls (st.wd.now+1) e1=true:=by unfold tP4;rw [h1,h2];simp
 rw [h3,if_pos rfl]
 have:Go.Proofs.Ytifhldnmcdbpfaa.cnt (tP4 calls st.wd.now) st.evs<=Go.Proofs.Ytifhldnmcdbpfaa.cnt (tP4 calls (st.wd.now+1)) st.evs:=cnt_mono λj _ hp=>by
  unfold tP4 at hp ⊢
  simp only [Bool.and_eq_true,decide_eq_true_eq] at hp ⊢
  exact⟨hp.1,by omega⟩
 omega
end
section
open Go.RowKit
inductive DoS where
 | take (at_ ph:Nat)
 | once (c:aF) (r:Int×Nat)
def kG (wd:WD) (p v:Nat):WD:={ wd with mem:=bR wd.mem (p:Int) v }
def CB (c:aF) (wd:WD):WD×(Int×Nat):=(dJ wd c.a,(0,gF wd c.a))
def MS (n:Nat):Sys where
 σ:=DoS
 ω:=Unit
 start:=λ_ _ _ c=>if c.kind=0 then .run (.take 0 0) else if c.kind≠1 then .refuse 9 else if c.a<n then .run (.once c (0,0)) else .refuse 10
 step:=λ_ wd p s=>match s with
  | .take a v=>if a<n then ((),dJ wd a,.take (a+1) (max v (gF wd a)),false) else ((),kG wd p (v+1),.take a (v+1),true)
  | .once c _=>((),(CB c wd).1,.once c (CB c wd).2,true)
 answer:=λs=>match s with
  | .take _ v=>(⟨0,v,[]⟩,[])
  | .once _ r=>(⟨r.1,r.2,[]⟩,[])
 late:=λ_ _ _ _=>none
def NL (calls:List aF) (evs:List EvD) (a iv v:Nat):Prop:=∀ i,i<evs.length->isK calls 0 (aD evs i)=true->(aD evs i).resp<iv->tn calls (aD evs i)<a->(aD evs i).ans.val<=v
def OU (n:Nat) (calls:List aF) (st:aQ (MS n)) (p:Nat) (e:EvD):DoS->Prop
 | .take a v=>a<=n/\v<=cnt (tP4 calls st.wd.now) st.evs/\(p<a->st.wd.mem.ws.getD p 0<=v)/\NL calls st.evs a e.inv v/\e.steps=a/\kindOf calls e=0/\1<=a
 | .once _ _=>False
def PD (n:Nat) (calls:List aF) (evs:List EvD) (e:EvD):Prop:=
 e.steps<=n+1/\(lL calls e=0->kindOf calls e=0->e.inv<e.resp/\1<=e.ans.val/\e.ans.val<=cnt (tP4 calls e.resp) evs/\
  ∀ j,j<evs.length->isK calls 0 (aD evs j)=true->(aD evs j).resp<e.inv->(aD evs j).ans.val<e.ans.val)
structure VA (n:Nat) (calls:List aF) (st:aQ (MS n)):Prop where
 wlen:st.wd.mem.ws.length=n
 top:∀ t,t<n->st.wd.mem.ws.getD t 0<=cnt (tP4 calls st.wd.now) st.evs
 low:∀ i,i<st.evs.length->isK calls 0 (aD st.evs i)=true->(aD st.evs i).ans.val<=st.wd.mem.ws.getD (tn calls (aD st.evs i)) 0
 hand:∀ p s k,st.hands.getD p (none,0)=(some s,k)->lL calls (aD st.evs k)=0/\OU n calls st p (aD st.evs k) s
 done:∀ i,i<st.evs.length->(aD st.evs i).resp≠0->PD n calls st.evs (aD st.evs i)
end
section
open Go.RowKit
def wT (n:Nat):Nat->Nat->Nat
 | 0,l=>l
 | f+1,l=>if l<n then wT n f (2*l) else l
def aJ (n:Nat):Nat:=wT n 5 1
def aG (n m v:Nat):Nat:=n+(v - 1)*(2^m - 1)
structure LkD where
 kind:Nat
 v:Nat
 x:RdD
 val:Nat
def dR (n m v:Nat):LkD:=⟨if v<aJ n then 0 else if v - aJ n<n then 1 else 2,v,⟨eP m,0,[]⟩,0⟩
def aI (n m p:Nat) (wd:WD) (l:LkD):WD×LkD×Bool:=
 if l.kind=1 then (dJ wd (l.v - aJ n),{ l with val:=gF wd (l.v - aJ n) },true)
 else if (rdStep (aG n m l.v) p wd l.x).2.2=true then ((rdStep (aG n m l.v) p wd l.x).1,{ l with x:=(rdStep (aG n m l.v) p wd l.x).2.1,val:=(rdStep (aG n m l.v) p wd l.x).2.1.val },true)
 else ((rdStep (aG n m l.v) p wd l.x).1,{ l with x:=(rdStep (aG n m l.v) p wd l.x).2.1 },false)
structure AdD where
 v:Nat
 pc:Nat
 left:LkD
 right:LkD
 wr:WrD
def UT:LkD:=⟨2,0,⟨eP 0,0,[]⟩,0⟩
def ad0:AdD:=⟨0,0,UT,UT,⟨eP 0,0,false,1,[]⟩⟩
def AdD.sum (m:Nat) (x:AdD):AdD:={ x with pc:=3,wr:=dB m (x.left.val+x.right.val) }
def AdD.pass2 (m:Nat) (x:AdD):AdD:=if x.pc=2/\x.right.kind=2 then x.sum m else x
def AdD.pass1 (x:AdD):AdD:=if x.pc=1/\x.left.kind=2 then { x with pc:=2 } else x
def AdD.pass (m:Nat) (x:AdD):AdD:=x.pass1.pass2 m
def AdD.climb (n m:Nat) (x:AdD) (v:Nat):AdD:=if v<1 then { x with v:=v } else ({ x with v:=v,left:=dR n m (2*v),right:=dR n m (2*v+1),pc:=1 }:AdD).pass m
inductive CtS where
 | rd (l:LkD)
 | ad (x:AdD)
def fJ (o:List Nat) (p v:Nat):List Nat:=if v<1 then o.set p (o.getD p 0+1) else o
def dU (n m:Nat) (o:List Nat) (wd:WD) (p:Nat) (x:AdD):List Nat×WD×AdD×Bool:=
 if x.pc=0 then (fJ o p ((aJ n+p) / 2),kG wd p (o.getD p 0+1),x.climb n m ((aJ n+p) / 2),decide ((aJ n+p) / 2<1))
 else if x.pc=1 then (o,(aI n m p wd x.left).1,if (aI n m p wd x.left).2.2=true then ({ x with left:=(aI n m p wd x.left).2.1,pc:=2 }:AdD).pass m else { x with left:=(aI n m p wd x.left).2.1 },false)
 else if x.pc=2 then (o,(aI n m p wd x.right).1,if (aI n m p wd x.right).2.2=true then ({ x with right:=(aI n m p wd x.right).2.1 }:AdD).sum m else { x with right:=(aI n m p wd x.right).2.1 },false)
 else if (aO (aG n m x.v) p wd x.wr).2.2=true then (fJ o p (x.v / 2),(aO (aG n m x.v) p wd x.wr).1,({ x with wr:=(aO (aG n m x.v) p wd x.wr).2.1 }:AdD).climb n m (x.v / 2),decide (x.v / 2<1))
 else (o,(aO (aG n m x.v) p wd x.wr).1,{ x with wr:=(aO (aG n m x.v) p wd x.wr).2.1 },false)
def bH (n m:Nat):Sys where
 σ:=CtS
 ω:=List Nat
 start:=λo _ p c=>if c.kind=1 then .run (.rd (dR n m 1)) else if c.kind≠0 then .refuse 9 else if 2^m - 1<(o.getD p 0+1)*n then .refuse 6 else .run (.ad ad0)
 step:=λo wd p s=>match s with
  | .rd l=>(o,(aI n m p wd l).1,.rd (aI n m p wd l).2.1,(aI n m p wd l).2.2)
  | .ad x=>((dU n m o wd p x).1,(dU n m o wd p x).2.1,.ad (dU n m o wd p x).2.2.1,(dU n m o wd p x).2.2.2)
 answer:=λs=>match s with
  | .rd l=>(⟨0,l.val,[]⟩,[])
  | .ad _=>(⟨0,0,[]⟩,[])
 late:=λ_ _ _ _=>none
theorem bL {n:Nat} (hn:n<=16):n<=aJ n/\1<=aJ n/\aJ n<=16:=by
 have:∀ k,k<17->k<=aJ k/\1<=aJ k/\aJ k<=16:=by decide
 exact this n (by omega)
end
end Go.Proofs.Ytifhldnmcdbpfaa
