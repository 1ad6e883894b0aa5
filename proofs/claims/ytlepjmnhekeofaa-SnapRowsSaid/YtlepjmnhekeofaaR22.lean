/- Layer 8: what every play of a tally keeps, in plain numbers. -/
import Derived.Test.YtlepjmnhekeofaaR21
import Derived.BigQuiet
import Derived.Laws.BitsAllLaws
import Derived.WalkMore
set_option maxRecDepth 100000
set_option linter.unusedVariables false
set_option linter.unusedSimpArgs false
set_option linter.unnecessarySimpa false
namespace Go.Proofs.Ytlepjmnhekeofaa
section
open Go.RowKit
def objOf (calls:List CallD) (e:EvD):Int:=(calls.getD e.call d0).obj
def kindOf (calls:List CallD) (e:EvD):Int:=(calls.getD e.call d0).kind
def isK (calls:List CallD) (kd:Int) (e:EvD):Bool:=decide (objOf calls e=0) && decide (kindOf calls e=kd) && decide (e.resp≠0)
def tP1 (calls:List CallD) (t:Nat) (e:EvD):Bool:=isK calls 0 e && decide (tn calls e=t)
def tP2 (calls:List CallD) (a:Nat) (e:EvD):Bool:=isK calls 0 e && decide (tn calls e<a)
def tP3 (calls:List CallD) (a iv:Nat) (e:EvD):Bool:=isK calls 0 e && decide (tn calls e<a) && decide (e.resp<iv)
def tP4 (calls:List CallD) (t:Nat) (e:EvD):Bool:=isK calls 0 e && decide (e.resp<=t)
theorem isK_open {calls:List CallD} {kd:Int} {e:EvD} (h:e.resp=0):isK calls kd e=false:=by unfold isK;simp [h]
theorem tP4_open {calls:List CallD} {t:Nat} (e:EvD) (h:e.resp=0):tP4 calls t e=false:=by unfold tP4;rw [isK_open h];rfl
def taHand (n:Nat) (calls:List CallD) (st:PlayD (tallyS n)) (p:Nat) (e:EvD):TaS->Prop
 | .count seen v=>seen=true/\v=cnt (tP1 calls p) st.evs/\e.steps=1/\kindOf calls e=0
 | .read a s _=>a<n/\cnt (tP3 calls a e.inv) st.evs<=s/\s<=cnt (tP2 calls a) st.evs/\e.steps=a/\kindOf calls e=1/\(∀ i,i<st.evs.length->isK calls 0 (evAt st.evs i)=true->(evAt st.evs i).resp≠e.inv)
def taDone (n:Nat) (calls:List CallD) (evs:List EvD) (e:EvD):Prop:=
 if objOf calls e≠0 then e.ans=⟨12,0,[]⟩/\e.key=[2*(e.resp:Int)]/\e.steps=1
 else if kindOf calls e=0 then e.ans=⟨0,0,[]⟩/\e.key=[2*(e.resp:Int)]/\e.steps=2/\e.inv<e.resp
 else if kindOf calls e=1 then ∃ wn v:Nat,e.ans=⟨0,v,[]⟩/\e.key=[2*(wn:Int),2*(e.resp:Int)]/\e.inv<=wn/\wn<=e.resp/\cnt (tP4 calls wn) evs=v/\cnt (tP3 calls n e.inv) evs<=v/\v<=cnt (tP4 calls e.resp) evs/\e.steps=n
 else e.ans=⟨9,0,[]⟩/\e.key=[2*(e.resp:Int)]/\e.steps=1
structure TaInv (n:Nat) (calls:List CallD) (st:PlayD (tallyS n)):Prop where
 wlen:st.wd.mem.ws.length=n
 words:∀ t,t<n->st.wd.mem.ws.getD t 0=cnt (tP1 calls t) st.evs
 tr:∀ t:Nat,((st.wd.traces 0).filter λx=>decide (x<=(t:Int))).length=cnt (tP4 calls t) st.evs
 tinc:(st.wd.traces 0).Pairwise (·<·)
 tpos:∀ x∈st.wd.traces 0,1<=x/\x<=(st.wd.now:Int)
 hand:∀ p s k,st.hands.getD p (none,0)=(some s,k)->objOf calls (evAt st.evs k)=0/\taHand n calls st p (evAt st.evs k) s/\st.wd.inv.getD p 0=(evAt st.evs k).inv
 done:∀ i,i<st.evs.length->(evAt st.evs i).resp≠0->taDone n calls st.evs (evAt st.evs i)
 marks:st.wd.marks=List.replicate 16 []
 ilen:st.wd.inv.length=16
 fault:st.wd.mem.c.fault=0
 all:st.wd.mem.c.all<=st.wd.now
theorem From.tn {S:Sys} {calls:List CallD} {st:PlayD S} {q i k:Nat} {s:S.σ} {evs0:List EvD} {wd0:WD} (h:From calls st q i k s evs0 wd0) (hN:nowN calls st.fin (q:Int)=some i):tn calls (evAt evs0 k)=q:=by
 unfold Go.Proofs.Ytlepjmnhekeofaa.tn
 rw [h.call,(nowN_spec hN).2.1];simp
theorem From.apart {S:Sys} {calls:List CallD} {st:PlayD S} {q i k:Nat} {s:S.σ} {evs0:List EvD} {wd0:WD} (h:From calls st q i k s evs0 wd0) (hg:StGood calls st) (hN:nowN calls st.fin (q:Int)=some i) {p k2:Nat} {s2:S.σ} (hp:p≠q) (hh:st.hands.getD p (none,0)=(some s2,k2)):k2≠k/\k2<st.evs.length:=by
 obtain⟨a1,a2,a3,a4⟩:=hg.ev.hand p k2 (by unfold hndOf;rw [hh];rfl)
 refine⟨?_,a1⟩
 rintro rfl
 apply hp
 rw [<-a2,<-h.tn hN,h.obj.2 k2 a1]
theorem From.or {S:Sys} {calls:List CallD} {st:PlayD S} {q i k:Nat} {s:S.σ} {evs0:List EvD} {wd0:WD} (h:From calls st q i k s evs0 wd0) :
  (st.hands.getD q (none,0)=(some s,k)/\k<st.evs.length/\(evAt st.evs k).call=i/\(evAt st.evs k).resp=0/\evs0=st.evs/\wd0=st.wd.tick)∨
  ((st.hands.getD q (none,0)).1=none/\startD S st.obj (st.wd.tick.begin q) q (calls.getD i d0)=.run s/\k=st.evs.length/\evs0=st.evs++[newEv i (st.wd.tick.begin q)]/\wd0=st.wd.tick.begin q):=by
 cases h with
 | old k s hh hk hc hr=>exact .inl ⟨hh,hk,hc,hr,rfl,rfl⟩
 | new s hh hs=>exact .inr ⟨hh,hs,rfl,rfl,rfl⟩
theorem From.inv {S:Sys} {calls:List CallD} {st:PlayD S} {q i k:Nat} {s:S.σ} {evs0:List EvD} {wd0:WD} (h:From calls st q i k s evs0 wd0) {p:Nat} (hp:p≠q):wd0.inv.getD p 0=st.wd.inv.getD p 0:=by
 cases h with
 | old k s hh hk hc hr=>rfl
 | new s hh hs=>exact getD_set_neq (Ne.symm hp)
theorem begin_marks {wd:WD} {q:Nat} (h:wd.marks=List.replicate 16 []):(wd.tick.begin q).marks=List.replicate 16 []:=by
 show wd.marks.set q []=_
 rw [h]
 apply List.ext_getElem?
 intro j
 rw [List.getElem?_set]
 split
 ·rename_i e
  subst e
  rw [List.length_replicate,List.getElem?_replicate]
 ·rfl
theorem From.marks {S:Sys} {calls:List CallD} {st:PlayD S} {q i k:Nat} {s:S.σ} {evs0:List EvD} {wd0:WD} (h:From calls st q i k s evs0 wd0) (hm:st.wd.marks=List.replicate 16 []):wd0.marks=List.replicate 16 []:=by
 cases h with
 | old k s hh hk hc hr=>exact hm
 | new s hh hs=>exact begin_marks hm
theorem From.ilen {S:Sys} {calls:List CallD} {st:PlayD S} {q i k:Nat} {s:S.σ} {evs0:List EvD} {wd0:WD} (h:From calls st q i k s evs0 wd0) (hm:st.wd.inv.length=16):wd0.inv.length=16:=by
 cases h with
 | old k s hh hk hc hr=>exact hm
 | new s hh hs=>show(st.wd.inv.set q _).length=16;rw [List.length_set];exact hm
theorem n_ok {n:Int} {calls:List CallD} {np:Nat} (hck:checkN n calls np=0):1<=n/\n<=16:=by
 obtain⟨hw0,_⟩:=checkN_zero hck
 obtain⟨z1,z2,z3,z4⟩:=wrongN_zero hw0
 omega
theorem np_ok {n:Int} {calls:List CallD} {np:Nat} (hck:checkN n calls np=0):np<=65536:=by
 obtain⟨_,h⟩:=checkN_zero hck
 omega
end
section

/- Layer 6: the events behind a turn, beside those ahead of it. -/
open Go.RowKit
variable {S:Sys}
structure Next (calls:List CallD) (st:PlayD S) (q:Nat) (evs':List EvD) (k:Nat) (e1:EvD):Prop where
 lt:k<evs'.length
 self:evAt evs' k=e1
 other:∀ j,j<evs'.length->j≠k->j<st.evs.length/\evAt evs' j=evAt st.evs j
 size:st.evs.length<=evs'.length
 old:k<st.evs.length->(evAt st.evs k).resp=0
 cnt:∀ {P:EvD->Bool},(∀ e,e.resp=0->P e=false)->cnt P evs'=cnt P st.evs+(if P e1 then 1 else 0)
 apart:∀ p s2 k2,p≠q->st.hands.getD p (none,0)=(some s2,k2)->k2≠k/\k2<st.evs.length
 thr:tn calls e1=q
theorem From.next {calls:List CallD} {st:PlayD S} {q i k:Nat} {s:S.σ} {evs0:List EvD} {wd0:WD} (hg:StGood calls st) (hf:From calls st q i k s evs0 wd0) (hN:nowN calls st.fin (q:Int)=some i) (e1:EvD) (he:e1.call=(evAt evs0 k).call):Next calls st q (evs0.set k e1) k e1 where
 lt:=by rw [List.length_set];exact hf.len
 self:=hf.self e1
 other:=λj hj hjk=>hf.other e1 hj hjk
 size:=hf.size e1
 old:=λhk=>by have h1:=hf.obj.2 k hk;rw [<-h1];exact hf.open_
 cnt:=λhP=>hf.cnt hP e1
 apart:=λp s2 k2 hp hh=>hf.apart hg hN hp hh
 thr:=by have h1:=hf.tn hN;unfold Go.Proofs.Ytlepjmnhekeofaa.tn at h1 ⊢;rw [he];exact h1
theorem refuse_next {calls:List CallD} {st:PlayD S} {q i:Nat} (hg:StGood calls st) (hN:nowN calls st.fin (q:Int)=some i) (e1:EvD) (he:e1.call=i):Next calls st q (st.evs++[e1]) st.evs.length e1 where
 lt:=by simp
 self:=evAt_last
 other:=λj hj hjk=>by
  have h1:j<st.evs.length:=by simp at hj;omega
  exact⟨h1,evAt_old h1⟩
 size:=by simp
 old:=λhk=>absurd hk (Nat.lt_irrefl _)
 cnt:=λhP=>by rw [cnt_append,cnt_cons,cnt_nil];omega
 apart:=λp s2 k2 hp hh=>by
  obtain⟨a1,a2,a3,a4⟩:=hg.ev.hand p k2 (by unfold hndOf;rw [hh];rfl)
  exact⟨by omega,a1⟩
 thr:=by unfold tn;rw [he,(nowN_spec hN).2.1];simp
theorem Next.past {calls:List CallD} {st:PlayD S} {q k:Nat} {evs':List EvD} {e1:EvD} (h:Next calls st q evs' k e1) (hr:e1.resp=0∨e1.resp=st.wd.now+1) {t:Nat} (ht:t<=st.wd.now):Go.Proofs.Ytlepjmnhekeofaa.cnt (tP4 calls t) evs'=Go.Proofs.Ytlepjmnhekeofaa.cnt (tP4 calls t) st.evs:=by
 rw [h.cnt tP4_open]
 have:tP4 calls t e1=false:=by
  rcases hr with h0|h0
  ·exact tP4_open _ h0
  ·unfold tP4;rw [h0];simp;omega
 rw [this];simp
theorem Next.more {calls:List CallD} {st:PlayD S} {q k:Nat} {evs':List EvD} {e1:EvD} (h:Next calls st q evs' k e1) (h1:isK calls 0 e1=true) (h2:e1.resp=st.wd.now+1):Go.Proofs.Ytlepjmnhekeofaa.cnt (tP4 calls st.wd.now) st.evs+1<=Go.Proofs.Ytlepjmnhekeofaa.cnt (tP4 calls (st.wd.now+1)) evs':=by
 rw [h.cnt tP4_open]
 have h3:tP4 calls (st.wd.now+1) e1=true:=by unfold tP4;rw [h1,h2];simp
 rw [h3,if_pos rfl]
 have:Go.Proofs.Ytlepjmnhekeofaa.cnt (tP4 calls st.wd.now) st.evs<=Go.Proofs.Ytlepjmnhekeofaa.cnt (tP4 calls (st.wd.now+1)) st.evs:=cnt_mono λj _ hp=>by
  unfold tP4 at hp ⊢
  simp only [Bool.and_eq_true,decide_eq_true_eq] at hp ⊢
  exact⟨hp.1,by omega⟩
 omega
end
section

/- Layer 12: the door: what every play of one keeps, in plain numbers. -/
open Go.RowKit
inductive DoS where
 | take (at_ ph:Nat)
 | once (c:CallD) (r:Int×Nat)
def doWrite (wd:WD) (p v:Nat):WD:={ wd with mem:=memWrite wd.mem (p:Int) v }
def doorAct (c:CallD) (wd:WD):WD×(Int×Nat):=(taRead wd c.a,(0,taGot wd c.a))
def doorS (n:Nat):Sys where
 σ:=DoS
 ω:=Unit
 start:=λ_ _ _ c=>if c.kind=0 then .run (.take 0 0) else if c.kind≠1 then .refuse 9 else if c.a<n then .run (.once c (0,0)) else .refuse 10
 step:=λ_ wd p s=>match s with
  | .take a v=>if a<n then ((),taRead wd a,.take (a+1) (max v (taGot wd a)),false) else ((),doWrite wd p (v+1),.take a (v+1),true)
  | .once c _=>((),(doorAct c wd).1,.once c (doorAct c wd).2,true)
 answer:=λs=>match s with
  | .take _ v=>(⟨0,v,[]⟩,[])
  | .once _ r=>(⟨r.1,r.2,[]⟩,[])
 late:=λ_ _ _ _=>none
def doSeen (calls:List CallD) (evs:List EvD) (a iv v:Nat):Prop:=∀ i,i<evs.length->isK calls 0 (evAt evs i)=true->(evAt evs i).resp<iv->tn calls (evAt evs i)<a->(evAt evs i).ans.val<=v
def doHand (n:Nat) (calls:List CallD) (st:PlayD (doorS n)) (p:Nat) (e:EvD):DoS->Prop
 | .take a v=>a<=n/\v<=cnt (tP4 calls st.wd.now) st.evs/\(p<a->st.wd.mem.ws.getD p 0<=v)/\doSeen calls st.evs a e.inv v/\e.steps=a/\kindOf calls e=0/\1<=a
 | .once _ _=>False
def doDone (n:Nat) (calls:List CallD) (evs:List EvD) (e:EvD):Prop:=
 e.steps<=n+1/\(objOf calls e=0->kindOf calls e=0->e.inv<e.resp/\1<=e.ans.val/\e.ans.val<=cnt (tP4 calls e.resp) evs/\
  ∀ j,j<evs.length->isK calls 0 (evAt evs j)=true->(evAt evs j).resp<e.inv->(evAt evs j).ans.val<e.ans.val)
structure DoInv (n:Nat) (calls:List CallD) (st:PlayD (doorS n)):Prop where
 wlen:st.wd.mem.ws.length=n
 top:∀ t,t<n->st.wd.mem.ws.getD t 0<=cnt (tP4 calls st.wd.now) st.evs
 low:∀ i,i<st.evs.length->isK calls 0 (evAt st.evs i)=true->(evAt st.evs i).ans.val<=st.wd.mem.ws.getD (tn calls (evAt st.evs i)) 0
 hand:∀ p s k,st.hands.getD p (none,0)=(some s,k)->objOf calls (evAt st.evs k)=0/\doHand n calls st p (evAt st.evs k) s
 done:∀ i,i<st.evs.length->(evAt st.evs i).resp≠0->doDone n calls st.evs (evAt st.evs i)
end
section

/- Layer 14: the register of many words, in plain numbers. -/
open Go.RowKit
structure PinO where
 come:List Nat
 last:Nat
 now:Nat
inductive PiS where
 | wr (v q i ph:Nat)
 | rd (q k:Nat) (l:List Nat) (key:List Int)
def piLeft (q:Nat):Nat:=1+q
def piWord (n w q i:Nat):Nat:=n+2+q*w+i
def piNext (now q:Nat):Nat:=if q=now then q+1 else q
def piDiff (q now:Nat):Nat:=((q+18446744073709551616 - now) % 18446744073709551616)*4294967296 % 18446744073709551616
def piCome (o:PinO) (c:Nat):List Nat:=o.come.set o.now ((o.come.getD o.now 0+(c+18446744073709551616 - o.last) % 18446744073709551616) % 18446744073709551616)
def doAdd (wd:WD) (a d:Nat):WD:={ wd with mem:=(memAdd wd.mem (a:Int) d).1 }
def adGot (wd:WD) (a d:Nat):Nat:=(memAdd wd.mem (a:Int) d).2
def pinS (n w:Nat):Sys where
 σ:=PiS
 ω:=PinO
 start:=λo _ p c=>if c.kind=1 then .run (.rd 0 0 [] []) else if c.kind≠0 then .refuse 9 else if p≠0 then .refuse 11 else .run (.wr c.a (piNext o.now 0) 0 0)
 step:=λo wd _ s=>match s with
  | .wr v q i 0=>if taGot wd (piLeft q)=o.come.getD q 0 then (o,taRead wd (piLeft q),.wr v q i 1,false) else (o,taRead wd (piLeft q),.wr v (piNext o.now (q+1)) i 0,false)
  | .wr v q i 1=>(o,doWrite wd (piWord n w q i) ((v+i) % 18446744073709551616),.wr v q (i+1) (if i+1=w then 2 else 1),false)
  | .wr v q i (k+2)=>(⟨piCome o (adGot wd 0 (piDiff q o.now) % 4294967296),adGot wd 0 (piDiff q o.now) % 4294967296,q⟩,doAdd wd 0 (piDiff q o.now),.wr v q i (k+2),true)
  | .rd _ 0 l _=>(o,doAdd wd 0 1,.rd (adGot wd 0 1 / 4294967296) 1 l (tickKey wd),false)
  | .rd q (k+1) l key=>if k<w then (o,taRead wd (piWord n w q k),.rd q (k+2) (l++[taGot wd (piWord n w q k)]) key,false) else (o,doAdd wd (piLeft q) 1,.rd q (k+2) l key,true)
 answer:=λs=>match s with
  | .wr _ _ _ _=>(⟨0,0,[]⟩,[])
  | .rd _ _ l key=>(⟨0,0,l⟩,key)
 late:=λ_ _ _ _=>none
end
section

/- Layer 15: the snapshot, in plain numbers. -/
open Go.RowKit
structure ScD where
 pc:Nat
 at_:Nat
 rounds:Nat
 old:List Nat
 now:List Nat
 last:Nat
 diff:List Bool
 from_:Nat
 list:List Nat
 moment:Int
inductive SnS where
 | rd (s:ScD) (key:List Int)
 | up (s:ScD) (p record next v:Nat) (scanned:Bool)
def sc0:ScD:=⟨0,0,0,List.replicate 16 0,List.replicate 16 0,0,List.replicate 16 false,0,[],0⟩
def snRecord (n p t r:Nat):Nat:=n+(t*p+r)*(n+1)
def scDif (old now:List Nat):Nat->Nat->List Bool->List Bool×Option Nat
 | 0,_,d=>(d,none)
 | m+1,t,d=>if old.getD t 0=now.getD t 0 then scDif old now m (t+1) d
  else if d.getD t false=true then (d,some (now.getD t 0))
  else scDif old now m (t+1) (d.set t true)
def scPass (n:Nat):Nat->ScD->ScD
 | 0,s=>{ s with pc:=if s.at_=n then 3 else s.pc }
 | m+1,s=>if s.at_<n/\s.now.getD s.at_ 0=0 then scPass n m { s with list:=s.list++[0],at_:=s.at_+1 } else { s with pc:=if s.at_=n then 3 else s.pc }
def scHeld (n:Nat) (wd:WD) (s:ScD):ScD:=
 if s.rounds+1=1 then { s with at_:=0,rounds:=s.rounds+1,old:=s.now,last:=wd.now }
 else if s.old=s.now then scPass n n { s with at_:=0,rounds:=s.rounds+1,pc:=1,moment:=s.last }
 else match scDif s.old s.now n 0 s.diff with
  | (d,some f)=>{ s with at_:=0,rounds:=s.rounds+1,diff:=d,pc:=2,from_:=f,moment:=(wd.traces f).headD 0 }
  | (d,none)=>{ s with at_:=0,rounds:=s.rounds+1,diff:=d,old:=s.now,last:=wd.now }
def scAddr (s:ScD):Nat:=if s.pc=0 then s.at_ else if s.pc=1 then s.now.getD s.at_ 0 else s.from_+1+s.at_
def scNext (n:Nat) (wd:WD) (g:Nat) (s:ScD):ScD:=
 if s.pc=0 then (if s.at_+1=n then scHeld n wd { s with now:=s.now.set s.at_ g,at_:=s.at_+1 } else { s with now:=s.now.set s.at_ g,at_:=s.at_+1 })
 else if s.pc=1 then scPass n n { s with list:=s.list++[g],at_:=s.at_+1 }
 else { s with list:=s.list++[g],at_:=s.at_+1,pc:=if s.at_+1=n then 3 else s.pc }
def scWd (wd:WD) (s:ScD):WD:=taRead wd (scAddr s)
def scGo (n:Nat) (wd:WD) (s:ScD):ScD:=scNext n wd (taGot wd (scAddr s)) s
def snNote (wd:WD) (r:Nat) (m:Int):WD:={ wd with traces:=updT wd.traces (r:Int) [m] }
def snapS (n k:Nat):Sys where
 σ:=SnS
 ω:=List Nat
 start:=λo _ p c=>if c.kind=1 then .run (.rd sc0 []) else if c.kind≠0 then .refuse 9 else if k<=o.getD p 0 then .refuse 6 else .run (.up sc0 p (snRecord n k p (o.getD p 0)) 0 c.a false)
 step:=λo wd _ s=>match s with
  | .rd s key=>(o,scWd wd s,.rd (scGo n wd s) (if (scGo n wd s).pc=3 then [2*(scGo n wd s).moment,2*(wd.now:Int)] else key),decide ((scGo n wd s).pc=3))
  | .up s p r nx v false=>(o,scWd wd s,.up (scGo n wd s) p r nx v (decide ((scGo n wd s).pc=3)),false)
  | .up s p r 0 v true=>(o,doWrite wd r v,.up s p r 1 v true,false)
  | .up s p r (i+1) v true=>if i+1<=n then (o,doWrite wd (r+(i+1)) (s.list.getD i 0),.up s p r (i+2) v true,false)
   else (o.set p (o.getD p 0+1),doWrite (snNote wd r s.moment) p r,.up s p r (i+2) v true,true)
 answer:=λs=>match s with
  | .rd s key=>(⟨0,0,s.list⟩,key)
  | .up _ _ _ _ _ _=>(⟨0,0,[]⟩,[])
 late:=λ_ _ _ _=>none
end
section

/- Layer 14: what every play of a register keeps, in plain numbers: who holds which buffer. -/
open Go.RowKit
def piAt (q:Nat):Option PiS->Bool
  | some (.rd q' j _ _)=>decide (q'=q) && decide (1<=j)
  | _=>false
def piFar (now q:Nat):Option PiS->Bool
  | some (.rd q' j _ _)=>decide (q<=q') && decide (q'≠now) && decide (1<=j)
  | _=>false
def piH (q:Nat) (hs:List (Option PiS×Nat)):Nat:=hs.countP (λh=>piAt q h.1)
def piN (now q:Nat) (hs:List (Option PiS×Nat)):Nat:=hs.countP (λh=>piFar now q h.1)
structure PiW (n k t:Nat) (ws:List Nat) (o:PinO) (hs:List (Option PiS×Nat)):Prop where
  wl:ws.length=1+(n+1)*(k+1)
  cl:o.come.length=n+1
  nl:o.now<=n
  cell:∃ c,ws.getD 0 0=o.now*4294967296+c/\c<=t/\o.last<=c/\∀ q,q<=n->o.come.getD q 0+(if q=o.now then c - o.last else 0)=ws.getD (1+q) 0+piH q hs
  cm:∀ q,q<=n->o.come.getD q 0<=o.last
def piHand (n k:Nat) (calls:List CallD) (ws:List Nat) (o:PinO) (hs:List (Option PiS×Nat)) (p:Nat) (e:EvD):PiS->Prop
  | .wr v q i ph=>p=0/\kindOf calls e=0/\v=(calls.getD e.call d0).a/\q≠o.now/\
      ((ph=0/\i=0/\e.steps+(if o.now<q then 1 else 0)=q/\piN o.now q hs+e.steps+1<=n)∨
       (1<=ph/\ph<=2/\q<=n/\piH q hs=0/\e.steps<=n+i/\i<=k/\(ph=1->i<k)/\(ph=2->i=k)/\∀ a,a<i->ws.getD (piWord n k q a) 0=(v+a) % 18446744073709551616))
  | .rd q j l _=>kindOf calls e=1/\j<=k+1/\e.steps=j/\(j=0->l=[])/\(1<=j->q<=n/\l.length=j - 1/\∀ a,a<j - 1->l.getD a 0=ws.getD (piWord n k q a) 0)
def piGood (k:Nat) (calls:List CallD) (f:Nat->Nat):Prop:=
  (∀ a,a<k->f a=0)∨∃ c,c<calls.length/\(calls.getD c d0).thread=0/\(calls.getD c d0).obj=0/\(calls.getD c d0).kind=0/\∀ a,a<k->f a=((calls.getD c d0).a+a) % 18446744073709551616
def piDone (n k:Nat) (calls:List CallD) (e:EvD):Prop:=
  e.steps<=n+k+1/\(kindOf calls e=1->e.steps<=k+2)/\(objOf calls e=0->kindOf calls e=1->e.ans.list.length=k/\piGood k calls (λa=>e.ans.list.getD a 0))
structure PiInv (n k:Nat) (calls:List CallD) (st:PlayD (pinS n k)):Prop where
  w:PiW n k st.wd.now st.wd.mem.ws st.obj st.hands
  hand:∀ p s j,st.hands.getD p (none,0)=(some s,j)->objOf calls (evAt st.evs j)=0/\piHand n k calls st.wd.mem.ws st.obj st.hands p (evAt st.evs j) s
  cont:∀ q,q<=n->(∀ v i ph j,st.hands.getD 0 (none,0)=(some (.wr v q i ph),j)->ph=0)->piGood k calls (λa=>st.wd.mem.ws.getD (piWord n k q a) 0)
  done:∀ j,j<st.evs.length->(evAt st.evs j).resp≠0->piDone n k calls (evAt st.evs j)
end
section

/- Layer 14: the register's addresses; one that writes: to look, to fill. -/
open Go.RowKit
def pinCells (n w last now bC:Nat):Array Value:=#[.int .i64 0,.int .i64 (n:Int),.int .i64 (w:Int),.slice (some ⟨bC,0,none⟩) (n+1) (n+1),.int .u64 (last:Int),.int .i64 (now:Int)]
end
end Go.Proofs.Ytlepjmnhekeofaa
