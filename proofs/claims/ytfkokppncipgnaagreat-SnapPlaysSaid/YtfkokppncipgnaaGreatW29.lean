/- Layer 8: what every play of a tally keeps, in plain numbers. -/
import Derived.Test.YtfkokppncipgnaaGreatW28
import Derived.Test.YtfkokppncipgnaaGreatW18
import Derived.Test.YtfkokppncipgnaaGreatW26
import Derived.Test.YtfkokppncipgnaaGreatW21
set_option maxRecDepth 100000
set_option linter.unusedVariables false
set_option linter.unusedSimpArgs false
set_option linter.unnecessarySimpa false
namespace Go.Proofs.YtfkokppncipgnaaGreat
section
open Go.RowKit
def iG (calls:List aD) (e:EvD):Int:=(calls.getD e.call d0).obj
def kindOf (calls:List aD) (e:EvD):Int:=(calls.getD e.call d0).kind
def isK (calls:List aD) (kd:Int) (e:EvD):Bool:=decide (iG calls e=0) && decide (kindOf calls e=kd) && decide (e.resp≠0)
def tP1 (calls:List aD) (t:Nat) (e:EvD):Bool:=isK calls 0 e && decide (tn calls e=t)
def tP2 (calls:List aD) (a:Nat) (e:EvD):Bool:=isK calls 0 e && decide (tn calls e<a)
def tP3 (calls:List aD) (a iv:Nat) (e:EvD):Bool:=isK calls 0 e && decide (tn calls e<a) && decide (e.resp<iv)
def tP4 (calls:List aD) (t:Nat) (e:EvD):Bool:=isK calls 0 e && decide (e.resp<=t)
theorem Dz {calls:List aD} {kd:Int} {e:EvD} (h:e.resp=0):isK calls kd e=false:=by unfold isK;simp [h]
theorem DZ {calls:List aD} {t:Nat} (e:EvD) (h:e.resp=0):tP4 calls t e=false:=by unfold tP4;rw [Dz h];rfl
def Qz (n:Nat) (calls:List aD) (st:aP (Km n)) (p:Nat) (e:EvD):TaS->Prop
 | .count seen v=>seen=true/\v=cnt (tP1 calls p) st.evs/\e.steps=1/\kindOf calls e=0
 | .read a s _=>a<n/\cnt (tP3 calls a e.inv) st.evs<=s/\s<=cnt (tP2 calls a) st.evs/\e.steps=a/\kindOf calls e=1/\(∀ i,i<st.evs.length->isK calls 0 (aF st.evs i)=true->(aF st.evs i).resp≠e.inv)
def Ru (n:Nat) (calls:List aD) (evs:List EvD) (e:EvD):Prop:=
 if iG calls e≠0 then e.ans=⟨12,0,[]⟩/\e.key=[2*(e.resp:Int)]/\e.steps=1
 else if kindOf calls e=0 then e.ans=⟨0,0,[]⟩/\e.key=[2*(e.resp:Int)]/\e.steps=2/\e.inv<e.resp
 else if kindOf calls e=1 then ∃ wn v:Nat,e.ans=⟨0,v,[]⟩/\e.key=[2*(wn:Int),2*(e.resp:Int)]/\e.inv<=wn/\wn<=e.resp/\cnt (tP4 calls wn) evs=v/\cnt (tP3 calls n e.inv) evs<=v/\v<=cnt (tP4 calls e.resp) evs/\e.steps=n
 else e.ans=⟨9,0,[]⟩/\e.key=[2*(e.resp:Int)]/\e.steps=1
structure aAJ (n:Nat) (calls:List aD) (st:aP (Km n)):Prop where
 wlen:st.wd.mem.ws.length=n
 words:∀ t,t<n->st.wd.mem.ws.getD t 0=cnt (tP1 calls t) st.evs
 tr:∀ t:Nat,((st.wd.traces 0).filter λx=>decide (x<=(t:Int))).length=cnt (tP4 calls t) st.evs
 tinc:(st.wd.traces 0).Pairwise (·<·)
 tpos:∀ x∈st.wd.traces 0,1<=x/\x<=(st.wd.now:Int)
 hand:∀ p s k,st.hands.getD p (none,0)=(some s,k)->iG calls (aF st.evs k)=0/\Qz n calls st p (aF st.evs k) s/\st.wd.inv.getD p 0=(aF st.evs k).inv
 done:∀ i,i<st.evs.length->(aF st.evs i).resp≠0->Ru n calls st.evs (aF st.evs i)
 marks:st.wd.marks=List.replicate 16 []
 ilen:st.wd.inv.length=16
 fault:st.wd.mem.c.fault=0
 all:st.wd.mem.c.all<=st.wd.now
theorem From.tn {S:Sys} {calls:List aD} {st:aP S} {q i k:Nat} {s:S.σ} {aQ:List EvD} {cZ:WD} (h:From calls st q i k s aQ cZ) (hN:gF calls st.fin (q:Int)=some i):tn calls (aF aQ k)=q:=by
 unfold Go.Proofs.YtfkokppncipgnaaGreat.tn
 rw [h.call,(fC hN).2.1];simp
theorem From.apart {S:Sys} {calls:List aD} {st:aP S} {q i k:Nat} {s:S.σ} {aQ:List EvD} {cZ:WD} (h:From calls st q i k s aQ cZ) (hg:bQ calls st) (hN:gF calls st.fin (q:Int)=some i) {p k2:Nat} {s2:S.σ} (hp:p≠q) (hh:st.hands.getD p (none,0)=(some s2,k2)):k2≠k/\k2<st.evs.length:=by
 obtain⟨a1,a2,a3,a4⟩:=hg.ev.hand p k2 (by unfold fQ;rw [hh];rfl)
 refine⟨?_,a1⟩
 rintro rfl
 apply hp
 rw [<-a2,<-h.tn hN,h.obj.2 k2 a1]
theorem From.or {S:Sys} {calls:List aD} {st:aP S} {q i k:Nat} {s:S.σ} {aQ:List EvD} {cZ:WD} (h:From calls st q i k s aQ cZ) :
  (st.hands.getD q (none,0)=(some s,k)/\k<st.evs.length/\(aF st.evs k).call=i/\(aF st.evs k).resp=0/\aQ=st.evs/\cZ=st.wd.tick)∨
  ((st.hands.getD q (none,0)).1=none/\eG S st.obj (st.wd.tick.begin q) q (calls.getD i d0)=.run s/\k=st.evs.length/\aQ=st.evs++[fZ i (st.wd.tick.begin q)]/\cZ=st.wd.tick.begin q):=by
 cases h with
 | old k s hh hk hc hr=>exact .inl ⟨hh,hk,hc,hr,rfl,rfl⟩
 | new s hh hs=>exact .inr ⟨hh,hs,rfl,rfl,rfl⟩
theorem From.inv {S:Sys} {calls:List aD} {st:aP S} {q i k:Nat} {s:S.σ} {aQ:List EvD} {cZ:WD} (h:From calls st q i k s aQ cZ) {p:Nat} (hp:p≠q):cZ.inv.getD p 0=st.wd.inv.getD p 0:=by
 cases h with
 | old k s hh hk hc hr=>rfl
 | new s hh hs=>exact aK (Ne.symm hp)
theorem yV {wd:WD} {q:Nat} (h:wd.marks=List.replicate 16 []):(wd.tick.begin q).marks=List.replicate 16 []:=by
 show wd.marks.set q []=_
 rw [h]
 apply List.ext_getElem?
 intro j
 rw [List.getElem?_set]
 split
 ·rename_i e
  subst e
  rw [List.length_replicate,List.getElem?_replicate]
 ·rfl
theorem From.marks {S:Sys} {calls:List aD} {st:aP S} {q i k:Nat} {s:S.σ} {aQ:List EvD} {cZ:WD} (h:From calls st q i k s aQ cZ) (hm:st.wd.marks=List.replicate 16 []):cZ.marks=List.replicate 16 []:=by
 cases h with
 | old k s hh hk hc hr=>exact hm
 | new s hh hs=>exact yV hm
theorem From.ilen {S:Sys} {calls:List aD} {st:aP S} {q i k:Nat} {s:S.σ} {aQ:List EvD} {cZ:WD} (h:From calls st q i k s aQ cZ) (hm:st.wd.inv.length=16):cZ.inv.length=16:=by
 cases h with
 | old k s hh hk hc hr=>exact hm
 | new s hh hs=>show(st.wd.inv.set q _).length=16;rw [List.length_set];exact hm
theorem Jk {n:Int} {calls:List aD} {np:Nat} (hck:checkN n calls np=0):1<=n/\n<=16:=by
 obtain⟨hw0,_⟩:=eD hck
 obtain⟨z1,z2,z3,z4⟩:=gZ hw0
 omega
theorem Vw {n:Int} {calls:List aD} {np:Nat} (hck:checkN n calls np=0):np<=65536:=by
 obtain⟨_,h⟩:=eD hck
 omega
end
section
open Go.RowKit
variable {S:Sys}
structure Next (calls:List aD) (st:aP S) (q:Nat) (evs':List EvD) (k:Nat) (e1:EvD):Prop where
 lt:k<evs'.length
 self:aF evs' k=e1
 other:∀ j,j<evs'.length->j≠k->j<st.evs.length/\aF evs' j=aF st.evs j
 size:st.evs.length<=evs'.length
 old:k<st.evs.length->(aF st.evs k).resp=0
 cnt:∀ {P:EvD->Bool},(∀ e,e.resp=0->P e=false)->cnt P evs'=cnt P st.evs+(if P e1 then 1 else 0)
 apart:∀ p s2 k2,p≠q->st.hands.getD p (none,0)=(some s2,k2)->k2≠k/\k2<st.evs.length
 thr:tn calls e1=q
theorem From.next {calls:List aD} {st:aP S} {q i k:Nat} {s:S.σ} {aQ:List EvD} {cZ:WD} (hg:bQ calls st) (hf:From calls st q i k s aQ cZ) (hN:gF calls st.fin (q:Int)=some i) (e1:EvD) (he:e1.call=(aF aQ k).call):Next calls st q (aQ.set k e1) k e1 where
 lt:=by rw [List.length_set];exact hf.len
 self:=hf.self e1
 other:=λj hj hjk=>hf.other e1 hj hjk
 size:=hf.size e1
 old:=λhk=>by have h1:=hf.obj.2 k hk;rw [<-h1];exact hf.open_
 cnt:=λhP=>hf.cnt hP e1
 apart:=λp s2 k2 hp hh=>hf.apart hg hN hp hh
 thr:=by have h1:=hf.tn hN;unfold Go.Proofs.YtfkokppncipgnaaGreat.tn at h1 ⊢;rw [he];exact h1
theorem FY {calls:List aD} {st:aP S} {q i:Nat} (hg:bQ calls st) (hN:gF calls st.fin (q:Int)=some i) (e1:EvD) (he:e1.call=i):Next calls st q (st.evs++[e1]) st.evs.length e1 where
 lt:=by simp
 self:=vJ
 other:=λj hj hjk=>by
  have h1:j<st.evs.length:=by simp at hj;omega
  exact⟨h1,NC h1⟩
 size:=by simp
 old:=λhk=>absurd hk (Nat.lt_irrefl _)
 cnt:=λhP=>by rw [OL,EA,ZL];omega
 apart:=λp s2 k2 hp hh=>by
  obtain⟨a1,a2,a3,a4⟩:=hg.ev.hand p k2 (by unfold fQ;rw [hh];rfl)
  exact⟨by omega,a1⟩
 thr:=by unfold tn;rw [he,(fC hN).2.1];simp
theorem Next.past {calls:List aD} {st:aP S} {q k:Nat} {evs':List EvD} {e1:EvD} (h:Next calls st q evs' k e1) (hr:e1.resp=0∨e1.resp=st.wd.now+1) {t:Nat} (ht:t<=st.wd.now):Go.Proofs.YtfkokppncipgnaaGreat.cnt (tP4 calls t) evs'=Go.Proofs.YtfkokppncipgnaaGreat.cnt (tP4 calls t) st.evs:=by
 rw [h.cnt DZ]
 have:tP4 calls t e1=false:=by
  rcases hr with h0|h0
  ·exact DZ _ h0
  ·unfold tP4;rw [h0];simp;omega
 rw [this];simp
theorem Next.grow {calls:List aD} {st:aP S} {q k:Nat} {evs':List EvD} {e1:EvD} (h:Next calls st q evs' k e1):Go.Proofs.YtfkokppncipgnaaGreat.cnt (tP4 calls st.wd.now) st.evs<=Go.Proofs.YtfkokppncipgnaaGreat.cnt (tP4 calls (st.wd.now+1)) evs':=by
 rw [h.cnt DZ]
 have:Go.Proofs.YtfkokppncipgnaaGreat.cnt (tP4 calls st.wd.now) st.evs<=Go.Proofs.YtfkokppncipgnaaGreat.cnt (tP4 calls (st.wd.now+1)) st.evs:=cnt_mono λj _ hp=>by
  unfold tP4 at hp ⊢
  simp only [Bool.and_eq_true,decide_eq_true_eq] at hp ⊢
  exact⟨hp.1,by omega⟩
 omega
theorem Next.more {calls:List aD} {st:aP S} {q k:Nat} {evs':List EvD} {e1:EvD} (h:Next calls st q evs' k e1) (h1:isK calls 0 e1=true) (h2:e1.resp=st.wd.now+1):Go.Proofs.YtfkokppncipgnaaGreat.cnt (tP4 calls st.wd.now) st.evs+1<=Go.Proofs.YtfkokppncipgnaaGreat.cnt (tP4 calls (st.wd.now+1)) evs':=by
 rw [h.cnt DZ]
 have h3:tP4 calls (st.wd.now+1) e1=true:=by unfold tP4;rw [h1,h2];simp
 rw [h3,if_pos rfl]
 have:Go.Proofs.YtfkokppncipgnaaGreat.cnt (tP4 calls st.wd.now) st.evs<=Go.Proofs.YtfkokppncipgnaaGreat.cnt (tP4 calls (st.wd.now+1)) st.evs:=cnt_mono λj _ hp=>by
  unfold tP4 at hp ⊢
  simp only [Bool.and_eq_true,decide_eq_true_eq] at hp ⊢
  exact⟨hp.1,by omega⟩
 omega
end
section
open Go.RowKit
inductive DoS where
 | take (at_ ph:Nat)
 | once (c:aD) (r:Int×Nat)
def eB (wd:WD) (p v:Nat):WD:={ wd with mem:=fJ wd.mem (p:Int) v }
def ZN (c:aD) (wd:WD):WD×(Int×Nat):=(eY wd c.a,(0,dZ wd c.a))
def Oq (n:Nat):Sys where
 σ:=DoS
 ω:=Unit
 start:=λ_ _ _ c=>if c.kind=0 then .run (.take 0 0) else if c.kind≠1 then .refuse 9 else if c.a<n then .run (.once c (0,0)) else .refuse 10
 step:=λ_ wd p s=>match s with
  | .take a v=>if a<n then ((),eY wd a,.take (a+1) (max v (dZ wd a)),false) else ((),eB wd p (v+1),.take a (v+1),true)
  | .once c _=>((),(ZN c wd).1,.once c (ZN c wd).2,true)
 answer:=λs=>match s with
  | .take _ v=>(⟨0,v,[]⟩,[])
  | .once _ r=>(⟨r.1,r.2,[]⟩,[])
 late:=λ_ _ _ _=>none
def Ps (calls:List aD) (evs:List EvD) (a iv v:Nat):Prop:=∀ i,i<evs.length->isK calls 0 (aF evs i)=true->(aF evs i).resp<iv->tn calls (aF evs i)<a->(aF evs i).ans.val<=v
def Qh (n:Nat) (calls:List aD) (st:aP (Oq n)) (p:Nat) (e:EvD):DoS->Prop
 | .take a v=>a<=n/\v<=cnt (tP4 calls st.wd.now) st.evs/\(p<a->st.wd.mem.ws.getD p 0<=v)/\Ps calls st.evs a e.inv v/\e.steps=a/\kindOf calls e=0/\1<=a
 | .once _ _=>False
def Sj (n:Nat) (calls:List aD) (evs:List EvD) (e:EvD):Prop:=
 e.steps<=n+1/\(iG calls e=0->kindOf calls e=0->e.inv<e.resp/\1<=e.ans.val/\e.ans.val<=cnt (tP4 calls e.resp) evs/\
  ∀ j,j<evs.length->isK calls 0 (aF evs j)=true->(aF evs j).resp<e.inv->(aF evs j).ans.val<e.ans.val)
structure aAR (n:Nat) (calls:List aD) (st:aP (Oq n)):Prop where
 wlen:st.wd.mem.ws.length=n
 top:∀ t,t<n->st.wd.mem.ws.getD t 0<=cnt (tP4 calls st.wd.now) st.evs
 low:∀ i,i<st.evs.length->isK calls 0 (aF st.evs i)=true->(aF st.evs i).ans.val<=st.wd.mem.ws.getD (tn calls (aF st.evs i)) 0
 hand:∀ p s k,st.hands.getD p (none,0)=(some s,k)->iG calls (aF st.evs k)=0/\Qh n calls st p (aF st.evs k) s
 done:∀ i,i<st.evs.length->(aF st.evs i).resp≠0->Sj n calls st.evs (aF st.evs i)
end
section
open Go.RowKit
def Bnd (t:aJ) (r:RWD):Prop:=(∀ x,x∈t.got->x<=1000000)/\∀ x,x∈r.mem.ws->x<=1000000
theorem YB (m:dR) (a:Int):(bL m a).1.ws=m.ws:=by unfold bL dR.fault;split<;>rfl
theorem Bnd.read {t:aJ} {r:RWD} (h:Bnd t r) (a:Int):(aX 0 a 0 0 t r).1<=1000000/\Bnd (aX 0 a 0 0 t r).2.1 (aX 0 a 0 0 t r).2.2:=by
 have hm:(bL r.mem a).2<=1000000:=by
  unfold bL
  split
  ·exact Nat.zero_le _
  ·show r.mem.ws.getD _ 0<=_
   rw [List.getD_eq_getElem?_getD]
   cases hx:r.mem.ws[a.toNat]? with
   | none=>exact Nat.zero_le _
   | some x=>exact h.2 x (List.mem_of_getElem? hx)
 cases hh:t.halt with
 | true=>rw [AJ hh];exact⟨Nat.zero_le _,h⟩
 | false=>
  by_cases ha:t.at_<t.got.length
  ·rw [DK hh ha]
   refine⟨?_,h⟩
   show t.got.getD t.at_ 0<=_
   rw [List.getD_eq_getElem?_getD,List.getElem?_eq_getElem ha]
   exact h.1 _ (List.getElem_mem ha)
  ·cases hf:t.fresh with
   | false=>rw [CJ hh ha hf];exact⟨Nat.zero_le _,h⟩
   | true=>
    rw [xW hh ha hf]
    refine⟨hm,λx hx=>?_,λx hx=>?_⟩
    ·have hx':x∈t.got++[(bL r.mem a).2]:=hx
     rcases List.mem_append.1 hx' with h9|h9
     ·exact h.1 x h9
     ·rw [List.mem_singleton.1 h9];exact hm
    ·have hx':x∈(bL r.mem a).1.ws:=hx
     rw [YB] at hx'
     exact h.2 x hx'
end
section
open Go.RowKit
structure Ei where
 err:Int
 val:Nat
 list:List Nat
 key:List Int
 priv:List Nat
def aJ.out (t:aJ) (o:Ei):aJ:={ t with err:=o.err,val:=o.val,list:=o.list,key:=o.key,priv:=o.priv }
def aJ.outs (t:aJ):Ei:=⟨t.err,t.val,t.list,t.key,t.priv⟩
inductive Pg where
 | ret (f:aJ->RWD->Ei)
 | acc (kd a:Int) (x y:Nat) (eff:RWD->RWD) (k:Nat->Pg)
def BX (eff:RWD->RWD) (t:aJ) (r:RWD):RWD:=if kD t=true then eff r else r
def Pg.run:Pg->aJ->RWD->aJ×RWD
 | .ret f,t,r=>(t.out (f t r),r)
 | .acc kd a x y eff k,t,r=>(k (aX kd a x y t r).1).run (aX kd a x y t r).2.1 (BX eff (aX kd a x y t r).2.1 (aX kd a x y t r).2.2)
def Pg.res:Pg->List Nat->Pg
 | P,[]=>P
 | .acc _ _ _ _ _ k,g::gs=>(k g).res gs
 | .ret f,_::_=>.ret f
def Pg.deep:Pg->List Nat->Prop
 | _,[]=>True
 | .acc _ _ _ _ _ k,g::gs=>(k g).deep gs
 | .ret _,_::_=>False
theorem Pg.res_nil (P:Pg):P.res []=P:=by cases P<;>rfl
theorem Pg.deep_nil (P:Pg):P.deep []:=by cases P<;>trivial
theorem Pg.res_snoc:∀(gs:List Nat) (P:Pg) (g:Nat) {kd a:Int} {x y:Nat} {eff:RWD->RWD} {k:Nat->Pg},P.res gs=.acc kd a x y eff k->P.deep gs->P.res (gs++[g])=k g/\P.deep (gs++[g])
 | [],P,g,kd,a,x,y,eff,k,h,_=>by
  rw [Pg.res_nil] at h
  subst h
  exact⟨Pg.res_nil _,Pg.deep_nil _⟩
 | g0::gs,P,g,kd,a,x,y,eff,k,h,hd=>by
  cases P with
  | ret f=>exact hd.elim
  | acc kd' a' x' y' eff' k'=>exact Pg.res_snoc gs (k' g0) g h hd
theorem UJ {t:aJ} (hf:t.fresh=true):kD t=false:=by unfold kD;rw [hf];simp
theorem AB {t:aJ} (hh:t.halt=true):kD t=false:=by unfold kD;rw [hh];simp
theorem Pg.run_halt:∀(P:Pg) (t:aJ) (r:RWD),t.halt=true->∃ o,P.run t r=(t.out o,r)
 | .ret f,t,r,_=>⟨_,rfl⟩
 | .acc kd a x y eff k,t,r,hh=>by
  show ∃ o,(k (aX kd a x y t r).1).run (aX kd a x y t r).2.1 (BX eff (aX kd a x y t r).2.1 (aX kd a x y t r).2.2)=_
  rw [AJ hh]
  simp only
  have e:BX eff t r=r:=by unfold BX;rw [AB hh];rfl
  rw [e]
  exact Pg.run_halt (k 0) t r hh
theorem Pg.run_told:∀(gs:List Nat) (P:Pg) (t:aJ) (r:RWD),t.halt=false->t.fresh=true->t.at_<=t.got.length->t.got.drop t.at_=gs->P.deep gs->P.run t r=(P.res gs).run { t with at_:=t.got.length } r
 | [],P,t,r,hh,hf,hle,hd,_=>by
  have e:t.at_=t.got.length:=by
   have:=congrArg List.length hd
   rw [List.length_drop] at this
   simp at this
   omega
  rw [Pg.res_nil,<-e]
 | g::gs,.ret f,t,r,hh,hf,hle,hd,hdp=>hdp.elim
 | g::gs,.acc kd a x y eff k,t,r,hh,hf,hle,hd,hdp=>by
  have hlt:t.at_<t.got.length:=by
   have:=congrArg List.length hd
   rw [List.length_drop] at this
   simp at this
   omega
  have hg:t.got.getD t.at_ 0=g:=by
   have h1:=List.drop_eq_getElem_cons hlt
   rw [hd] at h1
   rw [List.getD_eq_getElem?_getD,List.getElem?_eq_getElem hlt]
   exact(List.cons.inj h1).1.symm
  have hd2:t.got.drop (t.at_+1)=gs:=by
   have h1:=List.drop_eq_getElem_cons hlt
   rw [hd] at h1
   exact(List.cons.inj h1).2.symm
  show(k (aX kd a x y t r).1).run (aX kd a x y t r).2.1 (BX eff (aX kd a x y t r).2.1 (aX kd a x y t r).2.2)=_
  rw [DK hh hlt,hg]
  simp only
  have e:BX eff { t with at_:=t.at_+1 } r=r:=by unfold BX;rw [UJ (t:={ t with at_:=t.at_+1 }) hf];rfl
  rw [e]
  exact Pg.run_told gs (k g) { t with at_:=t.at_+1 } r hh hf hlt hd2 hdp
def jV (t:aJ) (v:Nat) (now:Nat):aJ:={ t with got:=t.got++[v],ticks:=t.ticks++[(now:Int)],at_:=t.at_+1,fresh:=false }
theorem Pg.step {P:Pg} {h:dW} {p:Nat} {r:RWD} {kd a:Int} {x y:Nat} {eff:RWD->RWD} {k:Nat->Pg} (hdp:P.deep h.got) (hres:P.res h.got=.acc kd a x y eff k) :
  ∃ t1,t1=jV { h.tape p with at_:=h.got.length } (bA r.mem kd a x y).2 r.now/\
   (∀ f,k (bA r.mem kd a x y).2=.ret f->P.run (h.tape p) r=(t1.out (f t1 (eff { r with mem:=(bA r.mem kd a x y).1 })),eff { r with mem:=(bA r.mem kd a x y).1 }))/\
   (∀ kd' a' x' y' eff' k',k (bA r.mem kd a x y).2=.acc kd' a' x' y' eff' k'->∃ o,P.run (h.tape p) r=(({ t1 with halt:=true }:aJ).out o,eff { r with mem:=(bA r.mem kd a x y).1 })):=by
 obtain⟨t0,ht0⟩:∃ t0:aJ,t0={ h.tape p with at_:=h.got.length }:=⟨_,rfl⟩
 have e1:P.run (h.tape p) r=(Pg.acc kd a x y eff k).run t0 r:=by
  rw [Pg.run_told h.got P (h.tape p) r rfl rfl (Nat.zero_le _) rfl hdp,hres,ht0];rfl
 have h0:t0.halt=false/\t0.fresh=true/\t0.at_=h.got.length/\t0.got=h.got:=by rw [ht0];exact⟨rfl,rfl,rfl,rfl⟩
 obtain⟨t1,ht1⟩:∃ t1,t1=jV t0 (bA r.mem kd a x y).2 r.now:=⟨_,rfl⟩
 obtain⟨r2,hr2⟩:∃ r2:RWD,r2=eff { r with mem:=(bA r.mem kd a x y).1 }:=⟨_,rfl⟩
 have e2:(Pg.acc kd a x y eff k).run t0 r=(k (bA r.mem kd a x y).2).run t1 r2:=by
  show(k (aX kd a x y t0 r).1).run (aX kd a x y t0 r).2.1 (BX eff (aX kd a x y t0 r).2.1 (aX kd a x y t0 r).2.2)=_
  rw [xW h0.1 (by rw [h0.2.2.1,h0.2.2.2];exact Nat.lt_irrefl _) h0.2.1]
  simp only
  have hj:kD t1=true:=by
   rw [ht1];unfold kD jV
   simp only [h0.1,h0.2.2.1,h0.2.2.2,List.length_append,List.length_singleton]
   simp
  have e:BX eff t1 { r with mem:=(bA r.mem kd a x y).1 }=r2:=by unfold BX;rw [hj,hr2];rfl
  have e3:({ t0 with got:=t0.got++[(bA r.mem kd a x y).2],ticks:=t0.ticks++[(r.now:Int)],at_:=t0.at_+1,fresh:=false }:aJ)=t1:=by rw [ht1];rfl
  rw [e3,e]
 refine⟨t1,by rw [ht1,ht0],λf hf=>?_,λkd' a' x' y' eff' k' hk=>?_⟩
 ·rw [e1,e2,hf,<-hr2];rfl
 ·have t1h:t1.halt=false:=by rw [ht1];exact h0.1
  have t1f:t1.fresh=false:=by rw [ht1];rfl
  have t1a:¬ t1.at_<t1.got.length:=by rw [ht1];show ¬ t0.at_+1<(t0.got++[_]).length;rw [h0.2.2.1,h0.2.2.2,List.length_append];exact Nat.lt_irrefl _
  have e4:(Pg.acc kd' a' x' y' eff' k').run t1 r2=(k' 0).run { t1 with halt:=true } r2:=by
   show(k' (aX kd' a' x' y' t1 r2).1).run (aX kd' a' x' y' t1 r2).2.1 (BX eff' (aX kd' a' x' y' t1 r2).2.1 (aX kd' a' x' y' t1 r2).2.2)=_
   rw [CJ t1h t1a t1f]
   simp only
   have e:BX eff' { t1 with halt:=true } r2=r2:=by unfold BX;rw [AB rfl];rfl
   rw [e]
  obtain⟨o,ho⟩:=Pg.run_halt (k' 0) { t1 with halt:=true } r2 rfl
  exact⟨o,by rw [e1,e2,hk,e4,ho,<-hr2]⟩
def Ox (eff:RWD->RWD):Prop:=∀ r,(eff r).mem=r.mem/\(eff r).now=r.now/\(eff r).marks.length=r.marks.length/\(eff r).traces.length=r.traces.length
def Pg.effs:Pg->Prop
 | .ret _=>True
 | .acc _ _ _ _ eff k=>Ox eff/\∀ v,(k v).effs
theorem lG.eff {t t':aJ} {r r':RWD} (h:lG t r t' r') {eff:RWD->RWD} (he:Ox eff) (u:aJ):lG t r t' (BX eff u r'):=by
 unfold BX
 split
 ·obtain⟨h1,h2,_⟩:=he r'
  exact⟨by rw [h1];exact h.ws,h2.trans h.now,by rw [h1];exact h.all,h.got,h.thread,h.inv⟩
 ·exact h
theorem Pg.runs:∀(P:Pg) (t:aJ) (r:RWD),P.effs->lG t r (P.run t r).1 (P.run t r).2
 | .ret f,t,r,_=>⟨rfl,rfl,Nat.le_refl _,Nat.le_refl _,rfl,rfl⟩
 | .acc kd a x y eff k,t,r,h=>((lG.acc kd a x y t r).eff h.1 _).trans (Pg.runs (k _) _ _ (h.2 _))
theorem Pg.ticks:∀(P:Pg) (t:aJ) (r:RWD),P.effs->∀ z,z∈(P.run t r).1.ticks->z∈t.ticks∨z=(r.now:Int)
 | .ret f,t,r,_,z,hz=>.inl hz
 | .acc kd a x y eff k,t,r,h,z,hz=>by
  have hn:=((lG.acc kd a x y t r).eff h.1 (aX kd a x y t r).2.1).now
  rcases Pg.ticks (k _) _ _ (h.2 _) z hz with h9|h9
  ·exact NB _ _ _ _ _ _ _ h9
  ·right;rw [h9,hn]
end
section
open Go.RowKit
theorem Pg.sim {S:Sys} {M:vO S} {n p:Nat} {c:aD} {h:dW} {o:S.ω} {r r2:RWD} {σ:S.σ} {wd:WD} {P:Pg} {kd a:Int} {x y v:Nat} {eff:RWD->RWD} {k:Nat->Pg} (hdp:P.deep h.got) (hres:P.res h.got=.acc kd a x y eff k) (hv:(bA r.mem kd a x y).2=v) (hr2:r2=eff { r with mem:=(bA r.mem kd a x y).1 })
  {o':S.ω} {wd':WD} {σ':S.σ} {b:Bool} (hst:S.step o wd p σ=(o',wd',σ',b)) (hrw:iJ n r2 wd') (hinv:wd'.inv=wd.inv) (hmk:wd'.marks.length=wd.marks.length)
  (hfin:b=true->∃ f,k v=.ret f/\∀ t1,t1=jV { h.tape p with at_:=h.got.length } v r.now->(⟨(f t1 r2).err,(f t1 r2).val,(f t1 r2).list⟩:TN)=(S.answer σ').1/\yQ r2 p (f t1 r2).key=keyOf wd' p (S.answer σ').2/\M.Own o' p (f t1 r2).priv)
  (hgo:b=false->(∃ kd' a' x' y' eff' k',k v=.acc kd' a' x' y' eff' k')/\(P.deep (h.got++[v])->P.res (h.got++[v])=k v->M.Rel o' r2 p c { h with got:=h.got++[v],ticks:=h.ticks++[(r.now:Int)] } σ')/\M.Own o' p h.own) :
  DW M n p c h o r σ wd (P.run (h.tape p) r):=by
 obtain⟨t1,ht1,hret,hacc⟩:=Pg.step (P:=P) (h:=h) (p:=p) (r:=r) hdp hres
 rw [hv] at ht1 hret hacc
 rw [<-hr2] at hret hacc
 obtain⟨hs1,hs2⟩:=Pg.res_snoc h.got P v hres hdp
 have ht1f:t1.got=h.got++[v]/\t1.ticks=h.ticks++[(r.now:Int)]/\t1.halt=false:=by rw [ht1];exact⟨rfl,rfl,rfl⟩
 cases b with
 | true=>
  obtain⟨f,hf,ha⟩:=hfin rfl
  obtain⟨a1,a2,a3⟩:=ha t1 ht1
  rw [hret f hf]
  exact⟨by rw [hst];exact hrw,by rw [hst];exact hinv,by rw [hst];exact hmk,by rw [hst];exact ht1f.2.2,λ_=>⟨by rw [hst];exact a1,by rw [hst];exact a2,by rw [hst];exact a3⟩,λe=>by
   have e':t1.halt=true:=e
   rw [ht1f.2.2] at e';cases e'⟩
 | false=>
  obtain⟨⟨kd',a',x',y',eff',k',hk⟩,hrel,hown⟩:=hgo rfl
  obtain⟨ou,hr⟩:=hacc kd' a' x' y' eff' k' hk
  rw [hr]
  refine⟨by rw [hst];exact hrw,by rw [hst];exact hinv,by rw [hst];exact hmk,by rw [hst];rfl,(λe=>by cases e),λ_=>⟨?_,by rw [hst];exact hown⟩⟩
  rw [hst]
  show M.Rel o' r2 p c { h with got:=t1.got,ticks:=t1.ticks } σ'
  rw [ht1f.1,ht1f.2.1]
  exact hrel hs2 hs1
def Pg.short (N:Nat):Pg->Prop
 | .ret f=>∀ t r,t.priv.length<=N->(f t r).priv.length<=N
 | .acc _ _ _ _ _ k=>∀ g,(k g).short N
theorem Pg.run_short {N:Nat}:∀(P:Pg) (t:aJ) (r:RWD),P.short N->t.priv.length<=N->(P.run t r).1.priv.length<=N
 | .ret f,t,r,h,hp=>h t r hp
 | .acc kd a x y eff k,t,r,h,hp=>Pg.run_short (k _) _ _ (h _) (by rw [PX];exact hp)
theorem QK {n p:Nat} {r:RWD} {wd:WD} (h:iJ n r wd) (hp:p<n) (k:List Int):yQ r p k=keyOf wd p k:=by
 unfold yQ keyOf jW
 rw [h.marks p hp,h.now]
end
section
open Go.RowKit
inductive Pq where
 | ret (f:aJ->RWD->Ei)
 | acc (kd a:Int) (x y:Nat) (eff:aJ->RWD->RWD) (k:Nat->Pq)
def vV (eff:aJ->RWD->RWD) (t:aJ) (r:RWD):RWD:=if kD t=true then eff t r else r
def Pq.run:Pq->aJ->RWD->aJ×RWD
 | .ret f,t,r=>(t.out (f t r),r)
 | .acc kd a x y eff k,t,r=>(k (aX kd a x y t r).1).run (aX kd a x y t r).2.1 (vV eff (aX kd a x y t r).2.1 (aX kd a x y t r).2.2)
def Pq.res:Pq->List Nat->Pq
 | P,[]=>P
 | .acc _ _ _ _ _ k,g::gs=>(k g).res gs
 | .ret f,_::_=>.ret f
def Pq.deep:Pq->List Nat->Prop
 | _,[]=>True
 | .acc _ _ _ _ _ k,g::gs=>(k g).deep gs
 | .ret _,_::_=>False
theorem Pq.res_nil (P:Pq):P.res []=P:=by cases P<;>rfl
theorem Pq.deep_nil (P:Pq):P.deep []:=by cases P<;>trivial
theorem Pq.res_snoc:∀(gs:List Nat) (P:Pq) (g:Nat) {kd a:Int} {x y:Nat} {eff:aJ->RWD->RWD} {k:Nat->Pq},P.res gs=.acc kd a x y eff k->P.deep gs->P.res (gs++[g])=k g/\P.deep (gs++[g])
 | [],P,g,kd,a,x,y,eff,k,h,_=>by
  rw [Pq.res_nil] at h
  subst h
  exact⟨Pq.res_nil _,Pq.deep_nil _⟩
 | g0::gs,P,g,kd,a,x,y,eff,k,h,hd=>by
  cases P with
  | ret f=>exact hd.elim
  | acc kd' a' x' y' eff' k'=>exact Pq.res_snoc gs (k' g0) g h hd
theorem Pq.run_halt:∀(P:Pq) (t:aJ) (r:RWD),t.halt=true->∃ o,P.run t r=(t.out o,r)
 | .ret f,t,r,_=>⟨_,rfl⟩
 | .acc kd a x y eff k,t,r,hh=>by
  show ∃ o,(k (aX kd a x y t r).1).run (aX kd a x y t r).2.1 (vV eff (aX kd a x y t r).2.1 (aX kd a x y t r).2.2)=_
  rw [AJ hh]
  simp only
  have e:vV eff t r=r:=by unfold vV;rw [AB hh];rfl
  rw [e]
  exact Pq.run_halt (k 0) t r hh
theorem Pq.run_told:∀(gs:List Nat) (P:Pq) (t:aJ) (r:RWD),t.halt=false->t.fresh=true->t.at_<=t.got.length->t.got.drop t.at_=gs->P.deep gs->P.run t r=(P.res gs).run { t with at_:=t.got.length } r
 | [],P,t,r,hh,hf,hle,hd,_=>by
  have e:t.at_=t.got.length:=by
   have:=congrArg List.length hd
   rw [List.length_drop] at this
   simp at this
   omega
  rw [Pq.res_nil,<-e]
 | g::gs,.ret f,t,r,hh,hf,hle,hd,hdp=>hdp.elim
 | g::gs,.acc kd a x y eff k,t,r,hh,hf,hle,hd,hdp=>by
  have hlt:t.at_<t.got.length:=by
   have:=congrArg List.length hd
   rw [List.length_drop] at this
   simp at this
   omega
  have hg:t.got.getD t.at_ 0=g:=by
   have h1:=List.drop_eq_getElem_cons hlt
   rw [hd] at h1
   rw [List.getD_eq_getElem?_getD,List.getElem?_eq_getElem hlt]
   exact(List.cons.inj h1).1.symm
  have hd2:t.got.drop (t.at_+1)=gs:=by
   have h1:=List.drop_eq_getElem_cons hlt
   rw [hd] at h1
   exact(List.cons.inj h1).2.symm
  show(k (aX kd a x y t r).1).run (aX kd a x y t r).2.1 (vV eff (aX kd a x y t r).2.1 (aX kd a x y t r).2.2)=_
  rw [DK hh hlt,hg]
  simp only
  have e:vV eff { t with at_:=t.at_+1 } r=r:=by unfold vV;rw [UJ (t:={ t with at_:=t.at_+1 }) hf];rfl
  rw [e]
  exact Pq.run_told gs (k g) { t with at_:=t.at_+1 } r hh hf hlt hd2 hdp
theorem Pq.step {P:Pq} {h:dW} {p:Nat} {r:RWD} {kd a:Int} {x y:Nat} {eff:aJ->RWD->RWD} {k:Nat->Pq} (hdp:P.deep h.got) (hres:P.res h.got=.acc kd a x y eff k) :
  ∃ t1,t1=jV { h.tape p with at_:=h.got.length } (bA r.mem kd a x y).2 r.now/\
   (∀ f,k (bA r.mem kd a x y).2=.ret f->P.run (h.tape p) r=(t1.out (f t1 (eff t1 { r with mem:=(bA r.mem kd a x y).1 })),eff t1 { r with mem:=(bA r.mem kd a x y).1 }))/\
   (∀ kd' a' x' y' eff' k',k (bA r.mem kd a x y).2=.acc kd' a' x' y' eff' k'->∃ o,P.run (h.tape p) r=(({ t1 with halt:=true }:aJ).out o,eff t1 { r with mem:=(bA r.mem kd a x y).1 })):=by
 obtain⟨t0,ht0⟩:∃ t0:aJ,t0={ h.tape p with at_:=h.got.length }:=⟨_,rfl⟩
 have e1:P.run (h.tape p) r=(Pq.acc kd a x y eff k).run t0 r:=by
  rw [Pq.run_told h.got P (h.tape p) r rfl rfl (Nat.zero_le _) rfl hdp,hres,ht0];rfl
 have h0:t0.halt=false/\t0.fresh=true/\t0.at_=h.got.length/\t0.got=h.got:=by rw [ht0];exact⟨rfl,rfl,rfl,rfl⟩
 obtain⟨t1,ht1⟩:∃ t1,t1=jV t0 (bA r.mem kd a x y).2 r.now:=⟨_,rfl⟩
 obtain⟨r2,hr2⟩:∃ r2:RWD,r2=eff t1 { r with mem:=(bA r.mem kd a x y).1 }:=⟨_,rfl⟩
 have e2:(Pq.acc kd a x y eff k).run t0 r=(k (bA r.mem kd a x y).2).run t1 r2:=by
  show(k (aX kd a x y t0 r).1).run (aX kd a x y t0 r).2.1 (vV eff (aX kd a x y t0 r).2.1 (aX kd a x y t0 r).2.2)=_
  rw [xW h0.1 (by rw [h0.2.2.1,h0.2.2.2];exact Nat.lt_irrefl _) h0.2.1]
  simp only
  have hj:kD t1=true:=by
   rw [ht1];unfold kD jV
   simp only [h0.1,h0.2.2.1,h0.2.2.2,List.length_append,List.length_singleton]
   simp
  have e:vV eff t1 { r with mem:=(bA r.mem kd a x y).1 }=r2:=by unfold vV;rw [hj,hr2];rfl
  have e3:({ t0 with got:=t0.got++[(bA r.mem kd a x y).2],ticks:=t0.ticks++[(r.now:Int)],at_:=t0.at_+1,fresh:=false }:aJ)=t1:=by rw [ht1];rfl
  rw [e3,e]
 refine⟨t1,by rw [ht1,ht0],λf hf=>?_,λkd' a' x' y' eff' k' hk=>?_⟩
 ·rw [e1,e2,hf,<-hr2];rfl
 ·have t1h:t1.halt=false:=by rw [ht1];exact h0.1
  have t1f:t1.fresh=false:=by rw [ht1];rfl
  have t1a:¬ t1.at_<t1.got.length:=by rw [ht1];show ¬ t0.at_+1<(t0.got++[_]).length;rw [h0.2.2.1,h0.2.2.2,List.length_append];exact Nat.lt_irrefl _
  have e4:(Pq.acc kd' a' x' y' eff' k').run t1 r2=(k' 0).run { t1 with halt:=true } r2:=by
   show(k' (aX kd' a' x' y' t1 r2).1).run (aX kd' a' x' y' t1 r2).2.1 (vV eff' (aX kd' a' x' y' t1 r2).2.1 (aX kd' a' x' y' t1 r2).2.2)=_
   rw [CJ t1h t1a t1f]
   simp only
   have e:vV eff' { t1 with halt:=true } r2=r2:=by unfold vV;rw [AB rfl];rfl
   rw [e]
  obtain⟨o,ho⟩:=Pq.run_halt (k' 0) { t1 with halt:=true } r2 rfl
  exact⟨o,by rw [e1,e2,hk,e4,ho,<-hr2]⟩
def TQ (eff:aJ->RWD->RWD):Prop:=∀ t r,(eff t r).mem=r.mem/\(eff t r).now=r.now/\(eff t r).marks.length=r.marks.length/\(eff t r).traces.length=r.traces.length
def Pq.effs:Pq->Prop
 | .ret _=>True
 | .acc _ _ _ _ eff k=>TQ eff/\∀ v,(k v).effs
theorem lG.effq {t t':aJ} {r r':RWD} (h:lG t r t' r') {eff:aJ->RWD->RWD} (he:TQ eff) (u:aJ):lG t r t' (vV eff u r'):=by
 unfold vV
 split
 ·obtain⟨h1,h2,_⟩:=he u r'
  exact⟨by rw [h1];exact h.ws,h2.trans h.now,by rw [h1];exact h.all,h.got,h.thread,h.inv⟩
 ·exact h
theorem Pq.runs:∀(P:Pq) (t:aJ) (r:RWD),P.effs->lG t r (P.run t r).1 (P.run t r).2
 | .ret f,t,r,_=>⟨rfl,rfl,Nat.le_refl _,Nat.le_refl _,rfl,rfl⟩
 | .acc kd a x y eff k,t,r,h=>((lG.acc kd a x y t r).effq h.1 _).trans (Pq.runs (k _) _ _ (h.2 _))
theorem Pq.ticks:∀(P:Pq) (t:aJ) (r:RWD),P.effs->∀ z,z∈(P.run t r).1.ticks->z∈t.ticks∨z=(r.now:Int)
 | .ret f,t,r,_,z,hz=>.inl hz
 | .acc kd a x y eff k,t,r,h,z,hz=>by
  have hn:=((lG.acc kd a x y t r).effq h.1 (aX kd a x y t r).2.1).now
  rcases Pq.ticks (k _) _ _ (h.2 _) z hz with h9|h9
  ·exact NB _ _ _ _ _ _ _ h9
  ·right;rw [h9,hn]
theorem Pq.sim {S:Sys} {M:vO S} {n p:Nat} {c:aD} {h:dW} {o:S.ω} {r r2:RWD} {σ:S.σ} {wd:WD} {P:Pq} {kd a:Int} {x y v:Nat} {eff:aJ->RWD->RWD} {k:Nat->Pq} (hdp:P.deep h.got) (hres:P.res h.got=.acc kd a x y eff k) (hv:(bA r.mem kd a x y).2=v) (hr2:r2=eff (jV { h.tape p with at_:=h.got.length } v r.now) { r with mem:=(bA r.mem kd a x y).1 })
  {o':S.ω} {wd':WD} {σ':S.σ} {b:Bool} (hst:S.step o wd p σ=(o',wd',σ',b)) (hrw:iJ n r2 wd') (hinv:wd'.inv=wd.inv) (hmk:wd'.marks.length=wd.marks.length)
  (hfin:b=true->∃ f,k v=.ret f/\∀ t1,t1=jV { h.tape p with at_:=h.got.length } v r.now->(⟨(f t1 r2).err,(f t1 r2).val,(f t1 r2).list⟩:TN)=(S.answer σ').1/\yQ r2 p (f t1 r2).key=keyOf wd' p (S.answer σ').2/\M.Own o' p (f t1 r2).priv)
  (hgo:b=false->(∃ kd' a' x' y' eff' k',k v=.acc kd' a' x' y' eff' k')/\(P.deep (h.got++[v])->P.res (h.got++[v])=k v->M.Rel o' r2 p c { h with got:=h.got++[v],ticks:=h.ticks++[(r.now:Int)] } σ')/\M.Own o' p h.own) :
  DW M n p c h o r σ wd (P.run (h.tape p) r):=by
 obtain⟨t1,ht1,hret,hacc⟩:=Pq.step (P:=P) (h:=h) (p:=p) (r:=r) hdp hres
 rw [hv] at ht1
 rw [hv] at hret hacc
 rw [ht1,<-hr2,<-ht1] at hret hacc
 obtain⟨hs1,hs2⟩:=Pq.res_snoc h.got P v hres hdp
 have ht1f:t1.got=h.got++[v]/\t1.ticks=h.ticks++[(r.now:Int)]/\t1.halt=false:=by rw [ht1];exact⟨rfl,rfl,rfl⟩
 cases b with
 | true=>
  obtain⟨f,hf,ha⟩:=hfin rfl
  obtain⟨a1,a2,a3⟩:=ha t1 ht1
  rw [hret f hf]
  exact⟨by rw [hst];exact hrw,by rw [hst];exact hinv,by rw [hst];exact hmk,by rw [hst];exact ht1f.2.2,λ_=>⟨by rw [hst];exact a1,by rw [hst];exact a2,by rw [hst];exact a3⟩,λe=>by
   have e':t1.halt=true:=e
   rw [ht1f.2.2] at e';cases e'⟩
 | false=>
  obtain⟨⟨kd',a',x',y',eff',k',hk⟩,hrel,hown⟩:=hgo rfl
  obtain⟨ou,hr⟩:=hacc kd' a' x' y' eff' k' hk
  rw [hr]
  refine⟨by rw [hst];exact hrw,by rw [hst];exact hinv,by rw [hst];exact hmk,by rw [hst];rfl,(λe=>by cases e),λ_=>⟨?_,by rw [hst];exact hown⟩⟩
  rw [hst]
  show M.Rel o' r2 p c { h with got:=t1.got,ticks:=t1.ticks } σ'
  rw [ht1f.1,ht1f.2.1]
  exact hrel hs2 hs1
def Pq.short (N:Nat):Pq->Prop
 | .ret f=>∀ t r,t.priv.length<=N->(f t r).priv.length<=N
 | .acc _ _ _ _ _ k=>∀ g,(k g).short N
theorem Pq.run_short {N:Nat}:∀(P:Pq) (t:aJ) (r:RWD),P.short N->t.priv.length<=N->(P.run t r).1.priv.length<=N
 | .ret f,t,r,h,hp=>h t r hp
 | .acc kd a x y eff k,t,r,h,hp=>Pq.run_short (k _) _ _ (h _) (by rw [PX];exact hp)
end
section
open Go.RowKit
def kY (_:aJ) (r:RWD):RWD:=r
def wI (c:Nat):Int:=IntKind.i64.wrap (c:Int)
def Cu (a j:Nat):Int:=IntKind.i64.wrap (IntKind.i64.wrap (wI a+1)+(j:Int))
def vB:Nat->Nat->List Nat->(List Nat->Pq)->Pq
 | 0,_,l,k=>k l
 | m+1,j,l,k=>.acc 0 (j:Int) 0 0 kY λg=>vB m (j+1) (l++[g]) k
def iY:List Nat->List Nat->(List Nat->Pq)->Pq
 | [],o,k=>k o
 | c::cs,o,k=>if c=0 then iY cs (o++[0]) k else .acc 0 (wI c) 0 0 kY λg=>iY cs (o++[g]) k
def CQ (a:Nat):Nat->Nat->List Nat->(List Nat->Pq)->Pq
 | 0,_,o,k=>k o
 | m+1,j,o,k=>.acc 0 (Cu a j) 0 0 kY λg=>CQ a m (j+1) (o++[g]) k
def AX {δ:Type} (cmp:δ->List Nat->List Nat->Bool×Nat×δ) (m:Nat) (k:List Nat->Int->Pq):Nat->Nat->List Nat->δ->Pq
 | 0,_,_,_=>.ret λt _=>t.outs
 | f+1,i,old,d=>vB m 0 [] λnow=>
   if (cmp d old now).1=true then iY now [] λo=>k o (i:Int)
   else if (cmp d old now).2.1≠0 then CQ (cmp d old now).2.1 m 0 [] λo=>k o (-((cmp d old now).2.1:Int) - 1)
   else AX cmp m k f (i+m) now (cmp d old now).2.2
def kR {δ:Type} (cmp:δ->List Nat->List Nat->Bool×Nat×δ) (m F:Nat) (d0:δ) (k:List Nat->Int->Pq):Pq:=vB m 0 [] λold=>AX cmp m k F m old d0
def EK (c:Int) (t:aJ) (r:RWD):Int:=if c<0 then (gN (wI (-(c+1)).toNat) r).headD 0 else t.ticks.getD (c.toNat - 1) 0
theorem xB:TQ kY:=λ_ _=>⟨rfl,rfl,rfl,rfl⟩
theorem CV (t:aJ) (r:RWD):vV kY t r=r:=by unfold vV kY;split<;>rfl
section
variable {k:List Nat->Pq}
theorem BJ (h:∀ l,(k l).effs):∀ m j l,(vB m j l k).effs
 | 0,_,l=>h l
 | m+1,j,l=>⟨xB,λg=>BJ h m _ _⟩
theorem BM (h:∀ l,(k l).effs):∀ c o,(iY c o k).effs
 | [],o=>h o
 | c::cs,o=>by
  unfold iY
  split
  ·exact BM h cs _
  ·exact⟨xB,λg=>BM h cs _⟩
theorem PP (h:∀ l,(k l).effs) (a:Nat):∀ m j o,(CQ a m j o k).effs
 | 0,_,o=>h o
 | m+1,j,o=>⟨xB,λg=>PP h a m _ _⟩
theorem zK {N:Nat} (h:∀ l,(k l).short N):∀ m j l,(vB m j l k).short N
 | 0,_,l=>h l
 | m+1,j,l=>λg=>zK h m _ _
theorem yN {N:Nat} (h:∀ l,(k l).short N):∀ c o,(iY c o k).short N
 | [],o=>h o
 | c::cs,o=>by
  unfold iY
  split
  ·exact yN h cs _
  ·exact λg=>yN h cs _
theorem MU {N:Nat} (h:∀ l,(k l).short N) (a:Nat):∀ m j o,(CQ a m j o k).short N
 | 0,_,o=>h o
 | m+1,j,o=>λg=>MU h a m _ _
end
theorem OP {δ:Type} {cmp:δ->List Nat->List Nat->Bool×Nat×δ} {m:Nat} {k:List Nat->Int->Pq} (h:∀ l c,(k l c).effs):∀ f i old d,(AX cmp m k f i old d).effs
 | 0,_,_,_=>trivial
 | f+1,i,old,d=>BJ (λnow=>by
  show Pq.effs (if _ then _ else _)
  split
  ·exact BM (λl=>h l _) _ _
  ·split
   ·exact PP (λl=>h l _) _ _ _ _
   ·exact OP h f _ _ _) _ _ _
theorem IP {δ:Type} {cmp:δ->List Nat->List Nat->Bool×Nat×δ} {m F:Nat} {d0:δ} {k:List Nat->Int->Pq} (h:∀ l c,(k l c).effs):(kR cmp m F d0 k).effs:=BJ (λ_=>OP h _ _ _ _) _ _ _
theorem GH {δ:Type} {N:Nat} {cmp:δ->List Nat->List Nat->Bool×Nat×δ} {m:Nat} {k:List Nat->Int->Pq} (h:∀ l c,(k l c).short N):∀ f i old d,(AX cmp m k f i old d).short N
 | 0,_,_,_=>λ_ _ h=>h
 | f+1,i,old,d=>zK (λnow=>by
  show Pq.short N (if _ then _ else _)
  split
  ·exact yN (λl=>h l _) _ _
  ·split
   ·exact MU (λl=>h l _) _ _ _ _
   ·exact GH h f _ _ _) _ _ _
theorem BZ {δ:Type} {N:Nat} {cmp:δ->List Nat->List Nat->Bool×Nat×δ} {m F:Nat} {d0:δ} {k:List Nat->Int->Pq} (h:∀ l c,(k l c).short N):(kR cmp m F d0 k).short N:=zK (λ_=>GH h _ _ _ _) _ _ _
def fB:Nat->Nat->List Nat->aJ->RWD->List Nat×aJ×RWD
 | 0,_,l,t,r=>(l,t,r)
 | m+1,j,l,t,r=>fB m (j+1) (l++[(aX 0 (j:Int) 0 0 t r).1]) (aX 0 (j:Int) 0 0 t r).2.1 (aX 0 (j:Int) 0 0 t r).2.2
theorem FJ (k:List Nat->Pq):∀ m j l t r,(vB m j l k).run t r=(k (fB m j l t r).1).run (fB m j l t r).2.1 (fB m j l t r).2.2
 | 0,_,_,_,_=>rfl
 | m+1,j,l,t,r=>by
  show(vB m (j+1) _ k).run _ (vV kY _ _)=_
  rw [CV]
  exact FJ k m _ _ _ _
def iC (t:aJ):Nat:=if t.halt=true then 0 else (t.got.length - t.at_)+(if t.fresh=true then 1 else 0)+1
theorem ZX (kd a:Int) (x y:Nat) (t:aJ) (r:RWD) (hle:t.at_<=t.got.length):iC (aX kd a x y t r).2.1<=iC t/\((aX kd a x y t r).2.1.halt=false->iC (aX kd a x y t r).2.1+1<=iC t/\t.halt=false)/\(aX kd a x y t r).2.1.at_<=(aX kd a x y t r).2.1.got.length:=by
 unfold aX
 by_cases h1:t.halt=true
 ·rw [if_pos h1]
  exact⟨Nat.le_refl _,(λe=>by rw [show t.halt=false from e] at h1;cases h1),hle⟩
 ·rw [if_neg h1]
  have h1':t.halt=false:=by simpa using h1
  by_cases h2:t.at_<t.got.length
  ·rw [if_pos h2]
   unfold iC
   rw [if_neg (by exact h1),if_neg h1]
   refine⟨?_,λ_=>⟨?_,h1'⟩,h2⟩
   ·show t.got.length - (t.at_+1)+(if t.fresh=true then 1 else 0)+1<=t.got.length - t.at_+(if t.fresh=true then 1 else 0)+1
    omega
   ·show t.got.length - (t.at_+1)+(if t.fresh=true then 1 else 0)+1+1<=t.got.length - t.at_+(if t.fresh=true then 1 else 0)+1
    omega
  ·rw [if_neg h2]
   by_cases h3:t.fresh=true
   ·rw [if_pos h3]
    unfold iC
    rw [if_neg (by exact h1),if_neg h1,if_pos h3]
    have e:(t.got++[(bA r.mem kd a x y).2]).length=t.got.length+1:=by simp
    refine⟨?_,λ_=>⟨?_,h1'⟩,?_⟩
    ·show(t.got++[_]).length - (t.at_+1)+(if false=true then 1 else 0)+1<=_
     rw [e,if_neg (by decide)];omega
    ·show(t.got++[_]).length - (t.at_+1)+(if false=true then 1 else 0)+1+1<=_
     rw [e,if_neg (by decide)];omega
    ·show t.at_+1<=(t.got++[_]).length
     rw [e];omega
   ·rw [if_neg h3]
    refine⟨?_,(λe=>by cases e),hle⟩
    unfold iC
    rw [if_pos rfl];exact Nat.zero_le _
end
end Go.Proofs.YtfkokppncipgnaaGreat
