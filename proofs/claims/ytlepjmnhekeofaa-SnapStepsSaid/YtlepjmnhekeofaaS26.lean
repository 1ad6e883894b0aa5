/- Layer 6: what every play keeps, whatever the object: no two operations turn at one tick; nobody has marks if nobody makes one. -/
import Derived.Test.YtlepjmnhekeofaaS24
import Derived.Test.YtlepjmnhekeofaaS25
set_option maxRecDepth 100000
set_option linter.unusedVariables false
set_option linter.unusedSimpArgs false
set_option linter.unnecessarySimpa false
namespace Go.Proofs.Ytlepjmnhekeofaa
section
open Go.RowKit
variable {S:Sys} {calls:List CallD}
def TickApart (st:PlayD S):Prop:=∀ i j,i<st.evs.length->j<st.evs.length->i≠j->(evAt st.evs i).resp≠0->(evAt st.evs i).resp≠(evAt st.evs j).inv
theorem Next.tickApart {st:PlayD S} {q k:Nat} {evs':List EvD} {e1:EvD} (hg:StGood calls st) (hT:TickApart st) (h:Next calls st q evs' k e1) (hr:e1.resp=0∨e1.resp=st.wd.now+1) (hi:st.evs.length<=k->e1.inv=st.wd.now+1) (hi2:k<st.evs.length->e1.inv=(evAt st.evs k).inv) :
  ∀ i j,i<evs'.length->j<evs'.length->i≠j->(evAt evs' i).resp≠0->(evAt evs' i).resp≠(evAt evs' j).inv:=by
 intro i j hil hjl hij hri
 by_cases hik:i=k
 ·subst hik
  obtain⟨j1,j2⟩:=h.other j hjl (Ne.symm hij)
  have hti:=hg.ev.tick j j1
  rw [j2]
  rw [h.self] at hri ⊢
  omega
 ·obtain⟨i1,i2⟩:=h.other i hil hik
  have hti:=hg.ev.tick i i1
  rw [i2] at hri ⊢
  by_cases hjk:j=k
  ·subst hjk
   rw [h.self]
   by_cases hjn:j<st.evs.length
   ·rw [hi2 hjn]
    exact hT i j i1 hjn hij hri
   ·have:=hi (by omega);omega
  ·obtain⟨j1,j2⟩:=h.other j hjl hjk
   rw [j2]
   exact hT i j i1 j1 hij hri
theorem ev1_fields (y:S.ω×WD×S.σ×Bool) (q:Nat) (e:EvD):(ev1 S y q e).call=e.call/\(ev1 S y q e).inv=e.inv/\(ev1 S y q e).steps=e.steps+1/\(y.2.2.2=true->(ev1 S y q e).resp=y.2.1.now/\(ev1 S y q e).ans=(S.answer y.2.2.1).1/\(ev1 S y q e).key=keyOf y.2.1 q (S.answer y.2.2.1).2)/\(y.2.2.2=false->(ev1 S y q e).resp=e.resp):=by
 unfold ev1
 cases hb:y.2.2.2 with
 | true=>exact⟨rfl,rfl,rfl,λ_=>⟨rfl,rfl,rfl⟩,λh=>Bool.noConfusion h⟩
 | false=>exact⟨rfl,rfl,rfl,λh=>Bool.noConfusion h,λ_=>rfl⟩
theorem no_marks {wd:WD} (h:wd.marks=List.replicate 16 []) (p:Nat):wd.marks.getD p []=[]:=by
 rw [h,List.getD_eq_getElem?_getD,List.getElem?_replicate]
 split<;>rfl
theorem keyOf_none {wd:WD} (h:wd.marks=List.replicate 16 []) (p:Nat) (k:List Int):keyOf wd p k=if k=[] then tickKey wd else k:=by
 unfold keyOf
 rw [no_marks h p,if_pos rfl]
theorem From.invs {st:PlayD S} {q i k:Nat} {s:S.σ} {evs0:List EvD} {wd0:WD} (h:From calls st q i k s evs0 wd0):(st.evs.length<=k->(evAt evs0 k).inv=st.wd.now+1)/\(k<st.evs.length->(evAt evs0 k).inv=(evAt st.evs k).inv):=by
 cases h with
 | old k s hh hk hc hr=>exact⟨λh=>by omega,λ_=>rfl⟩
 | new s hh hs=>exact⟨λ_=>by rw [evAt_last];rfl,λh=>absurd h (Nat.lt_irrefl _)⟩
theorem From.mark0 {st:PlayD S} {q i k:Nat} {s:S.σ} {evs0:List EvD} {wd0:WD} (h:From calls st q i k s evs0 wd0) (hm:st.wd.marks=List.replicate 16 []):wd0.marks=List.replicate 16 []:=by
 cases h with
 | old k s hh hk hc hr=>exact hm
 | new s hh hs=>exact begin_marks hm
theorem turn_apart (hnow:∀ o wd p s,(S.step o wd p s).2.1.now=wd.now) {st st':PlayD S} (hg:StGood calls st) (hT:TickApart st) (ht:Turn calls st st'):TickApart st':=by
 cases ht with
 | idle=>exact hT
 | refuse q i er hq hN hh hs=>
  exact(refuse_next hg hN (finishEv (st.wd.tick.begin q) q ⟨er,0,[]⟩ [] (newEv i (st.wd.tick.begin q))) rfl).tickApart hg hT (.inr rfl) (λ_=>rfl) (λh=>absurd h (Nat.lt_irrefl _))
 | step q i k s evs0 wd0 hq hN hf=>
  obtain⟨f1,f2,f3,f4,f5⟩:=ev1_fields (S.step st.obj wd0 q s) q (evAt evs0 k)
  have hn:=hnow st.obj wd0 q s
  have hn0:=hf.now
  refine(hf.next hg hN (ev1 S (S.step st.obj wd0 q s) q (evAt evs0 k)) f1).tickApart hg hT ?_ (λh=>f2.trans (hf.invs.1 h)) (λh=>f2.trans (hf.invs.2 h))
  cases hb:(S.step st.obj wd0 q s).2.2.2 with
  | true=>right;rw [(f4 hb).1];omega
  | false=>left;rw [f5 hb];exact hf.open_
end
section

/- Layer 14: what every play of a register keeps: what was written last ahead of a tick. -/
open Go.RowKit
variable {n k:Nat} {calls:List CallD}
def piW (calls:List CallD) (e:EvD):Prop:=objOf calls e=0/\kindOf calls e=0/\e.ans.err=0/\e.resp≠0
def PiAtT (k:Nat) (calls:List CallD) (evs:List EvD) (T:Nat) (f:Nat->Nat):Prop:=
 ((∀ j,j<evs.length->piW calls (evAt evs j)->T<=(evAt evs j).resp)/\∀ a,a<k->f a=0)∨
 ∃ j,j<evs.length/\piW calls (evAt evs j)/\(evAt evs j).resp<T/\(∀ i,i<evs.length->piW calls (evAt evs i)->(evAt evs i).resp<T->(evAt evs i).resp<=(evAt evs j).resp)/\∀ a,a<k->f a=((calls.getD (evAt evs j).call d0).a+a) % 18446744073709551616
theorem PiAtT.congr {evs:List EvD} {T:Nat} {f g:Nat->Nat} (h:PiAtT k calls evs T f) (e:∀ a,a<k->g a=f a):PiAtT k calls evs T g:=by
 rcases h with⟨h1,h2⟩|⟨j,h1,h2,h3,h4,h5⟩
 ·exact .inl ⟨h1,λa ha=>(e a ha).trans (h2 a ha)⟩
 ·exact .inr ⟨j,h1,h2,h3,h4,λa ha=>(e a ha).trans (h5 a ha)⟩
section
variable {st:PlayD (pinS n k)} {q j:Nat} {evs':List EvD} {e1:EvD}
theorem PiAtT.move {T T':Nat} {f:Nat->Nat} (h:PiAtT k calls st.evs T f) (hx:Next calls st q evs' j e1) (h1:∀ i,i<st.evs.length->piW calls (evAt st.evs i)->((evAt st.evs i).resp<T↔(evAt st.evs i).resp<T')) (hw:piW calls e1->T'<=e1.resp):PiAtT k calls evs' T' f:=by
 have old:∀ i,i<evs'.length->piW calls (evAt evs' i)->(evAt evs' i).resp<T'->i<st.evs.length/\evAt evs' i=evAt st.evs i:=λi hi hp hlt=>by
  by_cases hij:i=j
  ·subst hij
   rw [hx.self] at hp hlt
   have:=hw hp;omega
  ·exact hx.other i hi hij
 rcases h with⟨a1,a2⟩|⟨i,b1,b2,b3,b4,b5⟩
 ·refine .inl ⟨λi hi hp=>Nat.le_of_not_lt λhlt=>?_,a2⟩
  obtain⟨i1,i2⟩:=old i hi hp hlt
  rw [i2] at hp hlt
  have:=a1 i i1 hp
  have:=(h1 i i1 hp).2 hlt
  omega
 ·have hij:i≠j:=λe=>b2.2.2.2 (hx.old (by omega) ▸ (by rw [e]))
  have e:evAt evs' i=evAt st.evs i:=(hx.other i (Nat.lt_of_lt_of_le b1 hx.size) hij).2
  refine .inr ⟨i,Nat.lt_of_lt_of_le b1 hx.size,by rw [e];exact b2,by rw [e];exact(h1 i b1 b2).1 b3,λi' hi' hp hlt=>?_,λa ha=>by rw [e];exact b5 a ha⟩
  obtain⟨i1,i2⟩:=old i' hi' hp hlt
  rw [i2] at hp hlt ⊢
  rw [e]
  exact b4 i' i1 hp ((h1 i' i1 hp).2 hlt)
theorem PiAtT.keep {T:Nat} {f:Nat->Nat} (h:PiAtT k calls st.evs T f) (hx:Next calls st q evs' j e1) (hr:e1.resp=0∨e1.resp=st.wd.now+1) (hT:T<=st.wd.now+1):PiAtT k calls evs' T f:=
 h.move hx (λ_ _ _=>Iff.rfl) (λhp=>by rcases hr with h0|h0;exact absurd h0 hp.2.2.2;omega)
theorem PiAtT.up {f:Nat->Nat} (hg:StGood calls st) (h:PiAtT k calls st.evs (st.wd.now+1) f) (hx:Next calls st q evs' j e1) (hw:¬ piW calls e1):PiAtT k calls evs' (st.wd.now+2) f:=
 h.move hx (λi hi _=>by have:=(hg.ev.tick i hi).2.2.2;omega) (λhp=>absurd hp hw)
theorem PiAtT.new {f:Nat->Nat} (hg:StGood calls st) (hx:Next calls st q evs' j e1) (hw:piW calls e1) (hr:e1.resp=st.wd.now+1) (hf:∀ a,a<k->f a=((calls.getD e1.call d0).a+a) % 18446744073709551616):PiAtT k calls evs' (st.wd.now+2) f:=by
 refine .inr ⟨j,hx.lt,by rw [hx.self];exact hw,by rw [hx.self];omega,λi hi hp hlt=>?_,λa ha=>by rw [hx.self];exact hf a ha⟩
 rw [hx.self,hr];omega
end
structure PiTold (k:Nat) (calls:List CallD) (evs:List EvD) (e:EvD):Prop where
 rd:objOf calls e=0->kindOf calls e=1->PiAtT k calls evs e.inv (λa=>e.ans.list.getD a 0)/\e.ans.err=0/\e.ans.val=0/\e.key=[2*(e.inv:Int)]
 el:¬ (objOf calls e=0/\kindOf calls e=1)->e.key=[2*(e.resp:Int)]/\e.ans=(if objOf calls e≠0 then ⟨12,0,[]⟩ else if kindOf calls e≠0 then ⟨9,0,[]⟩ else if tn calls e≠0 then ⟨11,0,[]⟩ else ⟨0,0,[]⟩)
structure PiHist (n k:Nat) (calls:List CallD) (st:PlayD (pinS n k)):Prop where
 marks:st.wd.marks=List.replicate 16 []
 cf:st.wd.mem.c.fault=0
 ca:st.wd.mem.c.all<=st.wd.now
 cell:PiAtT k calls st.evs (st.wd.now+1) (λa=>st.wd.mem.ws.getD (piWord n k st.obj.now a) 0)
 hand:∀ p q j l key i,st.hands.getD p (none,0)=(some (.rd q j l key),i)->1<=j->PiAtT k calls st.evs (evAt st.evs i).inv (λa=>st.wd.mem.ws.getD (piWord n k q a) 0)/\key=[2*((evAt st.evs i).inv:Int)]
 told:∀ j,j<st.evs.length->(evAt st.evs j).resp≠0->PiTold k calls st.evs (evAt st.evs j)
theorem PiTold.keep {st:PlayD (pinS n k)} {q j:Nat} {evs':List EvD} {e1 e:EvD} (h:PiTold k calls st.evs e) (hx:Next calls st q evs' j e1) (hr:e1.resp=0∨e1.resp=st.wd.now+1) (hT:e.inv<=st.wd.now+1):PiTold k calls evs' e:=
 ⟨λh0 h1=>⟨(h.rd h0 h1).1.keep hx hr hT,(h.rd h0 h1).2⟩,h.el⟩
end
section

/- Layers 15 and 16: what was updated last, part by part, ahead of a tick: in plain numbers, whatever the object. -/
open Go.RowKit
variable {S:Sys} {calls:List CallD}
def RespApart (evs:List EvD):Prop:=∀ i j,i<evs.length->j<evs.length->(evAt evs i).resp≠0->(evAt evs i).resp=(evAt evs j).resp->i=j
theorem Next.respApart {st:PlayD S} {q k:Nat} {evs':List EvD} {e1:EvD} (hg:StGood calls st) (hR:RespApart st.evs) (h:Next calls st q evs' k e1) (hr:e1.resp=0∨e1.resp=st.wd.now+1):RespApart evs':=by
 intro i j hi hj h0 h1
 by_cases hik:i=k
 ·by_cases hjk:j=k
  ·rw [hik,hjk]
  ·exfalso
   subst hik
   obtain⟨j1,j2⟩:=h.other j hj hjk
   have:=(hg.ev.tick j j1).2.2.2
   rw [j2,h.self] at h1
   rw [h.self] at h0
   omega
 ·obtain⟨i1,i2⟩:=h.other i hi hik
  have hti:=(hg.ev.tick i i1).2.2.2
  by_cases hjk:j=k
  ·exfalso
   subst hjk
   rw [i2,h.self] at h1
   rw [i2] at h0
   omega
  ·obtain⟨j1,j2⟩:=h.other j hj hjk
   rw [i2,j2] at h1
   rw [i2] at h0
   exact hR i j i1 j1 h0 h1
def LastAt (calls:List CallD) (prt:CallD->Nat) (evs:List EvD) (i T:Nat):Option Nat->Prop
 | none=>∀ j,j<evs.length->piW calls (evAt evs j)->prt (calls.getD (evAt evs j).call d0)=i->T<(evAt evs j).resp
 | some j=>j<evs.length/\piW calls (evAt evs j)/\prt (calls.getD (evAt evs j).call d0)=i/\(evAt evs j).resp<=T/\∀ j',j'<evs.length->piW calls (evAt evs j')->prt (calls.getD (evAt evs j').call d0)=i->(evAt evs j').resp<=T->(evAt evs j').resp<=(evAt evs j).resp
def recOf (rho:Nat->Nat):Option Nat->Nat
 | none=>0
 | some j=>rho j
def valOf (calls:List CallD) (val:CallD->Nat) (evs:List EvD):Option Nat->Nat
 | none=>0
 | some j=>val (calls.getD (evAt evs j).call d0)
def CellAt (calls:List CallD) (prt:CallD->Nat) (rho:Nat->Nat) (evs:List EvD) (i T c:Nat):Prop:=∃ oj,LastAt calls prt evs i T oj/\c=recOf rho oj
def ValAt (calls:List CallD) (prt val:CallD->Nat) (evs:List EvD) (i T v:Nat):Prop:=∃ oj,LastAt calls prt evs i T oj/\v=valOf calls val evs oj
variable {prt val:CallD->Nat} {rho:Nat->Nat} {evs:List EvD}
theorem LastAt.unique (hR:RespApart evs) {i T:Nat} {o1 o2:Option Nat} (h1:LastAt calls prt evs i T o1) (h2:LastAt calls prt evs i T o2):o1=o2:=by
 match o1,o2,h1,h2 with
 | none,none,_,_=>rfl
 | none,some j,h1,⟨a,b,c,d,_⟩=>have:=h1 j a b c;omega
 | some j,none,⟨a,b,c,d,_⟩,h2=>have:=h2 j a b c;omega
 | some j,some j',⟨a,b,c,d,e⟩,⟨a',b',c',d',e'⟩=>
  have h3:=e j' a' b' c' d'
  have h4:=e' j a b c d
  exact congrArg some (hR j j' a a' b.2.2.2 (by omega))
theorem LastAt.down {i T T':Nat} {o:Option Nat} (h:LastAt calls prt evs i T' o) (hT:T<=T') (ho:∀ j,o=some j->(evAt evs j).resp<=T):LastAt calls prt evs i T o:=by
 match o,h with
 | none,h=>exact λj a b c=>by have:=h j a b c;omega
 | some j,⟨a,b,c,d,e⟩=>exact⟨a,b,c,ho j rfl,λj' p0 p1 p2 p3=>e j' p0 p1 p2 (by omega)⟩
theorem LastAt.resp_le {i T j:Nat} (h:LastAt calls prt evs i T (some j)):(evAt evs j).resp<=T:=h.2.2.2.1
theorem CellAt.between {i T T' c m:Nat} (hinj:∀ x y,x<evs.length->y<evs.length->piW calls (evAt evs x)->piW calls (evAt evs y)->rho x=rho y->x=y) (hpos:∀ x,x<evs.length->piW calls (evAt evs x)->0<rho x)
  (h1:CellAt calls prt rho evs i T c) (h2:CellAt calls prt rho evs i T' c) (hm:T<=m) (hm':m<=T'):∃ oj,LastAt calls prt evs i m oj/\c=recOf rho oj:=by
 obtain⟨o1,a1,a2⟩:=h1
 obtain⟨o2,b1,b2⟩:=h2
 have e:o1=o2:=by
  match o1,o2,a1,b1 with
  | none,none,_,_=>rfl
  | none,some j,_,⟨b,d,_⟩=>have:=hpos j b d;simp only [recOf] at a2 b2;omega
  | some j,none,⟨a,d,_⟩,_=>have:=hpos j a d;simp only [recOf] at a2 b2;omega
  | some j,some j',⟨a,d,_⟩,⟨b,f,_⟩=>exact congrArg some (hinj j j' a b d f (by simp only [recOf] at a2 b2;omega))
 subst e
 refine⟨o1,b1.down hm' (λj e=>?_),a2⟩
 subst e
 have:=a1.resp_le;omega
theorem CellAt.differ (hR:RespApart evs) {i T T' c c':Nat} (hT:T<=T') (h1:CellAt calls prt rho evs i T c) (h2:CellAt calls prt rho evs i T' c') (hne:c≠c'):∃ j,LastAt calls prt evs i T' (some j)/\c'=rho j/\T<(evAt evs j).resp:=by
 obtain⟨o1,a1,a2⟩:=h1
 obtain⟨o2,b1,b2⟩:=h2
 by_cases hx:∀ j,o2=some j->(evAt evs j).resp<=T
 ·have:=(b1.down hT hx).unique hR a1
  subst this
  exact absurd (a2.trans b2.symm) hne
 ·match o2,b1,b2,hx with
  | none,_,_,hx=>exact absurd (λj e=>by cases e) hx
  | some j,b1,b2,hx=>exact⟨j,b1,b2,Nat.lt_of_not_le λh9=>hx λj' e=>by cases e;exact h9⟩
section
variable {st:PlayD S} {q j:Nat} {evs':List EvD} {e1:EvD}
theorem LastAt.move {i T T':Nat} {o:Option Nat} (h:LastAt calls prt st.evs i T o) (hx:Next calls st q evs' j e1) (h1:∀ i,i<st.evs.length->piW calls (evAt st.evs i)->((evAt st.evs i).resp<=T↔(evAt st.evs i).resp<=T')) (hw:piW calls e1->prt (calls.getD e1.call d0)=i->T'<e1.resp):LastAt calls prt evs' i T' o:=by
 have old:∀ x,x<evs'.length->piW calls (evAt evs' x)->prt (calls.getD (evAt evs' x).call d0)=i->(evAt evs' x).resp<=T'->x<st.evs.length/\evAt evs' x=evAt st.evs x:=λx hx' hp hq hle=>by
  by_cases hxj:x=j
  ·subst hxj
   rw [hx.self] at hp hq hle
   have:=hw hp hq;omega
  ·exact hx.other x hx' hxj
 match o,h with
 | none,h=>
  intro x hx' hp hq
  refine Nat.lt_of_not_le λhle=>?_
  obtain⟨a,b⟩:=old x hx' hp hq hle
  rw [b] at hp hq hle
  have:=h x a hp hq
  have:=(h1 x a hp).2 hle
  omega
 | some y,⟨a,b,c,d,e⟩=>
  have hyj:y≠j:=λe'=>b.2.2.2 (hx.old (by omega) ▸ (by rw [e']))
  have ey:evAt evs' y=evAt st.evs y:=(hx.other y (Nat.lt_of_lt_of_le a hx.size) hyj).2
  refine⟨Nat.lt_of_lt_of_le a hx.size,by rw [ey];exact b,by rw [ey];exact c,by rw [ey];exact(h1 y a b).1 d,λx hx' hp hq hle=>?_⟩
  obtain⟨a',b'⟩:=old x hx' hp hq hle
  rw [b'] at hp hq hle ⊢
  rw [ey]
  exact e x a' hp hq ((h1 x a' hp).2 hle)
theorem LastAt.keep {i T:Nat} {o:Option Nat} (h:LastAt calls prt st.evs i T o) (hx:Next calls st q evs' j e1) (hr:e1.resp=0∨e1.resp=st.wd.now+1) (hT:T<=st.wd.now):LastAt calls prt evs' i T o:=
 h.move hx (λ_ _ _=>Iff.rfl) (λhp _=>by rcases hr with h0|h0;exact absurd h0 hp.2.2.2;omega)
theorem LastAt.up {i:Nat} {o:Option Nat} (hg:StGood calls st) (h:LastAt calls prt st.evs i st.wd.now o) (hx:Next calls st q evs' j e1) (hw:piW calls e1->prt (calls.getD e1.call d0)≠i):LastAt calls prt evs' i (st.wd.now+1) o:=
 h.move hx (λx hx' _=>by have:=(hg.ev.tick x hx').2.2.2;omega) (λhp hq=>absurd hq (hw hp))
theorem LastAt.new {i:Nat} (hg:StGood calls st) (hx:Next calls st q evs' j e1) (hw:piW calls e1) (hp:prt (calls.getD e1.call d0)=i) (hr:e1.resp=st.wd.now+1):LastAt calls prt evs' i (st.wd.now+1) (some j):=by
 refine⟨hx.lt,by rw [hx.self];exact hw,by rw [hx.self];exact hp,by rw [hx.self];omega,λx _ _ _ hle=>?_⟩
 rw [hx.self,hr];exact hle
theorem LastAt.old {i T y:Nat} (h:LastAt calls prt st.evs i T (some y)) (hx:Next calls st q evs' j e1):evAt evs' y=evAt st.evs y:=by
 obtain⟨a,b,_⟩:=h
 have hyj:y≠j:=λe'=>b.2.2.2 (hx.old (by omega) ▸ (by rw [e']))
 exact(hx.other y (Nat.lt_of_lt_of_le a hx.size) hyj).2
end
end
end Go.Proofs.Ytlepjmnhekeofaa
