/- Layers 15 and 16: what was updated last, part by part, ahead of a tick: in plain numbers, whatever the object. -/
import Derived.Test.YtifhldnmcdbpfaaU17
import Derived.Test.YtifhldnmcdbpfaaU16
set_option maxRecDepth 100000
set_option linter.unusedVariables false
set_option linter.unusedSimpArgs false
set_option linter.unnecessarySimpa false
namespace Go.Proofs.Ytifhldnmcdbpfaa
section
open Go.RowKit
variable {S:Sys} {calls:List aF}
def lC (evs:List EvD):Prop:=∀ i j,i<evs.length->j<evs.length->(aB evs i).resp≠0->(aB evs i).resp=(aB evs j).resp->i=j
theorem Next.respApart {st:aP S} {q k:Nat} {evs':List EvD} {e1:EvD} (hg:bH calls st) (hR:lC st.evs) (h:Next calls st q evs' k e1) (hr:e1.resp=0∨e1.resp=st.wd.now+1):lC evs':=by
 intro i j hi hj h0 h1
 by_cases hik:i=k
 ·by_cases hjk:j=k
  ·rw [hik,hjk]
  ·exfalso
   subst hik
   obtain⟨j1,j2⟩:=h.other j hj hjk
   have:=(hg.ev.tick j j1).2.2.2
   rw [j2,h.self] at h1
   rw [h.self] at h0
   omega
 ·obtain⟨i1,i2⟩:=h.other i hi hik
  have hti:=(hg.ev.tick i i1).2.2.2
  by_cases hjk:j=k
  ·exfalso
   subst hjk
   rw [i2,h.self] at h1
   rw [i2] at h0
   omega
  ·obtain⟨j1,j2⟩:=h.other j hj hjk
   rw [i2,j2] at h1
   rw [i2] at h0
   exact hR i j i1 j1 h0 h1
def cK (calls:List aF) (prt:aF->Nat) (evs:List EvD) (i T:Nat):Option Nat->Prop
 | none=>∀ j,j<evs.length->piW calls (aB evs j)->prt (calls.getD (aB evs j).call d0)=i->T<(aB evs j).resp
 | some j=>j<evs.length/\piW calls (aB evs j)/\prt (calls.getD (aB evs j).call d0)=i/\(aB evs j).resp<=T/\∀ j',j'<evs.length->piW calls (aB evs j')->prt (calls.getD (aB evs j').call d0)=i->(aB evs j').resp<=T->(aB evs j').resp<=(aB evs j).resp
def wN (rho:Nat->Nat):Option Nat->Nat
 | none=>0
 | some j=>rho j
def valOf (calls:List aF) (val:aF->Nat) (evs:List EvD):Option Nat->Nat
 | none=>0
 | some j=>val (calls.getD (aB evs j).call d0)
def fI (calls:List aF) (prt:aF->Nat) (rho:Nat->Nat) (evs:List EvD) (i T c:Nat):Prop:=∃ oj,cK calls prt evs i T oj/\c=wN rho oj
def ValAt (calls:List aF) (prt val:aF->Nat) (evs:List EvD) (i T v:Nat):Prop:=∃ oj,cK calls prt evs i T oj/\v=valOf calls val evs oj
variable {prt val:aF->Nat} {rho:Nat->Nat} {evs:List EvD}
theorem cK.unique (hR:lC evs) {i T:Nat} {o1 o2:Option Nat} (h1:cK calls prt evs i T o1) (h2:cK calls prt evs i T o2):o1=o2:=by
 match o1,o2,h1,h2 with
 | none,none,_,_=>rfl
 | none,some j,h1,⟨a,b,c,d,_⟩=>have:=h1 j a b c;omega
 | some j,none,⟨a,b,c,d,_⟩,h2=>have:=h2 j a b c;omega
 | some j,some j',⟨a,b,c,d,e⟩,⟨a',b',c',d',e'⟩=>
  have h3:=e j' a' b' c' d'
  have h4:=e' j a b c d
  exact congrArg some (hR j j' a a' b.2.2.2 (by omega))
theorem cK.down {i T T':Nat} {o:Option Nat} (h:cK calls prt evs i T' o) (hT:T<=T') (ho:∀ j,o=some j->(aB evs j).resp<=T):cK calls prt evs i T o:=by
 match o,h with
 | none,h=>exact λj a b c=>by have:=h j a b c;omega
 | some j,⟨a,b,c,d,e⟩=>exact⟨a,b,c,ho j rfl,λj' p0 p1 p2 p3=>e j' p0 p1 p2 (by omega)⟩
theorem cK.resp_le {i T j:Nat} (h:cK calls prt evs i T (some j)):(aB evs j).resp<=T:=h.2.2.2.1
theorem fI.between {i T T' c m:Nat} (hinj:∀ x y,x<evs.length->y<evs.length->piW calls (aB evs x)->piW calls (aB evs y)->rho x=rho y->x=y) (hpos:∀ x,x<evs.length->piW calls (aB evs x)->0<rho x)
  (h1:fI calls prt rho evs i T c) (h2:fI calls prt rho evs i T' c) (hm:T<=m) (hm':m<=T'):∃ oj,cK calls prt evs i m oj/\c=wN rho oj:=by
 obtain⟨o1,a1,a2⟩:=h1
 obtain⟨o2,b1,b2⟩:=h2
 have e:o1=o2:=by
  match o1,o2,a1,b1 with
  | none,none,_,_=>rfl
  | none,some j,_,⟨b,d,_⟩=>have:=hpos j b d;simp only [wN] at a2 b2;omega
  | some j,none,⟨a,d,_⟩,_=>have:=hpos j a d;simp only [wN] at a2 b2;omega
  | some j,some j',⟨a,d,_⟩,⟨b,f,_⟩=>exact congrArg some (hinj j j' a b d f (by simp only [wN] at a2 b2;omega))
 subst e
 refine⟨o1,b1.down hm' (λj e=>?_),a2⟩
 subst e
 have:=a1.resp_le;omega
theorem fI.differ (hR:lC evs) {i T T' c c':Nat} (hT:T<=T') (h1:fI calls prt rho evs i T c) (h2:fI calls prt rho evs i T' c') (hne:c≠c'):∃ j,cK calls prt evs i T' (some j)/\c'=rho j/\T<(aB evs j).resp:=by
 obtain⟨o1,a1,a2⟩:=h1
 obtain⟨o2,b1,b2⟩:=h2
 by_cases hx:∀ j,o2=some j->(aB evs j).resp<=T
 ·have:=(b1.down hT hx).unique hR a1
  subst this
  exact absurd (a2.trans b2.symm) hne
 ·match o2,b1,b2,hx with
  | none,_,_,hx=>exact absurd (λj e=>by cases e) hx
  | some j,b1,b2,hx=>exact⟨j,b1,b2,Nat.lt_of_not_le λh9=>hx λj' e=>by cases e;exact h9⟩
section
variable {st:aP S} {q j:Nat} {evs':List EvD} {e1:EvD}
theorem cK.move {i T T':Nat} {o:Option Nat} (h:cK calls prt st.evs i T o) (hx:Next calls st q evs' j e1) (h1:∀ i,i<st.evs.length->piW calls (aB st.evs i)->((aB st.evs i).resp<=T↔(aB st.evs i).resp<=T')) (hw:piW calls e1->prt (calls.getD e1.call d0)=i->T'<e1.resp):cK calls prt evs' i T' o:=by
 have old:∀ x,x<evs'.length->piW calls (aB evs' x)->prt (calls.getD (aB evs' x).call d0)=i->(aB evs' x).resp<=T'->x<st.evs.length/\aB evs' x=aB st.evs x:=λx hx' hp hq hle=>by
  by_cases hxj:x=j
  ·subst hxj
   rw [hx.self] at hp hq hle
   have:=hw hp hq;omega
  ·exact hx.other x hx' hxj
 match o,h with
 | none,h=>
  intro x hx' hp hq
  refine Nat.lt_of_not_le λhle=>?_
  obtain⟨a,b⟩:=old x hx' hp hq hle
  rw [b] at hp hq hle
  have:=h x a hp hq
  have:=(h1 x a hp).2 hle
  omega
 | some y,⟨a,b,c,d,e⟩=>
  have hyj:y≠j:=λe'=>b.2.2.2 (hx.old (by omega) ▸ (by rw [e']))
  have ey:aB evs' y=aB st.evs y:=(hx.other y (Nat.lt_of_lt_of_le a hx.size) hyj).2
  refine⟨Nat.lt_of_lt_of_le a hx.size,by rw [ey];exact b,by rw [ey];exact c,by rw [ey];exact(h1 y a b).1 d,λx hx' hp hq hle=>?_⟩
  obtain⟨a',b'⟩:=old x hx' hp hq hle
  rw [b'] at hp hq hle ⊢
  rw [ey]
  exact e x a' hp hq ((h1 x a' hp).2 hle)
theorem cK.keep {i T:Nat} {o:Option Nat} (h:cK calls prt st.evs i T o) (hx:Next calls st q evs' j e1) (hr:e1.resp=0∨e1.resp=st.wd.now+1) (hT:T<=st.wd.now):cK calls prt evs' i T o:=
 h.move hx (λ_ _ _=>Iff.rfl) (λhp _=>by rcases hr with h0|h0;exact absurd h0 hp.2.2.2;omega)
theorem cK.up {i:Nat} {o:Option Nat} (hg:bH calls st) (h:cK calls prt st.evs i st.wd.now o) (hx:Next calls st q evs' j e1) (hw:piW calls e1->prt (calls.getD e1.call d0)≠i):cK calls prt evs' i (st.wd.now+1) o:=
 h.move hx (λx hx' _=>by have:=(hg.ev.tick x hx').2.2.2;omega) (λhp hq=>absurd hq (hw hp))
theorem cK.new {i:Nat} (hg:bH calls st) (hx:Next calls st q evs' j e1) (hw:piW calls e1) (hp:prt (calls.getD e1.call d0)=i) (hr:e1.resp=st.wd.now+1):cK calls prt evs' i (st.wd.now+1) (some j):=by
 refine⟨hx.lt,by rw [hx.self];exact hw,by rw [hx.self];exact hp,by rw [hx.self];omega,λx _ _ _ hle=>?_⟩
 rw [hx.self,hr];exact hle
theorem cK.old {i T y:Nat} (h:cK calls prt st.evs i T (some y)) (hx:Next calls st q evs' j e1):aB evs' y=aB st.evs y:=by
 obtain⟨a,b,_⟩:=h
 have hyj:y≠j:=λe'=>b.2.2.2 (hx.old (by omega) ▸ (by rw [e']))
 exact(hx.other y (Nat.lt_of_lt_of_le a hx.size) hyj).2
end
end
section
open Go.RowKit
variable {calls:List aF} {prt val:aF->Nat} {rho:Nat->Nat} {evs:List EvD}
def vF (d:List Bool):Nat:=d.countP (λb=>b)
theorem yZ {d:List Bool} {t:Nat} (ht:t<d.length) (h:d.getD t false=false):vF (d.set t true)=vF d+1:=by
 have e:d[t]=false:=by
  have:=h
  rw [List.getD_eq_getElem?_getD,List.getElem?_eq_getElem ht] at this;exact this
 unfold vF
 rw [List.countP_set ht,e]
 simp
theorem OA {d:List Bool} {n:Nat} (h:∀ i,n<=i->d.getD i false=false):vF d<=n:=by
 have e:=List.take_append_drop n d
 have hd:(d.drop n).countP (λb=>b)=0:=by
  rw [List.countP_eq_zero]
  intro x hx
  obtain⟨i,hi,rfl⟩:=List.getElem_of_mem hx
  have h1:=h (n+i) (by omega)
  rw [List.length_drop] at hi
  rw [List.getD_eq_getElem?_getD,List.getElem?_eq_getElem (by omega)] at h1
  rw [List.getElem_drop]
  simpa using h1
 have ht:(d.take n).countP (λb=>b)<=n:=Nat.le_trans List.countP_le_length (by rw [List.length_take];omega)
 have:=List.countP_append (p:=λb:Bool=>b) (l₁:=d.take n) (l₂:=d.drop n)
 rw [e] at this
 unfold vF
 omega
theorem DY {d:List Bool} {n p:Nat} (hp:p<n) (hl:n<=d.length) (h:∀ i,n<=i->d.getD i false=false) (h0:d.getD p false=false):vF d+1<=n:=by
 rw [<-yZ (t:=p) (by omega) h0]
 refine OA λi hi=>?_
 rw [aO (by omega)];exact h i hi
structure XA (old now:List Nat) (t n:Nat) (d d':List Bool):Prop where
 len:d'.length=d.length
 out:∀ i,¬ (t<=i/\i<n)->d'.getD i false=d.getD i false
 same:∀ i,t<=i->i<n->old.getD i 0=now.getD i 0->d'.getD i false=d.getD i false
 mono:vF d<=vF d'
structure ScC (n:Nat) (calls:List aF) (prt:aF->Nat) (rho:Nat->Nat) (evs:List EvD) (T I N:Nat) (s:ScD):Prop where
 at_:s.at_<n
 nil:s.list=[]
 steps:N=s.rounds*n+s.at_
 few:s.rounds<=vF s.diff+1
 cur:∀ i,i<s.at_->∃ a,I<=a/\a<=T/\(1<=s.rounds->s.last<=a)/\fI calls prt rho evs i a (s.now.getD i 0)
 last:1<=s.rounds->I<=s.last/\s.last<=T
 prev:1<=s.rounds->∀ i,i<n->∃ a,I<=a/\a<=s.last/\fI calls prt rho evs i a (s.old.getD i 0)/\(s.diff.getD i false=true->∃ jj,cK calls prt evs i a (some jj)/\I<=(aB evs jj).resp)
 first:s.rounds=0->∀ i,s.diff.getD i false=false
structure ScV (n:Nat) (calls:List aF) (prt val:aF->Nat) (rho:Nat->Nat) (evs:List EvD) (T I N:Nat) (s:ScD):Prop where
 at_:s.at_<n
 pos:s.now.getD s.at_ 0≠0
 len:s.list.length=s.at_
 steps:N<=(n+1)*n+s.at_
 mom:∃ m:Nat,s.moment=(m:Int)/\I<=m/\m<=T/\(∀ i,i<n->∃ oj,cK calls prt evs i m oj/\s.now.getD i 0=wN rho oj)/\∀ i,i<s.at_->ValAt calls prt val evs i m (s.list.getD i 0)
structure ScB (n:Nat) (calls:List aF) (prt val:aF->Nat) (rho:Nat->Nat) (evs:List EvD) (traces:Int->List Int) (T I N:Nat) (s:ScD):Prop where
 at_:s.at_<n
 len:s.list.length=s.at_
 steps:N<=(n+1)*n+s.at_
 ref:∃ jj,jj<evs.length/\piW calls (aB evs jj)/\s.from_=rho jj
 tr:traces (s.from_:Int)=[s.moment]
 mom:∃ m:Nat,s.moment=(m:Int)/\I<=m/\m<=T/\∀ i,i<s.at_->ValAt calls prt val evs i m (s.list.getD i 0)
structure ScO (n:Nat) (calls:List aF) (prt val:aF->Nat) (evs:List EvD) (T I N:Nat) (s:ScD):Prop where
 len:s.list.length=n
 steps:N<=(n+1)*n+n
 mom:∃ m:Nat,s.moment=(m:Int)/\I<=m/\m<=T/\∀ i,i<n->ValAt calls prt val evs i m (s.list.getD i 0)
structure yO (n:Nat) (calls:List aF) (prt val:aF->Nat) (rho:Nat->Nat) (evs:List EvD) (traces:Int->List Int) (T p I N:Nat) (s:ScD):Prop where
 l1:s.old.length=16
 l2:s.now.length=16
 l3:s.diff.length=16
 z:∀ i,n<=i->s.old.getD i 0=0/\s.now.getD i 0=0
 it:I<=T
 own:s.diff.getD p false=false
 dn:∀ i,n<=i->s.diff.getD i false=false
 body:(s.pc=0/\ScC n calls prt rho evs T I N s)∨(s.pc=1/\ScV n calls prt val rho evs T I N s)∨(s.pc=2/\ScB n calls prt val rho evs traces T I N s)∨(s.pc=3/\ScO n calls prt val evs T I N s)
structure mE (n:Nat) (calls:List aF) (prt val:aF->Nat) (rho:Nat->Nat) (evs:List EvD) (ws:List Nat) (traces:Int->List Int) (T:Nat):Prop where
 cell:∀ i,i<n->fI calls prt rho evs i T (ws.getD i 0)
 nw:n<=ws.length
 pos:∀ x,x<evs.length->piW calls (aB evs x)->0<rho x/\rho x+n<ws.length
 inj:∀ x y,x<evs.length->y<evs.length->piW calls (aB evs x)->piW calls (aB evs y)->rho x=rho y->x=y
 value:∀ x,x<evs.length->piW calls (aB evs x)->ws.getD (rho x) 0=val (calls.getD (aB evs x).call d0)
 view:∀ x,x<evs.length->piW calls (aB evs x)->∃ m:Nat,traces (rho x:Int)=[(m:Int)]/\(aB evs x).inv<=m/\m<=(aB evs x).resp/\∀ i,i<n->ValAt calls prt val evs i m (ws.getD (rho x+1+i) 0)
 seq:∀ x y,x<evs.length->y<evs.length->piW calls (aB evs x)->piW calls (aB evs y)->tn calls (aB evs x)=tn calls (aB evs y)->(aB evs x).resp<(aB evs y).resp->(aB evs x).resp<(aB evs y).inv
 apart:lC evs
theorem gB {l m:List Nat} {i:Nat} (h:i<l.length):(l++m).getD i 0=l.getD i 0:=by
 rw [List.getD_eq_getElem?_getD,List.getD_eq_getElem?_getD,List.getElem?_append_left h]
theorem qI {l:List Nat} {x:Nat}:(l++[x]).getD l.length 0=x:=by
 rw [List.getD_eq_getElem?_getD,List.getElem?_append_right (Nat.le_refl _),Nat.sub_self];rfl
theorem CG {l:List Nat} {m i:Nat} (h:l.length<=i):(l++List.replicate m 0).getD i 0=0:=by
 rw [List.getD_eq_getElem?_getD,List.getElem?_append_right h,List.getElem?_replicate]
 split<;>rfl
end
section
open Go.RowKit
variable {calls:List aF} {prt val:aF->Nat} {rho:Nat->Nat} {evs:List EvD}
end
section
open Go.RowKit
variable {n k:Nat} {calls:List aF}
theorem xZ {wd:WD} {a:Nat} (h:a<wd.mem.ws.length):(dM wd a).mem.c.fault=wd.mem.c.fault/\(dM wd a).mem.c.all=wd.mem.c.all+1:=by
 have ho:eT wd.mem (a:Int)=false:=by unfold eT;simp;omega
 unfold dM dI
 rw [if_neg (by rw [ho];simp)]
 refine⟨rfl,?_⟩
 unfold dG.all
 simp only
 omega
theorem wI {wd:WD} {a v:Nat} (h:a<wd.mem.ws.length):(dK wd a v).mem.c.fault=wd.mem.c.fault/\(dK wd a v).mem.c.all=wd.mem.c.all+1:=by
 have ho:eT wd.mem (a:Int)=false:=by unfold eT;simp;omega
 unfold dK iP
 simp only
 rw [if_neg (by rw [ho];simp)]
 refine⟨rfl,?_⟩
 unfold dG.all
 simp only
 omega
theorem eH {e:EvD} (h:e.resp=0):¬ piW calls e:=λhp=>hp.2.2.2 h
end
section
open Go.RowKit
section
variable {S:Sys} {calls:List aF} {prt val:aF->Nat} {rho rho':Nat->Nat} {st:aP S} {q j:Nat} {evs':List EvD} {e1:EvD}
theorem fI.keep {i T c:Nat} (h:fI calls prt rho st.evs i T c) (hx:Next calls st q evs' j e1) (hr:e1.resp=0∨e1.resp=st.wd.now+1) (hT:T<=st.wd.now) (hrho:∀ x,x<st.evs.length->piW calls (aB st.evs x)->rho' x=rho x):fI calls prt rho' evs' i T c:=by
 obtain⟨oj,h1,h2⟩:=h
 refine⟨oj,h1.keep hx hr hT,h2.trans ?_⟩
 match oj,h1 with
 | none,_=>rfl
 | some y,h1=>exact(hrho y h1.1 h1.2.1).symm
theorem ValAt.keep {i T v:Nat} (h:ValAt calls prt val st.evs i T v) (hx:Next calls st q evs' j e1) (hr:e1.resp=0∨e1.resp=st.wd.now+1) (hT:T<=st.wd.now):ValAt calls prt val evs' i T v:=by
 obtain⟨oj,h1,h2⟩:=h
 refine⟨oj,h1.keep hx hr hT,h2.trans ?_⟩
 match oj,h1 with
 | none,_=>rfl
 | some y,h1=>
  show val (calls.getD (aB st.evs y).call d0)=val (calls.getD (aB evs' y).call d0)
  rw [h1.old hx]
theorem Next.piw {x:Nat} (hx:Next calls st q evs' j e1) (hx1:x<st.evs.length) (hw:piW calls (aB st.evs x)):x<evs'.length/\x≠j/\aB evs' x=aB st.evs x:=by
 have hxj:x≠j:=λe=>hw.2.2.2 (hx.old (by omega) ▸ (by rw [e]))
 exact⟨Nat.lt_of_lt_of_le hx1 hx.size,hxj,(hx.other x (Nat.lt_of_lt_of_le hx1 hx.size) hxj).2⟩
theorem yO.keep {n p I N:Nat} {s:ScD} {traces traces':Int->List Int} (h:yO n calls prt val rho st.evs traces st.wd.now p I N s) (hx:Next calls st q evs' j e1) (hr:e1.resp=0∨e1.resp=st.wd.now+1) (hrho:∀ x,x<st.evs.length->piW calls (aB st.evs x)->rho' x=rho x) (htr:∀ x,x<st.evs.length->piW calls (aB st.evs x)->traces' (rho x:Int)=traces (rho x:Int)) :
  yO n calls prt val rho' evs' traces' (st.wd.now+1) p I N s:=by
 obtain⟨h1,h2,h3,hz,hit,hown,hdn,hb⟩:=h
 refine⟨h1,h2,h3,hz,by omega,hown,hdn,?_⟩
 rcases hb with⟨hpc,c⟩|⟨hpc,c⟩|⟨hpc,c⟩|⟨hpc,c⟩
 ·refine .inl ⟨hpc,⟨c.at_,c.nil,c.steps,c.few,λi hi=>?_,λhr1=>?_,λhr1 i hi=>?_,c.first⟩⟩
  ·obtain⟨a,a1,a2,a3,a4⟩:=c.cur i hi
   exact⟨a,a1,by omega,a3,a4.keep hx hr a2 hrho⟩
  ·have:=c.last hr1;omega
  ·obtain⟨a,a1,a2,a3,a4⟩:=c.prev hr1 i hi
   have:=(c.last hr1).2
   refine⟨a,a1,a2,a3.keep hx hr (by omega) hrho,λhd=>?_⟩
   obtain⟨jj,k1,k2⟩:=a4 hd
   exact⟨jj,k1.keep hx hr (by omega),by rw [k1.old hx];exact k2⟩
 ·obtain⟨m,m1,m2,m3,m4,m5⟩:=c.mom
  refine .inr (.inl ⟨hpc,⟨c.at_,c.pos,c.len,c.steps,m,m1,m2,by omega,λi hi=>?_,λi hi=>(m5 i hi).keep hx hr m3⟩⟩)
  obtain⟨oj,o1,o2⟩:=m4 i hi
  exact fI.keep (rho':=rho') ⟨oj,o1,o2⟩ hx hr m3 hrho
 ·obtain⟨m,m1,m2,m3,m5⟩:=c.mom
  obtain⟨jj,j1,j2,j3⟩:=c.ref
  obtain⟨p1,p2,p3⟩:=hx.piw j1 j2
  refine .inr (.inr (.inl ⟨hpc,⟨c.at_,c.len,c.steps,⟨jj,p1,by rw [p3];exact j2,by rw [hrho jj j1 j2];exact j3⟩,?_,m,m1,m2,by omega,λi hi=>(m5 i hi).keep hx hr m3⟩⟩))
  have:=c.tr
  rw [j3] at this ⊢
  rw [htr jj j1 j2];exact this
 ·obtain⟨m,m1,m2,m3,m5⟩:=c.mom
  exact .inr (.inr (.inr ⟨hpc,⟨c.len,c.steps,m,m1,m2,by omega,λi hi=>(m5 i hi).keep hx hr m3⟩⟩))
theorem mE.keep {n:Nat} {ws ws':List Nat} {traces traces':Int->List Int} (hg:bH calls st) (h:mE n calls prt val rho st.evs ws traces st.wd.now) (hx:Next calls st q evs' j e1) (hr:e1.resp=0∨e1.resp=st.wd.now+1) (hw:¬ piW calls e1) (hl:ws'.length=ws.length) (hc:∀ i,i<n->ws'.getD i 0=ws.getD i 0)
  (hrec:∀ x,x<st.evs.length->piW calls (aB st.evs x)->∀ a,a<=n->ws'.getD (rho x+a) 0=ws.getD (rho x+a) 0) (htr:∀ x,x<st.evs.length->piW calls (aB st.evs x)->traces' (rho x:Int)=traces (rho x:Int)):mE n calls prt val rho evs' ws' traces' (st.wd.now+1):=by
 have old:∀ x,x<evs'.length->piW calls (aB evs' x)->x<st.evs.length/\piW calls (aB st.evs x)/\aB evs' x=aB st.evs x:=λx hxl hp=>by
  have hxj:x≠j:=λe=>by subst e;rw [hx.self] at hp;exact hw hp
  obtain⟨a,b⟩:=hx.other x hxl hxj
  exact⟨a,by rw [<-b];exact hp,b⟩
 refine⟨λi hi=>?_,by rw [hl];exact h.nw,λx hxl hp=>?_,λx y hxl hyl hp hp' e=>?_,λx hxl hp=>?_,λx hxl hp=>?_,λx y hxl hyl hp hp' ht hlt=>?_,hx.respApart hg h.apart hr⟩
 ·rw [hc i hi]
  obtain⟨oj,o1,o2⟩:=h.cell i hi
  exact⟨oj,o1.up hg hx (λhp=>absurd hp hw),o2⟩
 ·obtain⟨a,b,_⟩:=old x hxl hp
  rw [hl];exact h.pos x a b
 ·obtain⟨a,b,_⟩:=old x hxl hp
  obtain⟨a',b',_⟩:=old y hyl hp'
  exact h.inj x y a a' b b' e
 ·obtain⟨a,b,c⟩:=old x hxl hp
  have:=hrec x a b 0 (Nat.zero_le _)
  rw [Nat.add_zero] at this
  rw [this,c];exact h.value x a b
 ·obtain⟨a,b,c⟩:=old x hxl hp
  obtain⟨m,v1,v2,v3,v4⟩:=h.view x a b
  refine⟨m,by rw [htr x a b];exact v1,by rw [c];exact v2,by rw [c];exact v3,λi hi=>?_⟩
  have:=hrec x a b (1+i) (by omega)
  rw [<-Nat.add_assoc] at this
  rw [this]
  exact(v4 i hi).keep hx hr (by have:=(hg.ev.tick x a).2.2.2;omega)
 ·obtain⟨a,b,c⟩:=old x hxl hp
  obtain⟨a',b',c'⟩:=old y hyl hp'
  rw [c,c'] at ht hlt ⊢
  exact h.seq x y a a' b b' ht hlt
theorem mE.new {n r t m:Nat} {ws ws':List Nat} {traces:Int->List Int} (hg:bH calls st) (h:mE n calls prt val rho st.evs ws traces st.wd.now) (hx:Next calls st q evs' j e1) (hw:piW calls e1) (hr:e1.resp=st.wd.now+1) (hp:prt (calls.getD e1.call d0)=t) (ht:t<n) (hws:ws'=ws.set t r) (hrl:r+n<ws.length) (hrn:n<=r) (hr0:0<r)
  (hfar:∀ x,x<st.evs.length->piW calls (aB st.evs x)->rho x≠r) (hlow:∀ x,x<st.evs.length->piW calls (aB st.evs x)->n<=rho x)
  (hv:ws.getD r 0=val (calls.getD e1.call d0)) (hm:e1.inv<=m) (hmT:m<=st.wd.now) (hview:∀ i,i<n->ValAt calls prt val st.evs i m (ws.getD (r+1+i) 0)) (hseq:∀ x,x<st.evs.length->piW calls (aB st.evs x)->tn calls (aB st.evs x)=tn calls e1->(aB st.evs x).resp<e1.inv) :
  mE n calls prt val (λx=>if x=j then r else rho x) evs' ws' (vH traces (r:Int) [(m:Int)]) (st.wd.now+1):=by
 have hrr:e1.resp=0∨e1.resp=st.wd.now+1:=.inr hr
 have cas:∀ x,x<evs'.length->piW calls (aB evs' x)->(x=j/\aB evs' x=e1)∨(x≠j/\x<st.evs.length/\piW calls (aB st.evs x)/\aB evs' x=aB st.evs x):=λx hxl hp=>by
  by_cases hxj:x=j
  ·exact .inl ⟨hxj,by rw [hxj];exact hx.self⟩
  ·obtain⟨a,b⟩:=hx.other x hxl hxj
   exact .inr ⟨hxj,a,by rw [<-b];exact hp,b⟩
 have hrho:∀ x,x<st.evs.length->piW calls (aB st.evs x)->(if x=j then r else rho x)=rho x:=λx hx1 hp=>if_neg (hx.piw hx1 hp).2.1
 have htl:t<ws.length:=by omega
 have hset:∀ a,ws'.getD a 0=if a=t then r else ws.getD a 0:=λa=>by rw [hws];exact gJ _ _ _ _ htl
 refine⟨λi hi=>?_,by rw [hws,List.length_set];exact h.nw,λx hxl hpw=>?_,λx y hxl hyl hpx hpy e=>?_,λx hxl hpw=>?_,λx hxl hpw=>?_,λx y hxl hyl hpx hpy htt hlt=>?_,hx.respApart hg h.apart hrr⟩
 ·rw [hset]
  by_cases e:i=t
  ·rw [if_pos e]
   exact⟨some j,cK.new hg hx hw (by rw [e];exact hp) hr,(if_pos rfl:(if j=j then r else rho j)=r).symm⟩
  ·rw [if_neg e]
   obtain⟨oj,o1,o2⟩:=h.cell i hi
   refine⟨oj,o1.up hg hx (λ_ hp'=>e (hp'.symm.trans hp)),o2.trans ?_⟩
   match oj,o1 with
   | none,_=>rfl
   | some y,o1=>exact(hrho y o1.1 o1.2.1).symm
 ·have hl':ws'.length=ws.length:=by rw [hws,List.length_set]
  rw [hl']
  rcases cas x hxl hpw with⟨rfl,_⟩|⟨a,b,c,_⟩
  ·rw [if_pos rfl];exact⟨hr0,hrl⟩
  ·rw [if_neg a];exact h.pos x b c
 ·have e':(if x=j then r else rho x)=(if y=j then r else rho y):=e
  rcases cas x hxl hpx with⟨rfl,_⟩|⟨a,b,c,_⟩
  ·rcases cas y hyl hpy with⟨rfl,_⟩|⟨a',b',c',_⟩
   ·rfl
   ·rw [if_pos rfl,if_neg a'] at e'
    exact absurd e'.symm (hfar y b' c')
  ·rcases cas y hyl hpy with⟨rfl,_⟩|⟨a',b',c',_⟩
   ·rw [if_pos rfl,if_neg a] at e'
    exact absurd e' (hfar x b c)
   ·rw [if_neg a,if_neg a'] at e'
    exact h.inj x y b b' c c' e'
 ·rcases cas x hxl hpw with⟨rfl,d⟩|⟨a,b,c,d⟩
  ·rw [if_pos rfl,hset,if_neg (by omega),d];exact hv
  ·rw [if_neg a,hset,if_neg (by have:=hlow x b c;omega),d];exact h.value x b c
 ·rcases cas x hxl hpw with⟨rfl,d⟩|⟨a,b,c,d⟩
  ·rw [if_pos rfl]
   refine⟨m,by unfold vH;rw [if_pos rfl],by rw [d];exact hm,by rw [d,hr];omega,λi hi=>?_⟩
   rw [hset,if_neg (by omega)]
   exact(hview i hi).keep hx hrr hmT
  ·rw [if_neg a]
   obtain⟨m',v1,v2,v3,v4⟩:=h.view x b c
   have hne:¬ ((rho x:Nat):Int)=(r:Int):=λe=>hfar x b c (by omega)
   refine⟨m',by unfold vH;rw [if_neg hne];exact v1,by rw [d];exact v2,by rw [d];exact v3,λi hi=>?_⟩
   rw [hset,if_neg (by have:=hlow x b c;omega)]
   exact(v4 i hi).keep hx hrr (by have:=(hg.ev.tick x b).2.2.2;omega)
 ·rcases cas x hxl hpx with⟨rfl,d⟩|⟨a,b,c,d⟩
  ·rcases cas y hyl hpy with⟨rfl,d'⟩|⟨a',b',c',d'⟩
   ·rw [d] at hlt;omega
   ·rw [d,d',hr] at hlt
    have:=(hg.ev.tick y b').2.2.2
    omega
  ·rcases cas y hyl hpy with⟨rfl,d'⟩|⟨a',b',c',d'⟩
   ·rw [d,d'] at htt ⊢
    exact hseq x b c htt
   ·rw [d,d'] at htt hlt ⊢
    exact h.seq x y b b' c c' htt hlt
end
end
end Go.Proofs.Ytifhldnmcdbpfaa
