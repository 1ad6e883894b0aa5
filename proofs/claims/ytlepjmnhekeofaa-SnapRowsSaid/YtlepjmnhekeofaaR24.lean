/- Layers 15 and 16: what was updated last, part by part, ahead of a tick: in plain numbers, whatever the object. -/
import Derived.Test.YtlepjmnhekeofaaR23
import Derived.Test.YtlepjmnhekeofaaR22
set_option maxRecDepth 100000
set_option linter.unusedVariables false
set_option linter.unusedSimpArgs false
set_option linter.unnecessarySimpa false
namespace Go.Proofs.Ytlepjmnhekeofaa
section
open Go.RowKit
variable {S:Sys} {calls:List CallD}
def RespApart (evs:List EvD):Prop:=∀ i j,i<evs.length->j<evs.length->(evAt evs i).resp≠0->(evAt evs i).resp=(evAt evs j).resp->i=j
theorem Next.respApart {st:PlayD S} {q k:Nat} {evs':List EvD} {e1:EvD} (hg:StGood calls st) (hR:RespApart st.evs) (h:Next calls st q evs' k e1) (hr:e1.resp=0∨e1.resp=st.wd.now+1):RespApart evs':=by
 intro i j hi hj h0 h1
 by_cases hik:i=k
 ·by_cases hjk:j=k
  ·rw [hik,hjk]
  ·exfalso
   subst hik
   obtain⟨j1,j2⟩:=h.other j hj hjk
   have:=(hg.ev.tick j j1).2.2.2
   rw [j2,h.self] at h1
   rw [h.self] at h0
   omega
 ·obtain⟨i1,i2⟩:=h.other i hi hik
  have hti:=(hg.ev.tick i i1).2.2.2
  by_cases hjk:j=k
  ·exfalso
   subst hjk
   rw [i2,h.self] at h1
   rw [i2] at h0
   omega
  ·obtain⟨j1,j2⟩:=h.other j hj hjk
   rw [i2,j2] at h1
   rw [i2] at h0
   exact hR i j i1 j1 h0 h1
def LastAt (calls:List CallD) (prt:CallD->Nat) (evs:List EvD) (i T:Nat):Option Nat->Prop
 | none=>∀ j,j<evs.length->piW calls (evAt evs j)->prt (calls.getD (evAt evs j).call d0)=i->T<(evAt evs j).resp
 | some j=>j<evs.length/\piW calls (evAt evs j)/\prt (calls.getD (evAt evs j).call d0)=i/\(evAt evs j).resp<=T/\∀ j',j'<evs.length->piW calls (evAt evs j')->prt (calls.getD (evAt evs j').call d0)=i->(evAt evs j').resp<=T->(evAt evs j').resp<=(evAt evs j).resp
def recOf (rho:Nat->Nat):Option Nat->Nat
 | none=>0
 | some j=>rho j
def valOf (calls:List CallD) (val:CallD->Nat) (evs:List EvD):Option Nat->Nat
 | none=>0
 | some j=>val (calls.getD (evAt evs j).call d0)
def CellAt (calls:List CallD) (prt:CallD->Nat) (rho:Nat->Nat) (evs:List EvD) (i T c:Nat):Prop:=∃ oj,LastAt calls prt evs i T oj/\c=recOf rho oj
def ValAt (calls:List CallD) (prt val:CallD->Nat) (evs:List EvD) (i T v:Nat):Prop:=∃ oj,LastAt calls prt evs i T oj/\v=valOf calls val evs oj
variable {prt val:CallD->Nat} {rho:Nat->Nat} {evs:List EvD}
theorem LastAt.unique (hR:RespApart evs) {i T:Nat} {o1 o2:Option Nat} (h1:LastAt calls prt evs i T o1) (h2:LastAt calls prt evs i T o2):o1=o2:=by
 match o1,o2,h1,h2 with
 | none,none,_,_=>rfl
 | none,some j,h1,⟨a,b,c,d,_⟩=>have:=h1 j a b c;omega
 | some j,none,⟨a,b,c,d,_⟩,h2=>have:=h2 j a b c;omega
 | some j,some j',⟨a,b,c,d,e⟩,⟨a',b',c',d',e'⟩=>
  have h3:=e j' a' b' c' d'
  have h4:=e' j a b c d
  exact congrArg some (hR j j' a a' b.2.2.2 (by omega))
theorem LastAt.down {i T T':Nat} {o:Option Nat} (h:LastAt calls prt evs i T' o) (hT:T<=T') (ho:∀ j,o=some j->(evAt evs j).resp<=T):LastAt calls prt evs i T o:=by
 match o,h with
 | none,h=>exact λj a b c=>by have:=h j a b c;omega
 | some j,⟨a,b,c,d,e⟩=>exact⟨a,b,c,ho j rfl,λj' p0 p1 p2 p3=>e j' p0 p1 p2 (by omega)⟩
theorem LastAt.resp_le {i T j:Nat} (h:LastAt calls prt evs i T (some j)):(evAt evs j).resp<=T:=h.2.2.2.1
theorem CellAt.between {i T T' c m:Nat} (hinj:∀ x y,x<evs.length->y<evs.length->piW calls (evAt evs x)->piW calls (evAt evs y)->rho x=rho y->x=y) (hpos:∀ x,x<evs.length->piW calls (evAt evs x)->0<rho x)
  (h1:CellAt calls prt rho evs i T c) (h2:CellAt calls prt rho evs i T' c) (hm:T<=m) (hm':m<=T'):∃ oj,LastAt calls prt evs i m oj/\c=recOf rho oj:=by
 obtain⟨o1,a1,a2⟩:=h1
 obtain⟨o2,b1,b2⟩:=h2
 have e:o1=o2:=by
  match o1,o2,a1,b1 with
  | none,none,_,_=>rfl
  | none,some j,_,⟨b,d,_⟩=>have:=hpos j b d;simp only [recOf] at a2 b2;omega
  | some j,none,⟨a,d,_⟩,_=>have:=hpos j a d;simp only [recOf] at a2 b2;omega
  | some j,some j',⟨a,d,_⟩,⟨b,f,_⟩=>exact congrArg some (hinj j j' a b d f (by simp only [recOf] at a2 b2;omega))
 subst e
 refine⟨o1,b1.down hm' (λj e=>?_),a2⟩
 subst e
 have:=a1.resp_le;omega
theorem CellAt.differ (hR:RespApart evs) {i T T' c c':Nat} (hT:T<=T') (h1:CellAt calls prt rho evs i T c) (h2:CellAt calls prt rho evs i T' c') (hne:c≠c'):∃ j,LastAt calls prt evs i T' (some j)/\c'=rho j/\T<(evAt evs j).resp:=by
 obtain⟨o1,a1,a2⟩:=h1
 obtain⟨o2,b1,b2⟩:=h2
 by_cases hx:∀ j,o2=some j->(evAt evs j).resp<=T
 ·have:=(b1.down hT hx).unique hR a1
  subst this
  exact absurd (a2.trans b2.symm) hne
 ·match o2,b1,b2,hx with
  | none,_,_,hx=>exact absurd (λj e=>by cases e) hx
  | some j,b1,b2,hx=>exact⟨j,b1,b2,Nat.lt_of_not_le λh9=>hx λj' e=>by cases e;exact h9⟩
section
variable {st:PlayD S} {q j:Nat} {evs':List EvD} {e1:EvD}
theorem LastAt.move {i T T':Nat} {o:Option Nat} (h:LastAt calls prt st.evs i T o) (hx:Next calls st q evs' j e1) (h1:∀ i,i<st.evs.length->piW calls (evAt st.evs i)->((evAt st.evs i).resp<=T↔(evAt st.evs i).resp<=T')) (hw:piW calls e1->prt (calls.getD e1.call d0)=i->T'<e1.resp):LastAt calls prt evs' i T' o:=by
 have old:∀ x,x<evs'.length->piW calls (evAt evs' x)->prt (calls.getD (evAt evs' x).call d0)=i->(evAt evs' x).resp<=T'->x<st.evs.length/\evAt evs' x=evAt st.evs x:=λx hx' hp hq hle=>by
  by_cases hxj:x=j
  ·subst hxj
   rw [hx.self] at hp hq hle
   have:=hw hp hq;omega
  ·exact hx.other x hx' hxj
 match o,h with
 | none,h=>
  intro x hx' hp hq
  refine Nat.lt_of_not_le λhle=>?_
  obtain⟨a,b⟩:=old x hx' hp hq hle
  rw [b] at hp hq hle
  have:=h x a hp hq
  have:=(h1 x a hp).2 hle
  omega
 | some y,⟨a,b,c,d,e⟩=>
  have hyj:y≠j:=λe'=>b.2.2.2 (hx.old (by omega) ▸ (by rw [e']))
  have ey:evAt evs' y=evAt st.evs y:=(hx.other y (Nat.lt_of_lt_of_le a hx.size) hyj).2
  refine⟨Nat.lt_of_lt_of_le a hx.size,by rw [ey];exact b,by rw [ey];exact c,by rw [ey];exact(h1 y a b).1 d,λx hx' hp hq hle=>?_⟩
  obtain⟨a',b'⟩:=old x hx' hp hq hle
  rw [b'] at hp hq hle ⊢
  rw [ey]
  exact e x a' hp hq ((h1 x a' hp).2 hle)
theorem LastAt.keep {i T:Nat} {o:Option Nat} (h:LastAt calls prt st.evs i T o) (hx:Next calls st q evs' j e1) (hr:e1.resp=0∨e1.resp=st.wd.now+1) (hT:T<=st.wd.now):LastAt calls prt evs' i T o:=
 h.move hx (λ_ _ _=>Iff.rfl) (λhp _=>by rcases hr with h0|h0;exact absurd h0 hp.2.2.2;omega)
theorem LastAt.up {i:Nat} {o:Option Nat} (hg:StGood calls st) (h:LastAt calls prt st.evs i st.wd.now o) (hx:Next calls st q evs' j e1) (hw:piW calls e1->prt (calls.getD e1.call d0)≠i):LastAt calls prt evs' i (st.wd.now+1) o:=
 h.move hx (λx hx' _=>by have:=(hg.ev.tick x hx').2.2.2;omega) (λhp hq=>absurd hq (hw hp))
theorem LastAt.new {i:Nat} (hg:StGood calls st) (hx:Next calls st q evs' j e1) (hw:piW calls e1) (hp:prt (calls.getD e1.call d0)=i) (hr:e1.resp=st.wd.now+1):LastAt calls prt evs' i (st.wd.now+1) (some j):=by
 refine⟨hx.lt,by rw [hx.self];exact hw,by rw [hx.self];exact hp,by rw [hx.self];omega,λx _ _ _ hle=>?_⟩
 rw [hx.self,hr];exact hle
theorem LastAt.old {i T y:Nat} (h:LastAt calls prt st.evs i T (some y)) (hx:Next calls st q evs' j e1):evAt evs' y=evAt st.evs y:=by
 obtain⟨a,b,_⟩:=h
 have hyj:y≠j:=λe'=>b.2.2.2 (hx.old (by omega) ▸ (by rw [e']))
 exact(hx.other y (Nat.lt_of_lt_of_le a hx.size) hyj).2
end
end
section

/- Layer 15: a scan, in plain numbers: what it has seen, and how many steps it makes. -/
open Go.RowKit
variable {calls:List CallD} {prt val:CallD->Nat} {rho:Nat->Nat} {evs:List EvD}
def cntT (d:List Bool):Nat:=d.countP (λb=>b)
theorem cntT_set {d:List Bool} {t:Nat} (ht:t<d.length) (h:d.getD t false=false):cntT (d.set t true)=cntT d+1:=by
 have e:d[t]=false:=by
  have:=h
  rw [List.getD_eq_getElem?_getD,List.getElem?_eq_getElem ht] at this;exact this
 unfold cntT
 rw [List.countP_set ht,e]
 simp
theorem cntT_le {d:List Bool} {n:Nat} (h:∀ i,n<=i->d.getD i false=false):cntT d<=n:=by
 have e:=List.take_append_drop n d
 have hd:(d.drop n).countP (λb=>b)=0:=by
  rw [List.countP_eq_zero]
  intro x hx
  obtain⟨i,hi,rfl⟩:=List.getElem_of_mem hx
  have h1:=h (n+i) (by omega)
  rw [List.length_drop] at hi
  rw [List.getD_eq_getElem?_getD,List.getElem?_eq_getElem (by omega)] at h1
  rw [List.getElem_drop]
  simpa using h1
 have ht:(d.take n).countP (λb=>b)<=n:=Nat.le_trans List.countP_le_length (by rw [List.length_take];omega)
 have:=List.countP_append (p:=λb:Bool=>b) (l₁:=d.take n) (l₂:=d.drop n)
 rw [e] at this
 unfold cntT
 omega
theorem cntT_lt {d:List Bool} {n p:Nat} (hp:p<n) (hl:n<=d.length) (h:∀ i,n<=i->d.getD i false=false) (h0:d.getD p false=false):cntT d+1<=n:=by
 rw [<-cntT_set (t:=p) (by omega) h0]
 refine cntT_le λi hi=>?_
 rw [getD_set_neq (by omega)];exact h i hi
structure DifTo (old now:List Nat) (t n:Nat) (d d':List Bool):Prop where
 len:d'.length=d.length
 out:∀ i,¬ (t<=i/\i<n)->d'.getD i false=d.getD i false
 same:∀ i,t<=i->i<n->old.getD i 0=now.getD i 0->d'.getD i false=d.getD i false
 mono:cntT d<=cntT d'
theorem scDif_spec (old now:List Nat):∀(m t:Nat) (d:List Bool),t+m<=d.length->(∀ d',scDif old now m t d=(d',none)->DifTo old now t (t+m) d d'/\(∀ i,t<=i->i<t+m->old.getD i 0≠now.getD i 0->d.getD i false=false/\d'.getD i false=true)/\((∃ i,t<=i/\i<t+m/\old.getD i 0≠now.getD i 0)->cntT d+1<=cntT d'))/\
  (∀ d' f,scDif old now m t d=(d',some f)->∃ i,t<=i/\i<t+m/\old.getD i 0≠now.getD i 0/\d.getD i false=true/\f=now.getD i 0/\d'.length=d.length/\(∀ x,¬ (t<=x/\x<t+m)->d'.getD x false=d.getD x false)/\(∀ x,t<=x->x<t+m->old.getD x 0=now.getD x 0->d'.getD x false=d.getD x false))
 | 0,t,d,_=>by
  refine⟨λd' h=>?_,λd' f h=>by cases h⟩
  cases h
  exact⟨⟨rfl,λ_ _=>rfl,λ_ _ _ _=>rfl,Nat.le_refl _⟩,λi h1 h2=>by omega,λ⟨i,h1,h2,_⟩=>by omega⟩
 | m+1,t,d,hl=>by
  unfold scDif
  by_cases he:old.getD t 0=now.getD t 0
  ·rw [if_pos he]
   obtain⟨a,b⟩:=scDif_spec old now m (t+1) d (by omega)
   refine⟨λd' h=>?_,λd' f h=>?_⟩
   ·obtain⟨g1,g2,g3⟩:=a d' h
    refine⟨⟨g1.len,λi hi=>?_,λi h1 h2 h3=>?_,g1.mono⟩,λi h1 h2 h3=>?_,λ⟨i,h1,h2,h3⟩=>?_⟩
    ·exact g1.out i (by omega)
    ·by_cases e:i=t
     ·exact g1.out i (by omega)
     ·exact g1.same i (by omega) (by omega) h3
    ·have e:i≠t:=λe=>by subst e;exact h3 he
     exact g2 i (by omega) (by omega) h3
    ·have e:i≠t:=λe=>by subst e;exact h3 he
     exact g3 ⟨i,by omega,by omega,h3⟩
   ·obtain⟨i,h1,h2,h3,h4,h5,h6,h7,h8⟩:=b d' f h
    refine⟨i,by omega,by omega,h3,h4,h5,h6,λx hx=>h7 x (by omega),λx x1 x2 x3=>?_⟩
    by_cases e:x=t
    ·exact h7 x (by omega)
    ·exact h8 x (by omega) (by omega) x3
  ·rw [if_neg he]
   by_cases hd:d.getD t false=true
   ·rw [if_pos hd]
    refine⟨λd' h=>(by cases h),λd' f h=>?_⟩
    cases h
    exact⟨t,Nat.le_refl _,by omega,he,hd,rfl,rfl,λ_ _=>rfl,λ_ _ _ _=>rfl⟩
   ·rw [if_neg hd]
    have hd0:d.getD t false=false:=by simpa using hd
    obtain⟨a,b⟩:=scDif_spec old now m (t+1) (d.set t true) (by rw [List.length_set];omega)
    have hset:∀ i,i≠t->(d.set t true).getD i false=d.getD i false:=λi hi=>getD_set_neq (Ne.symm hi)
    have hcnt:=cntT_set (d:=d) (t:=t) (by omega) hd0
    refine⟨λd' h=>?_,λd' f h=>?_⟩
    ·obtain⟨g1,g2,g3⟩:=a d' h
     have hm:=g1.mono
     refine⟨⟨by rw [g1.len,List.length_set],λi hi=>?_,λi h1 h2 h3=>?_,by omega⟩,λi h1 h2 h3=>?_,λ_=>by omega⟩
     ·rw [g1.out i (by omega),hset i (by omega)]
     ·have e:i≠t:=λe=>by subst e;exact he h3
      rw [g1.same i (by omega) (by omega) h3,hset i e]
     ·by_cases e:i=t
      ·subst e
       refine⟨hd0,?_⟩
       rw [g1.out i (by omega)]
       exact getD_set_eq (by omega)
      ·have:=g2 i (by omega) (by omega) h3
       rw [hset i e] at this;exact this
    ·obtain⟨i,h1,h2,h3,h4,h5,h6,h7,h8⟩:=b d' f h
     have e:i≠t:=by omega
     rw [hset i e] at h4
     refine⟨i,by omega,by omega,h3,h4,h5,by rw [h6,List.length_set],λx hx=>by rw [h7 x (by omega),hset x (by omega)],λx x1 x2 x3=>?_⟩
     have e:x≠t:=λe=>by subst e;exact he x3
     rw [h8 x (by omega) (by omega) x3,hset x e]
theorem scPass_spec (n:Nat):∀(m:Nat) (s:ScD),s.at_<=n->n<=s.at_+m->∃ a,s.at_<=a/\a<=n/\(∀ i,s.at_<=i->i<a->s.now.getD i 0=0)/\(a<n->s.now.getD a 0≠0)/\scPass n m s={ s with at_:=a,list:=s.list++List.replicate (a - s.at_) 0,pc:=if a=n then 3 else s.pc }
 | 0,s,h1,h2=>by
  have e:s.at_=n:=by omega
  exact⟨s.at_,Nat.le_refl _,h1,λi _ _=>by omega,λh=>by omega,by unfold scPass;simp⟩
 | m+1,s,h1,h2=>by
  unfold scPass
  by_cases hc:s.at_<n/\s.now.getD s.at_ 0=0
  ·rw [if_pos hc]
   obtain⟨a,a1,a2,a3,a4,a5⟩:=scPass_spec n m { s with list:=s.list++[0],at_:=s.at_+1 } (by show s.at_+1<=n;omega) (by show n<=s.at_+1+m;omega)
   simp only at a1 a3 a5
   refine⟨a,by omega,a2,λi i1 i2=>?_,a4,?_⟩
   ·by_cases e:i=s.at_
    ·rw [e];exact hc.2
    ·exact a3 i (by omega) i2
   ·rw [a5]
    have e:a - s.at_=(a - (s.at_+1))+1:=by omega
    rw [e,List.replicate_succ,List.append_assoc];rfl
  ·rw [if_neg hc]
   refine⟨s.at_,Nat.le_refl _,h1,λi _ _=>by omega,λh=>λh0=>hc ⟨h,h0⟩,?_⟩
   rw [Nat.sub_self];simp
structure ScC (n:Nat) (calls:List CallD) (prt:CallD->Nat) (rho:Nat->Nat) (evs:List EvD) (T I N:Nat) (s:ScD):Prop where
 at_:s.at_<n
 nil:s.list=[]
 steps:N=s.rounds*n+s.at_
 few:s.rounds<=cntT s.diff+1
 cur:∀ i,i<s.at_->∃ a,I<=a/\a<=T/\(1<=s.rounds->s.last<=a)/\CellAt calls prt rho evs i a (s.now.getD i 0)
 last:1<=s.rounds->I<=s.last/\s.last<=T
 prev:1<=s.rounds->∀ i,i<n->∃ a,I<=a/\a<=s.last/\CellAt calls prt rho evs i a (s.old.getD i 0)/\(s.diff.getD i false=true->∃ jj,LastAt calls prt evs i a (some jj)/\I<=(evAt evs jj).resp)
 first:s.rounds=0->∀ i,s.diff.getD i false=false
structure ScV (n:Nat) (calls:List CallD) (prt val:CallD->Nat) (rho:Nat->Nat) (evs:List EvD) (T I N:Nat) (s:ScD):Prop where
 at_:s.at_<n
 pos:s.now.getD s.at_ 0≠0
 len:s.list.length=s.at_
 steps:N<=(n+1)*n+s.at_
 mom:∃ m:Nat,s.moment=(m:Int)/\I<=m/\m<=T/\(∀ i,i<n->∃ oj,LastAt calls prt evs i m oj/\s.now.getD i 0=recOf rho oj)/\∀ i,i<s.at_->ValAt calls prt val evs i m (s.list.getD i 0)
structure ScB (n:Nat) (calls:List CallD) (prt val:CallD->Nat) (rho:Nat->Nat) (evs:List EvD) (traces:Int->List Int) (T I N:Nat) (s:ScD):Prop where
 at_:s.at_<n
 len:s.list.length=s.at_
 steps:N<=(n+1)*n+s.at_
 ref:∃ jj,jj<evs.length/\piW calls (evAt evs jj)/\s.from_=rho jj
 tr:traces (s.from_:Int)=[s.moment]
 mom:∃ m:Nat,s.moment=(m:Int)/\I<=m/\m<=T/\∀ i,i<s.at_->ValAt calls prt val evs i m (s.list.getD i 0)
structure ScO (n:Nat) (calls:List CallD) (prt val:CallD->Nat) (evs:List EvD) (T I N:Nat) (s:ScD):Prop where
 len:s.list.length=n
 steps:N<=(n+1)*n+n
 mom:∃ m:Nat,s.moment=(m:Int)/\I<=m/\m<=T/\∀ i,i<n->ValAt calls prt val evs i m (s.list.getD i 0)
structure ScOk (n:Nat) (calls:List CallD) (prt val:CallD->Nat) (rho:Nat->Nat) (evs:List EvD) (traces:Int->List Int) (T p I N:Nat) (s:ScD):Prop where
 l1:s.old.length=16
 l2:s.now.length=16
 l3:s.diff.length=16
 z:∀ i,n<=i->s.old.getD i 0=0/\s.now.getD i 0=0
 it:I<=T
 own:s.diff.getD p false=false
 dn:∀ i,n<=i->s.diff.getD i false=false
 body:(s.pc=0/\ScC n calls prt rho evs T I N s)∨(s.pc=1/\ScV n calls prt val rho evs T I N s)∨(s.pc=2/\ScB n calls prt val rho evs traces T I N s)∨(s.pc=3/\ScO n calls prt val evs T I N s)
structure RecOk (n:Nat) (calls:List CallD) (prt val:CallD->Nat) (rho:Nat->Nat) (evs:List EvD) (ws:List Nat) (traces:Int->List Int) (T:Nat):Prop where
 cell:∀ i,i<n->CellAt calls prt rho evs i T (ws.getD i 0)
 nw:n<=ws.length
 pos:∀ x,x<evs.length->piW calls (evAt evs x)->0<rho x/\rho x+n<ws.length
 inj:∀ x y,x<evs.length->y<evs.length->piW calls (evAt evs x)->piW calls (evAt evs y)->rho x=rho y->x=y
 value:∀ x,x<evs.length->piW calls (evAt evs x)->ws.getD (rho x) 0=val (calls.getD (evAt evs x).call d0)
 view:∀ x,x<evs.length->piW calls (evAt evs x)->∃ m:Nat,traces (rho x:Int)=[(m:Int)]/\(evAt evs x).inv<=m/\m<=(evAt evs x).resp/\∀ i,i<n->ValAt calls prt val evs i m (ws.getD (rho x+1+i) 0)
 seq:∀ x y,x<evs.length->y<evs.length->piW calls (evAt evs x)->piW calls (evAt evs y)->tn calls (evAt evs x)=tn calls (evAt evs y)->(evAt evs x).resp<(evAt evs y).resp->(evAt evs x).resp<(evAt evs y).inv
 apart:RespApart evs
theorem getD_append_left' {l m:List Nat} {i:Nat} (h:i<l.length):(l++m).getD i 0=l.getD i 0:=by
 rw [List.getD_eq_getElem?_getD,List.getD_eq_getElem?_getD,List.getElem?_append_left h]
theorem getD_snoc {l:List Nat} {x:Nat}:(l++[x]).getD l.length 0=x:=by
 rw [List.getD_eq_getElem?_getD,List.getElem?_append_right (Nat.le_refl _),Nat.sub_self];rfl
theorem getD_zeros {l:List Nat} {m i:Nat} (h:l.length<=i):(l++List.replicate m 0).getD i 0=0:=by
 rw [List.getD_eq_getElem?_getD,List.getElem?_append_right h,List.getElem?_replicate]
 split<;>rfl
theorem sc_pass {n T I N:Nat} {s:ScD} {traces:Int->List Int} {p:Nat} (hpos:∀ x,x<evs.length->piW calls (evAt evs x)->0<rho x) (h1:s.old.length=16) (h2:s.now.length=16) (h3:s.diff.length=16) (hz:∀ i,n<=i->s.old.getD i 0=0/\s.now.getD i 0=0) (hit:I<=T) (hown:s.diff.getD p false=false) (hdn:∀ i,n<=i->s.diff.getD i false=false)
  (hpc:s.pc=1) (hat:s.at_<=n) (hlen:s.list.length=s.at_) (hst:N<=(n+1)*n+s.at_) {m:Nat} (hm:s.moment=(m:Int)) (hI:I<=m) (hT:m<=T) (hl:∀ i,i<n->∃ oj,LastAt calls prt evs i m oj/\s.now.getD i 0=recOf rho oj) (hv:∀ i,i<s.at_->ValAt calls prt val evs i m (s.list.getD i 0)) :
  ScOk n calls prt val rho evs traces T p I N (scPass n n s):=by
 obtain⟨a,a1,a2,a3,a4,a5⟩:=scPass_spec n n s hat (by omega)
 rw [a5]
 have hv':∀ i,i<a->ValAt calls prt val evs i m ((s.list++List.replicate (a - s.at_) 0).getD i 0):=λi hi=>by
  by_cases h9:i<s.at_
  ·rw [getD_append_left' (by omega)];exact hv i h9
  ·rw [getD_zeros (by omega)]
   obtain⟨oj,o1,o2⟩:=hl i (by omega)
   rw [a3 i (by omega) hi] at o2
   match oj,o1,o2 with
   | none,o1,_=>exact⟨none,o1,rfl⟩
   | some y,o1,o2=>
    have:=hpos y o1.1 o1.2.1
    simp only [recOf] at o2
    omega
 have hlen':(s.list++List.replicate (a - s.at_) 0).length=a:=by rw [List.length_append,List.length_replicate,hlen];omega
 refine⟨h1,h2,h3,hz,hit,hown,hdn,?_⟩
 by_cases he:a=n
 ·rw [if_pos he]
  exact .inr (.inr (.inr ⟨rfl,⟨hlen'.trans he,by omega,m,hm,hI,hT,λi hi=>hv' i (by omega)⟩⟩))
 ·rw [if_neg he]
  exact .inr (.inl ⟨hpc,⟨by show a<n;omega,a4 (by omega),hlen',by show N<=(n+1)*n+a;omega,m,hm,hI,hT,hl,hv'⟩⟩)
end
end Go.Proofs.Ytlepjmnhekeofaa
