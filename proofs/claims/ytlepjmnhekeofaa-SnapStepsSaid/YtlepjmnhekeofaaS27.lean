/- Layer 15: a scan, in plain numbers: what it has seen, and how many steps it makes. -/
import Derived.Test.YtlepjmnhekeofaaS25
import Derived.Test.YtlepjmnhekeofaaS26
set_option maxRecDepth 100000
set_option linter.unusedVariables false
set_option linter.unusedSimpArgs false
set_option linter.unnecessarySimpa false
namespace Go.Proofs.Ytlepjmnhekeofaa
open Go.RowKit
variable {calls:List CallD} {prt val:CallD->Nat} {rho:Nat->Nat} {evs:List EvD}
def cntT (d:List Bool):Nat:=d.countP (λb=>b)
theorem cntT_set {d:List Bool} {t:Nat} (ht:t<d.length) (h:d.getD t false=false):cntT (d.set t true)=cntT d+1:=by
 have e:d[t]=false:=by
  have:=h
  rw [List.getD_eq_getElem?_getD,List.getElem?_eq_getElem ht] at this;exact this
 unfold cntT
 rw [List.countP_set ht,e]
 simp
theorem cntT_le {d:List Bool} {n:Nat} (h:∀ i,n<=i->d.getD i false=false):cntT d<=n:=by
 have e:=List.take_append_drop n d
 have hd:(d.drop n).countP (λb=>b)=0:=by
  rw [List.countP_eq_zero]
  intro x hx
  obtain⟨i,hi,rfl⟩:=List.getElem_of_mem hx
  have h1:=h (n+i) (by omega)
  rw [List.length_drop] at hi
  rw [List.getD_eq_getElem?_getD,List.getElem?_eq_getElem (by omega)] at h1
  rw [List.getElem_drop]
  simpa using h1
 have ht:(d.take n).countP (λb=>b)<=n:=Nat.le_trans List.countP_le_length (by rw [List.length_take];omega)
 have:=List.countP_append (p:=λb:Bool=>b) (l₁:=d.take n) (l₂:=d.drop n)
 rw [e] at this
 unfold cntT
 omega
theorem cntT_lt {d:List Bool} {n p:Nat} (hp:p<n) (hl:n<=d.length) (h:∀ i,n<=i->d.getD i false=false) (h0:d.getD p false=false):cntT d+1<=n:=by
 rw [<-cntT_set (t:=p) (by omega) h0]
 refine cntT_le λi hi=>?_
 rw [getD_set_neq (by omega)];exact h i hi
structure DifTo (old now:List Nat) (t n:Nat) (d d':List Bool):Prop where
 len:d'.length=d.length
 out:∀ i,¬ (t<=i/\i<n)->d'.getD i false=d.getD i false
 same:∀ i,t<=i->i<n->old.getD i 0=now.getD i 0->d'.getD i false=d.getD i false
 mono:cntT d<=cntT d'
theorem scDif_spec (old now:List Nat):∀(m t:Nat) (d:List Bool),t+m<=d.length->(∀ d',scDif old now m t d=(d',none)->DifTo old now t (t+m) d d'/\(∀ i,t<=i->i<t+m->old.getD i 0≠now.getD i 0->d.getD i false=false/\d'.getD i false=true)/\((∃ i,t<=i/\i<t+m/\old.getD i 0≠now.getD i 0)->cntT d+1<=cntT d'))/\
  (∀ d' f,scDif old now m t d=(d',some f)->∃ i,t<=i/\i<t+m/\old.getD i 0≠now.getD i 0/\d.getD i false=true/\f=now.getD i 0/\d'.length=d.length/\(∀ x,¬ (t<=x/\x<t+m)->d'.getD x false=d.getD x false)/\(∀ x,t<=x->x<t+m->old.getD x 0=now.getD x 0->d'.getD x false=d.getD x false))
 | 0,t,d,_=>by
  refine⟨λd' h=>?_,λd' f h=>by cases h⟩
  cases h
  exact⟨⟨rfl,λ_ _=>rfl,λ_ _ _ _=>rfl,Nat.le_refl _⟩,λi h1 h2=>by omega,λ⟨i,h1,h2,_⟩=>by omega⟩
 | m+1,t,d,hl=>by
  unfold scDif
  by_cases he:old.getD t 0=now.getD t 0
  ·rw [if_pos he]
   obtain⟨a,b⟩:=scDif_spec old now m (t+1) d (by omega)
   refine⟨λd' h=>?_,λd' f h=>?_⟩
   ·obtain⟨g1,g2,g3⟩:=a d' h
    refine⟨⟨g1.len,λi hi=>?_,λi h1 h2 h3=>?_,g1.mono⟩,λi h1 h2 h3=>?_,λ⟨i,h1,h2,h3⟩=>?_⟩
    ·exact g1.out i (by omega)
    ·by_cases e:i=t
     ·exact g1.out i (by omega)
     ·exact g1.same i (by omega) (by omega) h3
    ·have e:i≠t:=λe=>by subst e;exact h3 he
     exact g2 i (by omega) (by omega) h3
    ·have e:i≠t:=λe=>by subst e;exact h3 he
     exact g3 ⟨i,by omega,by omega,h3⟩
   ·obtain⟨i,h1,h2,h3,h4,h5,h6,h7,h8⟩:=b d' f h
    refine⟨i,by omega,by omega,h3,h4,h5,h6,λx hx=>h7 x (by omega),λx x1 x2 x3=>?_⟩
    by_cases e:x=t
    ·exact h7 x (by omega)
    ·exact h8 x (by omega) (by omega) x3
  ·rw [if_neg he]
   by_cases hd:d.getD t false=true
   ·rw [if_pos hd]
    refine⟨λd' h=>(by cases h),λd' f h=>?_⟩
    cases h
    exact⟨t,Nat.le_refl _,by omega,he,hd,rfl,rfl,λ_ _=>rfl,λ_ _ _ _=>rfl⟩
   ·rw [if_neg hd]
    have hd0:d.getD t false=false:=by simpa using hd
    obtain⟨a,b⟩:=scDif_spec old now m (t+1) (d.set t true) (by rw [List.length_set];omega)
    have hset:∀ i,i≠t->(d.set t true).getD i false=d.getD i false:=λi hi=>getD_set_neq (Ne.symm hi)
    have hcnt:=cntT_set (d:=d) (t:=t) (by omega) hd0
    refine⟨λd' h=>?_,λd' f h=>?_⟩
    ·obtain⟨g1,g2,g3⟩:=a d' h
     have hm:=g1.mono
     refine⟨⟨by rw [g1.len,List.length_set],λi hi=>?_,λi h1 h2 h3=>?_,by omega⟩,λi h1 h2 h3=>?_,λ_=>by omega⟩
     ·rw [g1.out i (by omega),hset i (by omega)]
     ·have e:i≠t:=λe=>by subst e;exact he h3
      rw [g1.same i (by omega) (by omega) h3,hset i e]
     ·by_cases e:i=t
      ·subst e
       refine⟨hd0,?_⟩
       rw [g1.out i (by omega)]
       exact getD_set_eq (by omega)
      ·have:=g2 i (by omega) (by omega) h3
       rw [hset i e] at this;exact this
    ·obtain⟨i,h1,h2,h3,h4,h5,h6,h7,h8⟩:=b d' f h
     have e:i≠t:=by omega
     rw [hset i e] at h4
     refine⟨i,by omega,by omega,h3,h4,h5,by rw [h6,List.length_set],λx hx=>by rw [h7 x (by omega),hset x (by omega)],λx x1 x2 x3=>?_⟩
     have e:x≠t:=λe=>by subst e;exact he x3
     rw [h8 x (by omega) (by omega) x3,hset x e]
theorem scPass_spec (n:Nat):∀(m:Nat) (s:ScD),s.at_<=n->n<=s.at_+m->∃ a,s.at_<=a/\a<=n/\(∀ i,s.at_<=i->i<a->s.now.getD i 0=0)/\(a<n->s.now.getD a 0≠0)/\scPass n m s={ s with at_:=a,list:=s.list++List.replicate (a - s.at_) 0,pc:=if a=n then 3 else s.pc }
 | 0,s,h1,h2=>by
  have e:s.at_=n:=by omega
  exact⟨s.at_,Nat.le_refl _,h1,λi _ _=>by omega,λh=>by omega,by unfold scPass;simp⟩
 | m+1,s,h1,h2=>by
  unfold scPass
  by_cases hc:s.at_<n/\s.now.getD s.at_ 0=0
  ·rw [if_pos hc]
   obtain⟨a,a1,a2,a3,a4,a5⟩:=scPass_spec n m { s with list:=s.list++[0],at_:=s.at_+1 } (by show s.at_+1<=n;omega) (by show n<=s.at_+1+m;omega)
   simp only at a1 a3 a5
   refine⟨a,by omega,a2,λi i1 i2=>?_,a4,?_⟩
   ·by_cases e:i=s.at_
    ·rw [e];exact hc.2
    ·exact a3 i (by omega) i2
   ·rw [a5]
    have e:a - s.at_=(a - (s.at_+1))+1:=by omega
    rw [e,List.replicate_succ,List.append_assoc];rfl
  ·rw [if_neg hc]
   refine⟨s.at_,Nat.le_refl _,h1,λi _ _=>by omega,λh=>λh0=>hc ⟨h,h0⟩,?_⟩
   rw [Nat.sub_self];simp
structure ScC (n:Nat) (calls:List CallD) (prt:CallD->Nat) (rho:Nat->Nat) (evs:List EvD) (T I N:Nat) (s:ScD):Prop where
 at_:s.at_<n
 nil:s.list=[]
 steps:N=s.rounds*n+s.at_
 few:s.rounds<=cntT s.diff+1
 cur:∀ i,i<s.at_->∃ a,I<=a/\a<=T/\(1<=s.rounds->s.last<=a)/\CellAt calls prt rho evs i a (s.now.getD i 0)
 last:1<=s.rounds->I<=s.last/\s.last<=T
 prev:1<=s.rounds->∀ i,i<n->∃ a,I<=a/\a<=s.last/\CellAt calls prt rho evs i a (s.old.getD i 0)/\(s.diff.getD i false=true->∃ jj,LastAt calls prt evs i a (some jj)/\I<=(evAt evs jj).resp)
 first:s.rounds=0->∀ i,s.diff.getD i false=false
structure ScV (n:Nat) (calls:List CallD) (prt val:CallD->Nat) (rho:Nat->Nat) (evs:List EvD) (T I N:Nat) (s:ScD):Prop where
 at_:s.at_<n
 pos:s.now.getD s.at_ 0≠0
 len:s.list.length=s.at_
 steps:N<=(n+1)*n+s.at_
 mom:∃ m:Nat,s.moment=(m:Int)/\I<=m/\m<=T/\(∀ i,i<n->∃ oj,LastAt calls prt evs i m oj/\s.now.getD i 0=recOf rho oj)/\∀ i,i<s.at_->ValAt calls prt val evs i m (s.list.getD i 0)
structure ScB (n:Nat) (calls:List CallD) (prt val:CallD->Nat) (rho:Nat->Nat) (evs:List EvD) (traces:Int->List Int) (T I N:Nat) (s:ScD):Prop where
 at_:s.at_<n
 len:s.list.length=s.at_
 steps:N<=(n+1)*n+s.at_
 ref:∃ jj,jj<evs.length/\piW calls (evAt evs jj)/\s.from_=rho jj
 tr:traces (s.from_:Int)=[s.moment]
 mom:∃ m:Nat,s.moment=(m:Int)/\I<=m/\m<=T/\∀ i,i<s.at_->ValAt calls prt val evs i m (s.list.getD i 0)
structure ScO (n:Nat) (calls:List CallD) (prt val:CallD->Nat) (evs:List EvD) (T I N:Nat) (s:ScD):Prop where
 len:s.list.length=n
 steps:N<=(n+1)*n+n
 mom:∃ m:Nat,s.moment=(m:Int)/\I<=m/\m<=T/\∀ i,i<n->ValAt calls prt val evs i m (s.list.getD i 0)
structure ScOk (n:Nat) (calls:List CallD) (prt val:CallD->Nat) (rho:Nat->Nat) (evs:List EvD) (traces:Int->List Int) (T p I N:Nat) (s:ScD):Prop where
 l1:s.old.length=16
 l2:s.now.length=16
 l3:s.diff.length=16
 z:∀ i,n<=i->s.old.getD i 0=0/\s.now.getD i 0=0
 it:I<=T
 own:s.diff.getD p false=false
 dn:∀ i,n<=i->s.diff.getD i false=false
 body:(s.pc=0/\ScC n calls prt rho evs T I N s)∨(s.pc=1/\ScV n calls prt val rho evs T I N s)∨(s.pc=2/\ScB n calls prt val rho evs traces T I N s)∨(s.pc=3/\ScO n calls prt val evs T I N s)
structure RecOk (n:Nat) (calls:List CallD) (prt val:CallD->Nat) (rho:Nat->Nat) (evs:List EvD) (ws:List Nat) (traces:Int->List Int) (T:Nat):Prop where
 cell:∀ i,i<n->CellAt calls prt rho evs i T (ws.getD i 0)
 nw:n<=ws.length
 pos:∀ x,x<evs.length->piW calls (evAt evs x)->0<rho x/\rho x+n<ws.length
 inj:∀ x y,x<evs.length->y<evs.length->piW calls (evAt evs x)->piW calls (evAt evs y)->rho x=rho y->x=y
 value:∀ x,x<evs.length->piW calls (evAt evs x)->ws.getD (rho x) 0=val (calls.getD (evAt evs x).call d0)
 view:∀ x,x<evs.length->piW calls (evAt evs x)->∃ m:Nat,traces (rho x:Int)=[(m:Int)]/\(evAt evs x).inv<=m/\m<=(evAt evs x).resp/\∀ i,i<n->ValAt calls prt val evs i m (ws.getD (rho x+1+i) 0)
 seq:∀ x y,x<evs.length->y<evs.length->piW calls (evAt evs x)->piW calls (evAt evs y)->tn calls (evAt evs x)=tn calls (evAt evs y)->(evAt evs x).resp<(evAt evs y).resp->(evAt evs x).resp<(evAt evs y).inv
 apart:RespApart evs
theorem getD_append_left' {l m:List Nat} {i:Nat} (h:i<l.length):(l++m).getD i 0=l.getD i 0:=by
 rw [List.getD_eq_getElem?_getD,List.getD_eq_getElem?_getD,List.getElem?_append_left h]
theorem getD_snoc {l:List Nat} {x:Nat}:(l++[x]).getD l.length 0=x:=by
 rw [List.getD_eq_getElem?_getD,List.getElem?_append_right (Nat.le_refl _),Nat.sub_self];rfl
theorem getD_zeros {l:List Nat} {m i:Nat} (h:l.length<=i):(l++List.replicate m 0).getD i 0=0:=by
 rw [List.getD_eq_getElem?_getD,List.getElem?_append_right h,List.getElem?_replicate]
 split<;>rfl
theorem sc_pass {n T I N:Nat} {s:ScD} {traces:Int->List Int} {p:Nat} (hpos:∀ x,x<evs.length->piW calls (evAt evs x)->0<rho x) (h1:s.old.length=16) (h2:s.now.length=16) (h3:s.diff.length=16) (hz:∀ i,n<=i->s.old.getD i 0=0/\s.now.getD i 0=0) (hit:I<=T) (hown:s.diff.getD p false=false) (hdn:∀ i,n<=i->s.diff.getD i false=false)
  (hpc:s.pc=1) (hat:s.at_<=n) (hlen:s.list.length=s.at_) (hst:N<=(n+1)*n+s.at_) {m:Nat} (hm:s.moment=(m:Int)) (hI:I<=m) (hT:m<=T) (hl:∀ i,i<n->∃ oj,LastAt calls prt evs i m oj/\s.now.getD i 0=recOf rho oj) (hv:∀ i,i<s.at_->ValAt calls prt val evs i m (s.list.getD i 0)) :
  ScOk n calls prt val rho evs traces T p I N (scPass n n s):=by
 obtain⟨a,a1,a2,a3,a4,a5⟩:=scPass_spec n n s hat (by omega)
 rw [a5]
 have hv':∀ i,i<a->ValAt calls prt val evs i m ((s.list++List.replicate (a - s.at_) 0).getD i 0):=λi hi=>by
  by_cases h9:i<s.at_
  ·rw [getD_append_left' (by omega)];exact hv i h9
  ·rw [getD_zeros (by omega)]
   obtain⟨oj,o1,o2⟩:=hl i (by omega)
   rw [a3 i (by omega) hi] at o2
   match oj,o1,o2 with
   | none,o1,_=>exact⟨none,o1,rfl⟩
   | some y,o1,o2=>
    have:=hpos y o1.1 o1.2.1
    simp only [recOf] at o2
    omega
 have hlen':(s.list++List.replicate (a - s.at_) 0).length=a:=by rw [List.length_append,List.length_replicate,hlen];omega
 refine⟨h1,h2,h3,hz,hit,hown,hdn,?_⟩
 by_cases he:a=n
 ·rw [if_pos he]
  exact .inr (.inr (.inr ⟨rfl,⟨hlen'.trans he,by omega,m,hm,hI,hT,λi hi=>hv' i (by omega)⟩⟩))
 ·rw [if_neg he]
  exact .inr (.inl ⟨hpc,⟨by show a<n;omega,a4 (by omega),hlen',by show N<=(n+1)*n+a;omega,m,hm,hI,hT,hl,hv'⟩⟩)
end Go.Proofs.Ytlepjmnhekeofaa
