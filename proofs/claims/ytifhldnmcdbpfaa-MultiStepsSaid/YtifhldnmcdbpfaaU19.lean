/- Layer 16: a scan, in plain numbers: what it has seen, and how many steps it makes. -/
import Derived.Test.YtifhldnmcdbpfaaU17
import Derived.Test.YtifhldnmcdbpfaaU18
set_option maxRecDepth 100000
set_option linter.unusedVariables false
set_option linter.unusedSimpArgs false
set_option linter.unnecessarySimpa false
namespace Go.Proofs.Ytifhldnmcdbpfaa
section
open Go.RowKit
variable {calls:List aF} {prt val:aF->Nat} {rho:Nat->Nat} {evs:List EvD}
def nzN (d:List Nat):Nat:=vF (d.map λx=>decide (x≠0))
theorem BB (d:List Nat) (i:Nat):(d.map λx=>decide (x≠0)).getD i false=decide (d.getD i 0≠0):=by
 rw [List.getD_eq_getElem?_getD,List.getElem?_map,List.getD_eq_getElem?_getD]
 cases d[i]? with
 | none=>simp
 | some x=>simp
theorem OJ {d:List Nat} {t x:Nat} (ht:t<d.length) (h:d.getD t 0=0) (hx:x≠0):nzN (d.set t x)=nzN d+1:=by
 unfold nzN
 rw [List.map_set,decide_eq_true hx]
 exact yZ (by rw [List.length_map];exact ht) (by rw [BB,h];rfl)
theorem IV {d:List Nat} {n p:Nat} (hp:p<n) (hl:n<=d.length) (h:∀ i,n<=i->d.getD i 0=0) (h0:d.getD p 0=0):nzN d+1<=n:=
 DY hp (by rw [List.length_map];exact hl) (λi hi=>by rw [BB,h i hi];rfl) (by rw [BB,h0];rfl)
theorem kF (m q:Nat) (old now:List Nat):∀(f k:Nat) (d:List Nat),(∀ i,k<=i->i<k+f->old.getD i 0≠now.getD i 0->now.getD i 0≠0/\aX m q (now.getD i 0)<d.length)->
  (∀ d',fU m q old now f k d=(d',none)->d'.length=d.length/\nzN d<=nzN d'/\((∃ i,k<=i/\i<k+f/\old.getD i 0≠now.getD i 0)->nzN d+1<=nzN d')/\∀ t,d'.getD t 0=d.getD t 0∨∃ i,k<=i/\i<k+f/\old.getD i 0≠now.getD i 0/\t=aX m q (now.getD i 0)/\d'.getD t 0=now.getD i 0)/\
  (∀ d' A,fU m q old now f k d=(d',some A)->d'.length=d.length/\∃ i,k<=i/\i<k+f/\old.getD i 0≠now.getD i 0/\∃ b,b≠0/\A=max (now.getD i 0) b/\(b=d.getD (aX m q (now.getD i 0)) 0∨∃ i',k<=i'/\i'<i/\old.getD i' 0≠now.getD i' 0/\aX m q (now.getD i' 0)=aX m q (now.getD i 0)/\b=now.getD i' 0))
 | 0,k,d,_=>by
  refine⟨λd' h=>?_,λd' A h=>by cases h⟩
  cases h
  exact⟨rfl,Nat.le_refl _,λ⟨i,h1,h2,_⟩=>by omega,λt=>.inl rfl⟩
 | f+1,k,d,hy=>by
  unfold fU
  by_cases he:old.getD k 0=now.getD k 0
  ·rw [if_pos he]
   obtain⟨a,b⟩:=kF m q old now f (k+1) d (λi h1 h2=>hy i (by omega) (by omega))
   refine⟨λd' h=>?_,λd' A h=>?_⟩
   ·obtain⟨g1,g2,g3,g4⟩:=a d' h
    refine⟨g1,g2,λ⟨i,h1,h2,h3⟩=>?_,λt=>?_⟩
    ·have e:i≠k:=λe=>by subst e;exact h3 he
     exact g3 ⟨i,by omega,by omega,h3⟩
    ·rcases g4 t with h9|⟨i,h1,h2,h3⟩
     ·exact .inl h9
     ·exact .inr ⟨i,by omega,by omega,h3⟩
   ·obtain⟨g0,i,h1,h2,h3,b,h4,h5,h6⟩:=b d' A h
    refine⟨g0,i,by omega,by omega,h3,b,h4,h5,?_⟩
    rcases h6 with h6|⟨i',q1,q2⟩
    ·exact .inl h6
    ·exact .inr ⟨i',by omega,q2⟩
  ·rw [if_neg he]
   obtain⟨y1,y2⟩:=hy k (Nat.le_refl _) (by omega) he
   by_cases hd:d.getD (aX m q (now.getD k 0)) 0≠0
   ·rw [if_pos hd]
    refine⟨λd' h=>(by cases h),λd' A h=>?_⟩
    cases h
    exact⟨rfl,k,Nat.le_refl _,by omega,he,_,hd,rfl,.inl rfl⟩
   ·rw [if_neg hd]
    have hd0:d.getD (aX m q (now.getD k 0)) 0=0:=Classical.not_not.1 hd
    obtain⟨a,b⟩:=kF m q old now f (k+1) (d.set (aX m q (now.getD k 0)) (now.getD k 0)) (λi h1 h2 h3=>by rw [List.length_set];exact hy i (by omega) (by omega) h3)
    have hcnt:=OJ y2 hd0 y1
    have hset:∀ i,(d.set (aX m q (now.getD k 0)) (now.getD k 0)).getD i 0=if i=aX m q (now.getD k 0) then now.getD k 0 else d.getD i 0:=λi=>gJ _ _ _ _ y2
    refine⟨λd' h=>?_,λd' A h=>?_⟩
    ·obtain⟨g1,g2,g3,g4⟩:=a d' h
     refine⟨by rw [g1,List.length_set],by omega,λ_=>by omega,λt=>?_⟩
     rcases g4 t with h9|⟨i,h1,h2,h3⟩
     ·rw [hset] at h9
      by_cases e:t=aX m q (now.getD k 0)
      ·rw [if_pos e] at h9
       exact .inr ⟨k,Nat.le_refl _,by omega,he,e,h9⟩
      ·rw [if_neg e] at h9;exact .inl h9
     ·exact .inr ⟨i,by omega,by omega,h3⟩
    ·obtain⟨g0,i,h1,h2,h3,b,h4,h5,h6⟩:=b d' A h
     refine⟨by rw [g0,List.length_set],i,by omega,by omega,h3,b,h4,h5,?_⟩
     rcases h6 with h6|⟨i',q1,q2⟩
     ·rw [hset] at h6
      by_cases e:aX m q (now.getD i 0)=aX m q (now.getD k 0)
      ·rw [if_pos e] at h6
       exact .inr ⟨k,Nat.le_refl _,by omega,he,e.symm,h6⟩
      ·rw [if_neg e] at h6;exact .inl h6
     ·exact .inr ⟨i',by omega,q2⟩
theorem mI:∀(r l:List Nat),∃ c,c<=r.length/\(∀ i,i<c->r.getD i 0=0)/\(c<r.length->r.getD c 0≠0)/\eF r l=(r.drop c,l++List.replicate c 0)
 | [],l=>⟨0,Nat.le_refl _,λi hi=>absurd hi (Nat.not_lt_zero i),λh=>absurd h (Nat.not_lt_zero 0),by unfold eF;simp⟩
 | 0::r,l=>by
  obtain⟨c,c1,c2,c3,c4⟩:=mI r (l++[0])
  refine⟨c+1,Nat.succ_le_succ c1,λi hi=>?_,λh=>?_,?_⟩
  ·match i with
   | 0=>rfl
   | i+1=>exact c2 i (by omega)
  ·exact c3 (Nat.lt_of_succ_lt_succ h)
  ·show eF r (l++[0])=_
   rw [c4,List.append_assoc,List.replicate_succ];rfl
 | (x+1)::r,l=>⟨0,Nat.zero_le _,λi hi=>absurd hi (Nat.not_lt_zero i),λ_=>by show x+1≠0;omega,by unfold eF;simp⟩
def lS (m:Nat) (calls:List aF) (prt val:aF->Nat) (rho:Nat->Nat) (evs:List EvD) (ws:List Nat) (i mm a:Nat):Prop:=
 ValAt calls prt val evs i mm (if a=0 then 0 else ws.getD a 0)/\(a≠0->∃ jj c,jj<evs.length/\piW calls (aB evs jj)/\c<=m/\a=rho jj+c)
structure MuC (n m:Nat) (calls:List aF) (prt:aF->Nat) (rho:Nat->Nat) (evs:List EvD) (T p I N:Nat) (s:MuD):Prop where
 lt:s.now.length<m
 nilL:s.list=[]
 nilR:s.reads=[]
 own:s.noted.getD p 0=0
 dn:∀ i,n<=i->s.noted.getD i 0=0
 rnd:∃ R,N=R*m+s.now.length/\R<=nzN s.noted+1/\(s.old=[]↔R=0)
 lo:s.old≠[]->s.old.length=m
 cur:∀ i,i<s.now.length->∃ a,I<=a/\a<=T/\(s.old≠[]->s.last<=a)/\fI calls prt rho evs i a (s.now.getD i 0)
 last:s.old≠[]->I<=s.last/\s.last<=T
 prev:s.old≠[]->∀ i,i<m->∃ a,I<=a/\a<=s.last/\fI calls prt rho evs i a (s.old.getD i 0)/\∀ t jj,jj<evs.length->piW calls (aB evs jj)->prt (calls.getD (aB evs jj).call d0)=i->s.noted.getD t 0=rho jj->(aB evs jj).resp<=a
 noted:∀ t,s.noted.getD t 0≠0->∃ jj,jj<evs.length/\piW calls (aB evs jj)/\tn calls (aB evs jj)=t/\s.noted.getD t 0=rho jj/\I<=(aB evs jj).resp
 first:s.old=[]->∀ t,s.noted.getD t 0=0
structure MuW (n m:Nat) (calls:List aF) (prt val:aF->Nat) (rho:Nat->Nat) (evs:List EvD) (ws:List Nat) (T I N:Nat) (s:MuD):Prop where
 len:s.list.length+s.reads.length=m
 head:s.reads≠[]->s.reads.getD 0 0≠0
 steps:N<=(n+1)*m+s.list.length
 mom:∃ mm:Nat,s.moment=(mm:Int)/\I<=mm/\mm<=T/\(∀ i,i<s.list.length->ValAt calls prt val evs i mm (s.list.getD i 0))/\∀ j,j<s.reads.length->lS m calls prt val rho evs ws (s.list.length+j) mm (s.reads.getD j 0)
structure kS (n m:Nat) (calls:List aF) (prt val:aF->Nat) (rho:Nat->Nat) (evs:List EvD) (ws:List Nat) (T p I N:Nat) (s:MuD):Prop where
 n16:s.noted.length=16
 it:I<=T
 body:(s.chosen=false/\MuC n m calls prt rho evs T p I N s)∨(s.chosen=true/\MuW n m calls prt val rho evs ws T I N s)
theorem oL (l:List Nat) (c i:Nat):(l.drop c).getD i 0=l.getD (c+i) 0:=by
 rw [List.getD_eq_getElem?_getD,List.getD_eq_getElem?_getD,List.getElem?_drop]
theorem DK {n m T p I N:Nat} {s:MuD} {ws:List Nat} (h16:s.noted.length=16) (hit:I<=T) (hc:s.chosen=true) (hlen:s.list.length+s.reads.length=m) (hst:N<=(n+1)*m+s.list.length) {mm:Nat} (hm:s.moment=(mm:Int)) (hI:I<=mm) (hT:mm<=T)
  (hv:∀ i,i<s.list.length->ValAt calls prt val evs i mm (s.list.getD i 0)) (hp:∀ j,j<s.reads.length->lS m calls prt val rho evs ws (s.list.length+j) mm (s.reads.getD j 0)):kS n m calls prt val rho evs ws T p I N (gH s):=by
 obtain⟨c,c1,c2,c3,c4⟩:=mI s.reads s.list
 have e:gH s={ s with reads:=s.reads.drop c,list:=s.list++List.replicate c 0 }:=by unfold gH;rw [c4]
 rw [e]
 have hl:(s.list++List.replicate c 0).length=s.list.length+c:=by rw [List.length_append,List.length_replicate]
 refine⟨h16,hit,.inr ⟨hc,⟨by show(s.list++_).length+(s.reads.drop c).length=m;rw [hl,List.length_drop];omega,λhne=>?_,by show N<=_+(s.list++_).length;rw [hl];omega,mm,hm,hI,hT,λi hi=>?_,λj hj=>?_⟩⟩⟩
 ·show(s.reads.drop c).getD 0 0≠0
  rw [oL]
  refine c3 ?_
  have:0<(s.reads.drop c).length:=List.length_pos_iff.2 hne
  rw [List.length_drop] at this
  omega
 ·have hi':i<(s.list++List.replicate c 0).length:=hi
  rw [hl] at hi'
  show ValAt calls prt val evs i mm ((s.list++List.replicate c 0).getD i 0)
  by_cases h9:i<s.list.length
  ·rw [gB h9];exact hv i h9
  ·rw [CG (by omega)]
   have h8:=(hp (i - s.list.length) (by omega)).1
   rw [c2 _ (by omega),if_pos rfl,show s.list.length+(i - s.list.length)=i by omega] at h8
   exact h8
 ·have hj':j<(s.reads.drop c).length:=hj
  rw [List.length_drop] at hj'
  show lS m calls prt val rho evs ws ((s.list++List.replicate c 0).length+j) mm ((s.reads.drop c).getD j 0)
  rw [hl,oL,Nat.add_assoc]
  exact hp (c+j) (by omega)
end
section
open Go.RowKit
variable {calls:List aF} {prt val:aF->Nat} {rho:Nat->Nat} {evs:List EvD}
theorem wQ {a b:List Nat} (h1:a.length=b.length) (h:∀ i,i<a.length->a.getD i 0=b.getD i 0):a=b:=by
 apply List.ext_getElem h1
 intro i i1 i2
 have:=h i i1
 rw [List.getD_eq_getElem?_getD,List.getElem?_eq_getElem i1,List.getD_eq_getElem?_getD,List.getElem?_eq_getElem i2] at this
 exact this
theorem tL {m A j:Nat} (h:j<m):(cB m A).getD j 0=A+1+j:=by
 unfold cB
 rw [List.getD_eq_getElem?_getD,List.getElem?_map,List.getElem?_range h];rfl
structure yD (n m q:Nat) (calls:List aF) (prt val:aF->Nat) (rho:Nat->Nat) (evs:List EvD) (ws:List Nat) (traces:Int->List Int) (T:Nat):Prop where
 ok:mE m calls prt val rho evs ws traces T
 wr:∀ x,x<evs.length->piW calls (aB evs x)->aX m q (rho x)=tn calls (aB evs x)/\tn calls (aB evs x)<n
 ord:∀ x y,x<evs.length->y<evs.length->piW calls (aB evs x)->piW calls (aB evs y)->tn calls (aB evs x)=tn calls (aB evs y)->(aB evs x).resp<(aB evs y).resp->rho x<rho y
 tick:∀ x,x<evs.length->(aB evs x).resp<=T
theorem zJ {n m q T I N R p:Nat} {s:MuD} {ws:List Nat} {traces:Int->List Int} {wd:WD} (hm:1<=m) (hn:n<=16) (hp:p<n) (hnow:wd.now=T) (htr:wd.traces=traces) (hR:yD n m q calls prt val rho evs ws traces T) (hmine:∀ x,x<evs.length->piW calls (aB evs x)->tn calls (aB evs x)=p->(aB evs x).resp<I)
  (h16:s.noted.length=16) (hit:I<=T) (hown:s.noted.getD p 0=0) (hdn:∀ i,n<=i->s.noted.getD i 0=0) (hc:s.chosen=false) (hnl:s.now.length=m) (hL:s.list=[]) (hRd:s.reads=[]) (hst:N=(R+1)*m) (hfew:R<=nzN s.noted+1) (hR0:s.old=[]↔R=0) (hlo:s.old≠[]->s.old.length=m)
  (hcur:∀ i,i<m->∃ a,I<=a/\a<=T/\(s.old≠[]->s.last<=a)/\fI calls prt rho evs i a (s.now.getD i 0))
  (hlast:s.old≠[]->I<=s.last/\s.last<=T)
  (hprev:s.old≠[]->∀ i,i<m->∃ a,I<=a/\a<=s.last/\fI calls prt rho evs i a (s.old.getD i 0)/\∀ t jj,jj<evs.length->piW calls (aB evs jj)->prt (calls.getD (aB evs jj).call d0)=i->s.noted.getD t 0=rho jj->(aB evs jj).resp<=a)
  (hnoted:∀ t,s.noted.getD t 0≠0->∃ jj,jj<evs.length/\piW calls (aB evs jj)/\tn calls (aB evs jj)=t/\s.noted.getD t 0=rho jj/\I<=(aB evs jj).resp)
  (hfirst:s.old=[]->∀ t,s.noted.getD t 0=0):kS n m calls prt val rho evs ws T p I N (dH m q wd s):=by
 have hcl:=IV hp (by omega) hdn hown
 have hnn:s.now≠[]:=λe=>by rw [e] at hnl;simp at hnl;omega
 have hpos:∀ x,x<evs.length->piW calls (aB evs x)->0<rho x:=λx hx hw=>(hR.ok.pos x hx hw).1
 unfold dH
 by_cases ho:s.old=[]
 ·rw [if_pos ho]
  refine⟨h16,hit,.inl ⟨hc,⟨by show 0<m;omega,hL,hRd,hown,hdn,⟨R+1,by show N=(R+1)*m+0;omega,by show R+1<=nzN s.noted+1;have:=hR0.1 ho;omega,⟨λe=>absurd e hnn,λe=>absurd e (Nat.succ_ne_zero R)⟩⟩,λ_=>hnl,λi hi=>absurd hi (Nat.not_lt_zero i),λ_=>by show I<=wd.now/\wd.now<=T;omega,λ_ i hi=>?_,hnoted,λe=>absurd e hnn⟩⟩⟩
  obtain⟨a,a1,a2,_,a4⟩:=hcur i hi
  refine⟨a,a1,by show a<=wd.now;omega,a4,λt jj j1 j2 _ j4=>?_⟩
  have j4:s.noted.getD t 0=rho jj:=j4
  rw [hfirst ho t] at j4
  have:=hpos jj j1 j2
  omega
 rw [if_neg ho]
 obtain⟨l1,l2⟩:=hlast ho
 have hol:=hlo ho
 by_cases heq:s.old=s.now
 ·rw [if_pos heq]
  refine DK (mm:=s.last) h16 hit rfl (by show s.list.length+(s.reads++s.now).length=m;rw [hL,hRd];simpa using hnl) ?_ rfl l1 l2 (λi hi=>?_) (λj hj=>?_)
  ·show N<=(n+1)*m+s.list.length
   rw [hL,hst]
   exact Nat.le_trans (Nat.mul_le_mul_right m (by omega)) (Nat.le_add_right _ _)
  ·have hi:i<s.list.length:=hi
   rw [hL] at hi;exact absurd hi (Nat.not_lt_zero i)
  ·have hj:j<(s.reads++s.now).length:=hj
   rw [hRd,List.nil_append,hnl] at hj
   show lS m calls prt val rho evs ws (s.list.length+j) s.last ((s.reads++s.now).getD j 0)
   rw [hL,hRd,List.nil_append,List.length_nil,Nat.zero_add]
   obtain⟨a,a1,a2,a3,_⟩:=hprev ho j hj
   obtain⟨b,b1,b2,b3,b4⟩:=hcur j hj
   rw [heq] at a3
   obtain⟨oj,o1,o2⟩:=a3.between hR.ok.inj hpos b4 a2 (b3 ho)
   match oj,o1,o2 with
   | none,o1,o2=>
    have e0:s.now.getD j 0=0:=o2
    rw [e0]
    exact⟨⟨none,o1,rfl⟩,λh9=>absurd rfl h9⟩
   | some y,o1,o2=>
    have e0:s.now.getD j 0=rho y:=o2
    have hy:=hpos y o1.1 o1.2.1
    rw [e0]
    refine⟨⟨some y,o1,?_⟩,λ_=>⟨y,0,o1.1,o1.2.1,Nat.zero_le _,rfl⟩⟩
    rw [if_neg (by omega)]
    exact hR.ok.value y o1.1 o1.2.1
 rw [if_neg heq]
 have hdf:∀ i,i<m->s.old.getD i 0≠s.now.getD i 0->∃ a b j,I<=a/\a<=s.last/\(∀ t jj,jj<evs.length->piW calls (aB evs jj)->prt (calls.getD (aB evs jj).call d0)=i->s.noted.getD t 0=rho jj->(aB evs jj).resp<=a)/\b<=T/\cK calls prt evs i b (some j)/\s.now.getD i 0=rho j/\a<(aB evs j).resp:=λi hi hne=>by
  obtain⟨a,a1,a2,a3,a4⟩:=hprev ho i hi
  obtain⟨b,b1,b2,b3,b4⟩:=hcur i hi
  obtain⟨j,j1,j2,j3⟩:=a3.differ hR.ok.apart (Nat.le_trans a2 (b3 ho)) b4 hne
  exact⟨a,b,j,a1,a2,a4,b2,j1,j2,j3⟩
 have hlim:∀ i,s.old.getD i 0≠s.now.getD i 0->i<m:=λi hne=>by
  refine Nat.lt_of_not_le λh9=>hne ?_
  rw [List.getD_eq_getElem?_getD,List.getElem?_eq_none (by omega),List.getD_eq_getElem?_getD,List.getElem?_eq_none (by omega)]
 obtain⟨s1,s2⟩:=kF m q s.old s.now m 0 s.noted (λi _ _ hne=>by
  obtain⟨a,b,j,_,_,_,_,j1,j2,_⟩:=hdf i (hlim i hne) hne
  have:=hpos j j1.1 j1.2.1
  rw [j2]
  refine⟨by omega,?_⟩
  have hw:=hR.wr j j1.1 j1.2.1
  rw [hw.1];omega)
 cases hd:fU m q s.old s.now m 0 s.noted with
 | mk d o=>
  cases o with
  | some A=>
   obtain⟨g0,i,_,i2,i3,b,b0,bA,bb⟩:=s2 d A hd
   rw [Nat.zero_add] at i2
   obtain⟨ai,bi,j,a1,a2,a3,b2,j1,j2,j3⟩:=hdf i i2 i3
   have hwj:=hR.wr j j1.1 j1.2.1
   have hother:∃ jj,jj<evs.length/\piW calls (aB evs jj)/\tn calls (aB evs jj)=tn calls (aB evs j)/\b=rho jj/\I<=(aB evs jj).resp/\jj≠j:=by
    rcases bb with bb|⟨i',_,q2,q3,q4,q5⟩
    ·rw [j2,hwj.1] at bb
     obtain⟨jj,k1,k2,k3,k4,k5⟩:=hnoted (tn calls (aB evs j)) (by rw [<-bb];exact b0)
     refine⟨jj,k1,k2,k3,bb.trans k4,k5,λe=>?_⟩
     subst e
     have:=a3 _ jj k1 k2 j1.2.2.1 k4
     omega
    ·obtain⟨a',b',j',p1,p2,p3,p4,p5,p6,p7⟩:=hdf i' (by omega) q3
     have hwj':=hR.wr j' p5.1 p5.2.1
     refine⟨j',p5.1,p5.2.1,?_,q5.trans p6,by omega,λe=>?_⟩
     ·rw [<-hwj.1,<-hwj'.1,<-j2,<-p6];exact q4
     ·subst e
      have:=p5.2.2.1
      have:=j1.2.2.1
      omega
   obtain⟨jj,k1,k2,k3,k4,k5,k6⟩:=hother
   have hpw:=j1.2.1
   have hx:∃ x,x<evs.length/\piW calls (aB evs x)/\A=rho x/\I<(aB evs x).inv:=by
    rcases Nat.lt_trichotomy (aB evs jj).resp (aB evs j).resp with h9|h9|h9
    ·refine⟨j,j1.1,hpw,?_,?_⟩
     ·have:=hR.ord jj j k1 j1.1 k2 hpw k3 h9
      rw [bA,j2,k4];omega
     ·have:=hR.ok.seq jj j k1 j1.1 k2 hpw k3 h9;omega
    ·exact absurd (hR.ok.apart jj j k1 j1.1 k2.2.2.2 h9) k6
    ·refine⟨jj,k1,k2,?_,?_⟩
     ·have:=hR.ord j jj j1.1 k1 hpw k2 k3.symm h9
      rw [bA,j2,k4];omega
     ·have:=hR.ok.seq j jj j1.1 k1 hpw k2 k3.symm h9;omega
   obtain⟨x,x1,x2,x3,x4⟩:=hx
   obtain⟨mm,v1,v2,v3,v4⟩:=hR.ok.view x x1 x2
   have hxT:=hR.tick x x1
   have hxp:=hpos x x1 x2
   refine⟨by show d.length=16;omega,hit,.inr ⟨rfl,⟨?_,λ_=>?_,?_,mm,?_,by omega,by omega,λi hi=>?_,λj hj=>?_⟩⟩⟩
   ·show s.list.length+(s.reads++cB m A).length=m
    rw [hL,hRd];simp [cB]
   ·show(s.reads++cB m A).getD 0 0≠0
    rw [hRd,List.nil_append,tL (by omega)];omega
   ·show N<=(n+1)*m+s.list.length
    rw [hL,hst]
    exact Nat.le_trans (Nat.mul_le_mul_right m (by omega)) (Nat.le_add_right _ _)
   ·show(wd.traces (A:Int)).headD 0=(mm:Int)
    rw [htr,x3,v1];rfl
   ·have hi:i<s.list.length:=hi
    rw [hL] at hi;exact absurd hi (Nat.not_lt_zero i)
   ·have hj:j<(s.reads++cB m A).length:=hj
    have hjm:j<m:=by rw [hRd] at hj;simpa [cB] using hj
    show lS m calls prt val rho evs ws (s.list.length+j) mm ((s.reads++cB m A).getD j 0)
    rw [hL,hRd,List.nil_append,List.length_nil,Nat.zero_add,tL hjm]
    refine⟨?_,λ_=>⟨x,1+j,x1,x2,by omega,by omega⟩⟩
    rw [if_neg (by omega),x3]
    exact v4 j hjm
  | none=>
   obtain⟨g0,_,g3,g4⟩:=s1 d hd
   rw [Nat.zero_add] at g3 g4
   have hex:∃ i,0<=i/\i<m/\s.old.getD i 0≠s.now.getD i 0:=by
    by_cases h9:∃ i,0<=i/\i<m/\s.old.getD i 0≠s.now.getD i 0
    ·exact h9
    ·exfalso
     refine heq (wQ (by omega) λi hi=>?_)
     by_cases e:s.old.getD i 0=s.now.getD i 0
     ·exact e
     ·exact absurd ⟨i,Nat.zero_le _,by omega,e⟩ h9
   have hmore:=g3 hex
   have hnew:∀ t,d.getD t 0=s.noted.getD t 0∨∃ i a j,i<m/\I<=a/\a<(aB evs j).resp/\j<evs.length/\piW calls (aB evs j)/\prt (calls.getD (aB evs j).call d0)=i/\tn calls (aB evs j)=t/\d.getD t 0=rho j/\s.now.getD i 0=rho j:=λt=>by
    rcases g4 t with h9|⟨i,_,h2,h3,h4,h5⟩
    ·exact .inl h9
    ·obtain⟨a,b,j,a1,a2,a3,b2,j1,j2,j3⟩:=hdf i h2 h3
     exact .inr ⟨i,a,j,h2,a1,j3,j1.1,j1.2.1,j1.2.2.1,by rw [h4,j2,(hR.wr j j1.1 j1.2.1).1],h5.trans j2,j2⟩
   refine⟨by show d.length=16;omega,hit,.inl ⟨hc,⟨by show 0<m;omega,hL,hRd,?_,λt ht=>?_,⟨R+1,by show N=(R+1)*m+0;omega,by show R+1<=nzN d+1;omega,⟨λe=>absurd e hnn,λe=>absurd e (Nat.succ_ne_zero R)⟩⟩,λ_=>hnl,λi hi=>absurd hi (Nat.not_lt_zero i),λ_=>by show I<=wd.now/\wd.now<=T;omega,λ_ i hi=>?_,λt ht=>?_,λe=>absurd e hnn⟩⟩⟩
   ·show d.getD p 0=0
    rcases hnew p with h9|⟨i,a,j,_,q1,q2,q3,q4,_,q6,_⟩
    ·rw [h9];exact hown
    ·have:=hmine j q3 q4 q6;omega
   ·show d.getD t 0=0
    rcases hnew t with h9|⟨i,a,j,_,q1,q2,q3,q4,_,q6,_⟩
    ·rw [h9];exact hdn t ht
    ·have:=(hR.wr j q3 q4).2;omega
   ·obtain⟨a,a1,a2,a3,a4⟩:=hprev ho i hi
    obtain⟨b,b1,b2,b3,b4⟩:=hcur i hi
    refine⟨b,b1,by show b<=wd.now;omega,b4,λt jj k1 k2 k3 k4=>?_⟩
    have k4:d.getD t 0=rho jj:=k4
    rcases hnew t with h9|⟨i',a',j,_,q1,q2,q3,q4,q5,q6,q7,q8⟩
    ·have:=a4 t jj k1 k2 k3 (h9.symm.trans k4)
     have:=b3 ho
     omega
    ·have e:j=jj:=hR.ok.inj j jj q3 k1 q4 k2 (q7.symm.trans k4)
     subst e
     have e2:i'=i:=q5.symm.trans k3
     subst e2
     obtain⟨oj,o1,o2⟩:=b4
     match oj,o1,o2 with
     | none,o1,o2=>
      have o2:s.now.getD i' 0=0:=o2
      have:=hpos j q3 q4
      omega
     | some y,o1,o2=>
      have o2:s.now.getD i' 0=rho y:=o2
      have e3:=hR.ok.inj y j o1.1 q3 o1.2.1 q4 (o2.symm.trans q8)
      subst e3
      exact o1.resp_le
   ·have ht:d.getD t 0≠0:=ht
    show ∃ jj,_/\_/\_/\d.getD t 0=rho jj/\_
    rcases hnew t with h9|⟨i',a',j,_,q1,q2,q3,q4,q5,q6,q7,q8⟩
    ·rw [h9] at ht ⊢
     exact hnoted t ht
    ·exact⟨j,q3,q4,q6,q7,by omega⟩
theorem TG {n m q T I N p:Nat} {s:MuD} {ws:List Nat} {traces:Int->List Int} {wd:WD} (hm:1<=m) (hn:n<=16) (hp:p<n) (hnow:wd.now=T) (htr:wd.traces=traces) (hws:wd.mem.ws=ws) (hR:yD n m q calls prt val rho evs ws traces T) (hmine:∀ x,x<evs.length->piW calls (aB evs x)->tn calls (aB evs x)=p->(aB evs x).resp<I)
  (h:kS n m calls prt val rho evs ws T p I N s) (hlive:aS s=false):eQ s<ws.length/\kS n m calls prt val rho evs ws T p I (N+1) (bJ m q wd s):=by
 obtain⟨h16,hit,hb⟩:=h
 rcases hb with⟨hc,c⟩|⟨hc,c⟩
 ·have hat:=c.lt
  have ha:eQ s=s.now.length:=by unfold eQ;rw [if_neg (by rw [hc];decide)]
  have hlt:s.now.length<ws.length:=Nat.lt_of_lt_of_le hat hR.ok.nw
  have hg:dP wd (eQ s)=ws.getD s.now.length 0:=by rw [ha,uM (by rw [hws];exact hlt),hws]
  refine⟨by rw [ha];exact hlt,?_⟩
  unfold bJ
  rw [hg]
  obtain⟨g,hgg⟩:∃ g,g=ws.getD s.now.length 0:=⟨_,rfl⟩
  rw [<-hgg]
  have hcell:=hR.ok.cell s.now.length hat
  rw [<-hgg] at hcell
  obtain⟨R,r1,r2,r3⟩:=c.rnd
  have hcur:∀ i,i<s.now.length+1->∃ a,I<=a/\a<=T/\(s.old≠[]->s.last<=a)/\fI calls prt rho evs i a ((s.now++[g]).getD i 0):=λi hi=>by
   by_cases e:i=s.now.length
   ·rw [e,qI]
    exact⟨T,hit,Nat.le_refl _,λhr=>(c.last hr).2,hcell⟩
   ·rw [gB (by omega)]
    exact c.cur i (by omega)
  have hl1:(s.now++[g]).length=s.now.length+1:=by simp
  unfold qN
  rw [if_neg (by rw [hc];decide)]
  by_cases hl:s.now.length+1=m
  ·rw [if_pos hl]
   refine zJ (wd:=wd) (R:=R) (s:={ s with now:=s.now++[g] }) hm hn hp hnow htr hR hmine h16 hit c.own c.dn hc (by show(s.now++[g]).length=m;omega) c.nilL c.nilR ?_ r2 r3 c.lo (λi hi=>hcur i (by omega)) c.last c.prev c.noted c.first
   rw [r1,Nat.succ_mul];omega
  ·rw [if_neg hl]
   exact⟨h16,hit,.inl ⟨hc,⟨by show(s.now++[g]).length<m;omega,c.nilL,c.nilR,c.own,c.dn,⟨R,by show N+1=R*m+(s.now++[g]).length;omega,r2,r3⟩,c.lo,λi hi=>hcur i (by have hi:i<(s.now++[g]).length:=hi;omega),c.last,c.prev,c.noted,c.first⟩⟩⟩
 ·have hne:s.reads≠[]:=λe=>by
   have:aS s=true:=by unfold aS;rw [hc,decide_eq_true e];rfl
   rw [this] at hlive;cases hlive
  obtain⟨mm,m1,m2,m3,m4,m5⟩:=c.mom
  have hrl:0<s.reads.length:=List.length_pos_iff.2 hne
  have hh:=c.head hne
  obtain⟨p1,p2⟩:=m5 0 hrl
  obtain⟨jj,cc,j1,j2,j3,j4⟩:=p2 hh
  have hy:=hR.ok.pos jj j1 j2
  have ha:eQ s=s.reads.getD 0 0:=by unfold eQ;rw [if_pos hc]
  have hlt:s.reads.getD 0 0<ws.length:=by omega
  have hg:dP wd (eQ s)=ws.getD (s.reads.getD 0 0) 0:=by rw [ha,uM (by rw [hws];exact hlt),hws]
  refine⟨by rw [ha];exact hlt,?_⟩
  unfold bJ qN
  rw [hg,if_pos hc]
  rw [if_neg hh,Nat.add_zero] at p1
  obtain⟨g,hgg⟩:∃ g,g=ws.getD (s.reads.getD 0 0) 0:=⟨_,rfl⟩
  rw [<-hgg] at p1 ⊢
  have hl1:(s.list++[g]).length=s.list.length+1:=by simp
  have hlen:=c.len
  refine DK (s:={ s with list:=s.list++[g],reads:=s.reads.tail }) (mm:=mm) h16 hit hc (by show(s.list++[g]).length+s.reads.tail.length=m;rw [hl1,List.length_tail];omega) (by show N+1<=(n+1)*m+(s.list++[g]).length;have:=c.steps;omega) m1 m2 m3 (λi hi=>?_) (λj hj=>?_)
  ·have hi:i<(s.list++[g]).length:=hi
   show ValAt calls prt val evs i mm ((s.list++[g]).getD i 0)
   by_cases e:i=s.list.length
   ·rw [e,qI];exact p1
   ·rw [gB (by omega)];exact m4 i (by omega)
  ·have hj:j<s.reads.tail.length:=hj
   rw [List.length_tail] at hj
   show lS m calls prt val rho evs ws ((s.list++[g]).length+j) mm (s.reads.tail.getD j 0)
   rw [hl1,show s.reads.tail.getD j 0=s.reads.getD (1+j) 0 by rw [<-List.drop_one,oL],Nat.add_assoc]
   exact m5 (1+j) (by omega)
section
variable {S:Sys} {rho':Nat->Nat} {st:aP S} {q j:Nat} {evs':List EvD} {e1:EvD}
theorem lS.keep {m i mm a:Nat} {ws ws':List Nat} (h:lS m calls prt val rho st.evs ws i mm a) (hx:Next calls st q evs' j e1) (hr:e1.resp=0∨e1.resp=st.wd.now+1) (hT:mm<=st.wd.now) (hrho:∀ x,x<st.evs.length->piW calls (aB st.evs x)->rho' x=rho x) (hws:∀ x,x<st.evs.length->piW calls (aB st.evs x)->∀ a,a<=m->ws'.getD (rho x+a) 0=ws.getD (rho x+a) 0):lS m calls prt val rho' evs' ws' i mm a:=by
 obtain⟨h1,h2⟩:=h
 have h3:=h1.keep hx hr hT
 by_cases h0:a=0
 ·rw [if_pos h0] at h3
  exact⟨by rw [if_pos h0];exact h3,λh9=>absurd h0 h9⟩
 ·obtain⟨jj,c,j1,j2,j3,j4⟩:=h2 h0
  obtain⟨p1,p2,p3⟩:=hx.piw j1 j2
  rw [if_neg h0] at h3
  refine⟨by rw [if_neg h0,j4,hws jj j1 j2 c j3,<-j4];exact h3,λ_=>⟨jj,c,p1,by rw [p3];exact j2,j3,by rw [hrho jj j1 j2];exact j4⟩⟩
theorem kS.keep {n m p I N:Nat} {s:MuD} {ws ws':List Nat} (hnj:piW calls e1->0<rho' j/\∀ x,x<st.evs.length->piW calls (aB st.evs x)->rho x≠rho' j) (h:kS n m calls prt val rho st.evs ws st.wd.now p I N s) (hx:Next calls st q evs' j e1) (hr:e1.resp=0∨e1.resp=st.wd.now+1) (hrho:∀ x,x<st.evs.length->piW calls (aB st.evs x)->rho' x=rho x) (hws:∀ x,x<st.evs.length->piW calls (aB st.evs x)->∀ a,a<=m->ws'.getD (rho x+a) 0=ws.getD (rho x+a) 0) :
  kS n m calls prt val rho' evs' ws' (st.wd.now+1) p I N s:=by
 obtain⟨h16,hit,hb⟩:=h
 refine⟨h16,by omega,?_⟩
 rcases hb with⟨hc,c⟩|⟨hc,c⟩
 ·refine .inl ⟨hc,⟨c.lt,c.nilL,c.nilR,c.own,c.dn,c.rnd,c.lo,λi hi=>?_,λhr1=>?_,λhr1 i hi=>?_,λt ht=>?_,c.first⟩⟩
  ·obtain⟨a,a1,a2,a3,a4⟩:=c.cur i hi
   exact⟨a,a1,by omega,a3,a4.keep hx hr a2 hrho⟩
  ·have:=c.last hr1;omega
  ·obtain⟨a,a1,a2,a3,a4⟩:=c.prev hr1 i hi
   have:=(c.last hr1).2
   refine⟨a,a1,a2,a3.keep hx hr (by omega) hrho,λt jj k1 k2 k3 k4=>?_⟩
   by_cases e:jj=j
   ·subst e
    rw [hx.self] at k2
    obtain⟨n1,n2⟩:=hnj k2
    by_cases h0:s.noted.getD t 0=0
    ·omega
    ·obtain⟨x,x1,x2,_,x4,_⟩:=c.noted t h0
     exact absurd (x4.symm.trans k4) (n2 x x1 x2)
   ·obtain⟨p1,p2⟩:=hx.other jj k1 e
    rw [p2] at k2 k3 ⊢
    exact a4 t jj p1 k2 k3 (k4.trans (hrho jj p1 k2))
  ·obtain⟨jj,j1,j2,j3,j4,j5⟩:=c.noted t ht
   obtain⟨p1,p2,p3⟩:=hx.piw j1 j2
   exact⟨jj,p1,by rw [p3];exact j2,by rw [p3];exact j3,by rw [hrho jj j1 j2];exact j4,by rw [p3];exact j5⟩
 ·obtain⟨mm,m1,m2,m3,m4,m5⟩:=c.mom
  exact .inr ⟨hc,⟨c.len,c.head,c.steps,mm,m1,m2,by omega,λi hi=>(m4 i hi).keep hx hr m3,λj hj=>(m5 j hj).keep hx hr m3 hrho hws⟩⟩
end
end
end Go.Proofs.Ytifhldnmcdbpfaa
