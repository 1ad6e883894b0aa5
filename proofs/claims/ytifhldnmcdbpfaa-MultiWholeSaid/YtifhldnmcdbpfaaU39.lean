/- Layer 16: a report is that of operations done one by one (16.4), in plain numbers. -/
import Derived.Test.YtifhldnmcdbpfaaU35
import Derived.Test.YtifhldnmcdbpfaaU38
set_option maxRecDepth 100000
set_option linter.unusedVariables false
set_option linter.unusedSimpArgs false
set_option linter.unnecessarySimpa false
namespace Go.Proofs.Ytifhldnmcdbpfaa
open Go.RowKit
variable {n m q:Nat} {calls:List aF}
def jC (n m q:Nat) (st:List Nat) (c:aF):List Nat×lU:=wV m q n st c c.a c.b
def SK (calls:List aF) (evs:List EvD) (l:List Nat) (t:Nat):Option Nat->Prop
 | none=>∀ j,j∈l->¬ (piW calls (aB evs j)/\gV (calls.getD (aB evs j).call d0)=t)
 | some j=>j∈l/\piW calls (aB evs j)/\gV (calls.getD (aB evs j).call d0)=t/\∀ j',j'∈l->piW calls (aB evs j')->gV (calls.getD (aB evs j').call d0)=t->(aB evs j').resp<=(aB evs j).resp
structure UE (n m:Nat) (calls:List aF) (evs:List EvD) (l:List Nat) (F:List Nat):Prop where
 len:F.length=m+n
 cntl:∀ t,t<n->F.getD (m+t) 0=(l.filter λj=>isU calls t (aB evs j)).length
 last:∀ t,t<m->∃ oj,SK calls evs l t oj/\F.getD t 0=valOf calls iZ evs oj
set_option maxHeartbeats 1000000 in
theorem FX (hm1:1<=m) (dF:m<=16) (hq1:1<=q) (dQ:q<=64) {picks:List Int} (hck:checkN n calls picks.length=0) :
  nK (jC n m q) (List.replicate (m+n) 0) calls n (iM (aR n m q) fA (List.replicate (bF n m q) 0) calls picks):=by
 obtain⟨hn1,hn16⟩:=zD hck
 have hnp:=zN hck
 have hthr':=DC hck
 have hthr:∀ c,c<calls.length->0<=(calls.getD c d0).thread/\(calls.getD c d0).thread<n:=λc hc=>by have:=tK hck c hc;omega
 have htk:=kG (S:=aR n m q) (tX n m q 0 0 hm1 dF hq1 dQ).now (bM (aR n m q) fA (List.replicate (bF n m q) 0) calls) picks (calls:=calls)
 rw [show(bM (aR n m q) fA (List.replicate (bF n m q) 0) calls).wd.now=0 from rfl,show(bM (aR n m q) fA (List.replicate (bF n m q) 0) calls).idle=0 from rfl] at htk
 obtain⟨hg,hT,rho,h⟩:=uB hck hm1 dF hq1 dQ picks
 obtain⟨st,hst⟩:∃ st,st=dX (aR n m q) calls (bM (aR n m q) fA (List.replicate (bF n m q) 0) calls) picks:=⟨_,rfl⟩
 rw [<-hst] at hg hT h htk
 have hP:iM (aR n m q) fA (List.replicate (bF n m q) 0) calls picks=kJ (aR n m q) st:=by rw [hst];rfl
 rw [hP]
 clear hP hst
 have hlen:=oI (calls:=calls) hg
 have hat:=λi hi=>LF hg hthr' (i:=i) hi
 have hmk:=λp=>yL h.marks p
 have hop:∀ i,i<st.evs.length->(aB st.evs i).resp=0->aB (bR (aR n m q) st) i={ aB st.evs i with key:=[] }:=λi hi hr=>by
  obtain⟨s,_,e⟩:=(hat i hi).2 hr
  rw [e]
  show({ aB st.evs i with key:=st.wd.marks.getD _ [] }:EvD)=_
  rw [hmk]
 have hin:∀ i,i∈dD (bR (aR n m q) st)->i<st.evs.length/\(aB st.evs i).resp≠0/\aB (bR (aR n m q) st) i=aB st.evs i:=λi hi=>by
  obtain⟨h1,h2⟩:=tH hi
  rw [hlen] at h1
  by_cases hr:(aB st.evs i).resp=0
  ·exact absurd (show kAt _ i=[] by unfold kAt;rw [hop i h1 hr]) h2
  ·exact⟨h1,hr,(hat i h1).1 hr⟩
 have hkey:∀ i,i<st.evs.length->(aB st.evs i).resp≠0->∃(t:Nat) (x:List Int),(aB st.evs i).key=(2*(t:Int))::x/\(aB st.evs i).inv<=t/\t<=(aB st.evs i).resp:=λi hi hr=>by
  have ht:=h.told i hi hr
  have hre:=(hg.ev.resp i hi hr).1
  by_cases hb:bY calls (aB st.evs i)=0/\kindOf calls (aB st.evs i)=1
  ·obtain⟨z,_,_,_,a4,a5,a6,_⟩:=ht.rd hb.1 hb.2
   exact⟨z,_,a4,a5,a6⟩
  ·exact⟨_,_,(ht.el hb).1,hre,Nat.le_refl _⟩
 have hrows:mW calls n (kJ (aR n m q) st):=by
  refine FY hg (by omega) (by omega) hthr ⟨λi hi hr=>?_,λp s kk hp=>.inl (hmk p)⟩ h.cf h.ca (by omega)
  obtain⟨t,x,e,t1,t2⟩:=hkey i hi hr
  rw [e]
  exact⟨by simp,by simp;omega,by simp;omega⟩
 have hwk:∀ j,j<st.evs.length->piW calls (aB st.evs j)->aB (bR (aR n m q) st) j=aB st.evs j/\kAt (bR (aR n m q) st) j=[2*((aB st.evs j).resp:Int)]/\j∈dD (bR (aR n m q) st):=λj hj hp=>by
  have he:=(hat j hj).1 hp.2.2.2
  have hnb:¬ (bY calls (aB st.evs j)=0/\kindOf calls (aB st.evs j)=1):=λx=>by have:=hp.2.1;omega
  have hk1:kAt (bR (aR n m q) st) j=[2*((aB st.evs j).resp:Int)]:=by unfold kAt;rw [he];exact((h.told j hj hp.2.2.2).el hnb).1
  exact⟨he,hk1,((iD _ _).2 j).2 ⟨by rw [hlen];exact hj,by rw [hk1];simp⟩⟩
 have hpw:∀ j,j<st.evs.length->(piW calls (aB (bR (aR n m q) st) j)↔piW calls (aB st.evs j)):=λj hj=>by
  by_cases hr:(aB st.evs j).resp=0
  ·rw [hop j hj hr]
   exact⟨λx=>absurd hr x.2.2.2,λx=>absurd hr x.2.2.2⟩
  ·rw [(hat j hj).1 hr]
 have hlt:∀ j i,j<st.evs.length->piW calls (aB st.evs j)->i∈dD (bR (aR n m q) st)->¬ (bY calls (aB st.evs i)=0/\kindOf calls (aB st.evs i)=1)->(jB (bR (aR n m q) st) j i↔(aB st.evs j).resp<(aB st.evs i).resp):=λj i hj hp hi hnb=>by
  obtain⟨i1,i2,i3⟩:=hin i hi
  have hki:kAt (bR (aR n m q) st) i=[2*((aB st.evs i).resp:Int)]:=by unfold kAt;rw [i3];exact((h.told i i1 i2).el hnb).1
  have hkj:=(hwk j hj hp).2.1
  unfold jB
  rw [hki,hkj,VW]
  constructor
  ·rintro(h9|⟨h9,h8⟩)
   ·have:=of_decide_eq_true h9;omega
   ·have h7:=(List.cons.inj h9).1
    have:=h.rc.apart j i hj i1 hp.2.2.2 (by omega)
    omega
  ·intro h9
   exact .inl (decide_eq_true (by omega))
 have hltR:∀(j i z:Nat),j<st.evs.length->piW calls (aB st.evs j)->i∈dD (bR (aR n m q) st)->(aB st.evs i).key=[2*(z:Int),2*((aB st.evs i).resp:Int)]->(jB (bR (aR n m q) st) j i↔(aB st.evs j).resp<=z):=λj i z hj hp hi hke=>by
  obtain⟨i1,i2,i3⟩:=hin i hi
  have hki:kAt (bR (aR n m q) st) i=[2*(z:Int),2*((aB st.evs i).resp:Int)]:=by unfold kAt;rw [i3];exact hke
  have hkj:=(hwk j hj hp).2.1
  unfold jB
  rw [hki,hkj,TC]
  constructor
  ·rintro(h9|⟨h9,_⟩)
   ·have:=of_decide_eq_true h9;omega
   ·have h7:=(List.cons.inj h9).2
    cases h7
  ·intro h9
   exact .inl (decide_eq_true (by omega))
 have hspec:=(iD (bR (aR n m q) st) (bR (aR n m q) st).length).1
 have hmem:∀ l i z,dD (bR (aR n m q) st)=l++i::z->∀ j,j∈dD (bR (aR n m q) st)->(j∈l↔jB (bR (aR n m q) st) j i):=λl i z hL j hj=>by
  have hp:(l++i::z).Pairwise (jB (bR (aR n m q) st)):=by rw [<-hL];exact hspec
  obtain⟨_,p2,p3⟩:=List.pairwise_append.1 hp
  obtain⟨p4,_⟩:=List.pairwise_cons.1 p2
  refine⟨λh9=>p3 j h9 i (List.mem_cons_self ..),λh9=>?_⟩
  rw [hL] at hj
  rcases List.mem_append.1 hj with h8|h8
  ·exact h8
  ·exfalso
   rcases List.mem_cons.1 h8 with rfl|h8
   ·exact mU _ _ h9
   ·exact uA (p4 j h8) h9
 have hcount:∀ l i z,dD (bR (aR n m q) st)=l++i::z->¬ (bY calls (aB st.evs i)=0/\kindOf calls (aB st.evs i)=1)->∀ t,(l.filter λj=>isU calls t (aB (bR (aR n m q) st) j)).length=cnt (kK calls t (aB st.evs i).resp) st.evs:=λl i z hL hnb t=>by
  have hi:i∈dD (bR (aR n m q) st):=by rw [hL];simp
  rw [FV hL,GY,hlen]
  congr 1
  refine List.filter_congr λj hj=>?_
  have hj':=List.mem_range.1 hj
  unfold kK isU
  by_cases hp:piW calls (aB st.evs j)
  ·obtain⟨w1,w2,w3⟩:=hwk j hj' hp
   rw [w1,decide_eq_true hp,Bool.true_and,w2,decide_eq_true (show([2*((aB st.evs j).resp:Int)]:List Int)≠[] by simp),Bool.and_true]
   congr 1
   exact decide_eq_decide.2 (hlt j i hj' hp hi hnb)
  ·rw [decide_eq_false hp,decide_eq_false (λx=>hp ((hpw j hj').1 x))];rfl
 have hD:∀ d l z,l.length=d->dD (bR (aR n m q) st)=l++z->UE n m calls (bR (aR n m q) st) l (iT (jC n m q) calls (bR (aR n m q) st) (List.replicate (m+n) 0) l):=by
  intro d
  induction d with
  | zero=>
   intro l z hl _
   obtain rfl:l=[]:=List.length_eq_zero_iff.1 hl
   have hz:∀ t,(List.replicate (m+n) 0).getD t 0=0:=λt=>iV
   exact⟨by simp [iT],λt _=>hz _,λt _=>⟨none,λj hj=>(List.not_mem_nil hj).elim,hz t⟩⟩
  | succ d ih=>
   intro l0 z hl hL0
   rcases List.eq_nil_or_concat l0 with rfl|⟨l,i,rfl⟩
   ·cases hl
   rw [List.concat_eq_append] at hl hL0 ⊢
   have hL:dD (bR (aR n m q) st)=l++i::z:=by rw [hL0,List.append_assoc];rfl
   have d:=ih l (i::z) (by simpa using hl) hL
   have hiL:i∈dD (bR (aR n m q) st):=by rw [hL];simp
   obtain⟨i1,i2,i3⟩:=hin i hiL
   rw [rP]
   obtain⟨F,hF⟩:∃ F,F=iT (jC n m q) calls (bR (aR n m q) st) (List.replicate (m+n) 0) l:=⟨_,rfl⟩
   rw [<-hF] at d ⊢
   have same:¬ piW calls (aB st.evs i)->UE n m calls (bR (aR n m q) st) (l++[i]) F:=λhnp=>by
    refine⟨d.len,λt ht=>?_,λt ht=>?_⟩
    ·rw [d.cntl t ht,List.filter_append,List.length_append]
     have e:[i].filter (λj=>isU calls t (aB (bR (aR n m q) st) j))=[]:=by
      rw [List.filter_cons,i3]
      unfold isU
      rw [decide_eq_false hnp];rfl
     rw [e];rfl
    ·obtain⟨oj,o1,o2⟩:=d.last t ht
     refine⟨oj,?_,o2⟩
     match oj,o1 with
     | none,o1=>
      intro j hj
      rcases List.mem_append.1 hj with h9|h9
      ·exact o1 j h9
      ·rw [List.mem_singleton.1 h9,i3];exact λx=>hnp x.1
     | some y,⟨a,b,c,e⟩=>
      refine⟨List.mem_append_left _ a,b,c,λj' hj' p1 p2=>?_⟩
      rcases List.mem_append.1 hj' with h9|h9
      ·exact e j' h9 p1 p2
      ·rw [List.mem_singleton.1 h9,i3] at p1;exact absurd p1 hnp
   by_cases ho:(calls.getD (aB st.evs i).call d0).obj=0
   ·rw [if_neg (by rw [i3];exact λx=>x ho),i3]
    by_cases k1:(calls.getD (aB st.evs i).call d0).kind=1
    ·unfold jC
     rw [AF k1]
     exact same λx=>by have h1:=x.2.1;unfold kindOf at h1;omega
    ·by_cases k0:(calls.getD (aB st.evs i).call d0).kind=0
     ·have hth:=hthr _ (hg.ev.call i i1)
      have hnb:¬ (bY calls (aB st.evs i)=0/\kindOf calls (aB st.evs i)=1):=λx=>k1 x.2
      obtain⟨t,hti⟩:∃ t:Nat,(calls.getD (aB st.evs i).call d0).thread=(t:Int):=⟨_,(Int.toNat_of_nonneg hth.1).symm⟩
      have htn:tn calls (aB st.evs i)=t:=by unfold tn;rw [hti];rfl
      rw [hti] at hth
      have htl:t<n:=by omega
      have hcn:=hcount l i z hL hnb t
      rw [<-d.cntl t htl] at hcn
      have hup:=(h.told i i1 i2).up ho k0
      rw [htn,<-hcn] at hup
      obtain⟨a,haa⟩:∃ a,a=(calls.getD (aB st.evs i).call d0).a:=⟨_,rfl⟩
      rw [<-haa] at hup
      unfold jC
      rw [<-haa]
      rcases hup with⟨u1,u0,u2⟩|⟨u1,u2⟩|⟨u1,u0,u2⟩
      ·have hpi:piW calls (aB st.evs i):=⟨ho,k0,by rw [u1],i2⟩
       have hprt:gV (calls.getD (aB st.evs i).call d0)=a:=haa.symm
       rw [BG k0 (by omega) (by rw [hti];simp only [Int.toNat_natCast];rintro(h9|h9|h9)<;>omega)]
       rw [hti]
       simp only [Int.toNat_natCast]
       have hl1:((F.set a (calls.getD (aB st.evs i).call d0).b).set (m+t) (F.getD (m+t) 0+1)).length=m+n:=by simp [d.len]
       have hget:∀ x,((F.set a (calls.getD (aB st.evs i).call d0).b).set (m+t) (F.getD (m+t) 0+1)).getD x 0=if x=m+t then F.getD (m+t) 0+1 else if x=a then (calls.getD (aB st.evs i).call d0).b else F.getD x 0:=λx=>by
        rw [gJ _ _ _ _ (by rw [List.length_set,d.len];omega),gJ _ _ _ _ (by rw [d.len];omega)]
       refine⟨hl1,λt' ht'=>?_,λt' ht'=>?_⟩
       ·rw [hget,List.filter_append,List.length_append]
        have e:[i].filter (λj=>isU calls t' (aB (bR (aR n m q) st) j))=if t=t' then [i] else []:=by
         rw [List.filter_cons,i3]
         unfold isU
         rw [decide_eq_true hpi,htn,Bool.true_and]
         by_cases e:t=t'
         ·rw [if_pos e,decide_eq_true e];rfl
         ·rw [if_neg e,decide_eq_false e];rfl
        rw [e]
        by_cases e9:t'=t
        ·rw [if_pos (by omega),if_pos e9.symm,e9,<-d.cntl t htl];rfl
        ·rw [if_neg (by omega),if_neg (by omega),if_neg (λx=>e9 x.symm),d.cntl t' ht'];rfl
       ·rw [hget,if_neg (by omega)]
        by_cases e9:t'=a
        ·rw [if_pos e9]
         refine⟨some i,⟨by simp,by rw [i3];exact hpi,by rw [i3,e9];exact hprt,λj' hj' p1 p2=>?_⟩,by show _=iZ _;rw [i3];rfl⟩
         rcases List.mem_append.1 hj' with h9|h9
         ·have hjo:j'∈dD (bR (aR n m q) st):=by rw [hL];exact List.mem_append_left _ h9
          obtain⟨j1,j2,j3⟩:=hin j' hjo
          have:=(hlt j' i j1 (by rw [<-j3];exact p1) hiL hnb).1 ((hmem l i z hL j' hjo).1 h9)
          rw [j3,i3];omega
         ·rw [List.mem_singleton.1 h9];exact Nat.le_refl _
        ·rw [if_neg e9]
         obtain⟨oj,o1,o2⟩:=d.last t' ht'
         refine⟨oj,?_,o2⟩
         match oj,o1 with
         | none,o1=>
          intro j hj
          rcases List.mem_append.1 hj with h9|h9
          ·exact o1 j h9
          ·rw [List.mem_singleton.1 h9,i3];exact λx=>e9 (x.2.symm.trans hprt)
         | some y,⟨a,b,c,e⟩=>
          refine⟨List.mem_append_left _ a,b,c,λj' hj' p1 p2=>?_⟩
          rcases List.mem_append.1 hj' with h9|h9
          ·exact e j' h9 p1 p2
          ·rw [List.mem_singleton.1 h9,i3] at p2;exact absurd (p2.symm.trans hprt) e9
      ·rw [xM k0 u2]
       exact same λx=>by have h1:=x.2.2.1;rw [u1] at h1;exact absurd h1 (by decide)
      ·rw [CB k0 (by omega) (by rw [hti];simp only [Int.toNat_natCast];exact .inr (.inr u2))]
       exact same λx=>by have h1:=x.2.2.1;rw [u1] at h1;exact absurd h1 (by decide)
     ·unfold jC
      rw [BI k1 k0]
      exact same λx=>k0 x.2.1
   ·rw [if_pos (by rw [i3];exact ho)]
    exact same λx=>ho x.1
 refine⟨hrows,?_⟩
 show Fold (jC n m q) calls (bR (aR n m q) st) (List.replicate (m+n) 0) (dD (bR (aR n m q) st))
 refine xB _ _ λl i z hL hr=>?_
 have hiL:i∈dD (bR (aR n m q) st):=by rw [hL];simp
 obtain⟨i1,i2,i3⟩:=hin i hiL
 have ht:=h.told i i1 i2
 have d:=hD l.length l (i::z) rfl hL
 rw [i3]
 obtain⟨F,hF⟩:∃ F,F=iT (jC n m q) calls (bR (aR n m q) st) (List.replicate (m+n) 0) l:=⟨_,rfl⟩
 rw [<-hF] at d ⊢
 by_cases ho:(calls.getD (aB st.evs i).call d0).obj=0
 ·rw [if_neg (λx=>x ho)]
  unfold jC
  by_cases k1:(calls.getD (aB st.evs i).call d0).kind=1
  ·rw [AF k1]
   obtain⟨m',a1,a2,a3,a4,_,_,a7⟩:=ht.rd ho k1
   have el:(aB st.evs i).ans.list=F.take m:=by
    apply List.ext_getElem
    ·rw [a3,List.length_take,d.len];omega
    ·intro t h1 h2
     have htl:t<m:=by omega
     obtain⟨oj,o1,o2⟩:=a7 t htl
     obtain⟨oj',p1,p2⟩:=d.last t htl
     have hLA:cK calls gV st.evs t m' oj':=by
      match oj',p1 with
      | none,p1=>
       intro j hj hp hq
       refine Nat.lt_of_not_le λhle=>?_
       obtain⟨w1,_,w3⟩:=hwk j hj hp
       have:=(hmem l i z hL j w3).2 ((hltR j i m' hj hp hiL a4).2 hle)
       exact p1 j this (by rw [w1];exact⟨hp,hq⟩)
      | some y,⟨b1,b2,b3,b4⟩=>
       have hyo:y∈dD (bR (aR n m q) st):=by rw [hL];exact List.mem_append_left _ b1
       obtain⟨y1,y2,y3⟩:=hin y hyo
       rw [y3] at b2 b3 b4
       refine⟨y1,b2,b3,(hltR y i m' y1 b2 hiL a4).1 ((hmem l i z hL y hyo).1 b1),λj' hj' q1 q2 q3=>?_⟩
       obtain⟨w1,_,w3⟩:=hwk j' hj' q1
       have:=b4 j' ((hmem l i z hL j' w3).2 ((hltR j' i m' hj' q1 hiL a4).2 q3)) (by rw [w1];exact q1) (by rw [w1];exact q2)
       rw [w1] at this;exact this
     have:=o1.unique h.rc.apart hLA
     subst this
     have e1:valOf calls iZ (bR (aR n m q) st) oj=valOf calls iZ st.evs oj:=by
      match oj,o1 with
      | none,_=>rfl
      | some y,o1=>
       show iZ (calls.getD (aB (bR (aR n m q) st) y).call d0)=iZ (calls.getD (aB st.evs y).call d0)
       rw [(hwk y o1.1 o1.2.1).1]
     rw [List.getD_eq_getElem?_getD,List.getElem?_eq_getElem h1] at o2
     rw [List.getD_eq_getElem?_getD,List.getElem?_eq_getElem (by rw [d.len];omega),e1] at p2
     rw [List.getElem_take]
     exact o2.trans p2.symm
   cases hA:(aB st.evs i).ans with
   | mk er vl li=>
    rw [hA] at a1 a2 el
    simp only at a1 a2 el
    rw [a1,a2,el]
  ·by_cases k0:(calls.getD (aB st.evs i).call d0).kind=0
   ·have hth:=hthr _ (hg.ev.call i i1)
    have hnb:¬ (bY calls (aB st.evs i)=0/\kindOf calls (aB st.evs i)=1):=λx=>k1 x.2
    obtain⟨t,hti⟩:∃ t:Nat,(calls.getD (aB st.evs i).call d0).thread=(t:Int):=⟨_,(Int.toNat_of_nonneg hth.1).symm⟩
    have htn:tn calls (aB st.evs i)=t:=by unfold tn;rw [hti];rfl
    rw [hti] at hth
    have htl:t<n:=by omega
    have hcn:=hcount l i z hL hnb t
    rw [<-d.cntl t htl] at hcn
    have hup:=ht.up ho k0
    rw [htn,<-hcn] at hup
    rcases hup with⟨u1,u0,u2⟩|⟨u1,u2⟩|⟨u1,u0,u2⟩
    ·rw [u1,BG k0 (by omega) (by rw [hti];simp only [Int.toNat_natCast];rintro(h9|h9|h9)<;>omega)]
    ·rw [u1,xM k0 u2]
    ·rw [u1,CB k0 (by omega) (by rw [hti];simp only [Int.toNat_natCast];exact .inr (.inr u2))]
   ·rw [BI k1 k0]
    have hnb:¬ (bY calls (aB st.evs i)=0/\kindOf calls (aB st.evs i)=1):=λx=>k1 x.2
    rw [(ht.el hnb).2 (λx=>k0 x.2),if_neg (show ¬ bY calls (aB st.evs i)≠0 from λx=>x ho)]
 ·rw [if_pos ho]
  have hnb:¬ (bY calls (aB st.evs i)=0/\kindOf calls (aB st.evs i)=1):=λx=>ho x.1
  rw [(ht.el hnb).2 (λx=>ho x.1),if_pos (show bY calls (aB st.evs i)≠0 from ho)]
theorem zO (hm1:1<=m) (dF:m<=16) (hq1:1<=q) (dQ:q<=64) {picks:List Int} (hck:checkN n calls picks.length=0):(iM (aR n m q) fA (List.replicate (bF n m q) 0) calls picks).evs.length<=picks.length:=(qD hm1 dF hq1 dQ hck).1
end Go.Proofs.Ytifhldnmcdbpfaa
