/- Layer 27: what the walks of the reference's objects share. -/
import Derived.Test.YtlepjmnhekeofaaW38
import Derived.Test.YtlepjmnhekeofaaW21
import Derived.Test.YtlepjmnhekeofaaW18
import Derived.Test.YtlepjmnhekeofaaW23
import Derived.Test.YtlepjmnhekeofaaW37
import Derived.Test.YtlepjmnhekeofaaW35
set_option maxRecDepth 100000
set_option linter.unusedVariables false
set_option linter.unusedSimpArgs false
set_option linter.unnecessarySimpa false
namespace Go.Proofs.Ytlepjmnhekeofaa
section
open Go.RowKit
theorem set3 {w1:World} {b:Nat} {y0 y1 y2:Value} {T:TypeId} (h:w1.heap[b]?=some (.cells #[y0,y1,y2] T (0,0))) (x0 x1 x2:Value) :
  (((w1.setCell ⟨b,0,none⟩ x0).setCell ⟨b,1,none⟩ x1).setCell ⟨b,2,none⟩ x2).heap[b]?=some (.cells #[x0,x1,x2] T (0,0))/\Chg (λk=>k=b) w1 (((w1.setCell ⟨b,0,none⟩ x0).setCell ⟨b,1,none⟩ x1).setCell ⟨b,2,none⟩ x2)/\(((w1.setCell ⟨b,0,none⟩ x0).setCell ⟨b,1,none⟩ x1).setCell ⟨b,2,none⟩ x2).heap.size=w1.heap.size:=by
 refine⟨?_,(((Chg.refl (λk=>k=b) w1).setCell (p:=⟨b,0,none⟩) (.inl rfl) _).setCell (p:=⟨b,1,none⟩) (.inl rfl) _).setCell (p:=⟨b,2,none⟩) (.inl rfl) _,by simp [World.setCell]⟩
 rw [blk_set (blk_set (blk_set h _ _) _ _) _ _];rfl
end
section

/- Layer 14: what a play of a register reports, in plain numbers. -/
open Go.RowKit
variable {n k:Nat} {calls:List CallD}
structure PinGood (n k:Nat) (calls:List CallD) (evs:List EvD):Prop where
 call:∀ i,i<evs.length->(evAt evs i).call<calls.length
 steps:∀ i,i<evs.length->(evAt evs i).steps<=n+k+1/\(kindOf calls (evAt evs i)=1->(evAt evs i).steps<=k+2)
 list:∀ i,i<evs.length->(evAt evs i).resp≠0->objOf calls (evAt evs i)=0->kindOf calls (evAt evs i)=1->(evAt evs i).ans.list.length=k/\piGood k calls (λa=>(evAt evs i).ans.list.getD a 0)
end
section

/- Layer 14: a register's report is that of operations done one by one (14.6), in plain numbers. -/
open Go.RowKit
variable {n k:Nat} {calls:List CallD}
theorem key1 (a b:Int):keyLt [a] [b]=decide (a<b):=by
 unfold keyLt
 split
 ·rename_i h;subst h;unfold keyLt;simp
 ·rfl
end
section

/- Layer 27: the register of many words as the reference has it. -/
open Go.RowKit
theorem u64_get {st:List Nat} {j:Nat} (h:j<st.length):(st.map u64V)[j]?=some (.int .u64 ((st.getD j 0:Nat):Int)):=by
 simp [List.getD_eq_getElem?_getD,h,u64V]
theorem sl_words {w:World} {B q n cp:Nat} {l:List Nat} (h:w.ownsRow B 40 1 (.slice (some ⟨q,0,none⟩) n cp) n (l.map u64V)) (hn:n=l.length) (hm:n<=1000000):SlAt w (some ⟨q,0,none⟩) l.length 1 (u64G l):=by
 subst hn
 obtain⟨a,c,e,h1,_⟩:=sl_of_row (g:=u64G l) h (by unfold maxLen;omega) (λj hj=>u64_get hj)
 cases e
 exact h1
end
section

/- Layer 15: a snapshot's report is that of operations done one by one (15.4), in plain numbers. -/
open Go.RowKit
variable {n k:Nat} {calls:List CallD}
def scAp (m most n:Nat) (st:List Nat) (c:CallD) (a b:Nat):List Nat×AnsD:=
 if c.kind=1 then (st,⟨0,0,st.take m⟩) else if c.kind≠0 then (st,⟨9,0,[]⟩) else if m<=a then (st,⟨10,0,[]⟩) else if c.thread<0∨(n:Int)<=c.thread∨most<=st.getD (m+c.thread.toNat) 0 then (st,⟨6,0,[]⟩) else ((st.set a b).set (m+c.thread.toNat) (st.getD (m+c.thread.toNat) 0+1),⟨0,0,[]⟩)
def thU (x:Int):Nat:=(x % 18446744073709551616).toNat
def snapAp (n k:Nat) (st:List Nat) (c:CallD):List Nat×AnsD:=scAp n k n st c (thU c.thread) c.a
theorem scAp_1 {m most n:Nat} {st:List Nat} {c:CallD} {a b:Nat} (h:c.kind=1):scAp m most n st c a b=(st,⟨0,0,st.take m⟩):=if_pos h
theorem scAp_9 {m most n:Nat} {st:List Nat} {c:CallD} {a b:Nat} (h1:¬ c.kind=1) (h:c.kind≠0):scAp m most n st c a b=(st,⟨9,0,[]⟩):=(if_neg h1).trans (if_pos h)
theorem scAp_10 {m most n:Nat} {st:List Nat} {c:CallD} {a b:Nat} (h:c.kind=0) (ha:m<=a):scAp m most n st c a b=(st,⟨10,0,[]⟩):=(if_neg (by rw [h];decide)).trans ((if_neg (λx=>x h)).trans (if_pos ha))
theorem scAp_6 {m most n:Nat} {st:List Nat} {c:CallD} {a b:Nat} (h:c.kind=0) (ha:¬ m<=a) (ht:c.thread<0∨(n:Int)<=c.thread∨most<=st.getD (m+c.thread.toNat) 0):scAp m most n st c a b=(st,⟨6,0,[]⟩):=(if_neg (by rw [h];decide)).trans ((if_neg (λx=>x h)).trans ((if_neg ha).trans (if_pos ht)))
theorem scAp_0 {m most n:Nat} {st:List Nat} {c:CallD} {a b:Nat} (h:c.kind=0) (ha:¬ m<=a) (ht:¬ (c.thread<0∨(n:Int)<=c.thread∨most<=st.getD (m+c.thread.toNat) 0)):scAp m most n st c a b=((st.set a b).set (m+c.thread.toNat) (st.getD (m+c.thread.toNat) 0+1),⟨0,0,[]⟩):=(if_neg (by rw [h];decide)).trans ((if_neg (λx=>x h)).trans ((if_neg ha).trans (if_neg ht)))
theorem scAp_len (m most n:Nat) (st:List Nat) (c:CallD) (a b:Nat):(scAp m most n st c a b).1.length=st.length:=by
 unfold scAp
 split
 ·rfl
 ·split
  ·rfl
  ·split
   ·rfl
   ·split
    ·rfl
    ·simp
theorem foldTo_snoc (ap:List Nat->CallD->List Nat×AnsD) (calls:List CallD) (evs:List EvD):∀(l:List Nat) (st:List Nat) (i:Nat),foldTo ap calls evs st (l++[i])=if (calls.getD (evAt evs i).call d0).obj≠0 then foldTo ap calls evs st l else (ap (foldTo ap calls evs st l) (calls.getD (evAt evs i).call d0)).1
 | [],_,_=>rfl
 | j::l,st,i=>foldTo_snoc ap calls evs l _ i
def LastL (calls:List CallD) (evs:List EvD) (l:List Nat) (t:Nat):Option Nat->Prop
 | none=>∀ j,j∈l->¬ (piW calls (evAt evs j)/\prtT (calls.getD (evAt evs j).call d0)=t)
 | some j=>j∈l/\piW calls (evAt evs j)/\prtT (calls.getD (evAt evs j).call d0)=t/\∀ j',j'∈l->piW calls (evAt evs j')->prtT (calls.getD (evAt evs j').call d0)=t->(evAt evs j').resp<=(evAt evs j).resp
structure SnD (n:Nat) (calls:List CallD) (evs:List EvD) (l:List Nat) (F:List Nat):Prop where
 len:F.length=2*n
 cntl:∀ t,t<n->F.getD (n+t) 0=(l.filter λj=>isU calls t (evAt evs j)).length
 last:∀ t,t<n->∃ oj,LastL calls evs l t oj/\F.getD t 0=valOf calls valA evs oj
theorem key12 (a b c:Int):keyLt [a] [b,c]=decide (a<=b):=by
 unfold keyLt
 split
 ·rename_i h;subst h;unfold keyLt;simp
 ·rename_i h
  by_cases h2:a<b
  ·rw [decide_eq_true h2,decide_eq_true (by omega)]
  ·rw [decide_eq_false h2,decide_eq_false (by omega)]
set_option maxHeartbeats 1000000 in
theorem snap_whole (hk:k<=64) {picks:List Int} (hck:checkN n calls picks.length=0) :
  WholeGood (snapAp n k) (List.replicate (2*n) 0) calls n (playD (snapS n k) snO0 (List.replicate (snSize n k) 0) calls picks):=by
 obtain⟨hn1,hn16⟩:=n_ok hck
 have hnp:=np_ok hck
 have hthr':=thr_16 hck
 have hthr:∀ c,c<calls.length->0<=(calls.getD c d0).thread/\(calls.getD c d0).thread<n:=λc hc=>by have:=thr_ok hck c hc;omega
 have htk:=picks_ticks (S:=snapS n k) (snap_ok n k 0 (by omega) hk).now (play0 (snapS n k) snO0 (List.replicate (snSize n k) 0) calls) picks (calls:=calls)
 rw [show(play0 (snapS n k) snO0 (List.replicate (snSize n k) 0) calls).wd.now=0 from rfl,show(play0 (snapS n k) snO0 (List.replicate (snSize n k) 0) calls).idle=0 from rfl] at htk
 obtain⟨hg,hT,rho,h⟩:=sn_picks hck hk picks
 obtain⟨st,hst⟩:∃ st,st=picksD (snapS n k) calls (play0 (snapS n k) snO0 (List.replicate (snSize n k) 0) calls) picks:=⟨_,rfl⟩
 rw [<-hst] at hg hT h htk
 have hP:playD (snapS n k) snO0 (List.replicate (snSize n k) 0) calls picks=reportD (snapS n k) st:=by rw [hst];rfl
 rw [hP]
 clear hP hst
 have hlen:=end_length (calls:=calls) hg
 have hat:=λi hi=>end_at hg hthr' (i:=i) hi
 have hmk:=λp=>no_marks h.marks p
 have hop:∀ i,i<st.evs.length->(evAt st.evs i).resp=0->evAt (endD (snapS n k) st) i={ evAt st.evs i with key:=[] }:=λi hi hr=>by
  obtain⟨s,_,e⟩:=(hat i hi).2 hr
  rw [e]
  show({ evAt st.evs i with key:=st.wd.marks.getD _ [] }:EvD)=_
  rw [hmk]
 have hin:∀ i,i∈orderD (endD (snapS n k) st)->i<st.evs.length/\(evAt st.evs i).resp≠0/\evAt (endD (snapS n k) st) i=evAt st.evs i:=λi hi=>by
  obtain⟨h1,h2⟩:=orderD_mem hi
  rw [hlen] at h1
  by_cases hr:(evAt st.evs i).resp=0
  ·exact absurd (show kAt _ i=[] by unfold kAt;rw [hop i h1 hr]) h2
  ·exact⟨h1,hr,(hat i h1).1 hr⟩
 have hkey:∀ i,i<st.evs.length->(evAt st.evs i).resp≠0->∃(t:Nat) (x:List Int),(evAt st.evs i).key=(2*(t:Int))::x/\(evAt st.evs i).inv<=t/\t<=(evAt st.evs i).resp:=λi hi hr=>by
  have ht:=h.told i hi hr
  have hre:=(hg.ev.resp i hi hr).1
  by_cases hb:objOf calls (evAt st.evs i)=0/\kindOf calls (evAt st.evs i)=1
  ·obtain⟨m,_,_,_,a4,a5,a6,_⟩:=ht.rd hb.1 hb.2
   exact⟨m,_,a4,a5,a6⟩
  ·exact⟨_,_,(ht.el hb).1,hre,Nat.le_refl _⟩
 have hrows:RowsGood calls n (reportD (snapS n k) st):=by
  refine rows_good hg (by omega) (by omega) hthr ⟨λi hi hr=>?_,λp s kk hp=>.inl (hmk p)⟩ h.cf h.ca (by omega)
  obtain⟨t,x,e,t1,t2⟩:=hkey i hi hr
  rw [e]
  exact⟨by simp,by simp;omega,by simp;omega⟩
 have hwk:∀ j,j<st.evs.length->piW calls (evAt st.evs j)->evAt (endD (snapS n k) st) j=evAt st.evs j/\kAt (endD (snapS n k) st) j=[2*((evAt st.evs j).resp:Int)]/\j∈orderD (endD (snapS n k) st):=λj hj hp=>by
  have he:=(hat j hj).1 hp.2.2.2
  have hnb:¬ (objOf calls (evAt st.evs j)=0/\kindOf calls (evAt st.evs j)=1):=λx=>by have:=hp.2.1;omega
  have hk1:kAt (endD (snapS n k) st) j=[2*((evAt st.evs j).resp:Int)]:=by unfold kAt;rw [he];exact((h.told j hj hp.2.2.2).el hnb).1
  exact⟨he,hk1,((orderK_spec _ _).2 j).2 ⟨by rw [hlen];exact hj,by rw [hk1];simp⟩⟩
 have hpw:∀ j,j<st.evs.length->(piW calls (evAt (endD (snapS n k) st) j)↔piW calls (evAt st.evs j)):=λj hj=>by
  by_cases hr:(evAt st.evs j).resp=0
  ·rw [hop j hj hr]
   exact⟨λx=>absurd hr x.2.2.2,λx=>absurd hr x.2.2.2⟩
  ·rw [(hat j hj).1 hr]
 have hlt:∀ j i,j<st.evs.length->piW calls (evAt st.evs j)->i∈orderD (endD (snapS n k) st)->¬ (objOf calls (evAt st.evs i)=0/\kindOf calls (evAt st.evs i)=1)->(evLt (endD (snapS n k) st) j i↔(evAt st.evs j).resp<(evAt st.evs i).resp):=λj i hj hp hi hnb=>by
  obtain⟨i1,i2,i3⟩:=hin i hi
  have hki:kAt (endD (snapS n k) st) i=[2*((evAt st.evs i).resp:Int)]:=by unfold kAt;rw [i3];exact((h.told i i1 i2).el hnb).1
  have hkj:=(hwk j hj hp).2.1
  unfold evLt
  rw [hki,hkj,key1]
  constructor
  ·rintro(h9|⟨h9,h8⟩)
   ·have:=of_decide_eq_true h9;omega
   ·have h7:=(List.cons.inj h9).1
    have:=h.rc.apart j i hj i1 hp.2.2.2 (by omega)
    omega
  ·intro h9
   exact .inl (decide_eq_true (by omega))
 have hltR:∀(j i m:Nat),j<st.evs.length->piW calls (evAt st.evs j)->i∈orderD (endD (snapS n k) st)->(evAt st.evs i).key=[2*(m:Int),2*((evAt st.evs i).resp:Int)]->(evLt (endD (snapS n k) st) j i↔(evAt st.evs j).resp<=m):=λj i m hj hp hi hke=>by
  obtain⟨i1,i2,i3⟩:=hin i hi
  have hki:kAt (endD (snapS n k) st) i=[2*(m:Int),2*((evAt st.evs i).resp:Int)]:=by unfold kAt;rw [i3];exact hke
  have hkj:=(hwk j hj hp).2.1
  unfold evLt
  rw [hki,hkj,key12]
  constructor
  ·rintro(h9|⟨h9,_⟩)
   ·have:=of_decide_eq_true h9;omega
   ·have h7:=(List.cons.inj h9).2
    cases h7
  ·intro h9
   exact .inl (decide_eq_true (by omega))
 have hspec:=(orderK_spec (endD (snapS n k) st) (endD (snapS n k) st).length).1
 have hmem:∀ l i m,orderD (endD (snapS n k) st)=l++i::m->∀ j,j∈orderD (endD (snapS n k) st)->(j∈l↔evLt (endD (snapS n k) st) j i):=λl i m hL j hj=>by
  have hp:(l++i::m).Pairwise (evLt (endD (snapS n k) st)):=by rw [<-hL];exact hspec
  obtain⟨_,p2,p3⟩:=List.pairwise_append.1 hp
  obtain⟨p4,_⟩:=List.pairwise_cons.1 p2
  refine⟨λh9=>p3 j h9 i (List.mem_cons_self ..),λh9=>?_⟩
  rw [hL] at hj
  rcases List.mem_append.1 hj with h8|h8
  ·exact h8
  ·exfalso
   rcases List.mem_cons.1 h8 with rfl|h8
   ·exact evLt_irrefl _ _ h9
   ·exact evLt_asymm (p4 j h8) h9
 have hcount:∀ l i m,orderD (endD (snapS n k) st)=l++i::m->¬ (objOf calls (evAt st.evs i)=0/\kindOf calls (evAt st.evs i)=1)->∀ t,(l.filter λj=>isU calls t (evAt (endD (snapS n k) st) j)).length=cnt (isUT calls t (evAt st.evs i).resp) st.evs:=λl i m hL hnb t=>by
  have hi:i∈orderD (endD (snapS n k) st):=by rw [hL];simp
  rw [pre_count hL,cnt_range,hlen]
  congr 1
  refine List.filter_congr λj hj=>?_
  have hj':=List.mem_range.1 hj
  unfold isUT isU
  by_cases hp:piW calls (evAt st.evs j)
  ·obtain⟨w1,w2,w3⟩:=hwk j hj' hp
   rw [w1,decide_eq_true hp,Bool.true_and,w2,decide_eq_true (show([2*((evAt st.evs j).resp:Int)]:List Int)≠[] by simp),Bool.and_true]
   congr 1
   exact decide_eq_decide.2 (hlt j i hj' hp hi hnb)
  ·rw [decide_eq_false hp,decide_eq_false (λx=>hp ((hpw j hj').1 x))];rfl
 have hD:∀ q l m,l.length=q->orderD (endD (snapS n k) st)=l++m->SnD n calls (endD (snapS n k) st) l (foldTo (snapAp n k) calls (endD (snapS n k) st) (List.replicate (2*n) 0) l):=by
  intro q
  induction q with
  | zero=>
   intro l m hl _
   obtain rfl:l=[]:=List.length_eq_zero_iff.1 hl
   have hz:∀ t,(List.replicate (2*n) 0).getD t 0=0:=λt=>getD_rep'
   exact⟨by simp [foldTo],λt _=>hz _,λt _=>⟨none,λj hj=>(List.not_mem_nil hj).elim,hz t⟩⟩
  | succ q ih=>
   intro l0 m hl hL0
   rcases List.eq_nil_or_concat l0 with rfl|⟨l,i,rfl⟩
   ·cases hl
   rw [List.concat_eq_append] at hl hL0 ⊢
   have hL:orderD (endD (snapS n k) st)=l++i::m:=by rw [hL0,List.append_assoc];rfl
   have d:=ih l (i::m) (by simpa using hl) hL
   have hiL:i∈orderD (endD (snapS n k) st):=by rw [hL];simp
   obtain⟨i1,i2,i3⟩:=hin i hiL
   rw [foldTo_snoc]
   obtain⟨F,hF⟩:∃ F,F=foldTo (snapAp n k) calls (endD (snapS n k) st) (List.replicate (2*n) 0) l:=⟨_,rfl⟩
   rw [<-hF] at d ⊢
   have same:¬ piW calls (evAt st.evs i)->SnD n calls (endD (snapS n k) st) (l++[i]) F:=λhnp=>by
    refine⟨d.len,λt ht=>?_,λt ht=>?_⟩
    ·rw [d.cntl t ht,List.filter_append,List.length_append]
     have e:[i].filter (λj=>isU calls t (evAt (endD (snapS n k) st) j))=[]:=by
      rw [List.filter_cons,i3]
      unfold isU
      rw [decide_eq_false hnp];rfl
     rw [e];rfl
    ·obtain⟨oj,o1,o2⟩:=d.last t ht
     refine⟨oj,?_,o2⟩
     match oj,o1 with
     | none,o1=>
      intro j hj
      rcases List.mem_append.1 hj with h9|h9
      ·exact o1 j h9
      ·rw [List.mem_singleton.1 h9,i3];exact λx=>hnp x.1
     | some y,⟨a,b,c,e⟩=>
      refine⟨List.mem_append_left _ a,b,c,λj' hj' p1 p2=>?_⟩
      rcases List.mem_append.1 hj' with h9|h9
      ·exact e j' h9 p1 p2
      ·rw [List.mem_singleton.1 h9,i3] at p1;exact absurd p1 hnp
   by_cases ho:(calls.getD (evAt st.evs i).call d0).obj=0
   ·rw [if_neg (by rw [i3];exact λx=>x ho),i3]
    by_cases k1:(calls.getD (evAt st.evs i).call d0).kind=1
    ·unfold snapAp
     rw [scAp_1 k1]
     exact same λx=>by have h1:=x.2.1;unfold kindOf at h1;omega
    ·by_cases k0:(calls.getD (evAt st.evs i).call d0).kind=0
     ·have hth:=hthr _ (hg.ev.call i i1)
      have hnb:¬ (objOf calls (evAt st.evs i)=0/\kindOf calls (evAt st.evs i)=1):=λx=>k1 x.2
      obtain⟨t,hti⟩:∃ t:Nat,(calls.getD (evAt st.evs i).call d0).thread=(t:Int):=⟨_,(Int.toNat_of_nonneg hth.1).symm⟩
      have htn:tn calls (evAt st.evs i)=t:=by unfold tn;rw [hti];rfl
      have hprt:prtT (calls.getD (evAt st.evs i).call d0)=t:=htn
      rw [hti] at hth
      have hthu:thU (calls.getD (evAt st.evs i).call d0).thread=t:=by unfold thU;rw [hti];omega
      have htl:t<n:=by omega
      have hcn:=hcount l i m hL hnb t
      rw [<-d.cntl t htl] at hcn
      have hup:=(h.told i i1 i2).up ho k0
      rw [htn,<-hcn] at hup
      unfold snapAp
      rw [hthu]
      rcases hup with⟨u1,u2⟩|⟨u1,u2⟩
      ·have hpi:piW calls (evAt st.evs i):=⟨ho,k0,by rw [u1],i2⟩
       rw [scAp_0 k0 (by omega) (by rw [hti];simp only [Int.toNat_natCast];rintro(h9|h9|h9)<;>omega)]
       rw [hti]
       simp only [Int.toNat_natCast]
       have hl1:((F.set t (calls.getD (evAt st.evs i).call d0).a).set (n+t) (F.getD (n+t) 0+1)).length=2*n:=by simp [d.len]
       have hget:∀ x,((F.set t (calls.getD (evAt st.evs i).call d0).a).set (n+t) (F.getD (n+t) 0+1)).getD x 0=if x=n+t then F.getD (n+t) 0+1 else if x=t then (calls.getD (evAt st.evs i).call d0).a else F.getD x 0:=λx=>by
        rw [getD_set_if' _ _ _ _ (by rw [List.length_set,d.len];omega),getD_set_if' _ _ _ _ (by rw [d.len];omega)]
       refine⟨hl1,λt' ht'=>?_,λt' ht'=>?_⟩
       ·rw [hget,List.filter_append,List.length_append]
        have e:[i].filter (λj=>isU calls t' (evAt (endD (snapS n k) st) j))=if t=t' then [i] else []:=by
         rw [List.filter_cons,i3]
         unfold isU
         rw [decide_eq_true hpi,htn,Bool.true_and]
         by_cases e:t=t'
         ·rw [if_pos e,decide_eq_true e];rfl
         ·rw [if_neg e,decide_eq_false e];rfl
        rw [e]
        by_cases e9:t'=t
        ·rw [if_pos (by omega),if_pos e9.symm,e9,<-d.cntl t htl];rfl
        ·rw [if_neg (by omega),if_neg (by omega),if_neg (λx=>e9 x.symm),d.cntl t' ht'];rfl
       ·rw [hget,if_neg (by omega)]
        by_cases e9:t'=t
        ·rw [if_pos e9]
         refine⟨some i,⟨by simp,by rw [i3];exact hpi,by rw [i3,e9];exact hprt,λj' hj' p1 p2=>?_⟩,by show _=valA _;rw [i3];rfl⟩
         rcases List.mem_append.1 hj' with h9|h9
         ·have hjo:j'∈orderD (endD (snapS n k) st):=by rw [hL];exact List.mem_append_left _ h9
          obtain⟨j1,j2,j3⟩:=hin j' hjo
          have:=(hlt j' i j1 (by rw [<-j3];exact p1) hiL hnb).1 ((hmem l i m hL j' hjo).1 h9)
          rw [j3,i3];omega
         ·rw [List.mem_singleton.1 h9];exact Nat.le_refl _
        ·rw [if_neg e9]
         obtain⟨oj,o1,o2⟩:=d.last t' ht'
         refine⟨oj,?_,o2⟩
         match oj,o1 with
         | none,o1=>
          intro j hj
          rcases List.mem_append.1 hj with h9|h9
          ·exact o1 j h9
          ·rw [List.mem_singleton.1 h9,i3];exact λx=>e9 (x.2.symm.trans hprt)
         | some y,⟨a,b,c,e⟩=>
          refine⟨List.mem_append_left _ a,b,c,λj' hj' p1 p2=>?_⟩
          rcases List.mem_append.1 hj' with h9|h9
          ·exact e j' h9 p1 p2
          ·rw [List.mem_singleton.1 h9,i3] at p2;exact absurd (p2.symm.trans hprt) e9
      ·rw [scAp_6 k0 (by omega) (by rw [hti];simp only [Int.toNat_natCast];exact .inr (.inr u2))]
       exact same λx=>by have h1:=x.2.2.1;rw [u1] at h1;exact absurd h1 (by decide)
     ·unfold snapAp
      rw [scAp_9 k1 k0]
      exact same λx=>k0 x.2.1
   ·rw [if_pos (by rw [i3];exact ho)]
    exact same λx=>ho x.1
 refine⟨hrows,?_⟩
 show Fold (snapAp n k) calls (endD (snapS n k) st) (List.replicate (2*n) 0) (orderD (endD (snapS n k) st))
 refine fold_of _ _ λl i m hL hr=>?_
 have hiL:i∈orderD (endD (snapS n k) st):=by rw [hL];simp
 obtain⟨i1,i2,i3⟩:=hin i hiL
 have ht:=h.told i i1 i2
 have d:=hD l.length l (i::m) rfl hL
 rw [i3]
 obtain⟨F,hF⟩:∃ F,F=foldTo (snapAp n k) calls (endD (snapS n k) st) (List.replicate (2*n) 0) l:=⟨_,rfl⟩
 rw [<-hF] at d ⊢
 by_cases ho:(calls.getD (evAt st.evs i).call d0).obj=0
 ·rw [if_neg (λx=>x ho)]
  unfold snapAp
  by_cases k1:(calls.getD (evAt st.evs i).call d0).kind=1
  ·rw [scAp_1 k1]
   obtain⟨m',a1,a2,a3,a4,_,_,a7⟩:=ht.rd ho k1
   have el:(evAt st.evs i).ans.list=F.take n:=by
    apply List.ext_getElem
    ·rw [a3,List.length_take,d.len];omega
    ·intro t h1 h2
     have htl:t<n:=by omega
     obtain⟨oj,o1,o2⟩:=a7 t htl
     obtain⟨oj',p1,p2⟩:=d.last t htl
     have hLA:LastAt calls prtT st.evs t m' oj':=by
      match oj',p1 with
      | none,p1=>
       intro j hj hp hq
       refine Nat.lt_of_not_le λhle=>?_
       obtain⟨w1,_,w3⟩:=hwk j hj hp
       have:=(hmem l i m hL j w3).2 ((hltR j i m' hj hp hiL a4).2 hle)
       exact p1 j this (by rw [w1];exact⟨hp,hq⟩)
      | some y,⟨b1,b2,b3,b4⟩=>
       have hyo:y∈orderD (endD (snapS n k) st):=by rw [hL];exact List.mem_append_left _ b1
       obtain⟨y1,y2,y3⟩:=hin y hyo
       rw [y3] at b2 b3 b4
       refine⟨y1,b2,b3,(hltR y i m' y1 b2 hiL a4).1 ((hmem l i m hL y hyo).1 b1),λj' hj' q1 q2 q3=>?_⟩
       obtain⟨w1,_,w3⟩:=hwk j' hj' q1
       have:=b4 j' ((hmem l i m hL j' w3).2 ((hltR j' i m' hj' q1 hiL a4).2 q3)) (by rw [w1];exact q1) (by rw [w1];exact q2)
       rw [w1] at this;exact this
     have:=o1.unique h.rc.apart hLA
     subst this
     have e1:valOf calls valA (endD (snapS n k) st) oj=valOf calls valA st.evs oj:=by
      match oj,o1 with
      | none,_=>rfl
      | some y,o1=>
       show valA (calls.getD (evAt (endD (snapS n k) st) y).call d0)=valA (calls.getD (evAt st.evs y).call d0)
       rw [(hwk y o1.1 o1.2.1).1]
     rw [List.getD_eq_getElem?_getD,List.getElem?_eq_getElem h1] at o2
     rw [List.getD_eq_getElem?_getD,List.getElem?_eq_getElem (by rw [d.len];omega),e1] at p2
     rw [List.getElem_take]
     exact o2.trans p2.symm
   cases hA:(evAt st.evs i).ans with
   | mk er vl li=>
    rw [hA] at a1 a2 el
    simp only at a1 a2 el
    rw [a1,a2,el]
  ·by_cases k0:(calls.getD (evAt st.evs i).call d0).kind=0
   ·have hth:=hthr _ (hg.ev.call i i1)
    have hnb:¬ (objOf calls (evAt st.evs i)=0/\kindOf calls (evAt st.evs i)=1):=λx=>k1 x.2
    obtain⟨t,hti⟩:∃ t:Nat,(calls.getD (evAt st.evs i).call d0).thread=(t:Int):=⟨_,(Int.toNat_of_nonneg hth.1).symm⟩
    have htn:tn calls (evAt st.evs i)=t:=by unfold tn;rw [hti];rfl
    rw [hti] at hth
    have hthu:thU (calls.getD (evAt st.evs i).call d0).thread=t:=by unfold thU;rw [hti];omega
    have htl:t<n:=by omega
    have hcn:=hcount l i m hL hnb t
    rw [<-d.cntl t htl] at hcn
    have hup:=ht.up ho k0
    rw [htn,<-hcn] at hup
    rw [hthu]
    rcases hup with⟨u1,u2⟩|⟨u1,u2⟩
    ·rw [u1,scAp_0 k0 (by omega) (by rw [hti];simp only [Int.toNat_natCast];rintro(h9|h9|h9)<;>omega)]
    ·rw [u1,scAp_6 k0 (by omega) (by rw [hti];simp only [Int.toNat_natCast];exact .inr (.inr u2))]
   ·rw [scAp_9 k1 k0]
    have hnb:¬ (objOf calls (evAt st.evs i)=0/\kindOf calls (evAt st.evs i)=1):=λx=>k1 x.2
    rw [(ht.el hnb).2 (λx=>k0 x.2),if_neg (show ¬ objOf calls (evAt st.evs i)≠0 from λx=>x ho)]
 ·rw [if_pos ho]
  have hnb:¬ (objOf calls (evAt st.evs i)=0/\kindOf calls (evAt st.evs i)=1):=λx=>ho x.1
  rw [(ht.el hnb).2 (λx=>ho x.1),if_pos (show objOf calls (evAt st.evs i)≠0 from ho)]
theorem snap_evs_len (hk:k<=64) {picks:List Int} (hck:checkN n calls picks.length=0):(playD (snapS n k) snO0 (List.replicate (snSize n k) 0) calls picks).evs.length<=picks.length:=(sn_report hk hck).1
end
end Go.Proofs.Ytlepjmnhekeofaa
