/- Layer 14: a register's report is that of operations done one by one (14.6), in plain numbers. -/
import Derived.Test.YtlepjmnhekeofaaP41
import Derived.Test.YtlepjmnhekeofaaP34
import Derived.Test.YtlepjmnhekeofaaP38
set_option maxRecDepth 100000
set_option linter.unusedVariables false
set_option linter.unusedSimpArgs false
set_option linter.unnecessarySimpa false
namespace Go.Proofs.Ytlepjmnhekeofaa
open Go.RowKit
variable {n k:Nat} {calls:List CallD}
def piCont (k a:Nat):List Nat:=(List.range k).map λi=>(a+i) % 18446744073709551616
def pinAp (st:List Nat) (c:CallD):List Nat×AnsD:=
 if c.kind=1 then (st,⟨0,0,st⟩) else if c.kind≠0 then (st,⟨9,0,[]⟩) else if c.thread≠0 then (st,⟨11,0,[]⟩) else (piCont st.length c.a,⟨0,0,[]⟩)
theorem pinAp_1 {st:List Nat} {c:CallD} (h:c.kind=1):pinAp st c=(st,⟨0,0,st⟩):=if_pos h
theorem pinAp_9 {st:List Nat} {c:CallD} (h1:¬ c.kind=1) (h:c.kind≠0):pinAp st c=(st,⟨9,0,[]⟩):=(if_neg h1).trans (if_pos h)
theorem pinAp_11 {st:List Nat} {c:CallD} (h:c.kind=0) (ht:c.thread≠0):pinAp st c=(st,⟨11,0,[]⟩):=(if_neg (by rw [h];decide)).trans ((if_neg (λx=>x h)).trans (if_pos ht))
theorem pinAp_0 {st:List Nat} {c:CallD} (h:c.kind=0) (ht:c.thread=0):pinAp st c=(piCont st.length c.a,⟨0,0,[]⟩):=(if_neg (by rw [h];decide)).trans ((if_neg (λx=>x h)).trans (if_neg (λx=>x ht)))
theorem piCont_len (k a:Nat):(piCont k a).length=k:=by simp [piCont]
theorem piCont_get {k a i:Nat} (hi:i<k):(piCont k a).getD i 0=(a+i) % 18446744073709551616:=by
 simp [piCont,List.getD_eq_getElem?_getD,hi]
theorem pinAp_len (st:List Nat) (c:CallD):(pinAp st c).1.length=st.length:=by
 unfold pinAp
 split
 ·rfl
 ·split
  ·rfl
  ·split
   ·rfl
   ·exact piCont_len _ _
def piQ (calls:List CallD) (evs:List EvD) (j:Nat):Prop:=(calls.getD (evAt evs j).call d0).obj=0/\(calls.getD (evAt evs j).call d0).kind=0/\(calls.getD (evAt evs j).call d0).thread=0
theorem pin_foldTo (calls:List CallD) (evs:List EvD):∀(l:List Nat) (st:List Nat),st.length=k->((∀ j,j∈l->¬ piQ calls evs j)/\foldTo pinAp calls evs st l=st)∨∃ l1 j l2,l=l1++j::l2/\piQ calls evs j/\(∀ i,i∈l2->¬ piQ calls evs i)/\foldTo pinAp calls evs st l=piCont k (calls.getD (evAt evs j).call d0).a
 | [],st,_=>.inl ⟨λj hj=>(List.not_mem_nil hj).elim,rfl⟩
 | i::l,st,hl=>by
  obtain⟨st1,h1⟩:∃ st1,st1=(if (calls.getD (evAt evs i).call d0).obj≠0 then st else (pinAp st (calls.getD (evAt evs i).call d0)).1):=⟨_,rfl⟩
  have hf:foldTo pinAp calls evs st (i::l)=foldTo pinAp calls evs st1 l:=by rw [h1];rfl
  have hl1:st1.length=k:=by
   rw [h1];split
   ·exact hl
   ·rw [pinAp_len];exact hl
  rw [hf]
  rcases pin_foldTo calls evs l st1 hl1 with⟨a1,a2⟩|⟨l1,j,l2,b1,b2,b3,b4⟩
  ·by_cases hq:piQ calls evs i
   ·refine .inr ⟨[],i,l,rfl,hq,a1,?_⟩
    rw [a2,h1,if_neg (λx=>x hq.1),pinAp_0 hq.2.1 hq.2.2,hl]
   ·refine .inl ⟨λj hj=>?_,?_⟩
    ·rcases List.mem_cons.1 hj with rfl|hj
     ·exact hq
     ·exact a1 j hj
    ·rw [a2,h1]
     split
     ·rfl
     ·rename_i ho
      have ho':=Classical.not_not.1 ho
      by_cases k1:(calls.getD (evAt evs i).call d0).kind=1
      ·rw [pinAp_1 k1]
      ·by_cases k0:(calls.getD (evAt evs i).call d0).kind=0
       ·rw [pinAp_11 k0 (λx=>hq ⟨ho',k0,x⟩)]
       ·rw [pinAp_9 k1 k0]
  ·exact .inr ⟨i::l1,j,l2,by rw [b1];rfl,b2,b3,b4⟩
theorem key1 (a b:Int):keyLt [a] [b]=decide (a<b):=by
 unfold keyLt
 split
 ·rename_i h;subst h;unfold keyLt;simp
 ·rfl
set_option maxHeartbeats 1000000 in
theorem pin_whole (hk1:1<=k) (hk:k<=8) {picks:List Int} (hck:checkN n calls picks.length=0) :
  WholeGood pinAp (List.replicate k 0) calls n (playD (pinS n k) (pinO0 n) (List.replicate (1+(n+1)*(k+1)) 0) calls picks):=by
 obtain⟨hn1,hn16⟩:=n_ok hck
 have hnp:=np_ok hck
 have hthr':=thr_16 hck
 have hthr:∀ c,c<calls.length->0<=(calls.getD c d0).thread/\(calls.getD c d0).thread<n:=λc hc=>by have:=thr_ok hck c hc;omega
 have htk:=picks_ticks (S:=pinS n k) (pin_ok n k 0 1 (by omega) hk (by decide)).now (play0 (pinS n k) (pinO0 n) (List.replicate (1+(n+1)*(k+1)) 0) calls) picks (calls:=calls)
 rw [show(play0 (pinS n k) (pinO0 n) (List.replicate (1+(n+1)*(k+1)) 0) calls).wd.now=0 from rfl,show(play0 (pinS n k) (pinO0 n) (List.replicate (1+(n+1)*(k+1)) 0) calls).idle=0 from rfl] at htk
 obtain⟨hg,hT,h⟩:=pi_all hk1 hck hk picks
 obtain⟨hI,h⟩:=h (by omega)
 obtain⟨st,hst⟩:∃ st,st=picksD (pinS n k) calls (play0 (pinS n k) (pinO0 n) (List.replicate (1+(n+1)*(k+1)) 0) calls) picks:=⟨_,rfl⟩
 rw [<-hst] at hg hT hI h htk
 have hP:playD (pinS n k) (pinO0 n) (List.replicate (1+(n+1)*(k+1)) 0) calls picks=reportD (pinS n k) st:=by rw [hst];rfl
 rw [hP]
 clear hP hst
 have hlen:=end_length (calls:=calls) hg
 have hat:=λi hi=>end_at hg hthr' (i:=i) hi
 have hmk:=λp=>no_marks h.marks p
 have hop:∀ i,i<st.evs.length->(evAt st.evs i).resp=0->evAt (endD (pinS n k) st) i={ evAt st.evs i with key:=[] }:=λi hi hr=>by
  obtain⟨s,_,e⟩:=(hat i hi).2 hr
  rw [e]
  show({ evAt st.evs i with key:=st.wd.marks.getD _ [] }:EvD)=_
  rw [hmk]
 have hres:∀ i,i<st.evs.length->(evAt (endD (pinS n k) st) i).resp=(evAt st.evs i).resp:=λi hi=>by
  by_cases hr:(evAt st.evs i).resp=0
  ·rw [hop i hi hr]
  ·rw [(hat i hi).1 hr]
 have hin:∀ i,i∈orderD (endD (pinS n k) st)->i<st.evs.length/\(evAt st.evs i).resp≠0/\evAt (endD (pinS n k) st) i=evAt st.evs i:=λi hi=>by
  obtain⟨h1,h2⟩:=orderD_mem hi
  rw [hlen] at h1
  by_cases hr:(evAt st.evs i).resp=0
  ·exact absurd (show kAt _ i=[] by unfold kAt;rw [hop i h1 hr]) h2
  ·exact⟨h1,hr,(hat i h1).1 hr⟩
 have hkey:∀ i,i<st.evs.length->(evAt st.evs i).resp≠0->∃ t:Nat,(evAt st.evs i).key=[2*(t:Int)]/\(evAt st.evs i).inv<=t/\t<=(evAt st.evs i).resp:=λi hi hr=>by
  have ht:=h.told i hi hr
  have hre:=(hg.ev.resp i hi hr).1
  by_cases hb:objOf calls (evAt st.evs i)=0/\kindOf calls (evAt st.evs i)=1
  ·exact⟨_,(ht.rd hb.1 hb.2).2.2.2,Nat.le_refl _,hre⟩
  ·exact⟨_,(ht.el hb).1,hre,Nat.le_refl _⟩
 have hrows:RowsGood calls n (reportD (pinS n k) st):=by
  refine rows_good hg (by omega) (by omega) hthr ⟨λi hi hr=>?_,λp s kk hp=>.inl (hmk p)⟩ h.cf h.ca (by omega)
  obtain⟨t,e,t1,t2⟩:=hkey i hi hr
  rw [e]
  exact⟨by simp,by simp;omega,by simp;omega⟩
 refine⟨hrows,?_⟩
 show Fold pinAp calls (endD (pinS n k) st) (List.replicate k 0) (orderD (endD (pinS n k) st))
 refine fold_of _ _ λl i m hL hr=>?_
 have hiL:i∈orderD (endD (pinS n k) st):=by rw [hL];simp
 obtain⟨i1,i2,i3⟩:=hin i hiL
 have ht:=h.told i i1 i2
 rw [i3]
 by_cases hb:objOf calls (evAt st.evs i)=0/\kindOf calls (evAt st.evs i)=1
 ·obtain⟨r1,r2,r3,r4⟩:=ht.rd hb.1 hb.2
  have ho:¬ (calls.getD (evAt st.evs i).call d0).obj≠0:=λx=>x hb.1
  rw [if_neg ho,pinAp_1 hb.2]
  obtain⟨hll,_⟩:=(hI.done i i1 i2).2.2 hb.1 hb.2
  obtain⟨F,hF⟩:∃ F,F=foldTo pinAp calls (endD (pinS n k) st) (List.replicate k 0) l:=⟨_,rfl⟩
  rw [<-hF]
  have hpw':(l++i::m).Pairwise (evLt (endD (pinS n k) st)):=by rw [<-hL];exact(orderK_spec (endD (pinS n k) st) (endD (pinS n k) st).length).1
  rw [List.pairwise_append] at hpw'
  obtain⟨q1,q2,q3⟩:=hpw'
  have hwk:∀ j,j<st.evs.length->piW calls (evAt st.evs j)->kAt (endD (pinS n k) st) j=[2*((evAt st.evs j).resp:Int)]/\piQ calls (endD (pinS n k) st) j:=λj hj hp=>by
   have he:=(hat j hj).1 hp.2.2.2
   have htj:=h.told j hj hp.2.2.2
   have hnb:¬ (objOf calls (evAt st.evs j)=0/\kindOf calls (evAt st.evs j)=1):=λx=>by have:=hp.2.1;omega
   refine⟨by unfold kAt;rw [he];exact(htj.el hnb).1,?_⟩
   unfold piQ
   rw [he]
   refine⟨hp.1,hp.2.1,?_⟩
   have ha:=(htj.el hnb).2
   rw [if_neg (λx=>x hp.1),if_neg (λx=>x hp.2.1)] at ha
   have h1:=hthr _ (hg.ev.call j hj)
   by_cases htn:tn calls (evAt st.evs j)=0
   ·unfold tn at htn;omega
   ·rw [if_pos htn] at ha
    have:=hp.2.2.1
    rw [ha] at this;exact absurd this (by decide)
  have hqw:∀ j,j∈orderD (endD (pinS n k) st)->piQ calls (endD (pinS n k) st) j->j<st.evs.length/\piW calls (evAt st.evs j):=λj hj hq=>by
   obtain⟨j1,j2,j3⟩:=hin j hj
   unfold piQ at hq
   rw [j3] at hq
   have hnb:¬ (objOf calls (evAt st.evs j)=0/\kindOf calls (evAt st.evs j)=1):=λx=>by have h1:=x.2;have h2:=hq.2.1;unfold kindOf at h1;omega
   have ha:=((h.told j j1 j2).el hnb).2
   have htn:tn calls (evAt st.evs j)=0:=by unfold tn;rw [hq.2.2];rfl
   rw [if_neg (λx=>x hq.1),if_neg (λx=>x hq.2.1),if_neg (λx=>x htn)] at ha
   exact⟨j1,hq.1,hq.2.1,by rw [ha],j2⟩
  have hki:kAt (endD (pinS n k) st) i=[2*((evAt st.evs i).inv:Int)]:=by unfold kAt;rw [i3];exact r4
  have hah:∀ j,j<st.evs.length->piW calls (evAt st.evs j)->(j∈l↔(evAt st.evs j).resp<(evAt st.evs i).inv):=λj hj hp=>by
   obtain⟨w1,w2⟩:=hwk j hj hp
   have hji:j≠i:=λe=>by subst e;have:=hp.2.1;omega
   have hne:=hT j i hj i1 hji hp.2.2.2
   have hjm:j∈orderD (endD (pinS n k) st):=((orderK_spec _ _).2 j).2 ⟨by rw [hlen];exact hj,by rw [w1];simp⟩
   refine⟨λhjl=>?_,λhlt=>?_⟩
   ·have:=q3 j hjl i (List.mem_cons_self ..)
    rcases this with h9|⟨h9,_⟩
    ·rw [w1,hki,key1] at h9
     have:=of_decide_eq_true h9
     omega
    ·rw [w1,hki] at h9
     have:=(List.cons.inj h9).1
     omega
   ·rw [hL] at hjm
    rcases List.mem_append.1 hjm with h9|h9
    ·exact h9
    ·exfalso
     rcases List.mem_cons.1 h9 with rfl|h9
     ·exact hji rfl
     ·have:=(List.pairwise_cons.1 q2).1 j h9
      rcases this with h8|⟨h8,_⟩
      ·rw [w1,hki,key1] at h8
       have:=of_decide_eq_true h8
       omega
      ·rw [w1,hki] at h8
       have:=(List.cons.inj h8).1
       omega
  have hext:∀ f:Nat->Nat,(∀ a,a<k->(evAt st.evs i).ans.list.getD a 0=f a)->F.length=k->(∀ a,a<k->F.getD a 0=f a)->(evAt st.evs i).ans=⟨0,0,F⟩:=λf e1 e2 e3=>by
   have el:(evAt st.evs i).ans.list=F:=by
    apply List.ext_getElem
    ·rw [hll,e2]
    ·intro a h1 h2
     have h3:=e1 a (by omega)
     have h4:=e3 a (by omega)
     rw [List.getD_eq_getElem?_getD,List.getElem?_eq_getElem h1] at h3
     rw [List.getD_eq_getElem?_getD,List.getElem?_eq_getElem h2] at h4
     exact h3.trans h4.symm
   cases hA:(evAt st.evs i).ans with
   | mk er vl li=>
    rw [hA] at r2 r3 el
    simp only at r2 r3 el
    rw [r2,r3,el]
  have hfold:=pin_foldTo (k:=k) calls (endD (pinS n k) st) l (List.replicate k 0) (by simp)
  rw [<-hF] at hfold
  have hlo:∀ j,j∈l->j∈orderD (endD (pinS n k) st):=λj hj=>by rw [hL];exact List.mem_append_left _ hj
  rcases r1 with⟨n1,n2⟩|⟨j,n1,n2,n3,n4,n5⟩
  ·rcases hfold with⟨_,f2⟩|⟨l1,j,l2,f1,f2,_,_⟩
   ·refine hext (λ_=>0) n2 (by rw [f2];simp) (λa _=>?_)
    rw [f2,List.getD_eq_getElem?_getD,List.getElem?_replicate]
    split<;>rfl
   ·exfalso
    have hjl:j∈l:=by rw [f1];simp
    obtain⟨j1,j2⟩:=hqw j (hlo j hjl) f2
    have:=n1 j j1 j2
    have:=(hah j j1 j2).1 hjl
    omega
  ·have hjl:=(hah j n1 n2).2 n3
   rcases hfold with⟨f1,_⟩|⟨l1,j',l2,f1,f2,f3,f4⟩
   ·exact absurd (hwk j n1 n2).2 (f1 j hjl)
   ·have hjl':j'∈l:=by rw [f1];simp
    obtain⟨j1,j2⟩:=hqw j' (hlo j' hjl') f2
    have hle:=n4 j' j1 j2 ((hah j' j1 j2).1 hjl')
    have hjj:j=j':=by
     rw [f1] at hjl
     rcases List.mem_append.1 hjl with h9|h9
     ·exfalso
      rw [f1] at q1
      have h8:=(List.pairwise_append.1 q1).2.2 j h9 j' (List.mem_cons_self ..)
      have w1:=(hwk j n1 n2).1
      have w2:=(hwk j' j1 j2).1
      have hge:(evAt st.evs j).resp<=(evAt st.evs j').resp:=by
       rcases h8 with h8|⟨h8,_⟩
       ·rw [w1,w2,key1] at h8
        have:=of_decide_eq_true h8
        omega
       ·rw [w1,w2] at h8
        have:=(List.cons.inj h8).1
        omega
      have hne:j≠j':=λe=>by
       subst e
       exact evLt_irrefl _ _ h8
      have ht0:∀ x,x<st.evs.length->piW calls (evAt st.evs x)->tn calls (evAt st.evs x)=0:=λx hx hp=>by
       have e:=(hat x hx).1 hp.2.2.2
       have:=(hwk x hx hp).2.2.2
       rw [e] at this
       unfold tn;rw [this];rfl
      have hre:=(hg.ev.resp j' j1 j2.2.2.2).1
      have hre2:=(hg.ev.resp j n1 n2.2.2.2).1
      rcases Nat.lt_or_ge j j' with h5|h5
      ·have:=(hg.ev.same j j' h5 j1 (by rw [ht0 j n1 n2,ht0 j' j1 j2])).2.1
       omega
      ·have:=(hg.ev.same j' j (by omega) n1 (by rw [ht0 j n1 n2,ht0 j' j1 j2])).2.1
       omega
     ·rcases List.mem_cons.1 h9 with h9|h9
      ·exact h9
      ·exact absurd (hwk j n1 n2).2 (f3 j h9)
    subst hjj
    refine hext (λa=>((calls.getD (evAt st.evs j).call d0).a+a) % 18446744073709551616) n5 (by rw [f4];exact piCont_len _ _) (λa ha=>?_)
    rw [f4,piCont_get ha,(hat j n1).1 n2.2.2.2]
 ·have ha:=(ht.el hb).2
  rw [ha]
  by_cases ho:objOf calls (evAt st.evs i)=0
  ·have ho2:¬ (calls.getD (evAt st.evs i).call d0).obj≠0:=λx=>x ho
   have ho3:¬ objOf calls (evAt st.evs i)≠0:=λx=>x ho
   rw [if_neg ho2,if_neg ho3]
   have k1:¬ (calls.getD (evAt st.evs i).call d0).kind=1:=λx=>hb ⟨ho,x⟩
   by_cases k0:(calls.getD (evAt st.evs i).call d0).kind=0
   ·have h1:=hthr _ (hg.ev.call i i1)
    have k3:¬ kindOf calls (evAt st.evs i)≠0:=λx=>x k0
    rw [if_neg k3]
    by_cases t0:(calls.getD (evAt st.evs i).call d0).thread=0
    ·have t3:¬ tn calls (evAt st.evs i)≠0:=λx=>x (by unfold tn;rw [t0];rfl)
     rw [if_neg t3,pinAp_0 k0 t0]
    ·have t3:tn calls (evAt st.evs i)≠0:=by unfold tn;omega
     rw [if_pos t3,pinAp_11 k0 t0]
   ·have k3:kindOf calls (evAt st.evs i)≠0:=k0
    rw [if_pos k3,pinAp_9 k1 k0]
  ·have ho2:(calls.getD (evAt st.evs i).call d0).obj≠0:=ho
   have ho3:objOf calls (evAt st.evs i)≠0:=ho
   rw [if_pos ho2,if_pos ho3]
theorem pin_evs_len (hk1:1<=k) (hk:k<=8) {picks:List Int} (hck:checkN n calls picks.length=0):(playD (pinS n k) (pinO0 n) (List.replicate (1+(n+1)*(k+1)) 0) calls picks).evs.length<=picks.length:=(pi_report hk1 hk hck).1
end Go.Proofs.Ytlepjmnhekeofaa
