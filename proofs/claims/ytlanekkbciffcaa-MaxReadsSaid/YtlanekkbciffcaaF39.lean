/- Layer 10: what all operations of a play of a max register went by: each turn keeps it. -/
import Derived.Test.YtlanekkbciffcaaF38
import Derived.Test.YtlanekkbciffcaaF34
set_option maxRecDepth 100000
set_option linter.unusedVariables false
set_option linter.unusedSimpArgs false
set_option linter.unnecessarySimpa false
namespace Go.Proofs.Ytlanekkbciffcaa
section
open Go.RowKit
theorem tk_next {S:Sys} {calls:List CallD} {st:PlayD S} {q k:Nat} {evs':List EvD} {e1:EvD} (hg:StGood calls st) (htk:∀ i j,i<st.evs.length->j<st.evs.length->i≠j->(evAt st.evs i).resp≠0->(evAt st.evs j).inv≠(evAt st.evs i).resp) (hx:Next calls st q evs' k e1)
  (h1:(k<st.evs.length/\e1.inv=(evAt st.evs k).inv)∨(k=st.evs.length/\e1.inv=st.wd.now+1)) (h2:e1.resp=0∨e1.resp=st.wd.now+1):∀ i j,i<evs'.length->j<evs'.length->i≠j->(evAt evs' i).resp≠0->(evAt evs' j).inv≠(evAt evs' i).resp:=by
 intro i j hi hj hij hr
 have hti:∀ a,a<st.evs.length->(evAt st.evs a).inv<=st.wd.now/\(evAt st.evs a).resp<=st.wd.now:=λa ha=>⟨(hg.ev.tick a ha).2.1,(hg.ev.tick a ha).2.2.2⟩
 by_cases ci:i=k
 ·subst ci
  obtain⟨b1,b2⟩:=hx.other j hj (Ne.symm hij)
  rw [hx.self] at hr ⊢
  rw [b2]
  have:=(hti j b1).1
  rcases h2 with h2|h2
  ·exact absurd h2 hr
  ·omega
 ·obtain⟨a1,a2⟩:=hx.other i hi ci
  rw [a2] at hr ⊢
  by_cases cj:j=k
  ·subst cj
   rw [hx.self]
   rcases h1 with⟨c1,c2⟩|⟨c1,c2⟩
   ·rw [c2];exact htk i j a1 c1 hij hr
   ·have:=(hti i a1).2;omega
  ·obtain⟨b1,b2⟩:=hx.other j hj cj
   rw [b2]
   exact htk i j a1 b1 hij hr
theorem mxH_turn {m:Nat} (hm:0<m) {calls:List CallD} {st st':PlayD (maxS m)} {H:Nat->Option GOp} (hg:StGood calls st) (hb:MxBase m st) (hu:MxUp m st) (h:MxH m calls st H) (ht:Turn calls st st'):∃ H',MxH m calls st' H':=by
 have hS:=mxS_of hb
 cases ht with
 | idle=>exact⟨H,h.word,h.inj,h.marks,h.cf,h.ca,h.tk,h.opn,h.ivl,h.ok,h.hand,h.fin,h.kr,h.none_,h.set⟩
 | refuse q i er hq hN hh hs=>
  obtain⟨e1,he1⟩:∃ e1,e1=finishEv (st.wd.tick.begin q) q ⟨er,0,[]⟩ [] (newEv i (st.wd.tick.begin q)):=⟨_,rfl⟩
  have hx:=refuse_next (e1:=e1) hg hN (by rw [he1];rfl)
  have hev:(refuseTo st q i er).evs=st.evs++[e1]:=by rw [he1];rfl
  have hmk:=begin_marks (q:=q) h.marks
  refine⟨H,⟨h.word,h.inj,hmk,h.cf,Nat.le_succ_of_le h.ca,λa b ha hb' hab hr=>?_,λj hj hr=>?_,?_,λj g hj=>?_,λp s k hp=>?_,λj g hj hr=>?_,λj g hj hr=>?_,λj hj hn=>?_,h.set⟩⟩
  ·rw [hev] at ha hb' hr ⊢
   exact tk_next hg h.tk hx (by rw [he1];exact .inr ⟨rfl,rfl⟩) (by rw [he1];exact .inr rfl) a b ha hb' hab hr
  ·rw [hev] at hj hr ⊢
   by_cases hjk:j=st.evs.length
   ·subst hjk;rw [evAt_last,he1] at hr;exact absurd hr (Nat.succ_ne_zero _)
   ·obtain⟨b1,b2⟩:=hx.other j hj hjk
    rw [b2] at hr ⊢;exact h.opn j b1 hr
  ·show(st.wd.inv.set q (st.wd.now+1)).length=16
   rw [List.length_set];exact h.ivl
  ·obtain⟨a1,a2,a3,a4,a5,a6⟩:=h.ok j g hj
   rw [hev,evAt_old a1]
   exact⟨by rw [List.length_append];omega,a2.mono (λk=>(hS k).2) (λ_ _=>rfl) (λ_=>.inl rfl) (by show(st.wd.now:Int)<=((st.wd.now+1:Nat):Int);omega),a3,a4,a5,a6⟩
  ·have hp':(st.hands.set q (none,st.evs.length)).getD p (none,0)=(some s,k):=hp
   rw [hands_set hg.h16 hq] at hp'
   split at hp'
   ·cases hp'
   ·rename_i hpq
    obtain⟨b1,b2⟩:=hx.apart p s k hpq hp'
    obtain⟨a1,a2,a3⟩:=h.hand p s k hp'
    rw [hev,evAt_old b2]
    refine⟨a1,a2,?_⟩
    show(st.wd.inv.set q (st.wd.now+1)).getD p 0=_
    rw [getD_set_neq (Ne.symm hpq)];exact a3
  ·obtain⟨a1,_⟩:=h.ok j g hj
   rw [hev,evAt_old a1] at hr ⊢
   exact h.fin j g hj hr
  ·obtain⟨a1,_⟩:=h.ok j g hj
   rw [hev,evAt_old a1] at hr ⊢
   exact h.kr j g hj hr
  ·by_cases hjk:j=st.evs.length
   ·subst hjk
    rw [hev,evAt_last,he1]
    refine⟨Nat.succ_ne_zero _,?_,er,λ_ _=>hs,rfl⟩
    show keyOf (st.wd.tick.begin q) q []=_
    rw [keyOf_plain hmk];rfl
   ·have hj':j<st.evs.length:=by rw [hev,List.length_append,List.length_singleton] at hj;omega
    rw [hev,evAt_old hj']
    exact h.none_ j hj' hn
 | step q i k s evs0 wd0 hq hN hf=>
  have hnow:=hf.now
  obtain⟨g1,g2,g3,g4,g5,g6,g7,g8⟩:=mx_gpre hm hq hb h hf
  obtain⟨iv,hiv⟩:∃ iv,iv=(evAt evs0 k).inv:=⟨_,rfl⟩
  rw [<-hiv] at g1 g3 g4 g6 g7 g8
  have htr0:wd0.traces=st.wd.traces:=hf.traces
  have hmem0:wd0.mem=st.wd.mem:=hf.mem
  have hb0:∀ k,mxS wd0.traces k<=(st.wd.now:Int):=λk=>by rw [htr0];exact(hS k).2
  have hn0:(st.wd.now:Int)<(wd0.now:Int):=by omega
  have hpre:=(mx_pre hm hb hf).mono (show st.wd.now<=wd0.now by omega)
  have G:=step_g (q:=q) (inv:=iv) (by omega:wd0.now≠0) ⟨by rw [hmem0];exact h.word.1,λk h1 h2=>by rw [hmem0,htr0];exact h.word.2 k h1 h2⟩ (λa x hx=>by rw [htr0] at hx;have:=hb.tr a x hx;omega) hb0 hn0 hpre (mx_up_pre hu hf) g2 g1 g4 g3
  have hob:st.obj=():=rfl
  obtain⟨R,hR⟩:∃ R,R=(maxS m).step () wd0 q s:=⟨_,rfl⟩
  rw [<-hR] at G
  obtain⟨s',hs'⟩:∃ s':MxS,s'=R.2.2.1:=⟨_,rfl⟩
  obtain⟨e1,he1⟩:∃ e1,e1=ev1 (maxS m) R q (evAt evs0 k):=⟨_,rfl⟩
  have hst:stepTo st ((maxS m).step st.obj wd0 q s) q i k evs0=stepTo st R q i k evs0:=by rw [hR];rfl
  rw [hst]
  have hcall:e1.call=(evAt evs0 k).call:=by rw [he1];unfold ev1;split<;>rfl
  have hinv1:e1.inv=iv:=by rw [he1,hiv];unfold ev1;split<;>rfl
  have hx:=hf.next hg hN e1 hcall
  have hev:(stepTo st R q i k evs0).evs=evs0.set k e1:=by rw [he1];rfl
  have hhd:∀ p,(stepTo st R q i k evs0).hands.getD p (none,0)=if p=q then (if R.2.2.2 then none else some R.2.2.1,k) else st.hands.getD p (none,0):=λp=>hands_set hg.h16 hq _ p
  rw [<-hs'] at G
  have hold:∀ j,mxS st.wd.traces j≠0->mxS R.2.1.traces j=mxS st.wd.traces j:=λj hj=>by have:=G.old j (by rw [htr0];exact hj);rw [htr0] at this;exact this
  have hnew:∀ j,mxS R.2.1.traces j=mxS st.wd.traces j∨(st.wd.now:Int)<mxS R.2.1.traces j:=λj=>by
   rcases G.new j with h1|h1
   ·rw [htr0] at h1;exact .inl h1
   ·right;omega
  have hlate:∀ j,mxS R.2.1.traces j<=(wd0.now:Int):=λj=>by
   rcases G.new j with h1|h1
   ·rw [h1];have:=hb0 j;omega
   ·omega
  have hwd:(stepTo st R q i k evs0).wd=R.2.1:=rfl
  obtain⟨H',hH'⟩:∃ H':Nat->Option GOp,H'=λj=>if j=k then some (gOf s' iv) else H j:=⟨_,rfl⟩
  have hHk:H' k=some (gOf s' iv):=by rw [hH'];exact if_pos rfl
  have hHo:∀ j,j≠k->H' j=H j:=λj hj=>by rw [hH'];exact if_neg hj
  have hobj1:objOf calls e1=objOf calls (evAt evs0 k):=by unfold objOf;rw [hcall]
  have hkind1:kindOf calls e1=kindOf calls (evAt evs0 k):=by unfold kindOf;rw [hcall]
  refine⟨H',⟨?_,λa b ha hb' h0 hab=>?_,?_,?_,?_,λa b ha hb' hab hr=>?_,λj hj hr=>?_,?_,λj g hj=>?_,λp s2 k2 hp=>?_,λj g hj hr=>?_,λj g hj hr=>?_,λj hj hn=>?_,λa ha h0=>?_⟩⟩
  ·rw [hwd];exact G.word
  ·rw [hwd] at h0 hab
   by_cases ca:mxS R.2.1.traces a=mxS st.wd.traces a
   ·by_cases cb:mxS R.2.1.traces b=mxS st.wd.traces b
    ·rw [ca] at h0 hab;rw [cb] at hab;exact h.inj a b ha hb' h0 hab
    ·have:=(hnew b).resolve_left cb
     have:=(hS a).2
     omega
   ·by_cases cb:mxS R.2.1.traces b=mxS st.wd.traces b
    ·have:=(hnew a).resolve_left ca
     have:=(hS b).2
     omega
    ·exact G.one a b ha hb' (by rw [htr0];exact ca) (by rw [htr0];exact cb)
  ·rw [hwd,G.mks];exact hf.marks h.marks
  ·rw [hwd,G.cf,hmem0];exact h.cf
  ·rw [hwd,G.ca,G.now,hmem0,hnow];have:=h.ca;omega
  ·rw [hev] at ha hb' hr ⊢
   refine tk_next hg h.tk hx ?_ ?_ a b ha hb' hab hr
   ·rcases hf.or with⟨_,c1,_,_,c2,_⟩|⟨_,_,c1,c2,_⟩
    ·left;refine⟨c1,?_⟩;rw [hinv1,hiv,c2]
    ·right;refine⟨c1,?_⟩;rw [hinv1,hiv,c2,c1,evAt_last];rfl
   ·rw [he1];unfold ev1;split
    ·right;show R.2.1.now=_;rw [G.now,hnow]
    ·left;exact hf.open_
  ·rw [hev] at hj hr ⊢
   by_cases hjk:j=k
   ·subst hjk
    rw [hx.self] at hr ⊢
    have hd:R.2.2.2=false:=by
     cases hc:R.2.2.2 with
     | false=>rfl
     | true=>
      rw [he1] at hr;unfold ev1 at hr;rw [hc] at hr
      have hr':R.2.1.now=0:=hr
      rw [G.now] at hr';omega
    rw [he1];unfold ev1;rw [hd]
    show(evAt evs0 j).ans=ans0
    rcases hf.or with⟨_,c1,_,c3,c2,_⟩|⟨_,_,c1,c2,_⟩
    ·rw [c2];exact h.opn j c1 c3
    ·rw [c2,c1,evAt_last];rfl
   ·obtain⟨b1,b2⟩:=hx.other j hj hjk
    rw [b2] at hr ⊢;exact h.opn j b1 hr
  ·rw [hwd,G.iv];exact hf.ilen h.ivl
  ·rw [hwd,hev]
   by_cases hjk:j=k
   ·subst hjk
    rw [hHk] at hj;cases hj
    rw [hx.self,hobj1,hkind1,hinv1,hcall]
    refine⟨hx.lt,by rw [G.now];exact G.ok,?_,g5,by rw [G.wr];exact g6,λhw=>by rw [G.v (by rw [<-G.wr];exact hw)];exact g7 (by rw [<-G.wr];exact hw)⟩
    cases s'<;>rfl
   ·rw [hHo j hjk] at hj
    obtain⟨a1,a2,a3,a4,a5,a6⟩:=h.ok j g hj
    have hlt:j<(evs0.set k e1).length:=Nat.lt_of_lt_of_le a1 hx.size
    rw [(hx.other j hlt hjk).2]
    exact⟨hlt,by rw [G.now];exact a2.mono (λk=>(hS k).2) hold hnew (by omega),a3,a4,a5,a6⟩
  ·rw [hhd] at hp
   rw [hwd,hev]
   split at hp
   ·rename_i hpq
    subst hpq
    split at hp
    ·cases hp
    ·obtain⟨p1,p2⟩:=Prod.mk.inj hp
     have p1':s2=s':=by rw [hs'];exact(Option.some.inj p1).symm
     subst p2
     rw [hx.self,hinv1,p1']
     exact⟨hHk,G.hand,by rw [G.iv];exact g3⟩
   ·rename_i hpq
    obtain⟨b1,b2⟩:=hx.apart p s2 k2 hpq hp
    obtain⟨a1,a2,a3⟩:=h.hand p s2 k2 hp
    rw [(hx.other k2 (Nat.lt_of_lt_of_le b2 hx.size) b1).2,hHo k2 b1]
    exact⟨a1,a2.mono hold,by rw [G.iv,hf.inv hpq];exact a3⟩
  ·rw [hev] at hr ⊢
   rw [hwd]
   by_cases hjk:j=k
   ·subst hjk
    rw [hHk] at hj;cases hj
    rw [hx.self] at hr ⊢
    have hd:R.2.2.2=true:=by
     cases hc:R.2.2.2 with
     | true=>rfl
     | false=>
      rw [he1] at hr;unfold ev1 at hr;rw [hc] at hr
      exact absurd (show(stepEv (evAt evs0 j)).resp=0 from hf.open_) hr
    obtain⟨f1,f2,f3⟩:=G.fin hd
    have he:e1=finishEv R.2.1 q ((maxS m).answer s').1 ((maxS m).answer s').2 (evAt evs0 j):=by
     rw [he1,hs'];unfold ev1;rw [hd];rfl
    rw [f1] at he
    refine⟨by rw [he];rfl,?_,f2,f3⟩
    rw [he]
    show keyOf R.2.1 q (mxKey _ _ _)=_
    unfold keyOf
    rw [if_neg (mxKey_ne _ _ _)]
   ·rw [hHo j hjk] at hj
    obtain⟨a1,a2,_⟩:=h.ok j g hj
    have hlt:j<(evs0.set k e1).length:=Nat.lt_of_lt_of_le a1 hx.size
    rw [(hx.other j hlt hjk).2] at hr ⊢
    obtain⟨f1,f2,f3,f4⟩:=h.fin j g hj hr
    refine⟨f1,?_,f3,λhw=>⟨(f4 hw).1,(f4 hw).2.mono hold⟩⟩
    rw [f2]
    refine(key_stable a2.last (λk=>(hS k).2) hold hnew λt ht hb'=>?_).symm
    obtain⟨d,hd⟩:=List.getElem?_of_mem ht
    cases hw:g.wr with
    | true=>exact(f4 hw).2 d t (Nat.zero_le _) hd hb'
    | false=>exact(a2.rr hw d t hd hb').1
  ·rw [hev] at hr ⊢
   by_cases hjk:j=k
   ·subst hjk
    rw [hx.self] at hr ⊢
    have hd:R.2.2.2=true:=by
     cases hc:R.2.2.2 with
     | true=>rfl
     | false=>
      rw [he1] at hr;unfold ev1 at hr;rw [hc] at hr
      exact absurd (show(stepEv (evAt evs0 j)).resp=0 from hf.open_) hr
    obtain⟨f1,f2,f3⟩:=G.fin hd
    have he:e1=finishEv R.2.1 q ((maxS m).answer s').1 ((maxS m).answer s').2 (evAt evs0 j):=by
     rw [he1,hs'];unfold ev1;rw [hd];rfl
    rw [f1] at he
    have hk9:e1.key=mxKey (mxS R.2.1.traces) (gOf s' iv).ts (gOf s' iv).last:=by
     rw [he]
     show keyOf R.2.1 q (mxKey _ _ _)=_
     unfold keyOf
     rw [if_neg (mxKey_ne _ _ _)]
    have hr9:e1.resp=wd0.now:=by rw [he];exact G.now
    rw [hk9,hr9]
    exact key_le G.ok.last (λt _ _=>hlate _)
   ·rw [hHo j hjk] at hj
    obtain⟨a1,a2,_⟩:=h.ok j g hj
    have hlt:j<(evs0.set k e1).length:=Nat.lt_of_lt_of_le a1 hx.size
    rw [(hx.other j hlt hjk).2] at hr ⊢
    exact h.kr j g hj hr
  ·rw [hev] at hj ⊢
   have hjk:j≠k:=λe=>by rw [e,hHk] at hn;cases hn
   rw [hHo j hjk] at hn
   obtain⟨b1,b2⟩:=hx.other j hj hjk
   rw [b2]
   exact h.none_ j b1 hn
  ·rw [hwd] at h0 ⊢
   by_cases ca:mxS R.2.1.traces a=mxS st.wd.traces a
   ·have h0':mxS st.wd.traces a≠0:=by rw [<-ca];exact h0
    obtain⟨j,g,d,b1,b2,b3,b4,b5,b6⟩:=h.set a ha h0'
    have hfin:∀(d':Nat) (t':Nat×Bool),d<d'->g.ts[d']?=some t'->t'.2=true->mxS R.2.1.traces t'.1≠0/\mxS R.2.1.traces t'.1<=mxS R.2.1.traces a:=λd' t' hd ht hbb=>by
     obtain⟨c1,c2⟩:=b6 d' t' hd ht hbb
     rw [hold _ c1,ca];exact⟨c1,c2⟩
    by_cases hjk:j=k
    ·subst hjk
     have e:=g8 g b1
     rw [e] at b2 b3 b4 b5 hfin
     have e2:=G.keep b3
     rw [<-e2] at b2 b3 b4 b5 hfin
     exact⟨j,gOf s' iv,d,hHk,b2,b3,b4,by rw [ca];exact b5,hfin⟩
    ·exact⟨j,g,d,by rw [hHo j hjk];exact b1,b2,b3,b4,by rw [ca];exact b5,hfin⟩
   ·obtain⟨c1,c2,d,c3,c4⟩:=G.set a ha (by rw [htr0];exact ca)
    have hSa:mxS R.2.1.traces a=(wd0.now:Int):=(G.new a).resolve_left (by rw [htr0];exact ca)
    refine⟨k,gOf s' iv,d,hHk,c1,c2,c3,by rw [hSa];exact G.ok.last,λd' t' hd ht hbb=>⟨c4 d' t' hd ht hbb,by rw [hSa];exact hlate _⟩⟩
theorem mxH_play0 (m:Nat) (calls:List CallD):MxH m calls (play0 (maxS m) () (List.replicate (2^m - 1) 0) calls) (λ_=>none) where
 word:=⟨by show(List.replicate (2^m - 1) 0).length=_;simp,λk h1 h2=>by show(List.replicate (2^m - 1) 0).getD (k - 1) 0=_;rw [getD_rep'];rfl⟩
 inj:=λa b _ _ h0=>absurd rfl h0
 marks:=rfl
 cf:=rfl
 ca:=Nat.le_refl 0
 tk:=λi j hi=>absurd hi (Nat.not_lt_zero _)
 opn:=λj hj=>absurd hj (Nat.not_lt_zero _)
 ivl:=rfl
 ok:=λj g h=>by cases h
 hand:=λp s k hp=>by rw [show(play0 (maxS m) () (List.replicate (2^m - 1) 0) calls).hands.getD p (none,0)=(none,0) from getD_rep'] at hp;cases hp
 fin:=λj g h=>by cases h
 kr:=λj g h=>by cases h
 none_:=λj hj=>absurd hj (Nat.not_lt_zero _)
 set:=λa _ h0=>absurd rfl h0
theorem mxH_picks {m n:Nat} (hm:0<m) {calls:List CallD} {picks:List Int} (hck:checkN n calls picks.length=0):∃ H,StGood calls (picksD (maxS m) calls (play0 (maxS m) () (List.replicate (2^m - 1) 0) calls) picks)/\MxBase m (picksD (maxS m) calls (play0 (maxS m) () (List.replicate (2^m - 1) 0) calls) picks)/\MxH m calls (picksD (maxS m) calls (play0 (maxS m) () (List.replicate (2^m - 1) 0) calls) picks) H:=by
 obtain⟨hg,hb,_,_,H,h⟩:=picks_ind (S:=maxS m) (max_now m) (thr_16 hck) (J:=λst=>MxBase m st/\MxSt m st/\MxUp m st/\∃ H,MxH m calls st H) (λst st' hg _ hj ht=>by
   obtain⟨j1,j2,j3,H,j4⟩:=hj
   have hs:=mxSt_turn hm hg j1 ⟨j2,j3⟩ ht
   exact⟨mx_base hm hg j1 ht,hs.1,hs.2,mxH_turn hm hg j1 j3 j4 ht⟩) picks (play0_good (S:=maxS m) calls () (List.replicate (2^m - 1) 0))
  ⟨mx_play0 m calls _,⟨(by show(List.replicate (2^m - 1) 0).length=_;simp),(λx hx=>by have hx':x∈List.replicate (2^m - 1) 0:=hx;rw [(List.mem_replicate.1 hx').2];exact Nat.zero_le _),(λp s k hp=>by rw [show(play0 (maxS m) () (List.replicate (2^m - 1) 0) calls).hands.getD p (none,0)=(none,0) from getD_rep'] at hp;cases hp),λj hj=>absurd hj (Nat.not_lt_zero _)⟩,⟨λp s k hp=>by rw [show(play0 (maxS m) () (List.replicate (2^m - 1) 0) calls).hands.getD p (none,0)=(none,0) from getD_rep'] at hp;cases hp⟩,_,mxH_play0 m calls⟩
 exact⟨H,hg,hb,h⟩
end
section

/- Layer 10: what is read is the greatest number written ahead of it: of the report of a play of a max register, in plain numbers. -/
open Go.RowKit
def mxOf (g:GOp):MxOp:=⟨g.ts,g.last,g.v⟩
def mxW (H:Nat->Option GOp) (x:MxOp):Prop:=∃ j g,H j=some g/\g.wr=true/\g.up=true/\x=mxOf g
def mxR {m:Nat} (st:PlayD (maxS m)) (H:Nat->Option GOp) (x:MxOp):Prop:=∃ j g,H j=some g/\g.wr=false/\(evAt st.evs j).resp≠0/\x=mxOf g
variable {m:Nat} {calls:List CallD} {st:PlayD (maxS m)} {H:Nat->Option GOp}
theorem mx_facts (h:MxH m calls st H):MxFact (mxS st.wd.traces) m (mxR st H) (mxW H):=by
 have hok:∀ x,mxR st H x∨mxW H x->∃ j g,H j=some g/\x=mxOf g/\GOk (mxS st.wd.traces) st.wd.now m g/\g.at m=m:=λx hx=>by
  rcases hx with⟨j,g,a1,a2,a3,a4⟩|⟨j,g,a1,a2,a3,a4⟩
  ·refine⟨j,g,a1,a4,(h.ok j g a1).2.1,?_⟩
   unfold GOp.at;rw [a2,if_neg Bool.false_ne_true]
   exact(h.fin j g a1 a3).2.2.1 a2
  ·refine⟨j,g,a1,a4,(h.ok j g a1).2.1,?_⟩
   unfold GOp.at;rw [if_pos a2]
 refine⟨h.inj,λx hx=>?_,λx hx d t ht=>?_,λx hx d t ht=>?_,λx hx=>?_,λx hx hl=>?_,λx hx t ht hb=>?_,λx hx d t ht hb=>?_,λk hk h0=>?_⟩
 ·obtain⟨j,g,_,rfl,b1,_⟩:=hok x hx;exact b1.len
 ·obtain⟨j,g,_,rfl,b1,_⟩:=hok x hx;exact b1.bits.path d t ht
 ·obtain⟨j,g,_,rfl,b1,b2⟩:=hok x hx
  have:=b1.bits.bit d t ht
  rw [b2] at this;exact this
 ·obtain⟨j,g,a1,a2,a3,rfl⟩:=hx
  exact(h.fin j g a1 a3).2.2.1 a2
 ·obtain⟨j,g,a1,a2,a3,rfl⟩:=hx
  have b1:=(h.ok j g a1).2.1
  exact b1.stop a3 (by unfold GOp.at;rw [if_pos a2];exact hl)
 ·obtain⟨j,g,_,rfl,b1,_⟩:=hok x hx
  exact b1.lne ⟨t,ht,hb⟩
 ·obtain⟨j,g,a1,a2,a3,rfl⟩:=hx
  exact(h.ok j g a1).2.1.rr a2 d t ht hb
 ·obtain⟨j,g,d,a1,a2,a3,a4,a5,a6⟩:=h.set k hk h0
  exact⟨mxOf g,d,⟨j,g,a1,a2,a3,rfl⟩,a4,a5,a6⟩
theorem rset_eff {S:Nat->Int} {g:GOp}:RSet S g.ts 0↔Eff S (mxOf g) 0:=⟨λh d t hd ht hb=>h d t hd ht hb,λh d t hd ht hb=>h d t hd ht hb⟩
theorem mx_end (hg:StGood calls st) (hthr:∀ c,c<calls.length->0<=(calls.getD c d0).thread/\(calls.getD c d0).thread<16) (h:MxH m calls st H) {j:Nat} {g:GOp} (hj:H j=some g) :
  (g.wr=true->(kAt (endD (maxS m) st) j≠[]↔g.up=true/\RSet (mxS st.wd.traces) g.ts 0))/\(g.wr=false->(kAt (endD (maxS m) st) j≠[]↔(evAt st.evs j).resp≠0))/\(kAt (endD (maxS m) st) j≠[]->kAt (endD (maxS m) st) j=mxKey (mxS st.wd.traces) g.ts g.last):=by
 obtain⟨a1,a2,_⟩:=h.ok j g hj
 obtain⟨e1,e2⟩:=end_at hg hthr a1
 have hmk:∀ p,st.wd.marks.getD p []=[]:=λp=>by rw [h.marks];exact getD_rep'
 by_cases hr:(evAt st.evs j).resp=0
 ·obtain⟨s,hs,e⟩:=e2 hr
  obtain⟨b1,b2,b3⟩:=h.hand _ s j hs
  rw [hj] at b1
  have hk:kAt (endD (maxS m) st) j=((maxS m).late st.obj st.wd (tn calls (evAt st.evs j)) s).getD (st.wd.marks.getD (tn calls (evAt st.evs j)) []):=by unfold kAt;rw [e]
  rw [hmk] at hk
  rw [hk]
  have eg:g=gOf s (evAt st.evs j).inv:=Option.some.inj b1
  match s,eg,b2 with
  | .rd x,eg,_=>
   have hl:((maxS m).late st.obj st.wd (tn calls (evAt st.evs j)) (.rd x)).getD []=[]:=rfl
   rw [hl]
   refine⟨λhw=>?_,λ_=>⟨λx=>absurd rfl x,λx=>absurd hr x⟩,λx=>absurd rfl x⟩
   rw [eg] at hw;cases hw
  | .wr x,eg,b2=>
   have hl:((maxS m).late st.obj st.wd (tn calls (evAt st.evs j)) (.wr x)).getD []=wrLate 0 (tn calls (evAt st.evs j)) st.wd x:=rfl
   rw [hl]
   have hts:g.ts=x.y.turns:=by rw [eg];rfl
   have hup:g.up=x.up:=by rw [eg];rfl
   have hw1:g.wr=true:=by rw [eg];rfl
   have hla:wayLast st.wd (tn calls (evAt st.evs j)) x.y=g.last:=by
    rw [eg];unfold wayLast;rw [b3];rfl
   have hany:(x.y.turns.any λt=>t.2 && decide (mxSet st.wd.traces 0 t.1=0))=true↔¬ RSet (mxS st.wd.traces) x.y.turns 0:=by
    rw [List.any_eq_true]
    constructor
    ·rintro⟨t,ht,hb⟩ hR
     rw [Bool.and_eq_true,decide_eq_true_eq] at hb
     obtain⟨d,hd⟩:=List.getElem?_of_mem ht
     exact hR d t (Nat.zero_le _) hd hb.1 hb.2
    ·intro hR
     apply Classical.byContradiction
     intro hne
     refine hR λd t _ hd hb h0=>hne ⟨t,List.mem_of_getElem? hd,?_⟩
     rw [Bool.and_eq_true,decide_eq_true_eq];exact⟨hb,h0⟩
   have hwk:wayKey 0 (tn calls (evAt st.evs j)) st.wd x.y=mxKey (mxS st.wd.traces) g.ts g.last:=by
    unfold wayKey;rw [hla,hts];rfl
   have hnw:g.wr=false->False:=λe=>by rw [hw1] at e;cases e
   unfold wrLate
   cases hu:x.up with
   | false=>
    rw [if_pos rfl]
    rw [hu] at hup
    refine⟨λ_=>⟨λx=>absurd rfl x,λx=>?_⟩,λhw=>(hnw hw).elim,λx=>absurd rfl x⟩
    rw [hup] at x;cases x.1
   | true=>
    rw [if_neg (by decide)]
    rw [hu] at hup
    by_cases hR:RSet (mxS st.wd.traces) x.y.turns 0
    ·rw [if_neg (λe=>(hany.1 e) hR),hwk,hts,hup]
     exact⟨λ_=>⟨λ_=>⟨rfl,hR⟩,λ_=>mxKey_ne _ _ _⟩,λhw=>(hnw hw).elim,λ_=>rfl⟩
    ·rw [if_pos (hany.2 hR),hts]
     exact⟨λ_=>⟨λx=>absurd rfl x,λx=>absurd x.2 hR⟩,λhw=>(hnw hw).elim,λx=>absurd rfl x⟩
 ·have hk:kAt (endD (maxS m) st) j=(evAt st.evs j).key:=by unfold kAt;rw [e1 hr]
  obtain⟨f1,f2,f3,f4⟩:=h.fin j g hj hr
  rw [hk,f2]
  exact⟨λhw=>⟨λ_=>f4 hw,λ_=>mxKey_ne _ _ _⟩,λ_=>⟨λ_=>hr,λ_=>mxKey_ne _ _ _⟩,λ_=>rfl⟩
end
end Go.Proofs.Ytlanekkbciffcaa
