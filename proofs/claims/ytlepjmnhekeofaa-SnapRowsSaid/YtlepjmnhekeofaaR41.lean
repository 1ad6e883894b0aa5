/- Layer 15: each thread updates and scans in turn: of two scans one tells no earlier update than the other one (15.6), in plain numbers. -/
import Derived.Test.YtlepjmnhekeofaaR40
set_option maxRecDepth 100000
set_option linter.unusedVariables false
set_option linter.unusedSimpArgs false
set_option linter.unnecessarySimpa false
namespace Go.Proofs.Ytlepjmnhekeofaa
open Go.RowKit
section
variable {S:Sys} {calls:List CallD}
def FinEv (calls:List CallD) (st:PlayD S):Prop:=∀ c,c<calls.length->st.fin.getD c false=true->∃ j,j<st.evs.length/\(evAt st.evs j).call=c/\(evAt st.evs j).resp≠0
theorem From.callI {st:PlayD S} {q i k:Nat} {s:S.σ} {evs0:List EvD} {wd0:WD} (h:From calls st q i k s evs0 wd0):(evAt evs0 k).call=i:=by
 cases h with
 | old k s hh hk hc hr=>exact hc
 | new s hh hs=>rw [evAt_last];rfl
theorem fin_turn (hnow:∀ o wd p s,(S.step o wd p s).2.1.now=wd.now) {st st':PlayD S} (hg:StGood calls st) (h:FinEv calls st) (ht:Turn calls st st'):FinEv calls st':=by
 cases ht with
 | idle=>exact h
 | refuse q i er hq hN hh hs=>
  intro c hc hf
  have hnx:=refuse_next hg hN (finishEv (st.wd.tick.begin q) q ⟨er,0,[]⟩ [] (newEv i (st.wd.tick.begin q))) rfl
  by_cases hci:c=i
  ·exact⟨st.evs.length,hnx.lt,by rw [hci];show(evAt (st.evs++_) st.evs.length).call=i;rw [hnx.self];rfl,by show(evAt (st.evs++_) st.evs.length).resp≠0;rw [hnx.self];exact Nat.succ_ne_zero _⟩
  ·have hf':st.fin.getD c false=true:=by
    have:(st.fin.set i true).getD c false=true:=hf
    rw [getD_set_neq (Ne.symm hci)] at this;exact this
   obtain⟨j,j1,j2,j3⟩:=h c hc hf'
   have e:evAt (st.evs++[finishEv (st.wd.tick.begin q) q ⟨er,0,[]⟩ [] (newEv i (st.wd.tick.begin q))]) j=evAt st.evs j:=(hnx.other j (Nat.lt_of_lt_of_le j1 hnx.size) (by omega)).2
   exact⟨j,Nat.lt_of_lt_of_le j1 hnx.size,(congrArg EvD.call e).trans j2,λx=>j3 ((congrArg EvD.resp e).symm.trans x)⟩
 | step q i k s evs0 wd0 hq hN hf=>
  obtain⟨f1,f2,f3,f4,f5⟩:=ev1_fields (S.step st.obj wd0 q s) q (evAt evs0 k)
  have hnx:=hf.next hg hN (ev1 S (S.step st.obj wd0 q s) q (evAt evs0 k)) f1
  intro c hc hfc
  have old:st.fin.getD c false=true->∃ j,j<(evs0.set k (ev1 S (S.step st.obj wd0 q s) q (evAt evs0 k))).length/\(evAt (evs0.set k (ev1 S (S.step st.obj wd0 q s) q (evAt evs0 k))) j).call=c/\(evAt (evs0.set k (ev1 S (S.step st.obj wd0 q s) q (evAt evs0 k))) j).resp≠0:=λhf'=>by
   obtain⟨j,j1,j2,j3⟩:=h c hc hf'
   have hjk:j≠k:=λe=>j3 (by rw [e];exact hnx.old (by omega))
   have e:=(hnx.other j (Nat.lt_of_lt_of_le j1 hnx.size) hjk).2
   exact⟨j,Nat.lt_of_lt_of_le j1 hnx.size,(congrArg EvD.call e).trans j2,λx=>j3 ((congrArg EvD.resp e).symm.trans x)⟩
  cases hb:(S.step st.obj wd0 q s).2.2.2 with
  | false=>
   refine old ?_
   have:(if (S.step st.obj wd0 q s).2.2.2 then st.fin.set i true else st.fin).getD c false=true:=hfc
   rw [hb] at this;exact this
  | true=>
   by_cases hci:c=i
   ·have hn1:=hnow st.obj wd0 q s
    have hn2:=hf.now
    refine⟨k,hnx.lt,?_,?_⟩
    ·show(evAt (evs0.set k _) k).call=c
     rw [hnx.self,f1,hf.callI,hci]
    ·show(evAt (evs0.set k _) k).resp≠0
     rw [hnx.self,(f4 hb).1];omega
   ·refine old ?_
    have:(if (S.step st.obj wd0 q s).2.2.2 then st.fin.set i true else st.fin).getD c false=true:=hfc
    rw [hb,if_pos rfl,getD_set_neq (Ne.symm hci)] at this;exact this
end
def rcs (n:Nat):Nat->List CallD
 | 0=>[]
 | q+1=>rcs n q++[⟨((q % n:Nat):Int),0,0,q / n+1,0,0⟩,⟨((q % n:Nat):Int),0,1,0,0,0⟩]
theorem rcs_len (n:Nat):∀ q,(rcs n q).length=2*q
 | 0=>rfl
 | q+1=>by
  show(rcs n q++_).length=_
  rw [List.length_append,rcs_len n q];show 2*q+2=_;omega
theorem rcs_get (n:Nat):∀ Q q,q<Q->(rcs n Q).getD (2*q) d0=⟨((q % n:Nat):Int),0,0,q / n+1,0,0⟩/\(rcs n Q).getD (2*q+1) d0=⟨((q % n:Nat):Int),0,1,0,0,0⟩
 | 0,q,h=>absurd h (Nat.not_lt_zero q)
 | Q+1,q,h=>by
  have hl:=rcs_len n Q
  by_cases e:q=Q
  ·subst e
   show(rcs n q++_).getD _ _=_/\(rcs n q++_).getD _ _=_
   rw [List.getD_eq_getElem?_getD,List.getD_eq_getElem?_getD,List.getElem?_append_right (by omega),List.getElem?_append_right (by omega),hl]
   rw [Nat.sub_self,show 2*q+1 - 2*q=1 by omega]
   exact⟨rfl,rfl⟩
  ·obtain⟨a,b⟩:=rcs_get n Q q (by omega)
   show(rcs n Q++_).getD _ _=_/\(rcs n Q++_).getD _ _=_
   rw [List.getD_eq_getElem?_getD,List.getD_eq_getElem?_getD,List.getElem?_append_left (by omega),List.getElem?_append_left (by omega),<-List.getD_eq_getElem?_getD,<-List.getD_eq_getElem?_getD]
   exact⟨a,b⟩
theorem rcs_mem (n:Nat) (hn:1<=n):∀ Q x,x∈rcs n Q->0<=x.thread/\x.thread<n/\x.obj=0/\0<=x.kind/\x.kind<=1/\x.a<=Q/\x.b=0/\x.c=0
 | 0,x,h=>(List.not_mem_nil h).elim
 | Q+1,x,h=>by
  have hm:Q % n<n:=Nat.mod_lt _ hn
  have hd:Q / n<=Q:=Nat.div_le_self _ _
  rcases List.mem_append.1 h with h|h
  ·obtain⟨a1,a2,a3,a4,a5,a6,a7,a8⟩:=rcs_mem n hn Q x h
   exact⟨a1,a2,a3,a4,a5,by omega,a7,a8⟩
  ·rcases List.mem_cons.1 h with rfl|h
   ·exact⟨Int.natCast_nonneg _,by show((Q % n:Nat):Int)<n;omega,rfl,Int.le_refl _,by show(0:Int)<=1;decide,by show Q / n+1<=Q+1;omega,rfl,rfl⟩
   ·rw [List.mem_singleton.1 h]
    exact⟨Int.natCast_nonneg _,by show((Q % n:Nat):Int)<n;omega,rfl,by show(0:Int)<=1;decide,Int.le_refl _,Nat.zero_le _,rfl,rfl⟩
theorem rcs_check {n Q np:Nat} (hn:1<=n) (hn8:n<=16) (hQ:Q<=500) (hnp:np<=65536):checkN (n:Int) (rcs n Q) np=0:=by
 unfold checkN wrongN
 rw [if_neg (by omega),if_neg (by rw [rcs_len];omega),if_neg (by omega),if_neg (by rw [rcs_len];omega),if_neg]
 intro h
 obtain⟨x,hx,hb⟩:=List.any_eq_true.1 h
 obtain⟨a1,a2,_⟩:=rcs_mem n hn Q x hx
 unfold badT at hb
 simp at hb
 omega
variable {n Q k:Nat}
theorem rcs_call {c:Nat} (h:c<(rcs n Q).length):∃ q,q<Q/\((c=2*q/\(rcs n Q).getD c d0=⟨((q % n:Nat):Int),0,0,q / n+1,0,0⟩)∨(c=2*q+1/\(rcs n Q).getD c d0=⟨((q % n:Nat):Int),0,1,0,0,0⟩)):=by
 rw [rcs_len] at h
 refine⟨c / 2,by omega,?_⟩
 obtain⟨a,b⟩:=rcs_get n Q (c / 2) (by omega)
 rcases Nat.mod_two_eq_zero_or_one c with e|e
 ·have e2:c=2*(c / 2):=by omega
  exact .inl ⟨e2,by rw [<-e2] at a;exact a⟩
 ·have e2:c=2*(c / 2)+1:=by omega
  exact .inr ⟨e2,by rw [<-e2] at b;exact b⟩
theorem cnt_one {P:EvD->Bool} {l:List EvD} (h:∀ i j,i<l.length->j<l.length->P (evAt l i)=true->P (evAt l j)=true->i=j):cnt P l<=1:=by
 rw [cnt_range]
 have hnd:((List.range l.length).filter λi=>P (evAt l i)).Nodup:=List.Nodup.sublist List.filter_sublist List.nodup_range
 match hL:(List.range l.length).filter λi=>P (evAt l i),hnd with
 | [],_=>exact Nat.zero_le _
 | [a],_=>exact Nat.le_refl _
 | a::b::r,hnd=>
  exfalso
  have ha:a∈(List.range l.length).filter λi=>P (evAt l i):=by rw [hL];simp
  have hb:b∈(List.range l.length).filter λi=>P (evAt l i):=by rw [hL];simp
  obtain⟨a1,a2⟩:=List.mem_filter.1 ha
  obtain⟨b1,b2⟩:=List.mem_filter.1 hb
  have:=h a b (List.mem_range.1 a1) (List.mem_range.1 b1) a2 b2
  subst this
  simp at hnd
structure SnRows (n Q:Nat) (evs:List EvD):Prop where
 call:∀ i,i<evs.length->(evAt evs i).call<(rcs n Q).length
 own:∀ i,i<evs.length->(evAt evs i).resp≠0->kindOf (rcs n Q) (evAt evs i)=1->(evAt evs i).ans.list.length=n/\(evAt evs i).ans.list.getD ((evAt evs i).call / 2 % n) 0=(evAt evs i).call / 2 / n+1
 cmp:∀ i j,i<evs.length->j<evs.length->(evAt evs i).resp≠0->(evAt evs j).resp≠0->kindOf (rcs n Q) (evAt evs i)=1->kindOf (rcs n Q) (evAt evs j)=1->(∀ t,t<n->(evAt evs i).ans.list.getD t 0<=(evAt evs j).ans.list.getD t 0)∨(∀ t,t<n->(evAt evs j).ans.list.getD t 0<=(evAt evs i).ans.list.getD t 0)
section
variable {st:PlayD (snapS n k)} {rho:Nat->Nat}
theorem rc_later (hg:StGood (rcs n Q) st) {x y:Nat} (hx:x<st.evs.length) (hy:y<st.evs.length) (wx:(evAt st.evs x).resp≠0) (ht:tn (rcs n Q) (evAt st.evs x)=tn (rcs n Q) (evAt st.evs y)) (hle:(evAt st.evs x).resp<=(evAt st.evs y).resp):(evAt st.evs x).call<=(evAt st.evs y).call:=by
 rcases Nat.lt_trichotomy x y with h|h|h
 ·exact Nat.le_of_lt (hg.ev.same x y h hy ht).2.2
 ·rw [h];exact Nat.le_refl _
 ·have h1:=(hg.ev.same y x h hx ht.symm).2.1
  have h2:=(hg.ev.resp x hx wx).1
  omega
theorem rc_upd {e:EvD} (h:e.call<(rcs n Q).length) (hk:kindOf (rcs n Q) e=0):e.call % 2=0/\valA ((rcs n Q).getD e.call d0)=e.call / 2 / n+1/\tn (rcs n Q) e=e.call / 2 % n:=by
 obtain⟨q,hq,⟨e1,e2⟩|⟨e1,e2⟩⟩:=rcs_call h
 ·have e3:e.call / 2=q:=by omega
  refine⟨by omega,by rw [e2,e3];rfl,by unfold tn;rw [e2,e3];rfl⟩
 ·exfalso
  unfold kindOf at hk
  rw [e2] at hk;cases hk
theorem rc_mono (hg:StGood (rcs n Q) st) {t m m' v v':Nat} (hm:m<=m') (h1:ValAt (rcs n Q) prtT valA st.evs t m v) (h2:ValAt (rcs n Q) prtT valA st.evs t m' v'):v<=v':=by
 obtain⟨o1,a1,rfl⟩:=h1
 obtain⟨o2,b1,rfl⟩:=h2
 match o1,a1 with
 | none,_=>exact Nat.zero_le _
 | some x,⟨x1,x2,x3,x4,_⟩=>
  match o2,b1 with
  | none,b1=>have:=b1 x x1 x2 x3;omega
  | some y,⟨y1,y2,y3,y4,y5⟩=>
   have hle:=y5 x x1 x2 x3 (by omega)
   have hc:=rc_later hg x1 y1 x2.2.2.2 (by show prtT _=prtT _;rw [x3,y3]) hle
   show valA ((rcs n Q).getD (evAt st.evs x).call d0)<=valA ((rcs n Q).getD (evAt st.evs y).call d0)
   rw [(rc_upd (hg.ev.call x x1) x2.2.1).2.1,(rc_upd (hg.ev.call y y1) y2.2.1).2.1]
   have:(evAt st.evs x).call / 2 / n<=(evAt st.evs y).call / 2 / n:=Nat.div_le_div_right (Nat.div_le_div_right hc)
   omega
theorem rc_count (hg:StGood (rcs n Q) st) (t:Nat):∀ kap,cnt (λe=>isU (rcs n Q) t e && decide (e.call / 2 / n<kap)) st.evs<=kap
 | 0=>by rw [cnt_zero (λi _=>by rw [decide_eq_false (Nat.not_lt_zero _),Bool.and_false])];exact Nat.le_refl _
 | kap+1=>by
  have e:=cnt_both (P:=λe=>isU (rcs n Q) t e && decide (e.call / 2 / n<kap)) (Q:=λe=>isU (rcs n Q) t e && decide (e.call / 2 / n=kap)) (R:=λe=>isU (rcs n Q) t e && decide (e.call / 2 / n<kap+1)) (l:=st.evs) (λi _=>by
   constructor
   ·cases isU (rcs n Q) t (evAt st.evs i) with
    | false=>rfl
    | true=>
     simp only [Bool.true_and]
     by_cases h:(evAt st.evs i).call / 2 / n<kap
     ·rw [decide_eq_true h,decide_eq_true (by omega)];rfl
     ·rw [decide_eq_false h,Bool.false_or]
      exact decide_eq_decide.2 (by omega)
   ·rintro⟨h1,h2⟩
    have h3:=of_decide_eq_true (Bool.and_eq_true_iff.1 h1).2
    have h4:=of_decide_eq_true (Bool.and_eq_true_iff.1 h2).2
    omega)
  have h1:=rc_count hg t kap
  have h2:cnt (λe=>isU (rcs n Q) t e && decide (e.call / 2 / n=kap)) st.evs<=1:=cnt_one λi j hi hj p1 p2=>by
   obtain⟨a1,a2⟩:=Bool.and_eq_true_iff.1 p1
   obtain⟨b1,b2⟩:=Bool.and_eq_true_iff.1 p2
   unfold isU at a1 b1
   obtain⟨a3,a4⟩:=Bool.and_eq_true_iff.1 a1
   obtain⟨b3,b4⟩:=Bool.and_eq_true_iff.1 b1
   have a2:=of_decide_eq_true a2
   have b2:=of_decide_eq_true b2
   have a3:=of_decide_eq_true a3
   have b3:=of_decide_eq_true b3
   have a4:=of_decide_eq_true a4
   have b4:=of_decide_eq_true b4
   obtain⟨u1,_,u3⟩:=rc_upd (hg.ev.call i hi) a3.2.1
   obtain⟨w1,_,w3⟩:=rc_upd (hg.ev.call j hj) b3.2.1
   have hq:(evAt st.evs i).call / 2=(evAt st.evs j).call / 2:=by
    rw [<-Nat.div_add_mod ((evAt st.evs i).call / 2) n,<-Nat.div_add_mod ((evAt st.evs j).call / 2) n,a2,b2,<-u3,<-w3,a4,b4]
   rcases Nat.lt_trichotomy i j with h|h|h
   ·have:=(hg.ev.same i j h hj (a4.trans b4.symm)).2.2;omega
   ·exact h
   ·have:=(hg.ev.same j i h hi (b4.trans a4.symm)).2.2;omega
  rw [e];omega
theorem rc_own (hn:1<=n) (hk:k=5) (hQ:Q<=4*n) (hg:StGood (rcs n Q) st) (hF:FinEv (rcs n Q) st) (h:SnInv n k (rcs n Q) st rho) {i m:Nat} (hi:i<st.evs.length) (hr:(evAt st.evs i).resp≠0) (hkd:kindOf (rcs n Q) (evAt st.evs i)=1) (hm1:(evAt st.evs i).inv<=m) (hm2:m<=(evAt st.evs i).resp) {v:Nat} (hv:ValAt (rcs n Q) prtT valA st.evs ((evAt st.evs i).call / 2 % n) m v):v=(evAt st.evs i).call / 2 / n+1:=by
 have hcl:=hg.ev.call i hi
 obtain⟨q,hq,⟨c1,c2⟩|⟨c1,c2⟩⟩:=rcs_call hcl
 ·exfalso;unfold kindOf at hkd;rw [c2] at hkd;cases hkd
 have hcq:(evAt st.evs i).call / 2=q:=by omega
 have htn:tn (rcs n Q) (evAt st.evs i)=q % n:=by unfold tn;rw [c2];rfl
 have hprev:=(rcs_get n Q q hq).1
 have hlen:=rcs_len n Q
 have hfin:st.fin.getD (2*q) false=true:=by
  cases hb:st.fin.getD (2*q) false with
  | true=>rfl
  | false=>
   have:=hg.ev.ord (evAt st.evs i).call (2*q) hcl (by omega) (by rw [c2,hprev]) (hg.ev.resp i hi hr).2.2 hb
   omega
 obtain⟨j,j1,j2,j3⟩:=hF (2*q) (by omega) hfin
 have hjk:kindOf (rcs n Q) (evAt st.evs j)=0:=by unfold kindOf;rw [j2,hprev]
 have hjo:objOf (rcs n Q) (evAt st.evs j)=0:=by unfold objOf;rw [j2,hprev]
 have hjt:tn (rcs n Q) (evAt st.evs j)=q % n:=by unfold tn;rw [j2,hprev];rfl
 have hqn:q / n<4:=(Nat.div_lt_iff_lt_mul hn).2 (by omega)
 have hpj:piW (rcs n Q) (evAt st.evs j):=by
  refine⟨hjo,hjk,?_,j3⟩
  rcases(h.told j j1 j3).up hjo hjk with⟨u1,_⟩|⟨_,u2⟩
  ·rw [u1]
  ·exfalso
   have h1:=rc_count hg (q % n) (q / n)
   have h2:cnt (isUT (rcs n Q) (tn (rcs n Q) (evAt st.evs j)) (evAt st.evs j).resp) st.evs<=cnt (λe=>isU (rcs n Q) (q % n) e && decide (e.call / 2 / n<q / n)) st.evs:=cnt_mono λx hx hp=>by
    unfold isUT at hp
    obtain⟨p1,p2⟩:=Bool.and_eq_true_iff.1 hp
    rw [hjt] at p1
    have p2:=of_decide_eq_true p2
    have p3:=p1
    unfold isU at p3
    obtain⟨p4,p5⟩:=Bool.and_eq_true_iff.1 p3
    have p4:=of_decide_eq_true p4
    have p5:=of_decide_eq_true p5
    rw [p1,Bool.true_and]
    refine decide_eq_true ?_
    have hc:=rc_later hg hx j1 p4.2.2.2 (p5.trans hjt.symm) (by omega)
    obtain⟨u1,_,u3⟩:=rc_upd (hg.ev.call x hx) p4.2.1
    have hne:(evAt st.evs x).call≠(evAt st.evs j).call:=λe=>by
     rcases Nat.lt_trichotomy x j with h9|h9|h9
     ·have:=(hg.ev.same x j h9 j1 (p5.trans hjt.symm)).2.2;omega
     ·rw [h9] at p2;omega
     ·have:=(hg.ev.same j x h9 hx (hjt.trans p5.symm)).2.2;omega
    have hlt:(evAt st.evs x).call / 2<q:=by omega
    have hle:(evAt st.evs x).call / 2 / n<=q / n:=Nat.div_le_div_right (by omega)
    rcases Nat.lt_or_eq_of_le hle with h9|h9
    ·exact h9
    ·exfalso
     have e1:=Nat.div_add_mod ((evAt st.evs x).call / 2) n
     have e2:=Nat.div_add_mod q n
     rw [h9,<-u3,p5] at e1
     omega
   omega
 have hjr:(evAt st.evs j).resp<(evAt st.evs i).inv:=by
  rcases Nat.lt_trichotomy j i with h9|h9|h9
  ·exact(hg.ev.same j i h9 hi (hjt.trans htn.symm)).2.1
  ·exfalso;subst h9;omega
  ·have:=(hg.ev.same i j h9 j1 (htn.trans hjt.symm)).2.2;omega
 have hprj:prtT ((rcs n Q).getD (evAt st.evs j).call d0)=q % n:=hjt
 rw [hcq] at hv ⊢
 obtain⟨oj,o1,rfl⟩:=hv
 match oj,o1 with
 | none,o1=>have:=o1 j j1 hpj hprj;omega
 | some y,⟨y1,y2,y3,y4,y5⟩=>
  have hle:=y5 j j1 hpj hprj (by omega)
  have hyt:tn (rcs n Q) (evAt st.evs y)=q % n:=y3
  have hc1:=rc_later hg j1 y1 j3 (hjt.trans hyt.symm) hle
  obtain⟨u1,u2,_⟩:=rc_upd (hg.ev.call y y1) y2.2.1
  have hc2:(evAt st.evs y).call<=2*q:=by
   rcases Nat.lt_trichotomy y i with h9|h9|h9
   ·have:=(hg.ev.same y i h9 hi (hyt.trans htn.symm)).2.2;omega
   ·subst h9;have:=y2.2.1;omega
   ·have:=(hg.ev.same i y h9 y1 (htn.trans hyt.symm)).2.1
    have:=(hg.ev.resp y y1 y2.2.2.2).1
    omega
  show valA ((rcs n Q).getD (evAt st.evs y).call d0)=q / n+1
  rw [u2,show(evAt st.evs y).call / 2=q by omega]
end
theorem sn_rows {picks:List Int} (hn:1<=n) (hn8:n<=16) (hQ:Q<=4*n) (hnp:picks.length<=65536) :
  (playD (snapS n 5) snO0 (List.replicate (snSize n 5) 0) (rcs n Q) picks).evs.length<=picks.length/\SnRows n Q (playD (snapS n 5) snO0 (List.replicate (snSize n 5) 0) (rcs n Q) picks).evs:=by
 have hck:checkN (n:Int) (rcs n Q) picks.length=0:=rcs_check hn hn8 (by omega) hnp
 have hthr':=thr_16 hck
 have hthr:∀ c,c<(rcs n Q).length->0<=((rcs n Q).getD c d0).thread/\((rcs n Q).getD c d0).thread<n:=λc hc=>by have:=thr_ok hck c hc;omega
 have hnow:=(snap_ok n 5 0 hn8 (by decide)).now
 obtain⟨hg,hF,rho,h⟩:=picks_ind (S:=snapS n 5) hnow hthr' (J:=λst=>FinEv (rcs n Q) st/\∃ rho,SnInv n 5 (rcs n Q) st rho) (λst st' hg _ hj hT=>⟨fin_turn hnow hg hj.1 hT,sn_turn hn hn8 hthr hg hj.2 hT⟩) picks (play0_good (S:=snapS n 5) (rcs n Q) snO0 (List.replicate (snSize n 5) 0)) ⟨(λc hc hf=>by
  exfalso
  rw [show(play0 (snapS n 5) snO0 (List.replicate (snSize n 5) 0) (rcs n Q)).fin.getD c false=false from getD_rep'] at hf;cases hf),_,sn_play0 hn hn8 5 (rcs n Q)⟩
 refine⟨(sn_report (n:=n) (k:=5) (by decide) hck).1,?_⟩
 obtain⟨st,hst⟩:∃ st,st=picksD (snapS n 5) (rcs n Q) (play0 (snapS n 5) snO0 (List.replicate (snSize n 5) 0) (rcs n Q)) picks:=⟨_,rfl⟩
 rw [<-hst] at hg hF h
 have hE:(playD (snapS n 5) snO0 (List.replicate (snSize n 5) 0) (rcs n Q) picks).evs=endD (snapS n 5) st:=by rw [hst];rfl
 rw [hE]
 have hlen:=end_length (calls:=rcs n Q) hg
 obtain⟨e1,e2⟩:=end_same st (λ_ _ _ _=>rfl) (List.range 16) st.evs
 have hsame:∀ i,(evAt (endD (snapS n 5) st) i).call=(evAt st.evs i).call/\(evAt (endD (snapS n 5) st) i).inv=(evAt st.evs i).inv/\(evAt (endD (snapS n 5) st) i).resp=(evAt st.evs i).resp/\(evAt (endD (snapS n 5) st) i).steps=(evAt st.evs i).steps/\(evAt (endD (snapS n 5) st) i).ans=(evAt st.evs i).ans:=e2
 have hsc:∀ i,i<st.evs.length->(evAt st.evs i).resp≠0->kindOf (rcs n Q) (evAt st.evs i)=1->∃ m:Nat,(evAt st.evs i).ans.list.length=n/\(evAt st.evs i).inv<=m/\m<=(evAt st.evs i).resp/\∀ t,t<n->ValAt (rcs n Q) prtT valA st.evs t m ((evAt st.evs i).ans.list.getD t 0):=λi hi hr hkd=>by
  have hob:objOf (rcs n Q) (evAt st.evs i)=0:=by
   unfold objOf
   obtain⟨q,hq,⟨_,c2⟩|⟨_,c2⟩⟩:=rcs_call (hg.ev.call i hi)<;>rw [c2]
  obtain⟨m,_,_,a3,_,a5,a6,a7⟩:=(h.told i hi hr).rd hob hkd
  exact⟨m,a3,a5,a6,a7⟩
 refine⟨λi hi=>?_,λi hi hr hkd=>?_,λi j hi hj hr hr' hkd hkd'=>?_⟩
 ·rw [hlen] at hi
  rw [(hsame i).1];exact hg.ev.call i hi
 ·rw [hlen] at hi
  obtain⟨s1,s2,s3,s4,s5⟩:=hsame i
  unfold kindOf at hkd
  rw [s1] at hkd
  rw [s3] at hr
  rw [s5,s1]
  obtain⟨m,a3,a5,a6,a7⟩:=hsc i hi hr hkd
  exact⟨a3,rc_own hn rfl hQ hg hF h hi hr hkd a5 a6 (a7 _ (Nat.mod_lt _ hn))⟩
 ·rw [hlen] at hi hj
  obtain⟨s1,s2,s3,s4,s5⟩:=hsame i
  obtain⟨t1,t2,t3,t4,t5⟩:=hsame j
  unfold kindOf at hkd hkd'
  rw [s1] at hkd
  rw [t1] at hkd'
  rw [s3] at hr
  rw [t3] at hr'
  rw [s5,t5]
  obtain⟨m,_,_,_,a7⟩:=hsc i hi hr hkd
  obtain⟨m',_,_,_,b7⟩:=hsc j hj hr' hkd'
  rcases Nat.le_total m m' with hm|hm
  ·exact .inl λt ht=>rc_mono hg hm (a7 t ht) (b7 t ht)
  ·exact .inr λt ht=>rc_mono hg hm (b7 t ht) (a7 t ht)
end Go.Proofs.Ytlepjmnhekeofaa
