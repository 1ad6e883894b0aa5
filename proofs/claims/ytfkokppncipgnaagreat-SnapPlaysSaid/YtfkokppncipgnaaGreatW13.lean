/- Layer 6: what every play keeps: ticks, turns, and whose events are under way. -/
import Derived.Test.YtfkokppncipgnaaGreatW07
import Derived.Test.YtfkokppncipgnaaGreatW11
import Derived.Test.YtfkokppncipgnaaGreatW12
set_option maxRecDepth 100000
set_option linter.unusedVariables false
set_option linter.unusedSimpArgs false
set_option linter.unnecessarySimpa false
namespace Go.Proofs.YtfkokppncipgnaaGreat
open List renaming getElem_toArray → zq1, getElem_cons_zero → zq2, getElem_cons_succ → zq3, setIfInBounds_toArray → zq4, set_cons_zero → zq5, set_cons_succ → zq6
section
open Go.RowKit
def tn (calls:List aD) (e:EvD):Nat:=(calls.getD e.call d0).thread.toNat
def aF (evs:List EvD) (i:Nat):EvD:=evs.getD i iO
structure vS (calls:List aD) (now:Nat) (fin:List Bool) (hnd:Nat->Option Nat) (evs:List EvD):Prop where
 flen:fin.length=calls.length
 call:∀ i,i<evs.length->(aF evs i).call<calls.length
 tick:∀ i,i<evs.length->1<=(aF evs i).inv/\(aF evs i).inv<=now/\1<=(aF evs i).steps/\(aF evs i).resp<=now
 resp:∀ i,i<evs.length->(aF evs i).resp≠0->(aF evs i).inv<=(aF evs i).resp/\(aF evs i).steps<=(aF evs i).resp - (aF evs i).inv+1/\fin.getD (aF evs i).call false=true
 open_:∀ i,i<evs.length->(aF evs i).resp=0->(aF evs i).steps<=now - (aF evs i).inv+1/\hnd (tn calls (aF evs i))=some i
 rise:∀ i j,i<j->j<evs.length->(aF evs i).inv<(aF evs j).inv
 same:∀ i j,i<j->j<evs.length->tn calls (aF evs i)=tn calls (aF evs j)->(aF evs i).resp≠0/\(aF evs i).resp<(aF evs j).inv/\(aF evs i).call<(aF evs j).call
 hand:∀ p k,hnd p=some k->k<evs.length/\tn calls (aF evs k)=p/\(aF evs k).resp=0/\gF calls fin (p:Int)=some (aF evs k).call
 ord:∀ c c',c<calls.length->c'<calls.length->(calls.getD c d0).thread=(calls.getD c' d0).thread->fin.getD c false=true->fin.getD c' false=false->c<c'
 sum:(evs.map (·.steps)).sum=now
theorem wB (f:EvD->Nat):∀(l:List EvD) (k:Nat) (e:EvD),k<l.length->((l.set k e).map f).sum+f (aF l k)=(l.map f).sum+f e
 | [],_,_,h=>by simp at h
 | a::l,0,e,_=>by simp [aF];omega
 | a::l,k+1,e,h=>by
  have:=wB f l k e (by simpa using h)
  simp only [aF,zq6,List.map_cons,List.sum_cons,List.getD_cons_succ] at this ⊢
  omega
theorem jK {l:List EvD} {k:Nat} (e:EvD) (hk:k<l.length) (i:Nat):aF (l.set k e) i=if i=k then e else aF l i:=by
 unfold aF
 by_cases h:i=k
 ·rw [if_pos h,h,aI hk]
 ·rw [if_neg h,aK (Ne.symm h)]
theorem Cy (l:List EvD) (e:EvD) (i:Nat) (hi:i<(l++[e]).length):aF (l++[e]) i=if i=l.length then e else aF l i:=by
 unfold aF
 by_cases h:i=l.length
 ·rw [if_pos h,h,gM]
 ·rw [if_neg h,kZ (by simp at hi;omega)]
variable {calls:List aD} {now:Nat} {fin:List Bool} {hnd:Nat->Option Nat} {evs:List EvD}
theorem vS.step (h:vS calls now fin hnd evs) {p k:Nat} (hk:hnd p=some k):vS calls (now+1) fin hnd (dA evs k aS):=by
 obtain⟨k1,k2,k3,k4⟩:=h.hand p k hk
 have hE:=jK (aS (aF evs k)) k1
 have hL:(dA evs k aS).length=evs.length:=by simp [dA]
 have hM:dA evs k aS=evs.set k (aS (aF evs k)):=rfl
 have hc:∀ i,(aF (evs.set k (aS (aF evs k))) i).call=(aF evs i).call/\(aF (evs.set k (aS (aF evs k))) i).inv=(aF evs i).inv/\(aF (evs.set k (aS (aF evs k))) i).resp=(aF evs i).resp/\(aF (evs.set k (aS (aF evs k))) i).steps=(aF evs i).steps+(if i=k then 1 else 0):=by
  intro i
  rw [hE]
  by_cases h:i=k
  ·subst h;simp [aS]
  ·simp [h]
 have ht:∀ i,tn calls (aF (evs.set k (aS (aF evs k))) i)=tn calls (aF evs i):=λi=>by unfold tn;rw [(hc i).1]
 have hks:=(h.open_ k k1 k3).1
 have hkt:=h.tick k k1
 refine⟨h.flen,λi hi=>?_,λi hi=>?_,λi hi hr=>?_,λi hi hr=>?_,λi j hij hj=>?_,λi j hij hj=>?_,λq j hq=>?_,h.ord,?_⟩
 all_goals try rw [hL] at hi
 all_goals try rw [hL] at hj
 all_goals try rw [hM]
 ·rw [(hc i).1];exact h.call i hi
 ·rw [(hc i).2.1,(hc i).2.2.1,(hc i).2.2.2];have:=h.tick i hi;omega
 ·rw [hM,(hc i).2.2.1] at hr
  rw [(hc i).1,(hc i).2.1,(hc i).2.2.1,(hc i).2.2.2]
  have hik:i≠k:=by rintro rfl;exact hr k3
  rw [if_neg hik];exact h.resp i hi hr
 ·rw [hM,(hc i).2.2.1] at hr
  rw [(hc i).2.1,(hc i).2.2.2,ht]
  obtain⟨a1,a2⟩:=h.open_ i hi hr
  have:=h.tick i hi
  refine⟨?_,a2⟩
  split<;>omega
 ·rw [(hc i).2.1,(hc j).2.1];exact h.rise i j hij hj
 ·rw [ht,ht,(hc i).2.2.1,(hc j).2.1,(hc i).1,(hc j).1];exact h.same i j hij hj
 ·rw [<-hM,hL,hM,ht,(hc j).2.2.1,(hc j).1];exact h.hand q j hq
 ·have:=wB (·.steps) evs k (aS (aF evs k)) k1
  have e2:(aS (aF evs k)).steps=(aF evs k).steps+1:=rfl
  have h8:=h.sum
  omega
theorem Fq {fin:List Bool} {p:Int} {c:Nat} (hlen:fin.length=calls.length) (h:gF calls fin p=some c) {x:Int} (hx:x≠p):gF calls (fin.set c true) x=gF calls fin x:=by
 rw [vK] at h
 cases hq:qF calls fin p with
 | nil=>rw [hq] at h;cases h
 | cons a r=>
  rw [hq] at h;cases h
  rw [vK,vK,Gl hlen hq]
  unfold FT;rw [if_neg hx]
theorem vS.done (h:vS calls now fin hnd evs) {p k:Nat} (hk:hnd p=some k) {e:EvD} (he:e.call=(aF evs k).call/\e.inv=(aF evs k).inv/\e.steps=(aF evs k).steps/\e.resp=now) :
  vS calls now (fin.set (aF evs k).call true) (λq=>if q=p then none else hnd q) (evs.set k e):=by
 obtain⟨k1,k2,k3,k4⟩:=h.hand p k hk
 obtain⟨e1,e2,e3,e4⟩:=he
 have hE:=jK e k1
 have hL:(evs.set k e).length=evs.length:=by simp
 have hcl:=h.call k k1
 have hfl:(aF evs k).call<fin.length:=by rw [h.flen];exact hcl
 have hc:∀ i,(aF (evs.set k e) i).call=(aF evs i).call/\(aF (evs.set k e) i).inv=(aF evs i).inv/\(aF (evs.set k e) i).resp=(if i=k then now else (aF evs i).resp)/\(aF (evs.set k e) i).steps=(aF evs i).steps:=by
  intro i
  rw [hE]
  by_cases h:i=k
  ·subst h;simp [e1,e2,e3,e4]
  ·simp [h]
 have ht:∀ i,tn calls (aF (evs.set k e) i)=tn calls (aF evs i):=λi=>by unfold tn;rw [(hc i).1]
 have hks:=(h.open_ k k1 k3).1
 have hkt:=h.tick k k1
 have hf:∀ c,(fin.set (aF evs k).call true).getD c false=true↔c=(aF evs k).call∨fin.getD c false=true:=by
  intro c
  by_cases hcc:c=(aF evs k).call
  ·rw [hcc,aI hfl];simp
  ·rw [aK (Ne.symm hcc)];simp [hcc]
 obtain⟨n1,n2,n3⟩:=fC k4
 refine⟨by simpa using h.flen,λi hi=>?_,λi hi=>?_,λi hi hr=>?_,λi hi hr=>?_,λi j hij hj=>?_,λi j hij hj hs=>?_,λq j hq=>?_,λc c' hc1 hc2 hth hfc hfc'=>?_,?_⟩
 all_goals try rw [hL] at hi
 all_goals try rw [hL] at hj
 ·rw [(hc i).1];exact h.call i hi
 ·rw [(hc i).2.1,(hc i).2.2.1,(hc i).2.2.2];have:=h.tick i hi;split<;>omega
 ·rw [(hc i).2.2.1] at hr
  rw [(hc i).1,(hc i).2.1,(hc i).2.2.1,(hc i).2.2.2,hf]
  by_cases hik:i=k
  ·subst hik;simp only [if_true];exact⟨hkt.2.1,hks,.inl trivial⟩
  ·rw [if_neg hik] at hr ⊢;have:=h.resp i hi hr;exact⟨this.1,this.2.1,.inr this.2.2⟩
 ·rw [(hc i).2.2.1] at hr
  rw [(hc i).2.1,(hc i).2.2.2,ht]
  by_cases hik:i=k
  ·subst hik;simp only [if_true] at hr;omega
  ·rw [if_neg hik] at hr
   obtain⟨a1,a2⟩:=h.open_ i hi hr
   refine⟨a1,?_⟩
   have:tn calls (aF evs i)≠p:=by
    intro hp;rw [hp,hk] at a2;cases a2;exact hik rfl
   rw [if_neg this];exact a2
 ·rw [(hc i).2.1,(hc j).2.1];exact h.rise i j hij hj
 ·rw [ht,ht] at hs
  rw [(hc i).2.2.1,(hc j).2.1,(hc i).1,(hc j).1]
  have:=h.same i j hij hj hs
  by_cases hik:i=k
  ·subst hik;exact absurd k3 this.1
  ·rw [if_neg hik];exact this
 ·try simp only at hq
  by_cases hqp:q=p
  ·rw [if_pos hqp] at hq;cases hq
  ·rw [if_neg hqp] at hq
   obtain⟨a1,a2,a3,a4⟩:=h.hand q j hq
   have hjk:j≠k:=by rintro rfl;exact hqp (a2.symm.trans k2)
   rw [hL,ht,(hc j).2.2.1,(hc j).1,if_neg hjk]
   refine⟨a1,a2,a3,?_⟩
   rw [Fq h.flen k4 (by omega)];exact a4
 ·rw [hf] at hfc
  have Qf:¬ (c'=(aF evs k).call∨fin.getD c' false=true):=by rw [<-hf,hfc'];simp
  rcases hfc with rfl|hfc
  ·-- the call that is finished now was the first one that was not
   rcases Nat.lt_or_ge (aF evs k).call c' with hlt|hge
   ·exact hlt
   ·exfalso
    have hlt:c'<(aF evs k).call:=by have:c'≠(aF evs k).call:=λe=>Qf (.inl e);omega
    unfold gF at k4
    rw [List.find?_eq_some_iff_append] at k4
    obtain⟨_,xs,bs,hab,hno⟩:=k4
    have hlen:xs.length=(aF evs k).call:=by
     have h1:(List.range calls.length)[xs.length]?=some (aF evs k).call:=by rw [hab];simp
     rw [List.getElem?_range (by have:=congrArg List.length hab;simp at this;omega)] at h1
     simpa using h1
    have hmem:c'∈xs:=by
     have h1:(List.range calls.length)[c']?=some c':=by rw [List.getElem?_range hc2]
     rw [hab,List.getElem?_append_left (by omega)] at h1
     exact List.mem_of_getElem? h1
    have:=hno c' hmem
    unfold wH at this
    rw [<-hth,n2] at this
    have h9:fin.getD c' false=false:=by
     cases hb:fin.getD c' false with
     | false=>rfl
     | true=>exact absurd (.inr hb) Qf
    rw [h9] at this
    simp at this
  ·refine h.ord c c' hc1 hc2 hth hfc ?_
   cases hb:fin.getD c' false with
   | false=>rfl
   | true=>exact absurd (.inr hb) Qf
 ·have:=wB (·.steps) evs k e k1
  have h8:=h.sum
  omega
theorem vS.begun (h:vS calls now fin hnd evs) {p ci:Nat} (hpos:∀ c,c<calls.length->0<=(calls.getD c d0).thread) (hp:hnd p=none) (hN:gF calls fin (p:Int)=some ci) {e:EvD} (he:e.call=ci/\e.inv=now+1/\e.steps=1/\e.resp=0) :
  vS calls (now+1) fin (λq=>if q=p then some evs.length else hnd q) (evs++[e]):=by
 obtain⟨e1,e2,e3,e4⟩:=he
 obtain⟨n1,n2,n3⟩:=fC hN
 have hE:=Cy evs e
 have hte:tn calls e=p:=by unfold tn;rw [e1,n2];simp
 have hL:(evs++[e]).length=evs.length+1:=by simp
 have hlast:aF (evs++[e]) evs.length=e:=by rw [hE _ (by simp)];simp
 have hold:∀ i,i<evs.length->aF (evs++[e]) i=aF evs i:=λi hi=>by rw [hE _ (by simp;omega),if_neg (by omega)]
 have hcase:∀ {P:EvD->Prop} {i:Nat},i<(evs++[e]).length->(i<evs.length->P (aF evs i))->(i=evs.length->P e)->P (aF (evs++[e]) i):=by
  intro P i hi h1 h2
  by_cases hil:i=evs.length
  ·rw [hil,hlast];exact h2 hil
  ·have:i<evs.length:=by rw [hL] at hi;omega
   rw [hold i this];exact h1 this
 refine⟨h.flen,λi hi=>?_,λi hi=>?_,λi hi=>?_,λi hi=>?_,λi j hij hj=>?_,λi j hij hj=>?_,λq j hq=>?_,h.ord,?_⟩
 ·exact hcase (P:=λx=>x.call<calls.length) hi (h.call i) (λ_=>by rw [e1];exact n1)
 ·exact hcase (P:=λx=>1<=x.inv/\x.inv<=now+1/\1<=x.steps/\x.resp<=now+1) hi (λhi=>by have:=h.tick i hi;omega) (λ_=>by omega)
 ·exact hcase (P:=λx=>x.resp≠0->x.inv<=x.resp/\x.steps<=x.resp - x.inv+1/\fin.getD x.call false=true) hi (h.resp i) (λ_ hr=>absurd e4 hr)
 ·refine hcase (P:=λx=>x.resp=0->x.steps<=now+1 - x.inv+1/\(if tn calls x=p then some evs.length else hnd (tn calls x))=some i) hi (λhi hr=>?_) (λhil _=>⟨by omega,by rw [if_pos hte,hil]⟩)
  obtain⟨a1,a2⟩:=h.open_ i hi hr
  refine⟨by omega,?_⟩
  have:tn calls (aF evs i)≠p:=by intro hpp;rw [hpp,hp] at a2;cases a2
  rw [if_neg this];exact a2
 ·by_cases hjl:j=evs.length
  ·subst hjl
   rw [hlast,hold i hij,e2];have:=h.tick i hij;omega
  ·have Hy:j<evs.length:=by rw [hL] at hj;omega
   rw [hold i (by omega),hold j Hy];exact h.rise i j hij Hy
 ·by_cases hjl:j=evs.length
  ·subst hjl
   rw [hlast,hold i hij,hte,e2,e1]
   intro hs
   have hr:(aF evs i).resp≠0:=by
    intro hr
    have:=(h.open_ i hij hr).2
    rw [hs,hp] at this;cases this
   have hti:=h.tick i hij
   have hfi:=(h.resp i hij hr).2.2
   refine⟨hr,by omega,?_⟩
   have hth:(calls.getD (aF evs i).call d0).thread=(calls.getD ci d0).thread:=by
    have h8:=hpos _ (h.call i hij)
    have h9:(calls.getD (aF evs i).call d0).thread.toNat=p:=hs
    rw [n2];omega
   exact h.ord _ _ (h.call i hij) n1 hth hfi n3
  ·have Hy:j<evs.length:=by rw [hL] at hj;omega
   rw [hold i (by omega),hold j Hy];exact h.same i j hij Hy
 ·try simp only at hq
  by_cases hqp:q=p
  ·rw [if_pos hqp] at hq;cases hq
   rw [hlast,hL,hte,e1]
   exact⟨by omega,hqp.symm,e4,by rw [hqp];exact hN⟩
  ·rw [if_neg hqp] at hq
   obtain⟨a1,a2,a3,a4⟩:=h.hand q j hq
   rw [hold j a1,hL]
   exact⟨by omega,a2,a3,a4⟩
 ·rw [List.map_append,List.sum_append,h.sum];simp [e3]
end
section
open Go.RowKit
variable {S:Sys}
def fQ {σ:Type} (hands:List (Option σ×Nat)) (p:Nat):Option Nat:=if (hands.getD p (none,0)).1.isSome then some (hands.getD p (none,0)).2 else none
theorem zU {σ:Type} {hands:List (Option σ×Nat)} {p:Nat} (hp:p<hands.length) (m:Option σ) (k:Nat):fQ (hands.set p (m,k))=λq=>if q=p then (if m.isSome then some k else none) else fQ hands q:=by
 funext q
 unfold fQ
 by_cases h:q=p
 ·subst h;rw [aI hp];simp
 ·rw [aK (Ne.symm h)];simp [h]
theorem gP (l:List EvD) (k:Nat) (f:EvD->EvD):(dA l k f).length=l.length:=by simp [dA]
structure bQ (calls:List aD) (st:aP S):Prop where
 ev:vS calls st.wd.now st.fin (fQ st.hands) st.evs
 h16:st.hands.length=16
theorem JU {calls:List aD} (hnow:∀ o wd p s,(S.step o wd p s).2.1.now=wd.now) {st:aP S} {p k:Nat} {s:S.σ} (h16:st.hands.length=16) (hp:p<16) (hk:k<st.evs.length)
  (he:vS calls st.wd.now st.fin (λq=>if q=p then some k else fQ st.hands q) (dA st.evs k aS)) :
  if (gX S st p k s).2 then bQ calls { (gX S st p k s).1 with fin:=(gX S st p k s).1.fin.set (aF st.evs k).call true } else bQ calls (gX S st p k s).1:=by
 have hev:aF (dA st.evs k aS) k=aS (aF st.evs k):=by unfold dA;rw [jK _ hk,if_pos rfl];rfl
 unfold gX
 simp only
 cases hd:(S.step st.obj st.wd p s).2.2.2 with
 | true=>
  simp only [if_true]
  have:=he.done (p:=p) (k:=k) (if_pos rfl) (e:=dF (S.step st.obj st.wd p s).2.1 p (S.answer (S.step st.obj st.wd p s).2.2.1).1 (S.answer (S.step st.obj st.wd p s).2.2.1).2 (aF st.evs k))
   ⟨by rw [hev];rfl,by rw [hev];rfl,by rw [hev];rfl,by show(S.step st.obj st.wd p s).2.1.now=_;rw [hnow]⟩
  rw [hev] at this
  refine⟨?_,by simpa using h16⟩
  simp only
  rw [hnow,zU (by rw [h16];exact hp)]
  have e1:dA st.evs k (dF (S.step st.obj st.wd p s).2.1 p (S.answer (S.step st.obj st.wd p s).2.2.1).1 (S.answer (S.step st.obj st.wd p s).2.2.1).2)=(dA st.evs k aS).set k (dF (S.step st.obj st.wd p s).2.1 p (S.answer (S.step st.obj st.wd p s).2.2.1).1 (S.answer (S.step st.obj st.wd p s).2.2.1).2 (aF st.evs k)):=by
   unfold dA;rw [List.set_set];rfl
  rw [e1]
  have e2:(λq=>if q=p then (if (none:Option S.σ).isSome=true then some k else none) else fQ st.hands q)=(λq=>if q=p then none else (λq=>if q=p then some k else fQ st.hands q) q):=by
   funext q
   by_cases hq:q=p<;>simp [hq]
  rw [e2]
  exact this
 | false=>
  simp only [Bool.false_eq_true,if_false]
  refine⟨?_,by simpa using h16⟩
  simp only
  rw [hnow,zU (by rw [h16];exact hp)]
  exact he
theorem zT {calls:List aD} (hnow:∀ o wd p s,(S.step o wd p s).2.1.now=wd.now) (hthr:∀ c,c<calls.length->0<=(calls.getD c d0).thread/\(calls.getD c d0).thread<16) {st:aP S} (h:bQ calls st) (p:Int):bQ calls (jQ S calls st p):=by
 unfold jQ
 cases hN:gF calls st.fin p with
 | none=>exact⟨h.ev,h.h16⟩
 | some i=>
  obtain⟨n1,n2,n3⟩:=fC hN
  obtain⟨t1,t2⟩:=hthr i n1
  obtain⟨q,rfl⟩:∃ q:Nat,p=(q:Int):=⟨p.toNat,by omega⟩
  have hq:q<16:=by omega
  simp only [Int.toNat_natCast]
  unfold fA
  cases hs:(st.hands.getD q (none,0)).1 with
  | some s=>
   simp only
   obtain⟨k,hk⟩:∃ k,k=(st.hands.getD q (none,0)).2:=⟨_,rfl⟩
   rw [<-hk]
   have hh:fQ st.hands q=some k:=by unfold fQ;rw [hs,hk];rfl
   obtain⟨k1,k2,k3,k4⟩:=h.ev.hand q k hh
   have hi:i=(aF st.evs k).call:=by rw [hN] at k4;cases k4;rfl
   have he:=h.ev.step hh
   have hfun:fQ st.hands=λx=>if x=q then some k else fQ st.hands x:=by
    funext x;by_cases hx:x=q
    ·rw [if_pos hx,hx,hh]
    ·rw [if_neg hx]
   rw [hfun] at he
   have:=JU hnow (st:={ st with wd:=st.wd.tick }) (s:=s) h.h16 hq k1 he
   rw [<-hi] at this
   exact(by split<;>rename_i hb<;>simp only [hb,if_true,Bool.false_eq_true,if_false] at this<;>exact this)
  | none=>
   simp only
   have hh:fQ st.hands q=none:=by unfold fQ;rw [hs];rfl
   have hpos:∀ c,c<calls.length->0<=(calls.getD c d0).thread:=λc hc=>(hthr c hc).1
   have Uv:q<st.hands.length:=by rw [h.h16];exact hq
   cases hst:eG S st.obj (st.wd.tick.begin q) q (calls.getD i d0) with
   | refuse e=>
    simp only [if_true]
    have hb:=h.ev.begun hpos hh hN (e:=aS (fZ i (st.wd.tick.begin q))) ⟨rfl,rfl,rfl,rfl⟩
    have hf:=hb.done (p:=q) (k:=st.evs.length) (if_pos rfl) (e:=dF (st.wd.tick.begin q) q ⟨e,0,[]⟩ [] (fZ i (st.wd.tick.begin q)))
    have hev:aF (st.evs++[aS (fZ i (st.wd.tick.begin q))]) st.evs.length=aS (fZ i (st.wd.tick.begin q)):=by unfold aF;rw [gM]
    rw [hev] at hf
    have hf:=hf ⟨rfl,rfl,rfl,rfl⟩
    rw [List.set_append_right _ _ (Nat.le_refl _),Nat.sub_self] at hf
    refine⟨?_,by simpa using h.h16⟩
    simp only
    rw [zU Uv]
    have e2:(λx=>if x=q then (if (none:Option S.σ).isSome=true then some st.evs.length else none) else fQ st.hands x)=(λx=>if x=q then none else (λx=>if x=q then some st.evs.length else fQ st.hands x) x):=by
     funext x
     by_cases hx:x=q<;>simp [hx]
    rw [e2]
    exact hf
   | run s=>
    simp only
    have hb:=h.ev.begun hpos hh hN (e:=aS (fZ i (st.wd.tick.begin q))) ⟨rfl,rfl,rfl,rfl⟩
    rw [<-NN] at hb
    have hfun:(λx=>if x=q then some st.evs.length else fQ st.hands x)=λx=>if x=q then some st.evs.length else fQ (st.hands.set q (some s,st.evs.length)) x:=by
     funext x
     rw [zU Uv]
     by_cases hx:x=q<;>simp [hx]
    rw [hfun] at hb
    have:=JU hnow (st:={ st with wd:=st.wd.tick.begin q,hands:=st.hands.set q (some s,st.evs.length),evs:=st.evs++[fZ i (st.wd.tick.begin q)] }) (s:=s) (by simpa using h.h16) hq (by simp) hb
    have hev:(aF (st.evs++[fZ i (st.wd.tick.begin q)]) st.evs.length).call=i:=by unfold aF;rw [gM];rfl
    simp only at this
    rw [hev] at this
    exact(by split<;>rename_i hb<;>simp only [hb,if_true,Bool.false_eq_true,if_false] at this<;>exact this)
theorem vR (calls:List aD) (o:S.ω) (ws:List Nat):bQ calls (dG S o ws calls):=by
 have hh:∀ p,fQ (List.replicate 16 ((none:Option S.σ),0)) p=none:=by
  intro p
  unfold fQ
  have:(List.replicate 16 ((none:Option S.σ),0)).getD p (none,0)=(none,0):=by
   simp only [List.getD_eq_getElem?_getD,List.getElem?_replicate];split<;>rfl
  rw [this];rfl
 refine⟨⟨by simp [dG],λi hi=>by simp [dG] at hi,λi hi=>by simp [dG] at hi,λi hi=>by simp [dG] at hi,λi hi=>by simp [dG] at hi,λi j _ hj=>by simp [dG] at hj,λi j _ hj=>by simp [dG] at hj,λp k hk=>?_,λc c' h1 h2 _ h3=>?_,rfl⟩,by simp [dG]⟩
 ·rw [show fQ (dG S o ws calls).hands p=none from hh p] at hk;cases hk
 ·exfalso
  have:(List.replicate calls.length false).getD c false=false:=by
   simp only [List.getD_eq_getElem?_getD,List.getElem?_replicate];split<;>rfl
  rw [show(dG S o ws calls).fin=List.replicate calls.length false from rfl,this] at h3;cases h3
theorem WW {calls:List aD} (hnow:∀ o wd p s,(S.step o wd p s).2.1.now=wd.now) (st:aP S) (p:Int):(jQ S calls st p).wd.now+(jQ S calls st p).idle=st.wd.now+st.idle+1:=by
 unfold jQ
 cases gF calls st.fin p with
 | none=>simp only;omega
 | some i=>
  simp only
  have:(fA S calls st p.toNat i).1.wd.now=st.wd.now+1/\(fA S calls st p.toNat i).1.idle=st.idle:=by
   refine⟨?_,(QN calls st _ _).2⟩
   unfold fA
   split
   ·unfold gX;simp only;split<;>(simp only)<;>rw [hnow]<;>rfl
   ·simp only
    cases eG S st.obj (st.wd.tick.begin p.toNat) p.toNat (calls.getD i d0) with
    | refuse e=>rfl
    | run s=>unfold gX;simp only;split<;>(simp only)<;>rw [hnow]<;>rfl
  split<;>(try simp only)<;>omega
end
section
open Go.RowKit
variable {S:Sys} {R:Real S}
def KX (O X:Nat->Prop) (w w':World) (er:Int) (r:iN) (e:Ending):Prop:=
 Chg O w w'/\((er≠0/\e=.returned (.tuple #[lC (.slice none 0 0) (.slice none 0 0) ⟨[],[],c0,0,0⟩,.int .i64 er]))∨
  (er=0/\∃ ea ec va vc ers,e=.returned (.tuple #[lC (.slice ea r.evs.length ec) (.slice va r.words.length vc) r,.int .i64 0])/\iQ X w.heap.size w' (.slice ea r.evs.length ec) (.slice va r.words.length vc) ers r))
def Jp (X:Nat->Prop) (w w':World) (er:Int) (r:iN) (e:Ending):Prop:=
 Below w.heap.size w w'/\((er≠0/\e=.returned (.tuple #[lC (.slice none 0 0) (.slice none 0 0) ⟨[],[],c0,0,0⟩,.int .i64 er]))∨
  (er=0/\∃ ea ec va vc ers,e=.returned (.tuple #[lC (.slice ea r.evs.length ec) (.slice va r.words.length vc) r,.int .i64 0])/\iQ X w.heap.size w' (.slice ea r.evs.length ec) (.slice va r.words.length vc) ers r))
theorem iQ.low {Old Old':Nat->Prop} {B B':Nat} {w:World} {ev wv:Value} {ers:List (Value×Value)} {r:iN} (h:iQ Old B w ev wv ers r) (hB:B'<=B) (ho:∀ b,Old' b->Old b):iQ Old' B' w ev wv ers r:=
 ⟨TE h.row hB,h.elen,λi hi=>⟨(h.ans i hi).1.less ho,(h.ans i hi).2.less ho⟩,TE h.words hB⟩
theorem eD {n:Int} {calls:List aD} {np:Nat} (h:checkN n calls np=0):gK n calls=0/\np<=65536:=by
 unfold checkN at h
 split at h
 ·cases h
 ·split at h
  ·cases h
  ·exact⟨h,by omega⟩
theorem VA (calls:List aD) (st:aP S) (l:List Int) (p:Int):eF S calls st (l++[p])=jQ S calls (eF S calls st l) p:=by
 unfold eF;rw [List.foldl_append];rfl
theorem zF {calls:List aD} (hnow:∀ o wd p s,(S.step o wd p s).2.1.now=wd.now) (st:aP S):∀(l:List Int),(eF S calls st l).wd.now+(eF S calls st l).idle=st.wd.now+st.idle+l.length:=by
 intro l
 induction l generalizing st with
 | nil=>rfl
 | cons p l ih=>
  show(eF S calls (jQ S calls st p) l).wd.now+(eF S calls (jQ S calls st p) l).idle=_
  rw [ih,WW hnow];simp;omega
set_option maxHeartbeats 4000000 in
theorem Ar {X:Nat->Prop} (ok:gL R) (nl:TB R) (hdN:R.dN<=1000) (w:World) (o0:S.ω) (n:Int) (calls:List aD) (ws:List Nat) (picks:List Int) (ov cv wv:Value) (pa:Option Addr) (pc:Nat)
  (h:wW R X w o0 n calls ws ov cv wv) (hps:cB w pa picks.length 1 (kJ picks)) (hpx:0<picks.length->∀ b off,pa=some ⟨b,off,none⟩->¬ R.OB b) (hpw:∀ x∈picks,(Lit.int .i64 x).wf=true)
  (hsf:checkN n calls picks.length=0->∀ l p m,picks=l++p::m->FI R calls (eF S calls (dG S o0 ws calls) l) p) :
  Calls Tryz.prog 20 #[.int .i64 n,ov,wv,cv,.slice pa picks.length pc] w λe w'=>KX R.OB X w w' (checkN n calls picks.length) (uY S o0 ws calls picks) e:=by
 obtain⟨wa,hwa⟩:∃ wa,wa=w.alloc (.cells #[.slice none 0 0,.slice none 0 0,.int .i64 0,.int .i64 0,.int .i64 0,.int .i64 0,.int .i64 0,.int .i64 0,.int .i64 0] 32):=⟨_,rfl⟩
 have hga:Below w.heap.size w wa:=by rw [hwa];exact Gr.new _ _
 have hra:wa.heap[w.heap.size]?=some (.cells #[.slice none 0 0,.slice none 0 0,.int .i64 0,.int .i64 0,.int .i64 0,.int .i64 0,.int .i64 0,.int .i64 0,.int .i64 0] 32 (0,0)):=by rw [hwa];exact heap_alloc_new _ _
 have hsa:wa.heap.size=w.heap.size+1:=by rw [hwa];simp
 have C:=Lib.hid (λ(ca:Option Addr) (cc:Nat) (hcs:cB w ca calls.length 6 (iX calls))=>PQ n calls picks.length ca pa cc pc wa (hcs.grown hga) hps.1 (λx hx=>(h.ok x hx).thread))
 obtain⟨ca,cc,rfl,hcs,_⟩:=h.cs
 replace C:=Lib.hid (C.out ca cc hcs)
 have Hh:=Lib.hid h;have Hps:=Lib.hid hps;have Hpw:=Lib.hid hpw;have Hga:=Lib.hid hga;have Hra:=Lib.hid hra;have Hwa:=Lib.hid hwa;have Hsa:=Lib.hid hsa;have Hsf:=Lib.hid hsf;have Hpx:=Lib.hid hpx;have Hob:=Lib.hid (λb hb=>h.xlt b (h.ob b hb):∀ b,R.OB b->b<w.heap.size)
 have hpl:=hps.1
 unfold maxLen at hpl
 obtain⟨er,her⟩:∃ er,er=checkN n calls picks.length:=⟨_,rfl⟩
 rw [<-her] at C ⊢
 have Her:=Lib.hid her
 clear h hps hpw hga hra hwa hsa hcs her hsf hpx
 go_enter Tryz.func20,Tryz.ntmps20
 go_wp2_with fail
 rw [<-Hwa.out]
 refine C.out.mono ?_
 rintro e w1 ⟨rfl,hb1⟩
 have hr1:=(hb1.block _ (aC Hra.out)).trans Hra.out
 have Hb1:=Lib.hid hb1;have Hr1:=Lib.hid hr1
 clear hb1 hr1
 by_cases Yl:er=0
 ·subst Yl
  have hck:=eD Her.out.symm
  have Hsf0:=Lib.hid (Hsf.out Her.out.symm)
  have B:=Lib.hid (Cc (λb=>X b∨b=w.heap.size) w1 o0 n calls ws ov (.slice ca calls.length cc) wv (Hh.out.grown (Gr.trans Hga.out Hb1.out) (λb hb=>by have h1:=aC Hra.out;have h2:=Hb1.out.size;rcases hb with hb|hb;exact .inl hb;exact .inr (by omega)) (λb hb=>.inl hb)) hck.1)
  have hpk:=hck.2
  have Hck:=Lib.hid hck
  clear C hck
  go_wp2_with fail
  refine B.out.mono ?_
  rintro e w2 ⟨J,hJ,rfl,hb2,hst⟩
  have HJ:=Lib.hid hJ;have Hb2:=Lib.hid hb2;have Hst:=Lib.hid hst
  clear hJ hb2 hst
  go_wp2
  go_loopw [39] (λi wr=>∃ k:Nat,k<=picks.length/\i=.int .i64 k/\Chg R.OB w1 wr/\NK R calls wr J ov (.slice ca calls.length cc) w1.heap.size (eF S calls (dG S o0 ws calls) (picks.take k))) (λi _=>picks.length - (intOf i).toNat)
  case atStart=>exact⟨0,Nat.zero_le _,rfl,Chg.of_below Hb2.out,Hst.out⟩
  case round=>
   obtain⟨k,hk,rfl,hbr,hst⟩:=hrel
   by_cases hlt:k<picks.length
   ·obtain⟨b3,aAv,rfl,hc3⟩:=((Hps.out.grown (Gr.trans Hga.out Hb1.out)).chg hbr (Hpx.out (by omega))).elem (Gr.refl wr) hlt
    obtain⟨p,hpv⟩:∃ p,picks[k]=p:=⟨_,rfl⟩
    have hd:picks.take (k+1)=picks.take k++[p]:=by rw [List.take_succ_eq_append_getElem hlt,hpv]
    have c0:wr.cell? ⟨b3,aAv+k,none⟩=some (.int .i64 p):=by have h0:=hc3 0 (by omega);rw [Nat.mul_one,Nat.add_zero] at h0;rw [h0];simp [kJ,List.getD_eq_getElem?_getD,hlt,hpv]
    have hpw:(Lit.int .i64 p).wf=true:=by rw [<-hpv];exact Hpw.out _ (List.getElem_mem hlt)
    have htk:=zF ok.now (dG S o0 ws calls) (picks.take k) (calls:=calls)
    rw [List.length_take,Nat.min_eq_left hk] at htk
    have aAe:(eF S calls (dG S o0 ws calls) (picks.take k)).wd.now+(eF S calls (dG S o0 ws calls) (picks.take k)).idle=k:=by rw [htk];simp [dG,cZ]
    have P:=Lib.hid (Gd ok hdN calls wr J ov (.slice ca calls.length cc) w1.heap.size _ p hst hpw (Hsf0.out _ p (picks.drop (k+1)) (by rw [<-hpv,List.getElem_cons_drop,List.take_append_drop])) (by omega) (by omega))
    have Hd:=Lib.hid hd;have Hbr:=Lib.hid hbr
    have hl1:(k:Int)<(picks.length:Int):=by omega
    clear hst hc3 hpv hd hbr htk aAe
    go_wp2_with fail
    refine P.out.mono ?_
    rintro e w3 ⟨⟨bb,rfl⟩,hch,Uq⟩
    have Hch:=Lib.hid hch;have Hst3:=Lib.hid Uq
    clear hch Uq
    go_wp2
    go_roundw
    case rel=>exact⟨k+1,by omega,by go_num,((Hbr.out.mono (S':=PB R w1.heap.size) (λb _ h=>.inr h)).trans Hch.out).mono (λb hb h=>h.elim (λh9=>absurd hb (by omega)) id),by rw [Hd.out,VA];exact Hst3.out⟩
    case measure=>simp [intOf]<;>omega
   ·have hl1:¬ (k:Int)<(picks.length:Int):=by omega
    obtain rfl:k=picks.length:=by omega
    rw [List.take_length] at hst
    obtain⟨G,hG⟩:=hst
    have E:=Lib.hid (XT ok nl calls wr J ov (.slice ca calls.length cc) w1.heap.size G _ hG)
    have hr2:wr.heap[w.heap.size]?=some (.cells #[.slice none 0 0,.slice none 0 0,.int .i64 0,.int .i64 0,.int .i64 0,.int .i64 0,.int .i64 0,.int .i64 0,.int .i64 0] 32 (0,0)):=(hbr.block _ (aC Hr1.out) (λh9=>Nat.lt_irrefl _ (Hob.out _ h9))).trans Hr1.out
    have Hbr:=Lib.hid hbr;have Hr2:=Lib.hid hr2
    clear hG hbr hr2
    go_wp2_with fail
    refine E.out.mono ?_
    rintro e w3 ⟨ea,ec,va,vc,ers,rfl,hrep,hb3⟩
    have hr3:w3.heap[w.heap.size]?=some (.cells #[.slice none 0 0,.slice none 0 0,.int .i64 0,.int .i64 0,.int .i64 0,.int .i64 0,.int .i64 0,.int .i64 0,.int .i64 0] 32 (0,0)):=(hb3.block _ (aC Hr1.out)).trans Hr2.out
    have g0:w3.cell? ⟨w.heap.size,0,none⟩=some (.slice none 0 0):=by rw [aA hr3];rfl
    have Pw:w3.frozen? ⟨w.heap.size,0,none⟩=false:=aB hr3 0
    have g1:w3.cell? ⟨w.heap.size,1,none⟩=some (.slice none 0 0):=by rw [aA hr3];rfl
    have Rk:w3.frozen? ⟨w.heap.size,1,none⟩=false:=aB hr3 1
    have g2:w3.cell? ⟨w.heap.size,2,none⟩=some (.int .i64 0):=by rw [aA hr3];rfl
    have Qa:w3.frozen? ⟨w.heap.size,2,none⟩=false:=aB hr3 2
    have g3:w3.cell? ⟨w.heap.size,3,none⟩=some (.int .i64 0):=by rw [aA hr3];rfl
    have Po:w3.frozen? ⟨w.heap.size,3,none⟩=false:=aB hr3 3
    have g4:w3.cell? ⟨w.heap.size,4,none⟩=some (.int .i64 0):=by rw [aA hr3];rfl
    have Sl:w3.frozen? ⟨w.heap.size,4,none⟩=false:=aB hr3 4
    have g5:w3.cell? ⟨w.heap.size,5,none⟩=some (.int .i64 0):=by rw [aA hr3];rfl
    have Ql:w3.frozen? ⟨w.heap.size,5,none⟩=false:=aB hr3 5
    have g6:w3.cell? ⟨w.heap.size,6,none⟩=some (.int .i64 0):=by rw [aA hr3];rfl
    have Qc:w3.frozen? ⟨w.heap.size,6,none⟩=false:=aB hr3 6
    have g7:w3.cell? ⟨w.heap.size,7,none⟩=some (.int .i64 0):=by rw [aA hr3];rfl
    have Qv:w3.frozen? ⟨w.heap.size,7,none⟩=false:=aB hr3 7
    have g8:w3.cell? ⟨w.heap.size,8,none⟩=some (.int .i64 0):=by rw [aA hr3];rfl
    have Px:w3.frozen? ⟨w.heap.size,8,none⟩=false:=aB hr3 8
    obtain⟨rp,hrp⟩:∃ rp,rp=zO S (eF S calls (dG S o0 ws calls) picks):=⟨_,rfl⟩
    rw [<-hrp] at hrep
    obtain⟨en,hen⟩:∃ en,en=rp.evs.length:=⟨_,rfl⟩
    obtain⟨vn,hvn⟩:∃ vn,vn=rp.words.length:=⟨_,rfl⟩
    rw [<-hrp,<-hen,<-hvn]
    have Hrep:=Lib.hid hrep;have Hr3:=Lib.hid hr3;have Hb3:=Lib.hid hb3;have Hrp:=Lib.hid hrp;have Hen:=Lib.hid hen;have Hvn:=Lib.hid hvn
    clear hrep hr3 hb3 hrp hen hvn
    unfold lC
    go_wp2
    obtain⟨w7,hw7⟩:∃ w7,w7=(((((((((w3.setCell ⟨w.heap.size,0,none⟩ (.slice ea en ec)).setCell ⟨w.heap.size,1,none⟩ (.slice va vn vc)).setCell ⟨w.heap.size,2,none⟩ (.int .i64 (rp.c.read:Int))).setCell ⟨w.heap.size,3,none⟩ (.int .i64 (rp.c.write:Int))).setCell ⟨w.heap.size,4,none⟩ (.int .i64 (rp.c.swap:Int))).setCell ⟨w.heap.size,5,none⟩ (.int .i64 (rp.c.add:Int))).setCell ⟨w.heap.size,6,none⟩ (.int .i64 (rp.c.fault:Int))).setCell ⟨w.heap.size,7,none⟩ (.int .i64 (rp.ticks:Int))).setCell ⟨w.heap.size,8,none⟩ (.int .i64 (rp.idle:Int))):=⟨_,rfl⟩
    rw [<-hw7]
    have vZ:w7.heap[w.heap.size]?=some (.cells #[.slice ea en ec,.slice va vn vc,.int .i64 (rp.c.read:Int),.int .i64 (rp.c.write:Int),.int .i64 (rp.c.swap:Int),.int .i64 (rp.c.add:Int),.int .i64 (rp.c.fault:Int),.int .i64 (rp.ticks:Int),.int .i64 (rp.idle:Int)] 32 (0,0)):=by rw [hw7,(aG (aG (aG (aG (aG (aG (aG (aG (aG Hr3.out _ _) _ _) _ _) _ _) _ _) _ _) _ _) _ _) _ _)];rfl
    have iD:Chg (λb=>b=w.heap.size) w3 w7:=by rw [hw7];exact((((((((((Chg.refl (λb=>b=w.heap.size) w3).setCell (by exact .inl rfl) _).setCell (by exact .inl rfl) _).setCell (by exact .inl rfl) _).setCell (by exact .inl rfl) _).setCell (by exact .inl rfl) _).setCell (by exact .inl rfl) _).setCell (by exact .inl rfl) _).setCell (by exact .inl rfl) _).setCell (by exact .inl rfl) _)
    have k0:w7.cell? ⟨w.heap.size,0,none⟩=some (.slice ea en ec):=by rw [aA vZ];rfl
    have k1:w7.cell? ⟨w.heap.size,1,none⟩=some (.slice va vn vc):=by rw [aA vZ];rfl
    have k2:w7.cell? ⟨w.heap.size,2,none⟩=some (.int .i64 (rp.c.read:Int)):=by rw [aA vZ];rfl
    have k3:w7.cell? ⟨w.heap.size,3,none⟩=some (.int .i64 (rp.c.write:Int)):=by rw [aA vZ];rfl
    have k4:w7.cell? ⟨w.heap.size,4,none⟩=some (.int .i64 (rp.c.swap:Int)):=by rw [aA vZ];rfl
    have k5:w7.cell? ⟨w.heap.size,5,none⟩=some (.int .i64 (rp.c.add:Int)):=by rw [aA vZ];rfl
    have k6:w7.cell? ⟨w.heap.size,6,none⟩=some (.int .i64 (rp.c.fault:Int)):=by rw [aA vZ];rfl
    have k7:w7.cell? ⟨w.heap.size,7,none⟩=some (.int .i64 (rp.ticks:Int)):=by rw [aA vZ];rfl
    have k8:w7.cell? ⟨w.heap.size,8,none⟩=some (.int .i64 (rp.idle:Int)):=by rw [aA vZ];rfl
    clear hw7 vZ
    refine bodyPost_ret (v:=.tuple #[lC (.slice ea en ec) (.slice va vn vc) rp,.int .i64 0]) (by simp [results,Tryz.results20 ,go_sem,k0,k1,k2,k3,k4,k5,k6,k7,k8,lC]) rfl ?_
    have hs1:=aC Hr1.out
    have hall:Chg (PB R w.heap.size) w w7:=((((Chg.of_below Hga.out).trans (Chg.of_below Hb1.out)).trans ((Chg.refl _ _).trans (Hbr.out.mono (λb _ h=>.inr h)))).trans ((show Chg (PB R w.heap.size) wr w3 from⟨Hb3.out.os,Hb3.out.tape,Hb3.out.output,Hb3.out.size,λk hk hn=>Hb3.out.block k (by have h9:¬ w.heap.size<=k:=λh9=>hn (.inl h9);omega)⟩))).trans (iD.mono (λb _ h=>.inl (by omega)))
    have hen:=Hen.out;have hvn:=Hvn.out
    subst hen hvn
    have h9:rp=uY S o0 ws calls picks:=Hrp.out
    refine⟨hall.mono (λb hb h=>h.elim (λh9=>absurd hb (by omega)) id),.inr ⟨rfl,ea,ec,va,vc,ers,by rw [<-h9],?_⟩⟩
    have h8:=(Hrep.out.chg iD (λb hb=>by rw [HJ.out];exact⟨.inr hb,by omega⟩)).low (Old':=X) (B':=w.heap.size) (by omega) (λb hb=>by rw [HJ.out];exact .inl hb)
    rw [h9] at h8
    exact h8
 ·have hr1:=Hr1.out
  have g0:w1.cell? ⟨w.heap.size,0,none⟩=some (.slice none 0 0):=by rw [aA hr1];rfl
  have Pw:w1.frozen? ⟨w.heap.size,0,none⟩=false:=aB hr1 0
  have g1:w1.cell? ⟨w.heap.size,1,none⟩=some (.slice none 0 0):=by rw [aA hr1];rfl
  have Rk:w1.frozen? ⟨w.heap.size,1,none⟩=false:=aB hr1 1
  have g2:w1.cell? ⟨w.heap.size,2,none⟩=some (.int .i64 0):=by rw [aA hr1];rfl
  have Qa:w1.frozen? ⟨w.heap.size,2,none⟩=false:=aB hr1 2
  have g3:w1.cell? ⟨w.heap.size,3,none⟩=some (.int .i64 0):=by rw [aA hr1];rfl
  have Po:w1.frozen? ⟨w.heap.size,3,none⟩=false:=aB hr1 3
  have g4:w1.cell? ⟨w.heap.size,4,none⟩=some (.int .i64 0):=by rw [aA hr1];rfl
  have Sl:w1.frozen? ⟨w.heap.size,4,none⟩=false:=aB hr1 4
  have g5:w1.cell? ⟨w.heap.size,5,none⟩=some (.int .i64 0):=by rw [aA hr1];rfl
  have Ql:w1.frozen? ⟨w.heap.size,5,none⟩=false:=aB hr1 5
  have g6:w1.cell? ⟨w.heap.size,6,none⟩=some (.int .i64 0):=by rw [aA hr1];rfl
  have Qc:w1.frozen? ⟨w.heap.size,6,none⟩=false:=aB hr1 6
  have g7:w1.cell? ⟨w.heap.size,7,none⟩=some (.int .i64 0):=by rw [aA hr1];rfl
  have Qv:w1.frozen? ⟨w.heap.size,7,none⟩=false:=aB hr1 7
  have g8:w1.cell? ⟨w.heap.size,8,none⟩=some (.int .i64 0):=by rw [aA hr1];rfl
  have Px:w1.frozen? ⟨w.heap.size,8,none⟩=false:=aB hr1 8
  have Her0:=Lib.hid Yl
  clear hr1
  go_wp2
  obtain⟨w7,hw7⟩:∃ w7,w7=(((((((((w1.setCell ⟨w.heap.size,0,none⟩ (.slice none 0 0)).setCell ⟨w.heap.size,1,none⟩ (.slice none 0 0)).setCell ⟨w.heap.size,2,none⟩ (.int .i64 0)).setCell ⟨w.heap.size,3,none⟩ (.int .i64 0)).setCell ⟨w.heap.size,4,none⟩ (.int .i64 0)).setCell ⟨w.heap.size,5,none⟩ (.int .i64 0)).setCell ⟨w.heap.size,6,none⟩ (.int .i64 0)).setCell ⟨w.heap.size,7,none⟩ (.int .i64 0)).setCell ⟨w.heap.size,8,none⟩ (.int .i64 0)):=⟨_,rfl⟩
  rw [<-hw7]
  have vZ:w7.heap[w.heap.size]?=some (.cells #[.slice none 0 0,.slice none 0 0,.int .i64 0,.int .i64 0,.int .i64 0,.int .i64 0,.int .i64 0,.int .i64 0,.int .i64 0] 32 (0,0)):=by rw [hw7,(aG (aG (aG (aG (aG (aG (aG (aG (aG Hr1.out _ _) _ _) _ _) _ _) _ _) _ _) _ _) _ _) _ _)];rfl
  have iD:Chg (λb=>b=w.heap.size) w1 w7:=by rw [hw7];exact((((((((((Chg.refl (λb=>b=w.heap.size) w1).setCell (by exact .inl rfl) _).setCell (by exact .inl rfl) _).setCell (by exact .inl rfl) _).setCell (by exact .inl rfl) _).setCell (by exact .inl rfl) _).setCell (by exact .inl rfl) _).setCell (by exact .inl rfl) _).setCell (by exact .inl rfl) _).setCell (by exact .inl rfl) _)
  have k0:w7.cell? ⟨w.heap.size,0,none⟩=some (.slice none 0 0):=by rw [aA vZ];rfl
  have k1:w7.cell? ⟨w.heap.size,1,none⟩=some (.slice none 0 0):=by rw [aA vZ];rfl
  have k2:w7.cell? ⟨w.heap.size,2,none⟩=some (.int .i64 0):=by rw [aA vZ];rfl
  have k3:w7.cell? ⟨w.heap.size,3,none⟩=some (.int .i64 0):=by rw [aA vZ];rfl
  have k4:w7.cell? ⟨w.heap.size,4,none⟩=some (.int .i64 0):=by rw [aA vZ];rfl
  have k5:w7.cell? ⟨w.heap.size,5,none⟩=some (.int .i64 0):=by rw [aA vZ];rfl
  have k6:w7.cell? ⟨w.heap.size,6,none⟩=some (.int .i64 0):=by rw [aA vZ];rfl
  have k7:w7.cell? ⟨w.heap.size,7,none⟩=some (.int .i64 0):=by rw [aA vZ];rfl
  have k8:w7.cell? ⟨w.heap.size,8,none⟩=some (.int .i64 0):=by rw [aA vZ];rfl
  clear hw7 vZ
  refine bodyPost_ret (v:=.tuple #[lC (.slice none 0 0) (.slice none 0 0) ⟨[],[],c0,0,0⟩,.int .i64 er]) (by simp [results,Tryz.results20 ,go_sem,k0,k1,k2,k3,k4,k5,k6,k7,k8,lC,c0]) rfl ?_
  have hall:Chg (λb=>w.heap.size<=b) w w7:=((Chg.of_below Hga.out).trans (Chg.of_below Hb1.out)).trans (iD.mono (λb _ h=>by omega))
  exact⟨hall.mono (λb hb h=>absurd hb (by omega)),.inl ⟨Her0.out,rfl⟩⟩
end
end Go.Proofs.YtfkokppncipgnaaGreat
