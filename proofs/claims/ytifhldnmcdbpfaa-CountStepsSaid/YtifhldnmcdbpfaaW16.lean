/- Layer 6: what every play keeps: ticks, turns, and whose events are under way. -/
import Derived.Test.YtifhldnmcdbpfaaW08
import Derived.Test.YtifhldnmcdbpfaaW12
set_option maxRecDepth 100000
set_option linter.unusedVariables false
set_option linter.unusedSimpArgs false
set_option linter.unnecessarySimpa false
namespace Go.Proofs.Ytifhldnmcdbpfaa
open List renaming getElem_toArray → zq1, getElem_cons_zero → zq2, getElem_cons_succ → zq3, setIfInBounds_toArray → zq4, set_cons_zero → zq5, set_cons_succ → zq6
section
open Go.RowKit
def tn (calls:List aF) (e:EvD):Nat:=(calls.getD e.call d0).thread.toNat
def aD (evs:List EvD) (i:Nat):EvD:=evs.getD i jY
structure iD (calls:List aF) (now:Nat) (fin:List Bool) (hnd:Nat->Option Nat) (evs:List EvD):Prop where
 flen:fin.length=calls.length
 call:∀ i,i<evs.length->(aD evs i).call<calls.length
 tick:∀ i,i<evs.length->1<=(aD evs i).inv/\(aD evs i).inv<=now/\1<=(aD evs i).steps/\(aD evs i).resp<=now
 resp:∀ i,i<evs.length->(aD evs i).resp≠0->(aD evs i).inv<=(aD evs i).resp/\(aD evs i).steps<=(aD evs i).resp - (aD evs i).inv+1/\fin.getD (aD evs i).call false=true
 open_:∀ i,i<evs.length->(aD evs i).resp=0->(aD evs i).steps<=now - (aD evs i).inv+1/\hnd (tn calls (aD evs i))=some i
 rise:∀ i j,i<j->j<evs.length->(aD evs i).inv<(aD evs j).inv
 same:∀ i j,i<j->j<evs.length->tn calls (aD evs i)=tn calls (aD evs j)->(aD evs i).resp≠0/\(aD evs i).resp<(aD evs j).inv/\(aD evs i).call<(aD evs j).call
 hand:∀ p k,hnd p=some k->k<evs.length/\tn calls (aD evs k)=p/\(aD evs k).resp=0/\iF calls fin (p:Int)=some (aD evs k).call
 ord:∀ c c',c<calls.length->c'<calls.length->(calls.getD c d0).thread=(calls.getD c' d0).thread->fin.getD c false=true->fin.getD c' false=false->c<c'
 sum:(evs.map (·.steps)).sum=now
theorem jG (f:EvD->Nat):∀(l:List EvD) (k:Nat) (e:EvD),k<l.length->((l.set k e).map f).sum+f (aD l k)=(l.map f).sum+f e
 | [],_,_,h=>by simp at h
 | a::l,0,e,_=>by simp [aD];omega
 | a::l,k+1,e,h=>by
  have:=jG f l k e (by simpa using h)
  simp only [aD,zq6,List.map_cons,List.sum_cons,List.getD_cons_succ] at this ⊢
  omega
theorem jQ {l:List EvD} {k:Nat} (e:EvD) (hk:k<l.length) (i:Nat):aD (l.set k e) i=if i=k then e else aD l i:=by
 unfold aD
 by_cases h:i=k
 ·rw [if_pos h,h,aL hk]
 ·rw [if_neg h,aR (Ne.symm h)]
theorem FF (l:List EvD) (e:EvD) (i:Nat) (hi:i<(l++[e]).length):aD (l++[e]) i=if i=l.length then e else aD l i:=by
 unfold aD
 by_cases h:i=l.length
 ·rw [if_pos h,h,dW]
 ·rw [if_neg h,gU (by simp at hi;omega)]
variable {calls:List aF} {now:Nat} {fin:List Bool} {hnd:Nat->Option Nat} {evs:List EvD}
theorem iD.step (h:iD calls now fin hnd evs) {p k:Nat} (hk:hnd p=some k):iD calls (now+1) fin hnd (cO evs k aZ):=by
 obtain⟨k1,k2,k3,k4⟩:=h.hand p k hk
 have hE:=jQ (aZ (aD evs k)) k1
 have hL:(cO evs k aZ).length=evs.length:=by simp [cO]
 have hM:cO evs k aZ=evs.set k (aZ (aD evs k)):=rfl
 have hc:∀ i,(aD (evs.set k (aZ (aD evs k))) i).call=(aD evs i).call/\(aD (evs.set k (aZ (aD evs k))) i).inv=(aD evs i).inv/\(aD (evs.set k (aZ (aD evs k))) i).resp=(aD evs i).resp/\(aD (evs.set k (aZ (aD evs k))) i).steps=(aD evs i).steps+(if i=k then 1 else 0):=by
  intro i
  rw [hE]
  by_cases h:i=k
  ·subst h;simp [aZ]
  ·simp [h]
 have ht:∀ i,tn calls (aD (evs.set k (aZ (aD evs k))) i)=tn calls (aD evs i):=λi=>by unfold tn;rw [(hc i).1]
 have hks:=(h.open_ k k1 k3).1
 have hkt:=h.tick k k1
 refine⟨h.flen,λi hi=>?_,λi hi=>?_,λi hi hr=>?_,λi hi hr=>?_,λi j hij hj=>?_,λi j hij hj=>?_,λq j hq=>?_,h.ord,?_⟩
 all_goals try rw [hL] at hi
 all_goals try rw [hL] at hj
 all_goals try rw [hM]
 ·rw [(hc i).1];exact h.call i hi
 ·rw [(hc i).2.1,(hc i).2.2.1,(hc i).2.2.2];have:=h.tick i hi;omega
 ·rw [hM,(hc i).2.2.1] at hr
  rw [(hc i).1,(hc i).2.1,(hc i).2.2.1,(hc i).2.2.2]
  have hik:i≠k:=by rintro rfl;exact hr k3
  rw [if_neg hik];exact h.resp i hi hr
 ·rw [hM,(hc i).2.2.1] at hr
  rw [(hc i).2.1,(hc i).2.2.2,ht]
  obtain⟨a1,a2⟩:=h.open_ i hi hr
  have:=h.tick i hi
  refine⟨?_,a2⟩
  split<;>omega
 ·rw [(hc i).2.1,(hc j).2.1];exact h.rise i j hij hj
 ·rw [ht,ht,(hc i).2.2.1,(hc j).2.1,(hc i).1,(hc j).1];exact h.same i j hij hj
 ·rw [<-hM,hL,hM,ht,(hc j).2.2.1,(hc j).1];exact h.hand q j hq
 ·have:=jG (·.steps) evs k (aZ (aD evs k)) k1
  have e2:(aZ (aD evs k)).steps=(aD evs k).steps+1:=rfl
  have h8:=h.sum
  omega
theorem JM {fin:List Bool} {p:Int} {c:Nat} (hlen:fin.length=calls.length) (h:iF calls fin p=some c) {x:Int} (hx:x≠p):iF calls (fin.set c true) x=iF calls fin x:=by
 rw [iW] at h
 cases hq:qF calls fin p with
 | nil=>rw [hq] at h;cases h
 | cons a r=>
  rw [hq] at h;cases h
  rw [iW,iW,IM hlen hq]
  unfold qI;rw [if_neg hx]
theorem iD.done (h:iD calls now fin hnd evs) {p k:Nat} (hk:hnd p=some k) {e:EvD} (he:e.call=(aD evs k).call/\e.inv=(aD evs k).inv/\e.steps=(aD evs k).steps/\e.resp=now) :
  iD calls now (fin.set (aD evs k).call true) (λq=>if q=p then none else hnd q) (evs.set k e):=by
 obtain⟨k1,k2,k3,k4⟩:=h.hand p k hk
 obtain⟨e1,e2,e3,e4⟩:=he
 have hE:=jQ e k1
 have hL:(evs.set k e).length=evs.length:=by simp
 have hcl:=h.call k k1
 have hfl:(aD evs k).call<fin.length:=by rw [h.flen];exact hcl
 have hc:∀ i,(aD (evs.set k e) i).call=(aD evs i).call/\(aD (evs.set k e) i).inv=(aD evs i).inv/\(aD (evs.set k e) i).resp=(if i=k then now else (aD evs i).resp)/\(aD (evs.set k e) i).steps=(aD evs i).steps:=by
  intro i
  rw [hE]
  by_cases h:i=k
  ·subst h;simp [e1,e2,e3,e4]
  ·simp [h]
 have ht:∀ i,tn calls (aD (evs.set k e) i)=tn calls (aD evs i):=λi=>by unfold tn;rw [(hc i).1]
 have hks:=(h.open_ k k1 k3).1
 have hkt:=h.tick k k1
 have hf:∀ c,(fin.set (aD evs k).call true).getD c false=true↔c=(aD evs k).call∨fin.getD c false=true:=by
  intro c
  by_cases hcc:c=(aD evs k).call
  ·rw [hcc,aL hfl];simp
  ·rw [aR (Ne.symm hcc)];simp [hcc]
 obtain⟨n1,n2,n3⟩:=dO k4
 refine⟨by simpa using h.flen,λi hi=>?_,λi hi=>?_,λi hi hr=>?_,λi hi hr=>?_,λi j hij hj=>?_,λi j hij hj hs=>?_,λq j hq=>?_,λc c' hc1 hc2 hth hfc hfc'=>?_,?_⟩
 all_goals try rw [hL] at hi
 all_goals try rw [hL] at hj
 ·rw [(hc i).1];exact h.call i hi
 ·rw [(hc i).2.1,(hc i).2.2.1,(hc i).2.2.2];have:=h.tick i hi;split<;>omega
 ·rw [(hc i).2.2.1] at hr
  rw [(hc i).1,(hc i).2.1,(hc i).2.2.1,(hc i).2.2.2,hf]
  by_cases hik:i=k
  ·subst hik;simp only [if_true];exact⟨hkt.2.1,hks,.inl trivial⟩
  ·rw [if_neg hik] at hr ⊢;have:=h.resp i hi hr;exact⟨this.1,this.2.1,.inr this.2.2⟩
 ·rw [(hc i).2.2.1] at hr
  rw [(hc i).2.1,(hc i).2.2.2,ht]
  by_cases hik:i=k
  ·subst hik;simp only [if_true] at hr;omega
  ·rw [if_neg hik] at hr
   obtain⟨a1,a2⟩:=h.open_ i hi hr
   refine⟨a1,?_⟩
   have:tn calls (aD evs i)≠p:=by
    intro hp;rw [hp,hk] at a2;cases a2;exact hik rfl
   rw [if_neg this];exact a2
 ·rw [(hc i).2.1,(hc j).2.1];exact h.rise i j hij hj
 ·rw [ht,ht] at hs
  rw [(hc i).2.2.1,(hc j).2.1,(hc i).1,(hc j).1]
  have:=h.same i j hij hj hs
  by_cases hik:i=k
  ·subst hik;exact absurd k3 this.1
  ·rw [if_neg hik];exact this
 ·try simp only at hq
  by_cases hqp:q=p
  ·rw [if_pos hqp] at hq;cases hq
  ·rw [if_neg hqp] at hq
   obtain⟨a1,a2,a3,a4⟩:=h.hand q j hq
   have hjk:j≠k:=by rintro rfl;exact hqp (a2.symm.trans k2)
   rw [hL,ht,(hc j).2.2.1,(hc j).1,if_neg hjk]
   refine⟨a1,a2,a3,?_⟩
   rw [JM h.flen k4 (by omega)];exact a4
 ·rw [hf] at hfc
  have OA:¬ (c'=(aD evs k).call∨fin.getD c' false=true):=by rw [<-hf,hfc'];simp
  rcases hfc with rfl|hfc
  ·-- the call that is finished now was the first one that was not
   rcases Nat.lt_or_ge (aD evs k).call c' with hlt|hge
   ·exact hlt
   ·exfalso
    have hlt:c'<(aD evs k).call:=by have:c'≠(aD evs k).call:=λe=>OA (.inl e);omega
    unfold iF at k4
    rw [List.find?_eq_some_iff_append] at k4
    obtain⟨_,xs,bs,hab,hno⟩:=k4
    have hlen:xs.length=(aD evs k).call:=by
     have h1:(List.range calls.length)[xs.length]?=some (aD evs k).call:=by rw [hab];simp
     rw [List.getElem?_range (by have:=congrArg List.length hab;simp at this;omega)] at h1
     simpa using h1
    have hmem:c'∈xs:=by
     have h1:(List.range calls.length)[c']?=some c':=by rw [List.getElem?_range hc2]
     rw [hab,List.getElem?_append_left (by omega)] at h1
     exact List.mem_of_getElem? h1
    have:=hno c' hmem
    unfold nH at this
    rw [<-hth,n2] at this
    have h9:fin.getD c' false=false:=by
     cases hb:fin.getD c' false with
     | false=>rfl
     | true=>exact absurd (.inr hb) OA
    rw [h9] at this
    simp at this
  ·refine h.ord c c' hc1 hc2 hth hfc ?_
   cases hb:fin.getD c' false with
   | false=>rfl
   | true=>exact absurd (.inr hb) OA
 ·have:=jG (·.steps) evs k e k1
  have h8:=h.sum
  omega
theorem iD.begun (h:iD calls now fin hnd evs) {p ci:Nat} (hpos:∀ c,c<calls.length->0<=(calls.getD c d0).thread) (hp:hnd p=none) (hN:iF calls fin (p:Int)=some ci) {e:EvD} (he:e.call=ci/\e.inv=now+1/\e.steps=1/\e.resp=0) :
  iD calls (now+1) fin (λq=>if q=p then some evs.length else hnd q) (evs++[e]):=by
 obtain⟨e1,e2,e3,e4⟩:=he
 obtain⟨n1,n2,n3⟩:=dO hN
 have hE:=FF evs e
 have hte:tn calls e=p:=by unfold tn;rw [e1,n2];simp
 have hL:(evs++[e]).length=evs.length+1:=by simp
 have hlast:aD (evs++[e]) evs.length=e:=by rw [hE _ (by simp)];simp
 have hold:∀ i,i<evs.length->aD (evs++[e]) i=aD evs i:=λi hi=>by rw [hE _ (by simp;omega),if_neg (by omega)]
 have hcase:∀ {P:EvD->Prop} {i:Nat},i<(evs++[e]).length->(i<evs.length->P (aD evs i))->(i=evs.length->P e)->P (aD (evs++[e]) i):=by
  intro P i hi h1 h2
  by_cases hil:i=evs.length
  ·rw [hil,hlast];exact h2 hil
  ·have:i<evs.length:=by rw [hL] at hi;omega
   rw [hold i this];exact h1 this
 refine⟨h.flen,λi hi=>?_,λi hi=>?_,λi hi=>?_,λi hi=>?_,λi j hij hj=>?_,λi j hij hj=>?_,λq j hq=>?_,h.ord,?_⟩
 ·exact hcase (P:=λx=>x.call<calls.length) hi (h.call i) (λ_=>by rw [e1];exact n1)
 ·exact hcase (P:=λx=>1<=x.inv/\x.inv<=now+1/\1<=x.steps/\x.resp<=now+1) hi (λhi=>by have:=h.tick i hi;omega) (λ_=>by omega)
 ·exact hcase (P:=λx=>x.resp≠0->x.inv<=x.resp/\x.steps<=x.resp - x.inv+1/\fin.getD x.call false=true) hi (h.resp i) (λ_ hr=>absurd e4 hr)
 ·refine hcase (P:=λx=>x.resp=0->x.steps<=now+1 - x.inv+1/\(if tn calls x=p then some evs.length else hnd (tn calls x))=some i) hi (λhi hr=>?_) (λhil _=>⟨by omega,by rw [if_pos hte,hil]⟩)
  obtain⟨a1,a2⟩:=h.open_ i hi hr
  refine⟨by omega,?_⟩
  have:tn calls (aD evs i)≠p:=by intro hpp;rw [hpp,hp] at a2;cases a2
  rw [if_neg this];exact a2
 ·by_cases hjl:j=evs.length
  ·subst hjl
   rw [hlast,hold i hij,e2];have:=h.tick i hij;omega
  ·have GH:j<evs.length:=by rw [hL] at hj;omega
   rw [hold i (by omega),hold j GH];exact h.rise i j hij GH
 ·by_cases hjl:j=evs.length
  ·subst hjl
   rw [hlast,hold i hij,hte,e2,e1]
   intro hs
   have hr:(aD evs i).resp≠0:=by
    intro hr
    have:=(h.open_ i hij hr).2
    rw [hs,hp] at this;cases this
   have hti:=h.tick i hij
   have hfi:=(h.resp i hij hr).2.2
   refine⟨hr,by omega,?_⟩
   have hth:(calls.getD (aD evs i).call d0).thread=(calls.getD ci d0).thread:=by
    have h8:=hpos _ (h.call i hij)
    have h9:(calls.getD (aD evs i).call d0).thread.toNat=p:=hs
    rw [n2];omega
   exact h.ord _ _ (h.call i hij) n1 hth hfi n3
  ·have GH:j<evs.length:=by rw [hL] at hj;omega
   rw [hold i (by omega),hold j GH];exact h.same i j hij GH
 ·try simp only at hq
  by_cases hqp:q=p
  ·rw [if_pos hqp] at hq;cases hq
   rw [hlast,hL,hte,e1]
   exact⟨by omega,hqp.symm,e4,by rw [hqp];exact hN⟩
  ·rw [if_neg hqp] at hq
   obtain⟨a1,a2,a3,a4⟩:=h.hand q j hq
   rw [hold j a1,hL]
   exact⟨by omega,a2,a3,a4⟩
 ·rw [List.map_append,List.sum_append,h.sum];simp [e3]
end
section
open Go.RowKit
variable {S:Sys}
def eT {σ:Type} (hands:List (Option σ×Nat)) (p:Nat):Option Nat:=if (hands.getD p (none,0)).1.isSome then some (hands.getD p (none,0)).2 else none
theorem lV {σ:Type} {hands:List (Option σ×Nat)} {p:Nat} (hp:p<hands.length) (m:Option σ) (k:Nat):eT (hands.set p (m,k))=λq=>if q=p then (if m.isSome then some k else none) else eT hands q:=by
 funext q
 unfold eT
 by_cases h:q=p
 ·subst h;rw [aL hp];simp
 ·rw [aR (Ne.symm h)];simp [h]
theorem vV (l:List EvD) (k:Nat) (f:EvD->EvD):(cO l k f).length=l.length:=by simp [cO]
structure eB (calls:List aF) (st:aQ S):Prop where
 ev:iD calls st.wd.now st.fin (eT st.hands) st.evs
 h16:st.hands.length=16
theorem qB {calls:List aF} (hnow:∀ o wd p s,(S.step o wd p s).2.1.now=wd.now) {st:aQ S} {p k:Nat} {s:S.σ} (h16:st.hands.length=16) (hp:p<16) (hk:k<st.evs.length)
  (he:iD calls st.wd.now st.fin (λq=>if q=p then some k else eT st.hands q) (cO st.evs k aZ)) :
  if (eY S st p k s).2 then eB calls { (eY S st p k s).1 with fin:=(eY S st p k s).1.fin.set (aD st.evs k).call true } else eB calls (eY S st p k s).1:=by
 have hev:aD (cO st.evs k aZ) k=aZ (aD st.evs k):=by unfold cO;rw [jQ _ hk,if_pos rfl];rfl
 unfold eY
 simp only
 cases hd:(S.step st.obj st.wd p s).2.2.2 with
 | true=>
  simp only [if_true]
  have:=he.done (p:=p) (k:=k) (if_pos rfl) (e:=bK (S.step st.obj st.wd p s).2.1 p (S.answer (S.step st.obj st.wd p s).2.2.1).1 (S.answer (S.step st.obj st.wd p s).2.2.1).2 (aD st.evs k))
   ⟨by rw [hev];rfl,by rw [hev];rfl,by rw [hev];rfl,by show(S.step st.obj st.wd p s).2.1.now=_;rw [hnow]⟩
  rw [hev] at this
  refine⟨?_,by simpa using h16⟩
  simp only
  rw [hnow,lV (by rw [h16];exact hp)]
  have e1:cO st.evs k (bK (S.step st.obj st.wd p s).2.1 p (S.answer (S.step st.obj st.wd p s).2.2.1).1 (S.answer (S.step st.obj st.wd p s).2.2.1).2)=(cO st.evs k aZ).set k (bK (S.step st.obj st.wd p s).2.1 p (S.answer (S.step st.obj st.wd p s).2.2.1).1 (S.answer (S.step st.obj st.wd p s).2.2.1).2 (aD st.evs k)):=by
   unfold cO;rw [List.set_set];rfl
  rw [e1]
  have e2:(λq=>if q=p then (if (none:Option S.σ).isSome=true then some k else none) else eT st.hands q)=(λq=>if q=p then none else (λq=>if q=p then some k else eT st.hands q) q):=by
   funext q
   by_cases hq:q=p<;>simp [hq]
  rw [e2]
  exact this
 | false=>
  simp only [Bool.false_eq_true,if_false]
  refine⟨?_,by simpa using h16⟩
  simp only
  rw [hnow,lV (by rw [h16];exact hp)]
  exact he
theorem vG {calls:List aF} (hnow:∀ o wd p s,(S.step o wd p s).2.1.now=wd.now) (hthr:∀ c,c<calls.length->0<=(calls.getD c d0).thread/\(calls.getD c d0).thread<16) {st:aQ S} (h:eB calls st) (p:Int):eB calls (gV S calls st p):=by
 unfold gV
 cases hN:iF calls st.fin p with
 | none=>exact⟨h.ev,h.h16⟩
 | some i=>
  obtain⟨n1,n2,n3⟩:=dO hN
  obtain⟨t1,t2⟩:=hthr i n1
  obtain⟨q,rfl⟩:∃ q:Nat,p=(q:Int):=⟨p.toNat,by omega⟩
  have hq:q<16:=by omega
  simp only [Int.toNat_natCast]
  unfold dF
  cases hs:(st.hands.getD q (none,0)).1 with
  | some s=>
   simp only
   obtain⟨k,hk⟩:∃ k,k=(st.hands.getD q (none,0)).2:=⟨_,rfl⟩
   rw [<-hk]
   have hh:eT st.hands q=some k:=by unfold eT;rw [hs,hk];rfl
   obtain⟨k1,k2,k3,k4⟩:=h.ev.hand q k hh
   have hi:i=(aD st.evs k).call:=by rw [hN] at k4;cases k4;rfl
   have he:=h.ev.step hh
   have hfun:eT st.hands=λx=>if x=q then some k else eT st.hands x:=by
    funext x;by_cases hx:x=q
    ·rw [if_pos hx,hx,hh]
    ·rw [if_neg hx]
   rw [hfun] at he
   have:=qB hnow (st:={ st with wd:=st.wd.tick }) (s:=s) h.h16 hq k1 he
   rw [<-hi] at this
   exact(by split<;>rename_i hb<;>simp only [hb,if_true,Bool.false_eq_true,if_false] at this<;>exact this)
  | none=>
   simp only
   have hh:eT st.hands q=none:=by unfold eT;rw [hs];rfl
   have hpos:∀ c,c<calls.length->0<=(calls.getD c d0).thread:=λc hc=>(hthr c hc).1
   have QV:q<st.hands.length:=by rw [h.h16];exact hq
   cases hst:dI S st.obj (st.wd.tick.begin q) q (calls.getD i d0) with
   | refuse e=>
    simp only [if_true]
    have hb:=h.ev.begun hpos hh hN (e:=aZ (dC i (st.wd.tick.begin q))) ⟨rfl,rfl,rfl,rfl⟩
    have hf:=hb.done (p:=q) (k:=st.evs.length) (if_pos rfl) (e:=bK (st.wd.tick.begin q) q ⟨e,0,[]⟩ [] (dC i (st.wd.tick.begin q)))
    have hev:aD (st.evs++[aZ (dC i (st.wd.tick.begin q))]) st.evs.length=aZ (dC i (st.wd.tick.begin q)):=by unfold aD;rw [dW]
    rw [hev] at hf
    have hf:=hf ⟨rfl,rfl,rfl,rfl⟩
    rw [List.set_append_right _ _ (Nat.le_refl _),Nat.sub_self] at hf
    refine⟨?_,by simpa using h.h16⟩
    simp only
    rw [lV QV]
    have e2:(λx=>if x=q then (if (none:Option S.σ).isSome=true then some st.evs.length else none) else eT st.hands x)=(λx=>if x=q then none else (λx=>if x=q then some st.evs.length else eT st.hands x) x):=by
     funext x
     by_cases hx:x=q<;>simp [hx]
    rw [e2]
    exact hf
   | run s=>
    simp only
    have hb:=h.ev.begun hpos hh hN (e:=aZ (dC i (st.wd.tick.begin q))) ⟨rfl,rfl,rfl,rfl⟩
    rw [<-sQ] at hb
    have hfun:(λx=>if x=q then some st.evs.length else eT st.hands x)=λx=>if x=q then some st.evs.length else eT (st.hands.set q (some s,st.evs.length)) x:=by
     funext x
     rw [lV QV]
     by_cases hx:x=q<;>simp [hx]
    rw [hfun] at hb
    have:=qB hnow (st:={ st with wd:=st.wd.tick.begin q,hands:=st.hands.set q (some s,st.evs.length),evs:=st.evs++[dC i (st.wd.tick.begin q)] }) (s:=s) (by simpa using h.h16) hq (by simp) hb
    have hev:(aD (st.evs++[dC i (st.wd.tick.begin q)]) st.evs.length).call=i:=by unfold aD;rw [dW];rfl
    simp only at this
    rw [hev] at this
    exact(by split<;>rename_i hb<;>simp only [hb,if_true,Bool.false_eq_true,if_false] at this<;>exact this)
theorem AC (calls:List aF) (o:S.ω) (ws:List Nat):eB calls (bT S o ws calls):=by
 have hh:∀ p,eT (List.replicate 16 ((none:Option S.σ),0)) p=none:=by
  intro p
  unfold eT
  have:(List.replicate 16 ((none:Option S.σ),0)).getD p (none,0)=(none,0):=by
   simp only [List.getD_eq_getElem?_getD,List.getElem?_replicate];split<;>rfl
  rw [this];rfl
 refine⟨⟨by simp [bT],λi hi=>by simp [bT] at hi,λi hi=>by simp [bT] at hi,λi hi=>by simp [bT] at hi,λi hi=>by simp [bT] at hi,λi j _ hj=>by simp [bT] at hj,λi j _ hj=>by simp [bT] at hj,λp k hk=>?_,λc c' h1 h2 _ h3=>?_,rfl⟩,by simp [bT]⟩
 ·rw [show eT (bT S o ws calls).hands p=none from hh p] at hk;cases hk
 ·exfalso
  have:(List.replicate calls.length false).getD c false=false:=by
   simp only [List.getD_eq_getElem?_getD,List.getElem?_replicate];split<;>rfl
  rw [show(bT S o ws calls).fin=List.replicate calls.length false from rfl,this] at h3;cases h3
theorem BC {calls:List aF} (hnow:∀ o wd p s,(S.step o wd p s).2.1.now=wd.now) (st:aQ S) (p:Int):(gV S calls st p).wd.now+(gV S calls st p).idle=st.wd.now+st.idle+1:=by
 unfold gV
 cases iF calls st.fin p with
 | none=>simp only;omega
 | some i=>
  simp only
  have:(dF S calls st p.toNat i).1.wd.now=st.wd.now+1/\(dF S calls st p.toNat i).1.idle=st.idle:=by
   refine⟨?_,(uS calls st _ _).2⟩
   unfold dF
   split
   ·unfold eY;simp only;split<;>(simp only)<;>rw [hnow]<;>rfl
   ·simp only
    cases dI S st.obj (st.wd.tick.begin p.toNat) p.toNat (calls.getD i d0) with
    | refuse e=>rfl
    | run s=>unfold eY;simp only;split<;>(simp only)<;>rw [hnow]<;>rfl
  split<;>(try simp only)<;>omega
end
end Go.Proofs.Ytifhldnmcdbpfaa
