/- Layer 6: every play keeps it, whatever its object is. -/
import Derived.Test.YtlepjmnhekeofaaS19
import Derived.Test.YtlepjmnhekeofaaS15
set_option maxRecDepth 100000
set_option linter.unusedVariables false
set_option linter.unusedSimpArgs false
set_option linter.unnecessarySimpa false
namespace Go.Proofs.Ytlepjmnhekeofaa
open Go.RowKit
variable {S:Sys}
def hndOf {σ:Type} (hands:List (Option σ×Nat)) (p:Nat):Option Nat:=if (hands.getD p (none,0)).1.isSome then some (hands.getD p (none,0)).2 else none
theorem hndOf_set {σ:Type} {hands:List (Option σ×Nat)} {p:Nat} (hp:p<hands.length) (m:Option σ) (k:Nat):hndOf (hands.set p (m,k))=λq=>if q=p then (if m.isSome then some k else none) else hndOf hands q:=by
 funext q
 unfold hndOf
 by_cases h:q=p
 ·subst h;rw [getD_set_eq hp];simp
 ·rw [getD_set_neq (Ne.symm h)];simp [h]
theorem modEv_length (l:List EvD) (k:Nat) (f:EvD->EvD):(modEv l k f).length=l.length:=by simp [modEv]
structure StGood (calls:List CallD) (st:PlayD S):Prop where
 ev:EvGood calls st.wd.now st.fin (hndOf st.hands) st.evs
 h16:st.hands.length=16
theorem goStep_good {calls:List CallD} (hnow:∀ o wd p s,(S.step o wd p s).2.1.now=wd.now) {st:PlayD S} {p k:Nat} {s:S.σ} (h16:st.hands.length=16) (hp:p<16) (hk:k<st.evs.length)
  (he:EvGood calls st.wd.now st.fin (λq=>if q=p then some k else hndOf st.hands q) (modEv st.evs k stepEv)) :
  if (goStep S st p k s).2 then StGood calls { (goStep S st p k s).1 with fin:=(goStep S st p k s).1.fin.set (evAt st.evs k).call true } else StGood calls (goStep S st p k s).1:=by
 have hev:evAt (modEv st.evs k stepEv) k=stepEv (evAt st.evs k):=by unfold modEv;rw [evAt_set _ hk,if_pos rfl];rfl
 unfold goStep
 simp only
 cases hd:(S.step st.obj st.wd p s).2.2.2 with
 | true=>
  simp only [if_true]
  have:=he.done (p:=p) (k:=k) (if_pos rfl) (e:=finishEv (S.step st.obj st.wd p s).2.1 p (S.answer (S.step st.obj st.wd p s).2.2.1).1 (S.answer (S.step st.obj st.wd p s).2.2.1).2 (evAt st.evs k))
   ⟨by rw [hev];rfl,by rw [hev];rfl,by rw [hev];rfl,by show(S.step st.obj st.wd p s).2.1.now=_;rw [hnow]⟩
  rw [hev] at this
  refine⟨?_,by simpa using h16⟩
  simp only
  rw [hnow,hndOf_set (by rw [h16];exact hp)]
  have e1:modEv st.evs k (finishEv (S.step st.obj st.wd p s).2.1 p (S.answer (S.step st.obj st.wd p s).2.2.1).1 (S.answer (S.step st.obj st.wd p s).2.2.1).2)=(modEv st.evs k stepEv).set k (finishEv (S.step st.obj st.wd p s).2.1 p (S.answer (S.step st.obj st.wd p s).2.2.1).1 (S.answer (S.step st.obj st.wd p s).2.2.1).2 (evAt st.evs k)):=by
   unfold modEv;rw [List.set_set];rfl
  rw [e1]
  have e2:(λq=>if q=p then (if (none:Option S.σ).isSome=true then some k else none) else hndOf st.hands q)=(λq=>if q=p then none else (λq=>if q=p then some k else hndOf st.hands q) q):=by
   funext q
   by_cases hq:q=p<;>simp [hq]
  rw [e2]
  exact this
 | false=>
  simp only [Bool.false_eq_true,if_false]
  refine⟨?_,by simpa using h16⟩
  simp only
  rw [hnow,hndOf_set (by rw [h16];exact hp)]
  exact he
theorem pick_good {calls:List CallD} (hnow:∀ o wd p s,(S.step o wd p s).2.1.now=wd.now) (hthr:∀ c,c<calls.length->0<=(calls.getD c d0).thread/\(calls.getD c d0).thread<16) {st:PlayD S} (h:StGood calls st) (p:Int):StGood calls (pickD S calls st p):=by
 unfold pickD
 cases hN:nowN calls st.fin p with
 | none=>exact⟨h.ev,h.h16⟩
 | some i=>
  obtain⟨n1,n2,n3⟩:=nowN_spec hN
  obtain⟨t1,t2⟩:=hthr i n1
  obtain⟨q,rfl⟩:∃ q:Nat,p=(q:Int):=⟨p.toNat,by omega⟩
  have hq:q<16:=by omega
  simp only [Int.toNat_natCast]
  unfold stepD
  cases hs:(st.hands.getD q (none,0)).1 with
  | some s=>
   simp only
   obtain⟨k,hk⟩:∃ k,k=(st.hands.getD q (none,0)).2:=⟨_,rfl⟩
   rw [<-hk]
   have hh:hndOf st.hands q=some k:=by unfold hndOf;rw [hs,hk];rfl
   obtain⟨k1,k2,k3,k4⟩:=h.ev.hand q k hh
   have hi:i=(evAt st.evs k).call:=by rw [hN] at k4;cases k4;rfl
   have he:=h.ev.step hh
   have hfun:hndOf st.hands=λx=>if x=q then some k else hndOf st.hands x:=by
    funext x;by_cases hx:x=q
    ·rw [if_pos hx,hx,hh]
    ·rw [if_neg hx]
   rw [hfun] at he
   have:=goStep_good hnow (st:={ st with wd:=st.wd.tick }) (s:=s) h.h16 hq k1 he
   rw [<-hi] at this
   exact(by split<;>rename_i hb<;>simp only [hb,if_true,Bool.false_eq_true,if_false] at this<;>exact this)
  | none=>
   simp only
   have hh:hndOf st.hands q=none:=by unfold hndOf;rw [hs];rfl
   have hpos:∀ c,c<calls.length->0<=(calls.getD c d0).thread:=λc hc=>(hthr c hc).1
   have hl16:q<st.hands.length:=by rw [h.h16];exact hq
   cases hst:startD S st.obj (st.wd.tick.begin q) q (calls.getD i d0) with
   | refuse e=>
    simp only [if_true]
    have hb:=h.ev.begun hpos hh hN (e:=stepEv (newEv i (st.wd.tick.begin q))) ⟨rfl,rfl,rfl,rfl⟩
    have hf:=hb.done (p:=q) (k:=st.evs.length) (if_pos rfl) (e:=finishEv (st.wd.tick.begin q) q ⟨e,0,[]⟩ [] (newEv i (st.wd.tick.begin q)))
    have hev:evAt (st.evs++[stepEv (newEv i (st.wd.tick.begin q))]) st.evs.length=stepEv (newEv i (st.wd.tick.begin q)):=by unfold evAt;rw [getD_snoc_eq]
    rw [hev] at hf
    have hf:=hf ⟨rfl,rfl,rfl,rfl⟩
    rw [List.set_append_right _ _ (Nat.le_refl _),Nat.sub_self] at hf
    refine⟨?_,by simpa using h.h16⟩
    simp only
    rw [hndOf_set hl16]
    have e2:(λx=>if x=q then (if (none:Option S.σ).isSome=true then some st.evs.length else none) else hndOf st.hands x)=(λx=>if x=q then none else (λx=>if x=q then some st.evs.length else hndOf st.hands x) x):=by
     funext x
     by_cases hx:x=q<;>simp [hx]
    rw [e2]
    exact hf
   | run s=>
    simp only
    have hb:=h.ev.begun hpos hh hN (e:=stepEv (newEv i (st.wd.tick.begin q))) ⟨rfl,rfl,rfl,rfl⟩
    rw [<-modEv_snoc] at hb
    have hfun:(λx=>if x=q then some st.evs.length else hndOf st.hands x)=λx=>if x=q then some st.evs.length else hndOf (st.hands.set q (some s,st.evs.length)) x:=by
     funext x
     rw [hndOf_set hl16]
     by_cases hx:x=q<;>simp [hx]
    rw [hfun] at hb
    have:=goStep_good hnow (st:={ st with wd:=st.wd.tick.begin q,hands:=st.hands.set q (some s,st.evs.length),evs:=st.evs++[newEv i (st.wd.tick.begin q)] }) (s:=s) (by simpa using h.h16) hq (by simp) hb
    have hev:(evAt (st.evs++[newEv i (st.wd.tick.begin q)]) st.evs.length).call=i:=by unfold evAt;rw [getD_snoc_eq];rfl
    simp only at this
    rw [hev] at this
    exact(by split<;>rename_i hb<;>simp only [hb,if_true,Bool.false_eq_true,if_false] at this<;>exact this)
theorem play0_good (calls:List CallD) (o:S.ω) (ws:List Nat):StGood calls (play0 S o ws calls):=by
 have hh:∀ p,hndOf (List.replicate 16 ((none:Option S.σ),0)) p=none:=by
  intro p
  unfold hndOf
  have:(List.replicate 16 ((none:Option S.σ),0)).getD p (none,0)=(none,0):=by
   simp only [List.getD_eq_getElem?_getD,List.getElem?_replicate];split<;>rfl
  rw [this];rfl
 refine⟨⟨by simp [play0],λi hi=>by simp [play0] at hi,λi hi=>by simp [play0] at hi,λi hi=>by simp [play0] at hi,λi hi=>by simp [play0] at hi,λi j _ hj=>by simp [play0] at hj,λi j _ hj=>by simp [play0] at hj,λp k hk=>?_,λc c' h1 h2 _ h3=>?_,rfl⟩,by simp [play0]⟩
 ·rw [show hndOf (play0 S o ws calls).hands p=none from hh p] at hk;cases hk
 ·exfalso
  have:(List.replicate calls.length false).getD c false=false:=by
   simp only [List.getD_eq_getElem?_getD,List.getElem?_replicate];split<;>rfl
  rw [show(play0 S o ws calls).fin=List.replicate calls.length false from rfl,this] at h3;cases h3
theorem pick_ticks {calls:List CallD} (hnow:∀ o wd p s,(S.step o wd p s).2.1.now=wd.now) (st:PlayD S) (p:Int):(pickD S calls st p).wd.now+(pickD S calls st p).idle=st.wd.now+st.idle+1:=by
 unfold pickD
 cases nowN calls st.fin p with
 | none=>simp only;omega
 | some i=>
  simp only
  have:(stepD S calls st p.toNat i).1.wd.now=st.wd.now+1/\(stepD S calls st p.toNat i).1.idle=st.idle:=by
   refine⟨?_,(stepD_fin calls st _ _).2⟩
   unfold stepD
   split
   ·unfold goStep;simp only;split<;>(simp only)<;>rw [hnow]<;>rfl
   ·simp only
    cases startD S st.obj (st.wd.tick.begin p.toNat) p.toNat (calls.getD i d0) with
    | refuse e=>rfl
    | run s=>unfold goStep;simp only;split<;>(simp only)<;>rw [hnow]<;>rfl
  split<;>(try simp only)<;>omega
end Go.Proofs.Ytlepjmnhekeofaa
