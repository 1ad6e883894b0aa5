/- Layer 7: agreement, in plain numbers. -/
import Derived.Test.YtlepjmnhekeofaaW17
import Derived.Test.YtlepjmnhekeofaaW16
set_option maxRecDepth 100000
set_option linter.unusedVariables false
set_option linter.unusedSimpArgs false
set_option linter.unnecessarySimpa false
namespace Go.Proofs.Ytlepjmnhekeofaa
section
open Go.RowKit
def Proposed (calls:List CallD) (evs:List EvD) (x:Nat):Prop:=∃ i,i<evs.length/\(calls.getD (evAt evs i).call d0).obj=0/\(calls.getD (evAt evs i).call d0).kind=0/\(calls.getD (evAt evs i).call d0).a+1=x
def EvFits (x:Nat) (e:EvD):Prop:=e.steps<=2/\(e.resp≠0->e.ans.err=0->e.ans.val+1=x)
structure CoInv (calls:List CallD) (st:PlayD consS) (x:Nat):Prop where
 good:StGood calls st
 ws:st.wd.mem.ws=[x]
 prop:x≠0->Proposed calls st.evs x
 evs:∀ i,i<st.evs.length->EvFits x (evAt st.evs i)
 hand:∀ p s k,st.hands.getD p (none,0)=(some s,k)->∃ v,s=.prop v true/\(evAt st.evs k).steps=1/\x≠0
theorem Proposed.keep {calls:List CallD} {evs evs':List EvD} {x:Nat} (h:Proposed calls evs x) (hl:evs.length<=evs'.length) (hc:∀ i,i<evs.length->(evAt evs' i).call=(evAt evs i).call):Proposed calls evs' x:=by
 obtain⟨i,h1,h2⟩:=h
 exact⟨i,by omega,by rw [hc i h1];exact h2⟩
theorem evAt_old {l:List EvD} {e:EvD} {i:Nat} (h:i<l.length):evAt (l++[e]) i=evAt l i:=getD_snoc_lt h
theorem evAt_last {l:List EvD} {e:EvD}:evAt (l++[e]) l.length=e:=getD_snoc_eq
theorem end_same {S:Sys} (st:PlayD S) (hl:∀ o wd p s,S.late o wd p s=none):∀(l:List Nat) (evs:List EvD),(l.foldl (endEv S st) evs).length=evs.length/\∀ i,(evAt (l.foldl (endEv S st) evs) i).call=(evAt evs i).call/\(evAt (l.foldl (endEv S st) evs) i).inv=(evAt evs i).inv/\(evAt (l.foldl (endEv S st) evs) i).resp=(evAt evs i).resp/\(evAt (l.foldl (endEv S st) evs) i).steps=(evAt evs i).steps/\(evAt (l.foldl (endEv S st) evs) i).ans=(evAt evs i).ans
 | [],_=>⟨rfl,λ_=>⟨rfl,rfl,rfl,rfl,rfl⟩⟩
 | p::l,evs=>by
  rw [List.foldl_cons]
  obtain⟨h1,h2⟩:=end_same st hl l (endEv S st evs p)
  have h3:(endEv S st evs p).length=evs.length/\∀ i,(evAt (endEv S st evs p) i).call=(evAt evs i).call/\(evAt (endEv S st evs p) i).inv=(evAt evs i).inv/\(evAt (endEv S st evs p) i).resp=(evAt evs i).resp/\(evAt (endEv S st evs p) i).steps=(evAt evs i).steps/\(evAt (endEv S st evs p) i).ans=(evAt evs i).ans:=by
   unfold endEv
   split
   ·exact⟨rfl,λ_=>⟨rfl,rfl,rfl,rfl,rfl⟩⟩
   ·rename_i s k _
    refine⟨by simp [modEv],λi=>?_⟩
    rcases Nat.lt_or_ge k evs.length with hk|hk
    ·unfold modEv
     rw [evAt_set _ hk]
     split
     ·rename_i e;subst e;exact⟨rfl,rfl,rfl,rfl,rfl⟩
     ·exact⟨rfl,rfl,rfl,rfl,rfl⟩
    ·have:modEv evs k (λe=>{ e with key:=(S.late st.obj st.wd p s).getD (st.wd.marks.getD p []) })=evs:=by
      unfold modEv;exact List.set_eq_of_length_le hk
     rw [this];exact⟨rfl,rfl,rfl,rfl,rfl⟩
  refine⟨h1.trans h3.1,λi=>?_⟩
  have a:=h2 i;have b:=h3.2 i
  exact⟨a.1.trans b.1,a.2.1.trans b.2.1,a.2.2.1.trans b.2.2.1,a.2.2.2.1.trans b.2.2.2.1,a.2.2.2.2.trans b.2.2.2.2⟩
theorem EvGood.len_le {calls:List CallD} {now:Nat} {fin:List Bool} {hnd:Nat->Option Nat} {evs:List EvD} (h:EvGood calls now fin hnd evs):evs.length<=now:=by
 have hi:∀ i,i<evs.length->i+1<=(evAt evs i).inv:=by
  intro i
  induction i with
  | zero=>intro hi;have:=(h.tick 0 hi).1;omega
  | succ i ih=>intro hi;have h1:=ih (by omega);have h2:=h.rise i (i+1) (by omega) hi;omega
 rcases Nat.eq_zero_or_pos evs.length with h0|h0
 ·omega
 ·have h1:=hi (evs.length - 1) (by omega)
  have h2:=(h.tick (evs.length - 1) (by omega)).2.1
  omega
end
section

/- Layer 6: what one pick does to a play, case by case, in plain numbers. -/
open Go.RowKit
variable {S:Sys}
def ev1 (S:Sys) (r:S.ω×WD×S.σ×Bool) (q:Nat) (e:EvD):EvD:=if r.2.2.2 then finishEv r.2.1 q (S.answer r.2.2.1).1 (S.answer r.2.2.1).2 e else stepEv e
def stepTo (st:PlayD S) (r:S.ω×WD×S.σ×Bool) (q i k:Nat) (evs0:List EvD):PlayD S:=
 { wd:=r.2.1,obj:=r.1,fin:=if r.2.2.2 then st.fin.set i true else st.fin,hands:=st.hands.set q (if r.2.2.2 then none else some r.2.2.1,k),evs:=evs0.set k (ev1 S r q (evAt evs0 k)),idle:=st.idle }
def refuseTo (st:PlayD S) (q i:Nat) (er:Int):PlayD S:=
 { wd:=st.wd.tick.begin q,obj:=st.obj,fin:=st.fin.set i true,hands:=st.hands.set q (none,st.evs.length),evs:=st.evs++[finishEv (st.wd.tick.begin q) q ⟨er,0,[]⟩ [] (newEv i (st.wd.tick.begin q))],idle:=st.idle }
inductive From (calls:List CallD) (st:PlayD S) (q i:Nat):Nat->S.σ->List EvD->WD->Prop where
 | old (k:Nat) (s:S.σ) (hh:st.hands.getD q (none,0)=(some s,k)) (hk:k<st.evs.length) (hc:(evAt st.evs k).call=i) (hr:(evAt st.evs k).resp=0):From calls st q i k s st.evs st.wd.tick
 | new (s:S.σ) (hh:(st.hands.getD q (none,0)).1=none) (hs:startD S st.obj (st.wd.tick.begin q) q (calls.getD i d0)=.run s):From calls st q i st.evs.length s (st.evs++[newEv i (st.wd.tick.begin q)]) (st.wd.tick.begin q)
inductive Turn (calls:List CallD) (st:PlayD S):PlayD S->Prop where
 | idle:Turn calls st { st with idle:=st.idle+1 }
 | refuse (q i:Nat) (er:Int) (hq:q<16) (hN:nowN calls st.fin (q:Int)=some i) (hh:(st.hands.getD q (none,0)).1=none) (hs:startD S st.obj (st.wd.tick.begin q) q (calls.getD i d0)=.refuse er):Turn calls st (refuseTo st q i er)
 | step (q i k:Nat) (s:S.σ) (evs0:List EvD) (wd0:WD) (hq:q<16) (hN:nowN calls st.fin (q:Int)=some i) (hf:From calls st q i k s evs0 wd0):Turn calls st (stepTo st (S.step st.obj wd0 q s) q i k evs0)
theorem goStep_to {st0 st:PlayD S} {q i k:Nat} {s:S.σ} {evs0:List EvD} (ho:st0.obj=st.obj) (he:st0.evs=evs0) (hh:st0.hands.set q (none,k)=st.hands.set q (none,k)) (hh2:∀ x,st0.hands.set q (some x,k)=st.hands.set q (some x,k)) (hf:st0.fin=st.fin) (hi:st0.idle=st.idle) :
  (if (goStep S st0 q k s).2 then { (goStep S st0 q k s).1 with fin:=(goStep S st0 q k s).1.fin.set i true } else (goStep S st0 q k s).1)=stepTo st (S.step st.obj st0.wd q s) q i k evs0:=by
 unfold goStep stepTo ev1
 simp only
 rw [ho]
 cases hd:(S.step st.obj st0.wd q s).2.2.2 with
 | true=>simp only [if_true,hh,hf,hi,modEv];rw [he];rfl
 | false=>simp only [Bool.false_eq_true,if_false,hh2,hf,hi,modEv];rw [he];rfl
theorem pick_turn {calls:List CallD} (hthr:∀ c,c<calls.length->0<=(calls.getD c d0).thread/\(calls.getD c d0).thread<16) {st:PlayD S} (h:StGood calls st) (p:Int):Turn calls st (pickD S calls st p):=by
 cases hN:nowN calls st.fin p with
 | none=>
  have hp:pickD S calls st p={ st with idle:=st.idle+1 }:=by unfold pickD;rw [hN]
  rw [hp];exact .idle
 | some i=>
  obtain⟨n1,n2,n3⟩:=nowN_spec hN
  obtain⟨t1,t2⟩:=hthr i n1
  obtain⟨q,rfl⟩:∃ q:Nat,p=(q:Int):=⟨p.toNat,by omega⟩
  have hq:q<16:=by omega
  have hp:pickD S calls st (q:Int)=if (stepD S calls st q i).2 then { (stepD S calls st q i).1 with fin:=(stepD S calls st q i).1.fin.set i true } else (stepD S calls st q i).1:=by unfold pickD;rw [hN];rfl
  rw [hp]
  cases hs:(st.hands.getD q (none,0)).1 with
  | some s=>
   obtain⟨k,hk⟩:∃ k,k=(st.hands.getD q (none,0)).2:=⟨_,rfl⟩
   have hh:hndOf st.hands q=some k:=by unfold hndOf;rw [hs,hk];rfl
   obtain⟨k1,k2,k3,k4⟩:=h.ev.hand q k hh
   have hst:stepD S calls st q i=goStep S { st with wd:=st.wd.tick } q k s:=by unfold stepD;rw [hs];simp only;rw [<-hk]
   rw [hst]
   exact(congrArg (Turn calls st) (goStep_to (i:=i) (st0:={ st with wd:=st.wd.tick }) (st:=st) (q:=q) (k:=k) (s:=s) (evs0:=st.evs) rfl rfl rfl (λ_=>rfl) rfl rfl)).mpr
    (.step q i k s st.evs st.wd.tick hq hN (.old k s (Prod.ext hs hk.symm) k1 (by rw [hN] at k4;cases k4;rfl) k3))
  | none=>
   cases hst:startD S st.obj (st.wd.tick.begin q) q (calls.getD i d0) with
   | refuse e=>
    have hst2:stepD S calls st q i=({ st with wd:=st.wd.tick.begin q,hands:=st.hands.set q (none,st.evs.length),evs:=st.evs++[finishEv (st.wd.tick.begin q) q ⟨e,0,[]⟩ [] (newEv i (st.wd.tick.begin q))] },true):=by
     unfold stepD;rw [hs];simp only;rw [hst]
    rw [hst2]
    exact .refuse q i e hq hN hs hst
   | run s=>
    have hst2:stepD S calls st q i=goStep S { st with wd:=st.wd.tick.begin q,hands:=st.hands.set q (some s,st.evs.length),evs:=st.evs++[newEv i (st.wd.tick.begin q)] } q st.evs.length s:=by
     unfold stepD;rw [hs];simp only;rw [hst]
    rw [hst2]
    exact(congrArg (Turn calls st) (goStep_to (i:=i) (st0:={ st with wd:=st.wd.tick.begin q,hands:=st.hands.set q (some s,st.evs.length),evs:=st.evs++[newEv i (st.wd.tick.begin q)] }) (st:=st) (q:=q) (k:=st.evs.length) (s:=s) (evs0:=st.evs++[newEv i (st.wd.tick.begin q)]) rfl rfl (by simp [List.set_set]) (λ_=>by simp [List.set_set]) rfl rfl)).mpr
     (.step q i st.evs.length s _ _ hq hN (.new s hs hst))
theorem picks_ind {calls:List CallD} (hnow:∀ o wd p s,(S.step o wd p s).2.1.now=wd.now) (hthr:∀ c,c<calls.length->0<=(calls.getD c d0).thread/\(calls.getD c d0).thread<16) {J:PlayD S->Prop}
  (hJ:∀ st st',StGood calls st->StGood calls st'->J st->Turn calls st st'->J st'):∀(picks:List Int) {st:PlayD S},StGood calls st->J st->StGood calls (picksD S calls st picks)/\J (picksD S calls st picks)
 | [],_,hg,h=>⟨hg,h⟩
 | p::ps,_,hg,h=>picks_ind hnow hthr hJ ps (pick_good hnow hthr hg p) (hJ _ _ hg (pick_good hnow hthr hg p) h (pick_turn hthr hg p))
theorem From.len {calls:List CallD} {st:PlayD S} {q i k:Nat} {s:S.σ} {evs0:List EvD} {wd0:WD} (h:From calls st q i k s evs0 wd0):k<evs0.length:=by
 cases h with
 | old k s hh hk hc hr=>exact hk
 | new s hh hs=>simp
theorem From.call {calls:List CallD} {st:PlayD S} {q i k:Nat} {s:S.σ} {evs0:List EvD} {wd0:WD} (h:From calls st q i k s evs0 wd0):(evAt evs0 k).call=i:=by
 cases h with
 | old k s hh hk hc hr=>exact hc
 | new s hh hs=>rw [evAt_last];rfl
theorem From.open_ {calls:List CallD} {st:PlayD S} {q i k:Nat} {s:S.σ} {evs0:List EvD} {wd0:WD} (h:From calls st q i k s evs0 wd0):(evAt evs0 k).resp=0:=by
 cases h with
 | old k s hh hk hc hr=>exact hr
 | new s hh hs=>rw [evAt_last];rfl
theorem From.now {calls:List CallD} {st:PlayD S} {q i k:Nat} {s:S.σ} {evs0:List EvD} {wd0:WD} (h:From calls st q i k s evs0 wd0):wd0.now=st.wd.now+1:=by
 cases h<;>rfl
theorem From.mem {calls:List CallD} {st:PlayD S} {q i k:Nat} {s:S.σ} {evs0:List EvD} {wd0:WD} (h:From calls st q i k s evs0 wd0):wd0.mem=st.wd.mem:=by
 cases h<;>rfl
theorem From.traces {calls:List CallD} {st:PlayD S} {q i k:Nat} {s:S.σ} {evs0:List EvD} {wd0:WD} (h:From calls st q i k s evs0 wd0):wd0.traces=st.wd.traces:=by
 cases h<;>rfl
theorem From.obj {calls:List CallD} {st:PlayD S} {q i k:Nat} {s:S.σ} {evs0:List EvD} {wd0:WD} (h:From calls st q i k s evs0 wd0):st.evs.length<=evs0.length/\∀ j,j<st.evs.length->evAt evs0 j=evAt st.evs j:=by
 cases h with
 | old k s hh hk hc hr=>exact⟨Nat.le_refl _,λ_ _=>rfl⟩
 | new s hh hs=>exact⟨by simp,λj hj=>evAt_old hj⟩
theorem From.other {calls:List CallD} {st:PlayD S} {q i k:Nat} {s:S.σ} {evs0:List EvD} {wd0:WD} (h:From calls st q i k s evs0 wd0) (e:EvD) {j:Nat} (hj:j<(evs0.set k e).length) (hjk:j≠k):j<st.evs.length/\evAt (evs0.set k e) j=evAt st.evs j:=by
 rw [List.length_set] at hj
 rw [evAt_set _ h.len,if_neg hjk]
 cases h with
 | old k s hh hk hc hr=>exact⟨hj,rfl⟩
 | new s hh hs=>
  have:j<st.evs.length:=by simp at hj;omega
  exact⟨this,evAt_old this⟩
theorem From.self {calls:List CallD} {st:PlayD S} {q i k:Nat} {s:S.σ} {evs0:List EvD} {wd0:WD} (h:From calls st q i k s evs0 wd0) (e:EvD):evAt (evs0.set k e) k=e:=by rw [evAt_set _ h.len,if_pos rfl]
theorem From.size {calls:List CallD} {st:PlayD S} {q i k:Nat} {s:S.σ} {evs0:List EvD} {wd0:WD} (h:From calls st q i k s evs0 wd0) (e:EvD):st.evs.length<=(evs0.set k e).length:=by rw [List.length_set];exact h.obj.1
theorem hands_set {h16:Nat} {hands:List (Option S.σ×Nat)} {q:Nat} (hl:hands.length=h16) (hq:q<h16) (x:Option S.σ×Nat) (p:Nat):(hands.set q x).getD p (none,0)=if p=q then x else hands.getD p (none,0):=by
 by_cases h:p=q
 ·subst h;rw [if_pos rfl];exact getD_set_eq (by omega)
 ·rw [if_neg h];exact getD_set_neq (Ne.symm h)
end
section

/- Layer 6: the rows of a report (6.3), in plain numbers. -/
open Go.RowKit
def Within (k:List Int) (inv resp:Nat):Prop:=k≠[]/\2*(inv:Int)<=k.headD 0/\k.headD 0<=2*(resp:Int)
structure KeySys (S:Sys):Prop where
 now:∀ o wd p s,(S.step o wd p s).2.1.now=wd.now
 mlen:∀ o wd p s,(S.step o wd p s).2.1.marks.length=wd.marks.length
 mark:∀ o wd p s q,(S.step o wd p s).2.1.marks.getD q []=wd.marks.getD q []∨∃ rest,(S.step o wd p s).2.1.marks.getD q []=2*(wd.now:Int)::rest
 ans:∀ s,(S.answer s).2=[]
 late:∀ o wd p s,S.late o wd p s=none
structure KeyInv {S:Sys} (calls:List CallD) (st:PlayD S):Prop where
 good:StGood calls st
 m16:st.wd.marks.length=16
 keys:∀ i,i<st.evs.length->(evAt st.evs i).resp≠0->Within (evAt st.evs i).key (evAt st.evs i).inv (evAt st.evs i).resp
 none_:∀ i,i<st.evs.length->(evAt st.evs i).resp=0->(evAt st.evs i).key=[]
 marks:∀ p k,hndOf st.hands p=some k->st.wd.marks.getD p []=[]∨Within (st.wd.marks.getD p []) (evAt st.evs k).inv st.wd.now
variable {S:Sys}
theorem Within.more {k:List Int} {inv a b:Nat} (h:Within k inv a) (hab:a<=b):Within k inv b:=⟨h.1,h.2.1,by have:=h.2.2;omega⟩
end
section

/- Layer 6: a report's rows, in plain numbers: what roundelayplain.Rows asks for. -/
open Go.RowKit
variable {S:Sys}
theorem end_fold {calls:List CallD} {st:PlayD S} (h:StGood calls st) {i:Nat} (hi:i<st.evs.length):∀(l:List Nat) (evs:List EvD),l.Nodup->evs.length=st.evs.length->
  evAt (l.foldl (endEv S st) evs) i=(match st.hands.getD (tn calls (evAt st.evs i)) (none,0) with
   | (some s,k)=>if tn calls (evAt st.evs i)∈l/\k=i then { evAt evs i with key:=(S.late st.obj st.wd (tn calls (evAt st.evs i)) s).getD (st.wd.marks.getD (tn calls (evAt st.evs i)) []) } else evAt evs i
   | (none,_)=>evAt evs i)
 | [],evs,_,_=>by
  simp only [List.foldl_nil]
  split
  ·rw [if_neg (by simp)]
  ·rfl
 | p::l,evs,hnd,hlen=>by
  rw [List.foldl_cons]
  have hl:(endEv S st evs p).length=st.evs.length:=by
   unfold endEv;split
   ·exact hlen
   ·rw [modEv_length];exact hlen
  rw [end_fold h hi l (endEv S st evs p) (List.nodup_cons.1 hnd).2 hl]
  obtain⟨t,ht⟩:∃ t,t=tn calls (evAt st.evs i):=⟨_,rfl⟩
  rw [<-ht]
  by_cases hpt:p=t
  ·subst hpt
   have hpn:p ∉ l:=(List.nodup_cons.1 hnd).1
   cases hh:st.hands.getD p (none,0) with
   | mk m k=>
    cases m with
    | none=>
     simp only
     unfold endEv;rw [hh]
    | some s=>
     simp only
     rw [if_neg (λh=>hpn h.1)]
     have hkl:k<st.evs.length:=(h.ev.hand p k (by unfold hndOf;rw [hh];rfl)).1
     have:endEv S st evs p=modEv evs k λe=>{ e with key:=(S.late st.obj st.wd p s).getD (st.wd.marks.getD p []) }:=by unfold endEv;rw [hh]
     rw [this]
     unfold modEv
     rw [evAt_set _ (by omega)]
     by_cases hki:k=i
     ·subst hki
      rw [if_pos rfl,if_pos ⟨by simp,rfl⟩];rfl
     ·rw [if_neg (Ne.symm hki),if_neg (λh=>hki h.2)]
  ·have hsame:evAt (endEv S st evs p) i=evAt evs i:=by
    unfold endEv
    split
    ·rfl
    ·rename_i s k hk
     obtain⟨k1,k2,_⟩:=h.ev.hand p k (by unfold hndOf;rw [hk];rfl)
     unfold modEv
     rw [evAt_set _ (by omega),if_neg]
     rintro rfl
     exact hpt (k2.symm.trans ht.symm)
   rw [hsame]
   have hmem:(t∈p::l)↔t∈l:=by simp [Ne.symm hpt]
   split
   ·rename_i s2 k2 hk2
    by_cases hm2:t∈l/\k2=i
    ·rw [if_pos hm2,if_pos ⟨hmem.2 hm2.1,hm2.2⟩]
    ·rw [if_neg hm2,if_neg (λh=>hm2 ⟨hmem.1 h.1,h.2⟩)]
   ·rfl
theorem end_at {calls:List CallD} {st:PlayD S} (h:StGood calls st) (hthr:∀ c,c<calls.length->0<=(calls.getD c d0).thread/\(calls.getD c d0).thread<16) {i:Nat} (hi:i<st.evs.length) :
  ((evAt st.evs i).resp≠0->evAt (endD S st) i=evAt st.evs i)/\
  ((evAt st.evs i).resp=0->∃ s,st.hands.getD (tn calls (evAt st.evs i)) (none,0)=(some s,i)/\evAt (endD S st) i={ evAt st.evs i with key:=(S.late st.obj st.wd (tn calls (evAt st.evs i)) s).getD (st.wd.marks.getD (tn calls (evAt st.evs i)) []) }):=by
 have hf:=end_fold h hi (List.range 16) st.evs List.nodup_range rfl
 unfold endD
 rw [hf]
 refine⟨λhr=>?_,λhr=>?_⟩
 ·split
  ·rename_i s k hk
   rw [if_neg]
   rintro⟨_,rfl⟩
   exact hr (h.ev.hand _ k (by unfold hndOf;rw [hk];rfl)).2.2.1
  ·rfl
 ·have ho:=(h.ev.open_ i hi hr).2
  unfold hndOf at ho
  cases hh:st.hands.getD (tn calls (evAt st.evs i)) (none,0) with
  | mk m k=>
   rw [hh] at ho
   cases m with
   | none=>simp at ho
   | some s=>
    simp only [Option.isSome_some,if_true,Option.some.injEq] at ho
    subst ho
    refine⟨s,rfl,?_⟩
    have hm:tn calls (evAt st.evs k)∈List.range 16:=by
     have:=hthr _ (h.ev.call k hi)
     rw [List.mem_range];unfold tn;omega
    simp only
    rw [if_pos (by exact⟨hm,by trivial⟩)]
theorem end_length {calls:List CallD} {st:PlayD S} (h:StGood calls st):(endD S st).length=st.evs.length:=by
 have:∀(l:List Nat) (evs:List EvD),(l.foldl (endEv S st) evs).length=evs.length:=by
  intro l
  induction l with
  | nil=>intro evs;rfl
  | cons p l ih=>
   intro evs
   rw [List.foldl_cons,ih]
   unfold endEv;split
   ·rfl
   ·rw [modEv_length]
 exact this _ _
def lastN (evs:List EvD) (calls:List CallD) (n:Nat):Nat->List Int
 | 0=>List.replicate n 0
 | k+1=>(lastN evs calls n k).set (tn calls (evAt evs k)) (if (evAt evs k).resp=0 then -1 else ((evAt evs k).resp:Int))
def callN (evs:List EvD) (calls:List CallD) (n:Nat):Nat->List Int
 | 0=>List.replicate n 0
 | k+1=>(callN evs calls n k).set (tn calls (evAt evs k)) (((evAt evs k).call:Int)+1)
theorem lastN_length (evs:List EvD) (calls:List CallD) (n:Nat):∀ k,(lastN evs calls n k).length=n
 | 0=>by simp [lastN]
 | k+1=>by simp [lastN,lastN_length evs calls n k]
theorem callN_length (evs:List EvD) (calls:List CallD) (n:Nat):∀ k,(callN evs calls n k).length=n
 | 0=>by simp [callN]
 | k+1=>by simp [callN,callN_length evs calls n k]
theorem lastN_get (evs:List EvD) (calls:List CallD) (n:Nat) {p:Nat} (hp:p<n):∀ k,((lastN evs calls n k).getD p 0=0/\(callN evs calls n k).getD p 0=0)∨
  ∃ i,i<k/\tn calls (evAt evs i)=p/\(lastN evs calls n k).getD p 0=(if (evAt evs i).resp=0 then -1 else ((evAt evs i).resp:Int))/\(callN evs calls n k).getD p 0=((evAt evs i).call:Int)+1
 | 0=>.inl ⟨by simp [lastN,List.getD_eq_getElem?_getD,List.getElem?_replicate,hp],by simp [callN,List.getD_eq_getElem?_getD,List.getElem?_replicate,hp]⟩
 | k+1=>by
  by_cases h:tn calls (evAt evs k)=p
  ·refine .inr ⟨k,Nat.lt_succ_self k,h,?_,?_⟩
   ·show((lastN evs calls n k).set (tn calls (evAt evs k)) _).getD p 0=_
    rw [h];exact getD_set_eq (by rw [lastN_length];exact hp)
   ·show((callN evs calls n k).set (tn calls (evAt evs k)) _).getD p 0=_
    rw [h];exact getD_set_eq (by rw [callN_length];exact hp)
  ·have e1:(lastN evs calls n (k+1)).getD p 0=(lastN evs calls n k).getD p 0:=getD_set_neq h
   have e2:(callN evs calls n (k+1)).getD p 0=(callN evs calls n k).getD p 0:=getD_set_neq h
   rw [e1,e2]
   rcases lastN_get evs calls n hp k with h1|⟨i,h1,h2⟩
   ·exact .inl h1
   ·exact .inr ⟨i,by omega,h2⟩
structure RowGood (calls:List CallD) (n:Nat) (ticks:Nat) (e:EvD):Prop where
 call:e.call<calls.length
 thr:0<=(calls.getD e.call d0).thread/\(calls.getD e.call d0).thread<n
 inv1:1<=e.inv
 invt:e.inv<=ticks
 steps:1<=e.steps
 resp:e.resp≠0->e.inv<=e.resp/\e.resp<=ticks/\e.steps<=e.resp - e.inv+1/\Within e.key e.inv e.resp
 open_:e.resp=0->e.key=[]∨Within e.key e.inv ticks
structure RowsGood (calls:List CallD) (n:Nat) (r:RepD):Prop where
 n1:1<=n
 n16:n<=16
 ev:∀ i,i<r.evs.length->RowGood calls n r.ticks (evAt r.evs i)
 rise:∀ i j,i<j->j<r.evs.length->(evAt r.evs i).inv<(evAt r.evs j).inv
 same:∀ i j,i<j->j<r.evs.length->tn calls (evAt r.evs i)=tn calls (evAt r.evs j)->(evAt r.evs i).resp≠0/\(evAt r.evs i).resp<(evAt r.evs j).inv/\(evAt r.evs i).call<(evAt r.evs j).call
 sum:(r.evs.map (·.steps)).sum=r.ticks
 fault:r.c.fault=0
 all:r.c.read+r.c.write+r.c.swap+r.c.add<=r.ticks
 small:r.ticks<1000000
structure KeysFit (st:PlayD S):Prop where
 keys:∀ i,i<st.evs.length->(evAt st.evs i).resp≠0->Within (evAt st.evs i).key (evAt st.evs i).inv (evAt st.evs i).resp
 late:∀ p s k,st.hands.getD p (none,0)=(some s,k)->(S.late st.obj st.wd p s).getD (st.wd.marks.getD p [])=[]∨Within ((S.late st.obj st.wd p s).getD (st.wd.marks.getD p [])) (evAt st.evs k).inv st.wd.now
theorem sum_end {calls:List CallD} {st:PlayD S} (h:StGood calls st):((endD S st).map (·.steps)).sum=(st.evs.map (·.steps)).sum:=by
 have:∀(l:List Nat) (evs:List EvD),(∀ i,(evAt evs i).steps=(evAt evs i).steps)->((l.foldl (endEv S st) evs).map (·.steps))=evs.map (·.steps):=by
  intro l
  induction l with
  | nil=>intro evs _;rfl
  | cons p l ih=>
   intro evs _
   rw [List.foldl_cons,ih _ (λ_=>rfl)]
   unfold endEv;split
   ·rfl
   ·unfold modEv
    rename_i s k _
    rw [List.map_set]
    rcases Nat.lt_or_ge k evs.length with hk|hk
    ·apply List.ext_getElem?
     intro j
     rw [List.getElem?_set]
     split
     ·rename_i e;subst e
      simp [hk,List.getD_eq_getElem?_getD]
     ·rfl
    ·rw [List.set_eq_of_length_le (by simpa using hk)]
 unfold endD
 rw [this _ _ (λ_=>rfl)]
theorem rows_good {calls:List CallD} {n:Nat} {st:PlayD S} (h:StGood calls st) (hn1:1<=n) (hn16:n<=16) (hthr:∀ c,c<calls.length->0<=(calls.getD c d0).thread/\(calls.getD c d0).thread<n)
  (hk:KeysFit st) (hf:st.wd.mem.c.fault=0) (ha:st.wd.mem.c.all<=st.wd.now) (hs:st.wd.now<1000000):RowsGood calls n (reportD S st):=by
 have hthr':∀ c,c<calls.length->0<=(calls.getD c d0).thread/\(calls.getD c d0).thread<16:=λc hc=>by have:=hthr c hc;omega
 have hlen:=end_length (calls:=calls) h
 have hat:=λi hi=>end_at h hthr' (i:=i) hi
 have hpre:∀ i,i<st.evs.length->(evAt (endD S st) i).call=(evAt st.evs i).call/\(evAt (endD S st) i).inv=(evAt st.evs i).inv/\(evAt (endD S st) i).resp=(evAt st.evs i).resp/\(evAt (endD S st) i).steps=(evAt st.evs i).steps:=by
  intro i hi
  by_cases hr:(evAt st.evs i).resp=0
  ·obtain⟨s,_,e⟩:=(hat i hi).2 hr
   rw [e];exact⟨rfl,rfl,rfl,rfl⟩
  ·rw [(hat i hi).1 hr];exact⟨rfl,rfl,rfl,rfl⟩
 have htn:∀ i,i<st.evs.length->tn calls (evAt (endD S st) i)=tn calls (evAt st.evs i):=λi hi=>by unfold tn;rw [(hpre i hi).1]
 refine⟨hn1,hn16,λi hi=>?_,λi j hij hj=>?_,λi j hij hj ht=>?_,?_,hf,?_,hs⟩
 ·have hi':i<st.evs.length:=by rw [<-hlen];exact hi
  obtain⟨p1,p2,p3,p4⟩:=hpre i hi'
  have ht:=h.ev.tick i hi'
  show RowGood calls n st.wd.now (evAt (endD S st) i)
  refine⟨by rw [p1];exact h.ev.call i hi',by rw [p1];exact hthr _ (h.ev.call i hi'),by rw [p2];exact ht.1,by rw [p2];exact ht.2.1,by rw [p4];exact ht.2.2.1,λhr=>?_,λhr=>?_⟩
  ·rw [p3] at hr
   have hre:=h.ev.resp i hi' hr
   rw [(hat i hi').1 hr]
   exact⟨hre.1,ht.2.2.2,hre.2.1,hk.keys i hi' hr⟩
  ·rw [p3] at hr
   obtain⟨s,hh,e⟩:=(hat i hi').2 hr
   rw [e]
   exact hk.late _ s i hh
 ·have hj':j<st.evs.length:=by rw [<-hlen];exact hj
  show(evAt (endD S st) i).inv<(evAt (endD S st) j).inv
  rw [(hpre i (by omega)).2.1,(hpre j hj').2.1];exact h.ev.rise i j hij hj'
 ·have hj':j<st.evs.length:=by rw [<-hlen];exact hj
  have ht':tn calls (evAt (endD S st) i)=tn calls (evAt (endD S st) j):=ht
  rw [htn i (by omega),htn j hj'] at ht'
  have:=h.ev.same i j hij hj' ht'
  show(evAt (endD S st) i).resp≠0/\(evAt (endD S st) i).resp<(evAt (endD S st) j).inv/\(evAt (endD S st) i).call<(evAt (endD S st) j).call
  rw [(hpre i (by omega)).2.2.1,(hpre i (by omega)).1,(hpre j hj').2.1,(hpre j hj').1]
  exact this
 ·show((endD S st).map (·.steps)).sum=st.wd.now
  rw [sum_end h];exact h.ev.sum
 ·show st.wd.mem.c.read+st.wd.mem.c.write+st.wd.mem.c.swap+st.wd.mem.c.add<=st.wd.now
  unfold CountsD.all at ha;omega
end
end Go.Proofs.Ytlepjmnhekeofaa
