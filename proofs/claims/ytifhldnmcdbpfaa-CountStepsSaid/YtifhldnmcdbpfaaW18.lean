/- Layer 7: agreement, in plain numbers. -/
import Derived.Test.YtifhldnmcdbpfaaW17
import Derived.Test.YtifhldnmcdbpfaaW16
import Derived.Test.YtifhldnmcdbpfaaW13
import Derived.Laws.CopyOwn
set_option maxRecDepth 100000
set_option linter.unusedVariables false
set_option linter.unusedSimpArgs false
set_option linter.unnecessarySimpa false
namespace Go.Proofs.Ytifhldnmcdbpfaa
section
open Go.RowKit
def nJ (calls:List aF) (evs:List EvD) (x:Nat):Prop:=∃ i,i<evs.length/\(calls.getD (aD evs i).call d0).obj=0/\(calls.getD (aD evs i).call d0).kind=0/\(calls.getD (aD evs i).call d0).a+1=x
def NJ (x:Nat) (e:EvD):Prop:=e.steps<=2/\(e.resp≠0->e.ans.err=0->e.ans.val+1=x)
structure UJ (calls:List aF) (st:aQ QJ) (x:Nat):Prop where
 good:eB calls st
 ws:st.wd.mem.ws=[x]
 prop:x≠0->nJ calls st.evs x
 evs:∀ i,i<st.evs.length->NJ x (aD st.evs i)
 hand:∀ p s k,st.hands.getD p (none,0)=(some s,k)->∃ v,s=.prop v true/\(aD st.evs k).steps=1/\x≠0
theorem nJ.keep {calls:List aF} {evs evs':List EvD} {x:Nat} (h:nJ calls evs x) (hl:evs.length<=evs'.length) (hc:∀ i,i<evs.length->(aD evs' i).call=(aD evs i).call):nJ calls evs' x:=by
 obtain⟨i,h1,h2⟩:=h
 exact⟨i,by omega,by rw [hc i h1];exact h2⟩
theorem sW {l:List EvD} {e:EvD} {i:Nat} (h:i<l.length):aD (l++[e]) i=aD l i:=gU h
theorem jT {l:List EvD} {e:EvD}:aD (l++[e]) l.length=e:=dW
theorem xN {S:Sys} (st:aQ S) (hl:∀ o wd p s,S.late o wd p s=none):∀(l:List Nat) (evs:List EvD),(l.foldl (gD S st) evs).length=evs.length/\∀ i,(aD (l.foldl (gD S st) evs) i).call=(aD evs i).call/\(aD (l.foldl (gD S st) evs) i).inv=(aD evs i).inv/\(aD (l.foldl (gD S st) evs) i).resp=(aD evs i).resp/\(aD (l.foldl (gD S st) evs) i).steps=(aD evs i).steps/\(aD (l.foldl (gD S st) evs) i).ans=(aD evs i).ans
 | [],_=>⟨rfl,λ_=>⟨rfl,rfl,rfl,rfl,rfl⟩⟩
 | p::l,evs=>by
  rw [List.foldl_cons]
  obtain⟨h1,h2⟩:=xN st hl l (gD S st evs p)
  have h3:(gD S st evs p).length=evs.length/\∀ i,(aD (gD S st evs p) i).call=(aD evs i).call/\(aD (gD S st evs p) i).inv=(aD evs i).inv/\(aD (gD S st evs p) i).resp=(aD evs i).resp/\(aD (gD S st evs p) i).steps=(aD evs i).steps/\(aD (gD S st evs p) i).ans=(aD evs i).ans:=by
   unfold gD
   split
   ·exact⟨rfl,λ_=>⟨rfl,rfl,rfl,rfl,rfl⟩⟩
   ·rename_i s k _
    refine⟨by simp [cO],λi=>?_⟩
    rcases Nat.lt_or_ge k evs.length with hk|hk
    ·unfold cO
     rw [jQ _ hk]
     split
     ·rename_i e;subst e;exact⟨rfl,rfl,rfl,rfl,rfl⟩
     ·exact⟨rfl,rfl,rfl,rfl,rfl⟩
    ·have:cO evs k (λe=>{ e with key:=(S.late st.obj st.wd p s).getD (st.wd.marks.getD p []) })=evs:=by
      unfold cO;exact List.set_eq_of_length_le hk
     rw [this];exact⟨rfl,rfl,rfl,rfl,rfl⟩
  refine⟨h1.trans h3.1,λi=>?_⟩
  have a:=h2 i;have b:=h3.2 i
  exact⟨a.1.trans b.1,a.2.1.trans b.2.1,a.2.2.1.trans b.2.2.1,a.2.2.2.1.trans b.2.2.2.1,a.2.2.2.2.trans b.2.2.2.2⟩
theorem iD.len_le {calls:List aF} {now:Nat} {fin:List Bool} {hnd:Nat->Option Nat} {evs:List EvD} (h:iD calls now fin hnd evs):evs.length<=now:=by
 have hi:∀ i,i<evs.length->i+1<=(aD evs i).inv:=by
  intro i
  induction i with
  | zero=>intro hi;have:=(h.tick 0 hi).1;omega
  | succ i ih=>intro hi;have h1:=ih (by omega);have h2:=h.rise i (i+1) (by omega) hi;omega
 rcases Nat.eq_zero_or_pos evs.length with h0|h0
 ·omega
 ·have h1:=hi (evs.length - 1) (by omega)
  have h2:=(h.tick (evs.length - 1) (by omega)).2.1
  omega
end
section
open Go.RowKit
variable {S:Sys}
def UQ (S:Sys) (r:S.ω×WD×S.σ×Bool) (q:Nat) (e:EvD):EvD:=if r.2.2.2 then bK r.2.1 q (S.answer r.2.2.1).1 (S.answer r.2.2.1).2 e else aZ e
def mM (st:aQ S) (r:S.ω×WD×S.σ×Bool) (q i k:Nat) (bJ:List EvD):aQ S:=
 { wd:=r.2.1,obj:=r.1,fin:=if r.2.2.2 then st.fin.set i true else st.fin,hands:=st.hands.set q (if r.2.2.2 then none else some r.2.2.1,k),evs:=bJ.set k (UQ S r q (aD bJ k)),idle:=st.idle }
def nD (st:aQ S) (q i:Nat) (er:Int):aQ S:=
 { wd:=st.wd.tick.begin q,obj:=st.obj,fin:=st.fin.set i true,hands:=st.hands.set q (none,st.evs.length),evs:=st.evs++[bK (st.wd.tick.begin q) q ⟨er,0,[]⟩ [] (dC i (st.wd.tick.begin q))],idle:=st.idle }
inductive From (calls:List aF) (st:aQ S) (q i:Nat):Nat->S.σ->List EvD->WD->Prop where
 | old (k:Nat) (s:S.σ) (hh:st.hands.getD q (none,0)=(some s,k)) (hk:k<st.evs.length) (hc:(aD st.evs k).call=i) (hr:(aD st.evs k).resp=0):From calls st q i k s st.evs st.wd.tick
 | new (s:S.σ) (hh:(st.hands.getD q (none,0)).1=none) (hs:dI S st.obj (st.wd.tick.begin q) q (calls.getD i d0)=.run s):From calls st q i st.evs.length s (st.evs++[dC i (st.wd.tick.begin q)]) (st.wd.tick.begin q)
inductive wN (calls:List aF) (st:aQ S):aQ S->Prop where
 | idle:wN calls st { st with idle:=st.idle+1 }
 | refuse (q i:Nat) (er:Int) (hq:q<16) (hN:iF calls st.fin (q:Int)=some i) (hh:(st.hands.getD q (none,0)).1=none) (hs:dI S st.obj (st.wd.tick.begin q) q (calls.getD i d0)=.refuse er):wN calls st (nD st q i er)
 | step (q i k:Nat) (s:S.σ) (bJ:List EvD) (dK:WD) (hq:q<16) (hN:iF calls st.fin (q:Int)=some i) (hf:From calls st q i k s bJ dK):wN calls st (mM st (S.step st.obj dK q s) q i k bJ)
theorem uQ {st0 st:aQ S} {q i k:Nat} {s:S.σ} {bJ:List EvD} (ho:st0.obj=st.obj) (he:st0.evs=bJ) (hh:st0.hands.set q (none,k)=st.hands.set q (none,k)) (VD:∀ x,st0.hands.set q (some x,k)=st.hands.set q (some x,k)) (hf:st0.fin=st.fin) (hi:st0.idle=st.idle) :
  (if (eY S st0 q k s).2 then { (eY S st0 q k s).1 with fin:=(eY S st0 q k s).1.fin.set i true } else (eY S st0 q k s).1)=mM st (S.step st.obj st0.wd q s) q i k bJ:=by
 unfold eY mM UQ
 simp only
 rw [ho]
 cases hd:(S.step st.obj st0.wd q s).2.2.2 with
 | true=>simp only [if_true,hh,hf,hi,cO];rw [he];rfl
 | false=>simp only [Bool.false_eq_true,if_false,VD,hf,hi,cO];rw [he];rfl
theorem EX {calls:List aF} (hthr:∀ c,c<calls.length->0<=(calls.getD c d0).thread/\(calls.getD c d0).thread<16) {st:aQ S} (h:eB calls st) (p:Int):wN calls st (gV S calls st p):=by
 cases hN:iF calls st.fin p with
 | none=>
  have hp:gV S calls st p={ st with idle:=st.idle+1 }:=by unfold gV;rw [hN]
  rw [hp];exact .idle
 | some i=>
  obtain⟨n1,n2,n3⟩:=dO hN
  obtain⟨t1,t2⟩:=hthr i n1
  obtain⟨q,rfl⟩:∃ q:Nat,p=(q:Int):=⟨p.toNat,by omega⟩
  have hq:q<16:=by omega
  have hp:gV S calls st (q:Int)=if (dF S calls st q i).2 then { (dF S calls st q i).1 with fin:=(dF S calls st q i).1.fin.set i true } else (dF S calls st q i).1:=by unfold gV;rw [hN];rfl
  rw [hp]
  cases hs:(st.hands.getD q (none,0)).1 with
  | some s=>
   obtain⟨k,hk⟩:∃ k,k=(st.hands.getD q (none,0)).2:=⟨_,rfl⟩
   have hh:eT st.hands q=some k:=by unfold eT;rw [hs,hk];rfl
   obtain⟨k1,k2,k3,k4⟩:=h.ev.hand q k hh
   have hst:dF S calls st q i=eY S { st with wd:=st.wd.tick } q k s:=by unfold dF;rw [hs];simp only;rw [<-hk]
   rw [hst]
   exact(congrArg (wN calls st) (uQ (i:=i) (st0:={ st with wd:=st.wd.tick }) (st:=st) (q:=q) (k:=k) (s:=s) (bJ:=st.evs) rfl rfl rfl (λ_=>rfl) rfl rfl)).mpr
    (.step q i k s st.evs st.wd.tick hq hN (.old k s (Prod.ext hs hk.symm) k1 (by rw [hN] at k4;cases k4;rfl) k3))
  | none=>
   cases hst:dI S st.obj (st.wd.tick.begin q) q (calls.getD i d0) with
   | refuse e=>
    have NV:dF S calls st q i=({ st with wd:=st.wd.tick.begin q,hands:=st.hands.set q (none,st.evs.length),evs:=st.evs++[bK (st.wd.tick.begin q) q ⟨e,0,[]⟩ [] (dC i (st.wd.tick.begin q))] },true):=by
     unfold dF;rw [hs];simp only;rw [hst]
    rw [NV]
    exact .refuse q i e hq hN hs hst
   | run s=>
    have NV:dF S calls st q i=eY S { st with wd:=st.wd.tick.begin q,hands:=st.hands.set q (some s,st.evs.length),evs:=st.evs++[dC i (st.wd.tick.begin q)] } q st.evs.length s:=by
     unfold dF;rw [hs];simp only;rw [hst]
    rw [NV]
    exact(congrArg (wN calls st) (uQ (i:=i) (st0:={ st with wd:=st.wd.tick.begin q,hands:=st.hands.set q (some s,st.evs.length),evs:=st.evs++[dC i (st.wd.tick.begin q)] }) (st:=st) (q:=q) (k:=st.evs.length) (s:=s) (bJ:=st.evs++[dC i (st.wd.tick.begin q)]) rfl rfl (by simp [List.set_set]) (λ_=>by simp [List.set_set]) rfl rfl)).mpr
     (.step q i st.evs.length s _ _ hq hN (.new s hs hst))
theorem uR {calls:List aF} (hnow:∀ o wd p s,(S.step o wd p s).2.1.now=wd.now) (hthr:∀ c,c<calls.length->0<=(calls.getD c d0).thread/\(calls.getD c d0).thread<16) {J:aQ S->Prop}
  (hJ:∀ st st',eB calls st->eB calls st'->J st->wN calls st st'->J st'):∀(picks:List Int) {st:aQ S},eB calls st->J st->eB calls (eH S calls st picks)/\J (eH S calls st picks)
 | [],_,hg,h=>⟨hg,h⟩
 | p::ps,_,hg,h=>uR hnow hthr hJ ps (vG hnow hthr hg p) (hJ _ _ hg (vG hnow hthr hg p) h (EX hthr hg p))
theorem From.len {calls:List aF} {st:aQ S} {q i k:Nat} {s:S.σ} {bJ:List EvD} {dK:WD} (h:From calls st q i k s bJ dK):k<bJ.length:=by
 cases h with
 | old k s hh hk hc hr=>exact hk
 | new s hh hs=>simp
theorem From.call {calls:List aF} {st:aQ S} {q i k:Nat} {s:S.σ} {bJ:List EvD} {dK:WD} (h:From calls st q i k s bJ dK):(aD bJ k).call=i:=by
 cases h with
 | old k s hh hk hc hr=>exact hc
 | new s hh hs=>rw [jT];rfl
theorem From.open_ {calls:List aF} {st:aQ S} {q i k:Nat} {s:S.σ} {bJ:List EvD} {dK:WD} (h:From calls st q i k s bJ dK):(aD bJ k).resp=0:=by
 cases h with
 | old k s hh hk hc hr=>exact hr
 | new s hh hs=>rw [jT];rfl
theorem From.now {calls:List aF} {st:aQ S} {q i k:Nat} {s:S.σ} {bJ:List EvD} {dK:WD} (h:From calls st q i k s bJ dK):dK.now=st.wd.now+1:=by
 cases h<;>rfl
theorem From.mem {calls:List aF} {st:aQ S} {q i k:Nat} {s:S.σ} {bJ:List EvD} {dK:WD} (h:From calls st q i k s bJ dK):dK.mem=st.wd.mem:=by
 cases h<;>rfl
theorem From.traces {calls:List aF} {st:aQ S} {q i k:Nat} {s:S.σ} {bJ:List EvD} {dK:WD} (h:From calls st q i k s bJ dK):dK.traces=st.wd.traces:=by
 cases h<;>rfl
theorem From.obj {calls:List aF} {st:aQ S} {q i k:Nat} {s:S.σ} {bJ:List EvD} {dK:WD} (h:From calls st q i k s bJ dK):st.evs.length<=bJ.length/\∀ j,j<st.evs.length->aD bJ j=aD st.evs j:=by
 cases h with
 | old k s hh hk hc hr=>exact⟨Nat.le_refl _,λ_ _=>rfl⟩
 | new s hh hs=>exact⟨by simp,λj hj=>sW hj⟩
theorem From.other {calls:List aF} {st:aQ S} {q i k:Nat} {s:S.σ} {bJ:List EvD} {dK:WD} (h:From calls st q i k s bJ dK) (e:EvD) {j:Nat} (hj:j<(bJ.set k e).length) (hjk:j≠k):j<st.evs.length/\aD (bJ.set k e) j=aD st.evs j:=by
 rw [List.length_set] at hj
 rw [jQ _ h.len,if_neg hjk]
 cases h with
 | old k s hh hk hc hr=>exact⟨hj,rfl⟩
 | new s hh hs=>
  have:j<st.evs.length:=by simp at hj;omega
  exact⟨this,sW this⟩
theorem From.self {calls:List aF} {st:aQ S} {q i k:Nat} {s:S.σ} {bJ:List EvD} {dK:WD} (h:From calls st q i k s bJ dK) (e:EvD):aD (bJ.set k e) k=e:=by rw [jQ _ h.len,if_pos rfl]
theorem From.size {calls:List aF} {st:aQ S} {q i k:Nat} {s:S.σ} {bJ:List EvD} {dK:WD} (h:From calls st q i k s bJ dK) (e:EvD):st.evs.length<=(bJ.set k e).length:=by rw [List.length_set];exact h.obj.1
theorem jV {h16:Nat} {hands:List (Option S.σ×Nat)} {q:Nat} (hl:hands.length=h16) (hq:q<h16) (x:Option S.σ×Nat) (p:Nat):(hands.set q x).getD p (none,0)=if p=q then x else hands.getD p (none,0):=by
 by_cases h:p=q
 ·subst h;rw [if_pos rfl];exact aL (by omega)
 ·rw [if_neg h];exact aR (Ne.symm h)
end
section
open Go.RowKit
def Within (k:List Int) (inv resp:Nat):Prop:=k≠[]/\2*(inv:Int)<=k.headD 0/\k.headD 0<=2*(resp:Int)
structure RZ (S:Sys):Prop where
 now:∀ o wd p s,(S.step o wd p s).2.1.now=wd.now
 mlen:∀ o wd p s,(S.step o wd p s).2.1.marks.length=wd.marks.length
 mark:∀ o wd p s q,(S.step o wd p s).2.1.marks.getD q []=wd.marks.getD q []∨∃ rest,(S.step o wd p s).2.1.marks.getD q []=2*(wd.now:Int)::rest
 ans:∀ s,(S.answer s).2=[]
 late:∀ o wd p s,S.late o wd p s=none
structure TA {S:Sys} (calls:List aF) (st:aQ S):Prop where
 good:eB calls st
 m16:st.wd.marks.length=16
 keys:∀ i,i<st.evs.length->(aD st.evs i).resp≠0->Within (aD st.evs i).key (aD st.evs i).inv (aD st.evs i).resp
 none_:∀ i,i<st.evs.length->(aD st.evs i).resp=0->(aD st.evs i).key=[]
 marks:∀ p k,eT st.hands p=some k->st.wd.marks.getD p []=[]∨Within (st.wd.marks.getD p []) (aD st.evs k).inv st.wd.now
variable {S:Sys}
theorem Within.more {k:List Int} {inv a b:Nat} (h:Within k inv a) (hab:a<=b):Within k inv b:=⟨h.1,h.2.1,by have:=h.2.2;omega⟩
end
section
open Go.RowKit
variable {S:Sys}
theorem AZ {calls:List aF} {st:aQ S} (h:eB calls st):(oP S st).length=st.evs.length:=by
 have:∀(l:List Nat) (evs:List EvD),(l.foldl (gD S st) evs).length=evs.length:=by
  intro l
  induction l with
  | nil=>intro evs;rfl
  | cons p l ih=>
   intro evs
   rw [List.foldl_cons,ih]
   unfold gD;split
   ·rfl
   ·rw [vV]
 exact this _ _
structure KM (calls:List aF) (n:Nat) (ticks:Nat) (e:EvD):Prop where
 call:e.call<calls.length
 thr:0<=(calls.getD e.call d0).thread/\(calls.getD e.call d0).thread<n
 VZ:1<=e.inv
 invt:e.inv<=ticks
 steps:1<=e.steps
 resp:e.resp≠0->e.inv<=e.resp/\e.resp<=ticks/\e.steps<=e.resp - e.inv+1/\Within e.key e.inv e.resp
 open_:e.resp=0->e.key=[]∨Within e.key e.inv ticks
structure PN (calls:List aF) (n:Nat) (r:jC):Prop where
 n1:1<=n
 n16:n<=16
 ev:∀ i,i<r.evs.length->KM calls n r.ticks (aD r.evs i)
 rise:∀ i j,i<j->j<r.evs.length->(aD r.evs i).inv<(aD r.evs j).inv
 same:∀ i j,i<j->j<r.evs.length->tn calls (aD r.evs i)=tn calls (aD r.evs j)->(aD r.evs i).resp≠0/\(aD r.evs i).resp<(aD r.evs j).inv/\(aD r.evs i).call<(aD r.evs j).call
 sum:(r.evs.map (·.steps)).sum=r.ticks
 fault:r.c.fault=0
 all:r.c.read+r.c.write+r.c.swap+r.c.add<=r.ticks
 small:r.ticks<1000000
structure RQ (st:aQ S):Prop where
 keys:∀ i,i<st.evs.length->(aD st.evs i).resp≠0->Within (aD st.evs i).key (aD st.evs i).inv (aD st.evs i).resp
 late:∀ p s k,st.hands.getD p (none,0)=(some s,k)->(S.late st.obj st.wd p s).getD (st.wd.marks.getD p [])=[]∨Within ((S.late st.obj st.wd p s).getD (st.wd.marks.getD p [])) (aD st.evs k).inv st.wd.now
end
section
open Go.RowKit
end
section
open Go.RowKit
abbrev NU:Sys:=MC JC IK
end
section
open Go.RowKit
def PK (n k:Nat):aF:=⟨((k % n:Nat):Int),0,2,0,0,0⟩
def tk (n m:Nat):List aF:=(List.range m).map (PK n)
structure UK (st:aQ NU) (k:Nat):Prop where
 h16:st.hands.length=16
 none_:∀ p,(st.hands.getD p (none,0)).1=none
 now:st.wd.now=st.evs.length
 ws:st.wd.mem.ws=[st.evs.length]
 evs:∀ i,i<st.evs.length->(st.evs.getD i jY).ans.val=i/\(st.evs.getD i jY).resp=i+1
 len:st.evs.length<=k
end
section
open Go.RowKit
theorem iC.event {X:Nat->Prop} {B:Nat} {w:World} {ea:Option Addr} {en ec:Nat} {wv:Value} {ers:List (Value×Value)} {r:jC} (h:iC X B w (.slice ea en ec) wv ers r) (hn:en=r.evs.length) (h0:0<en) :
  ∃ g,ea=some ⟨g,0,none⟩/\g<w.heap.size/\∀ i f,i<en->f<8->w.cell? ⟨g,i*8+f,none⟩=(dM (r.evs.getD i jY) (ers.getD i tQ))[f]?:=by
 obtain⟨g,c,h1,h2,h3⟩:=h.row.form (by omega)
 simp only [Value.slice.injEq] at h1
 obtain⟨rfl,h4,h5⟩:=h1
 refine⟨g,rfl,h3,λi f hi hf=>?_⟩
 have hr:=h.row
 rw [<-hn] at hr
 rw [hr.cellAt _ (by omega),oQ _ _ _ _ h.elen.symm (by omega) hf]
theorem iC.word {X:Nat->Prop} {B:Nat} {w:World} {ev:Value} {va:Option Addr} {vn vc:Nat} {ers:List (Value×Value)} {r:jC} (h:iC X B w ev (.slice va vn vc) ers r) (hn:vn=r.words.length) (h0:0<vn) :
  ∃ q,va=some ⟨q,0,none⟩/\q<w.heap.size/\∀ j,j<vn->w.cell? ⟨q,j,none⟩=some (.int .u64 ((r.words.getD j 0:Nat):Int)):=by
 obtain⟨g,c,h1,h2,h3⟩:=h.words.form (by omega)
 simp only [Value.slice.injEq] at h1
 obtain⟨rfl,h4,h5⟩:=h1
 refine⟨g,rfl,h3,λj hj=>?_⟩
 have hr:=h.words
 rw [<-hn] at hr
 rw [hr.cellAt _ (by omega)]
 simp [kS,List.getD_eq_getElem?_getD,show j<r.words.length by omega]
def tO (c:aF):List Value:=[.int .i64 c.thread,.int .i64 c.obj,.int .i64 c.kind,.int .u64 (c.a:Int),.int .u64 (c.b:Int),.int .u64 (c.c:Int)]
theorem uX:∀(l:List aF) (j f:Nat),j<l.length->f<6->(l.flatMap tO)[j*6+f]?=some (gJ l j f)
 | [],j,_,h,_=>by simp at h
 | c::l,0,f,_,hf=>by
  simp only [List.flatMap_cons,Nat.zero_mul,Nat.zero_add]
  rw [List.getElem?_append_left (by simpa [tO] using hf)]
  match f,hf with
  | 0,_=>rfl
  | 1,_=>rfl
  | 2,_=>rfl
  | 3,_=>rfl
  | 4,_=>rfl
  | 5,_=>rfl
 | c::l,j+1,f,h,hf=>by
  simp only [List.flatMap_cons]
  rw [List.getElem?_append_right (by simp [tO];omega),show(j+1)*6+f - (tO c).length=j*6+f by simp [tO];omega,uX l j f (by simpa using h) hf]
  simp [gJ]
theorem yR {w:World} {b:Nat} {l:List aF} {fz:Nat×Nat} (h:w.heap[b]?=some (.cells (l.flatMap tO).toArray 46 fz)) (hl:l.length<=1000000):bS w (some ⟨b,0,none⟩) l.length 6 (gJ l):=by
 refine⟨by unfold maxLen;omega,λj hj=>⟨b,0,rfl,aC h,λf hf=>?_⟩⟩
 rw [Nat.zero_add,aA h]
 simpa using uX l j f hj hf
theorem zM {w:World} {b:Nat} {l:List Int} {fz:Nat×Nat} (h:w.heap[b]?=some (.cells (l.map (Value.int .i64)).toArray 3 fz)) (hl:l.length<=1000000):bS w (some ⟨b,0,none⟩) l.length 1 (gQ l):=by
 refine⟨by unfold maxLen;omega,λj hj=>⟨b,0,rfl,aC h,λf hf=>?_⟩⟩
 obtain rfl:f=0:=by omega
 rw [aA h]
 simp [gQ,List.getD_eq_getElem?_getD,hj]
theorem vP {t k:Int} (h1:0<=t) (h2:t<16) (h3:0<=k) (h4:k<16) {a b c:Nat} (ha:a<100) (hb:b<100) (hc:c<100):mY ⟨t,0,k,a,b,c⟩:=
 ⟨by simp [Lit.wf,IntKind.min,IntKind.max,IntKind.signed,IntKind.bits];omega,by rfl,by simp [Lit.wf,IntKind.min,IntKind.max,IntKind.signed,IntKind.bits];omega,by simp only;omega,by simp only;omega,by simp only;omega⟩
end
section
open Go.RowKit
end
section
open Go.RowKit
inductive TaS where
 | count (seen:Bool) (v:Nat)
 | read (at_ sum:Nat) (key:List Int)
def OT (ticks:List Int) (inv s:Nat):Int:=if 0<s/\s<=ticks.length then max (inv:Int) (ticks.getD (s - 1) 0) else (inv:Int)
def dJ (wd:WD) (a:Nat):WD:={ wd with mem:=(cZ wd.mem (a:Int)).1 }
def KO (wd:WD) (p v:Nat):WD:={ wd with mem:=bR wd.mem (p:Int) (v+1),traces:=tV wd.traces 0 (wd.traces 0++[(wd.now:Int)]) }
def gF (wd:WD) (a:Nat):Nat:=(cZ wd.mem (a:Int)).2
def PO (wd:WD) (p s:Nat):List Int:=[2*OT (wd.traces 0) (wd.inv.getD p 0) s,2*(wd.now:Int)]
def GR (n:Nat):Sys where
 σ:=TaS
 ω:=Unit
 start:=λ_ _ _ c=>if c.kind=0 then .run (.count false 0) else if c.kind=1 then .run (.read 0 0 []) else .refuse 9
 step:=λ_ wd p s=>match s with
  | .count false _=>((),dJ wd p,.count true (gF wd p),false)
  | .count true v=>((),KO wd p v,.count true v,true)
  | .read a s k=>if a+1<n then ((),dJ wd a,.read (a+1) (s+gF wd a) k,false) else ((),dJ wd a,.read (a+1) (s+gF wd a) (PO wd p (s+gF wd a)),true)
 answer:=λs=>match s with
  | .count _ _=>(⟨0,0,[]⟩,[])
  | .read _ s k=>(⟨0,s,[]⟩,k)
 late:=λ_ _ _ _=>none
def JA (w w':World) (Mut B:Nat->Prop) (I:dG) (N:Nat) (wd:WD) (b:Nat) (cells:Array Value) (T:TypeId) (done:Bool) (e:Ending):Prop:=
 e=.returned (.bool done)/\Chg (λk=>aW I k∨B k) w w'/\aM w' (aT Mut B (λk=>k=b)) I N wd/\w'.heap[b]?=some (.cells cells T (0,0))
theorem JA.drewN {w w':World} {Mut B:Nat->Prop} {I:dG} {N:Nat} {wd:WD} {b:Nat} {cells:Array Value} {T:TypeId} {done:Bool} {e:Ending} (h:JA w w' Mut B I N wd b cells T done e) (n:Nat):JA w (w'.drewN n) Mut B I N wd b cells T done e:=
 ⟨h.1,h.2.1.drewN n,h.2.2.1.keep (S:=noB) ((Chg.refl _ _).drewN n) (λ_ h=>h.elim) (λ_ h=>h.elim) (aV.refl _ _) (λk hk=>h.2.2.1.low k hk) h.2.2.1.muts,h.2.2.2⟩
end
end Go.Proofs.Ytifhldnmcdbpfaa
