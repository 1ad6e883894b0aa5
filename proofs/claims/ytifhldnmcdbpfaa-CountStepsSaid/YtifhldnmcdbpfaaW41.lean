/- Layer 11: what every play of a counter keeps, in plain numbers: what is kept. -/
import Derived.Test.YtifhldnmcdbpfaaW40
import Derived.Test.YtifhldnmcdbpfaaW20
set_option maxRecDepth 100000
set_option linter.unusedVariables false
set_option linter.unusedSimpArgs false
set_option linter.unnecessarySimpa false
namespace Go.Proofs.Ytifhldnmcdbpfaa
open Go.RowKit
def cK (calls:List aF) (e:EvD):Bool:=decide (e.ans.err=0) && isK calls 0 e
def cP (calls:List aF) (t:Nat) (e:EvD):Bool:=cK calls e && decide (tn calls e=t)
theorem KN {calls:List aF} (e:EvD) (h:e.resp=0):cK calls e=false:=by unfold cK;rw [xX h,Bool.and_false]
theorem rE {calls:List aF} {t:Nat} (e:EvD) (h:e.resp=0):cP calls t e=false:=by unfold cP;rw [KN e h];rfl
theorem rC {calls:List aF} {iv:Nat} (e:EvD) (h:e.resp=0):bD calls iv e=false:=by unfold bD;simp [h]
def cR (calls:List aF) (e:EvD):Prop:=lL calls e=0/\kindOf calls e=1/\e.resp≠0/\e.ans.err=0
theorem vZ (calls:List aF) (n:Nat) (P:EvD->Bool):∀ l:List EvD,fD n (λt=>cnt (λe=>P e && decide (tn calls e=t)) l)<=cnt P l/\((∀ e,e∈l->tn calls e<n)->cnt P l<=fD n (λt=>cnt (λe=>P e && decide (tn calls e=t)) l))
 | []=>⟨Nat.le_of_eq (iY λ_ _=>rfl),λ_=>Nat.zero_le _⟩
 | e::l=>by
  obtain⟨h1,h2⟩:=vZ calls n P l
  have hs:fD n (λt=>cnt (λe=>P e && decide (tn calls e=t)) (e::l))=fD n (λt=>if (P e && decide (tn calls e=t))=true then 1 else 0)+fD n (λt=>cnt (λe=>P e && decide (tn calls e=t)) l):=by
   rw [<-oF]
   exact fK λt _=>eQ _ _ _
  rw [hs,eQ]
  have ho:∀ t,t≠tn calls e->(if (P e && decide (tn calls e=t))=true then 1 else 0)=0:=λt ht=>if_neg (by simp;intro _;exact Ne.symm ht)
  by_cases hn:tn calls e<n
  ·have h3:fD n (λt=>if (P e && decide (tn calls e=t))=true then 1 else 0)=if P e=true then 1 else 0:=by
    rw [jH hn (λt _ ht=>ho t ht)]
    simp
   rw [h3]
   exact⟨by omega,λh=>by have:=h2 (λe he=>h e (List.mem_cons_of_mem _ he));omega⟩
  ·have h3:fD n (λt=>if (P e && decide (tn calls e=t))=true then 1 else 0)=0:=iY λt ht=>ho t (by omega)
   rw [h3]
   exact⟨by omega,λh=>absurd (h e (List.mem_cons_self ..)) hn⟩
theorem xS {P:EvD->Bool}:∀ {l l':List EvD},l.length<=l'.length->(∀ i,i<l.length->P (aD l i)=true->P (aD l' i)=true)->cnt P l<=cnt P l'
 | [],_,_,_=>Nat.zero_le _
 | _::_,[],h,_=>by simp at h
 | a::l,b::m,h,g=>by
  rw [eQ,eQ]
  have ih:=xS (P:=P) (l:=l) (l':=m) (by simpa using h) (λi hi=>g (i+1) (by simp;omega))
  have h0:=g 0 (by simp)
  have e1:aD (a::l) 0=a:=rfl
  have e2:aD (b::m) 0=b:=rfl
  rw [e1,e2] at h0
  by_cases h9:P a=true
  ·rw [if_pos h9,if_pos (h0 h9)];omega
  ·rw [if_neg h9];omega
theorem yA {P Q:EvD->Bool}:∀ {l:List EvD} {k:Nat},k<l.length->(∀ i,i<l.length->P (aD l i)=true->Q (aD l i)=true)->P (aD l k)=false->Q (aD l k)=true->cnt P l+1<=cnt Q l
 | [],_,h,_,_,_=>by simp at h
 | a::l,0,_,g,hp,hq=>by
  have e1:aD (a::l) 0=a:=rfl
  rw [e1] at hp hq
  rw [eQ,eQ,if_neg (by rw [hp];decide),if_pos hq]
  have:=cnt_mono (P:=P) (Q:=Q) (l:=l) (λi hi=>g (i+1) (by simp;omega))
  omega
 | a::l,k+1,h,g,hp,hq=>by
  have ih:=yA (P:=P) (Q:=Q) (l:=l) (k:=k) (by simpa using h) (λi hi=>g (i+1) (by simp;omega)) hp hq
  have h0:=g 0 (by simp)
  have e1:aD (a::l) 0=a:=rfl
  rw [e1] at h0
  rw [eQ,eQ]
  by_cases h9:P a=true
  ·rw [if_pos h9,if_pos (h0 h9)];omega
  ·rw [if_neg h9];omega
def ctW (hands:List (Option CtS×Nat)) (t:Nat):Nat:=match (hands.getD t (none,0)).1 with
 | some (.ad x)=>x.v
 | _=>0
def obO {n m:Nat} (st:aQ (bH n m)):List Nat:=st.obj
def haO {n m:Nat} (st:aQ (bH n m)):List (Option CtS×Nat):=st.hands
def fF (n m:Nat):Nat:=1+lev (aJ n)*(3*m)
def ctG {n m:Nat} (st:aQ (bH n m)) (M rk:Nat->Nat):Gh:=dS n m st.wd.mem.ws (ctW (haO st)) M rk
def jZ (n m:Nat) (calls:List aF) (evs:List EvD) (g:Gh) (now p:Nat) (e:EvD):CtS->Prop
 | .rd l=>kindOf calls e=1/\l.v=1/\l.kind≠2/\e.steps+dH l<=m/\e.steps+dH l<=fF n m/\∃ lo,qK n m g lo l/\cnt (bD calls e.inv) evs<=lo/\∀ j,j<evs.length->cR calls (aD evs j)->(aD evs j).resp<e.inv->(aD evs j).ans.val<=lo
 | .ad x=>kindOf calls e=0/\kV n m g now p x/\e.steps+eD m x<=fF n m
structure jB (n m:Nat) (calls:List aF) (st:aQ (bH n m)) (M rk:Nat->Nat):Prop where
 len:st.wd.mem.ws.length=n+(aJ n - 1)*(2^m - 1)
 olen:(obO st).length=n
 inv:GInv n m (ctG st M rk)
 own:∀ t,t<n->st.wd.mem.ws.getD t 0=(obO st).getD t 0+(if ctW (haO st) t=0 then 0 else 1)
 cnt:∀ t,t<n->(obO st).getD t 0=cnt (cP calls t) st.evs
 full:∀ t,t<n->st.wd.mem.ws.getD t 0*n<=2^m - 1
 hand:∀ p s k,(haO st).getD p (none,0)=(some s,k)->p<n/\lL calls (aD st.evs k)=0/\(aD st.evs k).ans.err=0/\jZ n m calls st.evs (ctG st M rk) st.wd.now p (aD st.evs k) s
 past:∀ i,i<st.evs.length->cR calls (aD st.evs i)->(aD st.evs i).ans.val<=(ctG st M rk).cur n (aJ n) 1/\(∀ j,j<st.evs.length->cR calls (aD st.evs j)->(aD st.evs j).resp<(aD st.evs i).inv->(aD st.evs j).ans.val<=(aD st.evs i).ans.val)/\Go.Proofs.Ytifhldnmcdbpfaa.cnt (bD calls (aD st.evs i).inv) st.evs<=(aD st.evs i).ans.val/\(aD st.evs i).ans.val<=Go.Proofs.Ytifhldnmcdbpfaa.cnt (bB calls (aD st.evs i).resp) st.evs
 steps:∀ i,i<st.evs.length->(aD st.evs i).resp≠0->(aD st.evs i).steps<=fF n m/\(kindOf calls (aD st.evs i)=1->(aD st.evs i).steps<=m)
 tr:∀ a x,x∈st.wd.traces a->0<=x/\x<=(st.wd.now:Int)
 invs:∀ p,st.wd.inv.getD p 0<=st.wd.now
theorem jB.F1 {n m:Nat} {calls:List aF} {st:aQ (bH n m)} {M rk:Nat->Nat} (hn:n<=16) (h:jB n m calls st M rk):(ctG st M rk).F n (aJ n) 1=fD n (λt=>Go.Proofs.Ytifhldnmcdbpfaa.cnt (cP calls t) st.evs)/\(ctG st M rk).S n (aJ n) 1=fD n (λt=>Go.Proofs.Ytifhldnmcdbpfaa.cnt (cP calls t) st.evs+(if ctW (haO st) t=0 then 0 else 1)):=by
 have hl:=(bL hn).1
 have ha:∀ t,t<n->(ctG st M rk).a t=Go.Proofs.Ytifhldnmcdbpfaa.cnt (cP calls t) st.evs+(if ctW (haO st) t=0 then 0 else 1):=λt ht=>by
  rw [<-h.cnt t ht,<-h.own t ht];exact if_pos ht
 refine⟨fK λt ht=>?_,fK λt ht=>?_⟩
 ·rw [if_pos (zX (nY hn) (by omega))]
  dsimp only
  rw [ha t ht]
  show _ - (if 1<=ctW (haO st) t then 1 else 0)=_
  by_cases h9:ctW (haO st) t=0
  ·rw [if_pos h9,if_neg (by omega)];omega
  ·rw [if_neg h9,if_pos (by omega)];omega
 ·rw [if_pos (zX (nY hn) (by omega)),ha t ht]
theorem jB.low {n m:Nat} {calls:List aF} {st:aQ (bH n m)} {M rk:Nat->Nat} (hn:n<=16) (hthr:∀ c,c<calls.length->0<=(calls.getD c d0).thread/\(calls.getD c d0).thread<n) (hg:eB calls st) (h:jB n m calls st M rk) (iv:Nat):Go.Proofs.Ytifhldnmcdbpfaa.cnt (bD calls iv) st.evs<=(ctG st M rk).cur n (aJ n) 1:=by
 refine Nat.le_trans (Nat.le_trans (cnt_mono (Q:=cK calls) λi _ hp=>?_) ?_) (h.inv.low hn (Nat.le_refl _) (by have:=(bL hn).2.1;omega))
 ·unfold bD at hp
  unfold cK
  simp only [Bool.and_eq_true,decide_eq_true_eq] at hp ⊢
  exact⟨hp.1.1.1.1,sF.2 ⟨hp.1.1.1.2,hp.1.1.2,hp.1.2⟩⟩
 ·rw [(h.F1 hn).1]
  refine(vZ calls n (cK calls) st.evs).2 λe he=>?_
  obtain⟨j,hj,rfl⟩:=List.mem_iff_getElem.1 he
  have hc:=hg.ev.call j hj
  have ee:aD st.evs j=st.evs[j]:=by unfold aD;rw [List.getD_eq_getElem?_getD,List.getElem?_eq_getElem hj];rfl
  rw [ee] at hc
  have:=hthr _ hc
  unfold tn;omega
theorem jB.high {n m:Nat} {calls:List aF} {st:aQ (bH n m)} {M rk:Nat->Nat} (hn:n<=16) (hg:eB calls st) (h:jB n m calls st M rk):(ctG st M rk).S n (aJ n) 1<=Go.Proofs.Ytifhldnmcdbpfaa.cnt (bB calls (st.wd.now+1)) st.evs:=by
 rw [(h.F1 hn).2]
 refine Nat.le_trans (nK λt ht=>?_) (vZ calls n (bB calls (st.wd.now+1)) st.evs).1
 have hmono:∀ i,i<st.evs.length->cP calls t (aD st.evs i)=true->(bB calls (st.wd.now+1) (aD st.evs i) && decide (tn calls (aD st.evs i)=t))=true:=λi hi hp=>by
  unfold cP cK at hp
  unfold bB
  simp only [Bool.and_eq_true,decide_eq_true_eq] at hp ⊢
  obtain⟨k1,k2,k3⟩:=sF.1 hp.1.2
  exact⟨⟨⟨⟨hp.1.1,k1⟩,k2⟩,by have:=(hg.ev.tick i hi).2.1;omega⟩,hp.2⟩
 by_cases hw:ctW (haO st) t=0
 ·rw [if_pos hw,Nat.add_zero]
  exact cnt_mono hmono
 ·rw [if_neg hw]
  have hx:∃ x k,(haO st).getD t (none,0)=(some (.ad x),k):=by
   unfold ctW at hw
   cases hh:(haO st).getD t (none,0) with
   | mk a k=>
    rw [hh] at hw
    match a,hw with
    | some (.ad x),_=>exact⟨x,k,rfl⟩
    | some (.rd l),hw=>exact absurd rfl hw
    | none,hw=>exact absurd rfl hw
  obtain⟨x,k,hh⟩:=hx
  obtain⟨_,a1,a2,a3,_⟩:=h.hand t _ k hh
  obtain⟨b1,b2,b3,b4⟩:=hg.ev.hand t k (by unfold eT;rw [show st.hands.getD t (none,0)=(some (.ad x),k) from hh];rfl)
  refine yA b1 hmono (rE _ b3) ?_
  unfold bB
  simp only [Bool.and_eq_true,decide_eq_true_eq]
  exact⟨⟨⟨⟨a2,a1⟩,a3⟩,by have:=(hg.ev.tick k b1).2.1;omega⟩,b2⟩
theorem jZ.next {n m:Nat} {calls:List aF} {st:aQ (bH n m)} {q k now now' p:Nat} {evs':List EvD} {e1 e:EvD} {g g':Gh} {s:CtS} (hx:Next calls st q evs' k e1) (hr:e1.resp=0∨e1.resp=st.wd.now+1) (he:e.inv<=st.wd.now+1) (hle:g.Le g') (hrk:g'.rk p=g.rk p) (hn:now<=now') (h:jZ n m calls st.evs g now p e s):jZ n m calls evs' g' now' p e s:=by
 match s,h with
 | .rd l,⟨a,b,c,d,d2,lo,f,i,j⟩=>
  refine⟨a,b,c,d,d2,lo,f.mono hle,?_,λy hy hc hlt=>?_⟩
  ·rw [hx.cnt rC]
   have:bD calls e.inv e1=false:=by
    rcases hr with h0|h0
    ·exact rC _ h0
    ·unfold bD
     rw [decide_eq_false (show ¬ e1.resp<e.inv by omega),Bool.and_false]
   rw [this];simpa using i
  ·by_cases hyk:y=k
   ·subst hyk
    rw [hx.self] at hc hlt
    have:=hc.2.2.1
    rcases hr with h0|h0<;>omega
   ·obtain⟨z1,z2⟩:=hx.other y hy hyk
    rw [z2] at hc hlt ⊢
    exact j y z1 hc hlt
 | .ad x,⟨a,b,c⟩=>exact⟨a,b.mono hle hrk hn,c⟩
theorem Gh.cur_mono {n L:Nat} {g g':Gh} (ha:∀ t,g.a t<=g'.a t) (hM:∀ v,g.M v<=g'.M v) (v:Nat):g.cur n L v<=g'.cur n L v:=by
 unfold Gh.cur
 split
 ·exact hM v
 ·split
  ·exact ha _
  ·exact Nat.le_refl _
theorem lG {n m:Nat} {calls:List aF} {st st':aQ (bH n m)} {M rk M' rk':Nat->Nat} {q k:Nat} {e1:EvD} {mo:Option CtS} (hg:eB calls st) (h:jB n m calls st M rk) (hqn:q<n) (hx:Next calls st q st'.evs k e1) (hnow:st'.wd.now=st.wd.now+1) (hr:e1.resp=0∨e1.resp=st.wd.now+1)
  (hk:k<st.evs.length->e1.inv=(aD st.evs k).inv/\e1.call=(aD st.evs k).call/\e1.ans.err=0) (hkn:¬ k<st.evs.length->e1.inv=st.wd.now+1) (hh:∀ p,(haO st').getD p (none,0)=if p=q then (mo,k) else (haO st).getD p (none,0)) (hlen:st'.wd.mem.ws.length=st.wd.mem.ws.length) (hol:(obO st').length=(obO st).length)
  (hle:(ctG st M rk).Le (ctG st' M' rk')) (hG:GInv n m (ctG st' M' rk')) (hM:∀ v,M v<=M' v) (hrk:∀ p,p≠q->rk' p=rk p) (hown:∀ t,t<n->st'.wd.mem.ws.getD t 0=(obO st').getD t 0+(if ctW (haO st') t=0 then 0 else 1)) (hcnt:∀ t,t<n->(obO st').getD t 0=(obO st).getD t 0+(if cP calls t e1=true then 1 else 0)) (hfull:∀ t,t<n->st'.wd.mem.ws.getD t 0*n<=2^m - 1)
  (hhand:∀ s,mo=some s->lL calls e1=0/\e1.ans.err=0/\jZ n m calls st.evs (ctG st' M' rk') st'.wd.now q e1 s)
  (hdone:cR calls e1->e1.ans.val<=(ctG st' M' rk').cur n (aJ n) 1/\(∀ j,j<st.evs.length->cR calls (aD st.evs j)->(aD st.evs j).resp<e1.inv->(aD st.evs j).ans.val<=e1.ans.val)/\cnt (bD calls e1.inv) st.evs<=e1.ans.val/\e1.ans.val<=cnt (bB calls (st.wd.now+1)) st.evs)
  (hsteps:e1.resp≠0->e1.steps<=fF n m/\(kindOf calls e1=1->e1.steps<=m)) (htr:∀ a x,x∈st'.wd.traces a->0<=x/\x<=(st'.wd.now:Int)) (hinvs:∀ p,st'.wd.inv.getD p 0<=st'.wd.now):jB n m calls st' M' rk':=by
 have hcur:=Gh.cur_mono (n:=n) (L:=aJ n) (g:=ctG st M rk) (g':=ctG st' M' rk') hle.a hM 1
 have hi1:e1.inv<=st.wd.now+1:=by
  by_cases h9:k<st.evs.length
  ·rw [(hk h9).1];have:=(hg.ev.tick k h9).2.1;omega
  ·rw [hkn h9];exact Nat.le_refl _
 have hbB:∀ rs,rs<=st.wd.now+1->cnt (bB calls rs) st.evs<=cnt (bB calls rs) st'.evs:=λrs hrs=>xS hx.size λi hi hp=>by
  by_cases hik:i=k
  ·subst hik
   rw [hx.self]
   obtain⟨a,b,c⟩:=hk hi
   unfold bB at hp ⊢
   rw [a,b,c]
   simp only [Bool.and_eq_true,decide_eq_true_eq] at hp ⊢
   exact⟨⟨⟨trivial,hp.1.1.2⟩,hp.1.2⟩,hp.2⟩
  ·rw [(hx.other i (Nat.lt_of_lt_of_le hi hx.size) hik).2];exact hp
 have hbD:∀ iv,iv<=st.wd.now+1->cnt (bD calls iv) st'.evs=cnt (bD calls iv) st.evs:=λiv hiv=>by
  rw [hx.cnt rC]
  have:bD calls iv e1=false:=by
   rcases hr with h0|h0
   ·exact rC _ h0
   ·unfold bD
    rw [decide_eq_false (show ¬ e1.resp<iv by omega),Bool.and_false]
  rw [this];rfl
 refine⟨hlen.trans h.len,hol.trans h.olen,hG,hown,λt ht=>?_,hfull,λp s j hp=>?_,λi hi hc=>?_,λi hi hresp=>?_,htr,hinvs⟩
 ·rw [hcnt t ht,h.cnt t ht,hx.cnt rE]
 ·rw [hh] at hp
  split at hp
  ·rename_i e
   obtain⟨rfl,rfl⟩:=Prod.mk.inj hp
   obtain⟨a,b,c⟩:=hhand s rfl
   rw [hx.self,e]
   exact⟨hqn,a,b,jZ.next hx hr hi1 (Gh.Le.refl _) rfl (Nat.le_refl _) c⟩
  ·rename_i hpq
   obtain⟨a1,a2⟩:=hx.apart p s j hpq hp
   rw [(hx.other j (Nat.lt_of_lt_of_le a2 hx.size) a1).2]
   obtain⟨b1,b2,b3,b4⟩:=h.hand p s j hp
   exact⟨b1,b2,b3,jZ.next hx hr (by have:=(hg.ev.tick j a2).2.1;omega) hle (hrk p hpq) (by omega) b4⟩
 ·by_cases hik:i=k
  ·subst hik
   rw [hx.self] at hc ⊢
   obtain⟨d1,d2,d3,d4⟩:=hdone hc
   have hr1:e1.resp=st.wd.now+1:=hr.resolve_left hc.2.2.1
   refine⟨d1,λj hj hcj hlt=>?_,by rw [hbD _ hi1];exact d3,by rw [hr1];exact Nat.le_trans d4 (hbB _ (Nat.le_refl _))⟩
   by_cases hjk:j=i
   ·subst hjk
    rw [hx.self];exact Nat.le_refl _
   ·obtain⟨z1,z2⟩:=hx.other j hj hjk
    rw [z2] at hcj hlt ⊢
    exact d2 j z1 hcj hlt
  ·obtain⟨z1,z2⟩:=hx.other i hi hik
   rw [z2] at hc ⊢
   obtain⟨d1,d2,d3,d4⟩:=h.past i z1 hc
   have ht:=hg.ev.tick i z1
   refine⟨Nat.le_trans d1 hcur,λj hj hcj hlt=>?_,by rw [hbD _ (by omega)];exact d3,Nat.le_trans d4 (hbB _ (by omega))⟩
   by_cases hjk:j=k
   ·subst hjk
    rw [hx.self] at hcj hlt
    have:=hcj.2.2.1
    rcases hr with h0|h0<;>omega
   ·obtain⟨y1,y2⟩:=hx.other j hj hjk
    rw [y2] at hcj hlt ⊢
    exact d2 j y1 hcj hlt
 ·by_cases hik:i=k
  ·subst hik
   rw [hx.self] at hresp ⊢
   exact hsteps hresp
  ·obtain⟨z1,z2⟩:=hx.other i hi hik
   rw [z2] at hresp ⊢
   exact h.steps i z1 hresp
end Go.Proofs.Ytifhldnmcdbpfaa
