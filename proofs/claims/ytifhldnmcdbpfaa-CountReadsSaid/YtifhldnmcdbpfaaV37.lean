/- Layer 11: what every play of a counter keeps, in plain numbers: what is kept. -/
import Derived.Test.YtifhldnmcdbpfaaV36
import Derived.Test.YtifhldnmcdbpfaaV18
set_option maxRecDepth 100000
set_option linter.unusedVariables false
set_option linter.unusedSimpArgs false
set_option linter.unnecessarySimpa false
namespace Go.Proofs.Ytifhldnmcdbpfaa
section
open Go.RowKit
def cK (calls:List aF) (e:EvD):Bool:=decide (e.ans.err=0) && isK calls 0 e
def cP (calls:List aF) (t:Nat) (e:EvD):Bool:=cK calls e && decide (tn calls e=t)
theorem MJ {calls:List aF} (e:EvD) (h:e.resp=0):cK calls e=false:=by unfold cK;rw [xV h,Bool.and_false]
theorem rF {calls:List aF} {t:Nat} (e:EvD) (h:e.resp=0):cP calls t e=false:=by unfold cP;rw [MJ e h];rfl
theorem rA {calls:List aF} {iv:Nat} (e:EvD) (h:e.resp=0):bD calls iv e=false:=by unfold bD;simp [h]
def cR (calls:List aF) (e:EvD):Prop:=lH calls e=0/\kindOf calls e=1/\e.resp≠0/\e.ans.err=0
theorem wM (calls:List aF) (n:Nat) (P:EvD->Bool):∀ l:List EvD,fC n (λt=>cnt (λe=>P e && decide (tn calls e=t)) l)<=cnt P l/\((∀ e,e∈l->tn calls e<n)->cnt P l<=fC n (λt=>cnt (λe=>P e && decide (tn calls e=t)) l))
 | []=>⟨Nat.le_of_eq (iZ λ_ _=>rfl),λ_=>Nat.zero_le _⟩
 | e::l=>by
  obtain⟨h1,h2⟩:=wM calls n P l
  have hs:fC n (λt=>cnt (λe=>P e && decide (tn calls e=t)) (e::l))=fC n (λt=>if (P e && decide (tn calls e=t))=true then 1 else 0)+fC n (λt=>cnt (λe=>P e && decide (tn calls e=t)) l):=by
   rw [<-oH]
   exact fI λt _=>dR _ _ _
  rw [hs,dR]
  have ho:∀ t,t≠tn calls e->(if (P e && decide (tn calls e=t))=true then 1 else 0)=0:=λt ht=>if_neg (by simp;intro _;exact Ne.symm ht)
  by_cases hn:tn calls e<n
  ·have h3:fC n (λt=>if (P e && decide (tn calls e=t))=true then 1 else 0)=if P e=true then 1 else 0:=by
    rw [jF hn (λt _ ht=>ho t ht)]
    simp
   rw [h3]
   exact⟨by omega,λh=>by have:=h2 (λe he=>h e (List.mem_cons_of_mem _ he));omega⟩
  ·have h3:fC n (λt=>if (P e && decide (tn calls e=t))=true then 1 else 0)=0:=iZ λt ht=>ho t (by omega)
   rw [h3]
   exact⟨by omega,λh=>absurd (h e (List.mem_cons_self ..)) hn⟩
theorem yH {P:EvD->Bool}:∀ {l l':List EvD},l.length<=l'.length->(∀ i,i<l.length->P (aD l i)=true->P (aD l' i)=true)->cnt P l<=cnt P l'
 | [],_,_,_=>Nat.zero_le _
 | _::_,[],h,_=>by simp at h
 | a::l,b::m,h,g=>by
  rw [dR,dR]
  have ih:=yH (P:=P) (l:=l) (l':=m) (by simpa using h) (λi hi=>g (i+1) (by simp;omega))
  have h0:=g 0 (by simp)
  have e1:aD (a::l) 0=a:=rfl
  have e2:aD (b::m) 0=b:=rfl
  rw [e1,e2] at h0
  by_cases h9:P a=true
  ·rw [if_pos h9,if_pos (h0 h9)];omega
  ·rw [if_neg h9];omega
theorem yA {P Q:EvD->Bool}:∀ {l:List EvD} {k:Nat},k<l.length->(∀ i,i<l.length->P (aD l i)=true->Q (aD l i)=true)->P (aD l k)=false->Q (aD l k)=true->cnt P l+1<=cnt Q l
 | [],_,h,_,_,_=>by simp at h
 | a::l,0,_,g,hp,hq=>by
  have e1:aD (a::l) 0=a:=rfl
  rw [e1] at hp hq
  rw [dR,dR,if_neg (by rw [hp];decide),if_pos hq]
  have:=cnt_mono (P:=P) (Q:=Q) (l:=l) (λi hi=>g (i+1) (by simp;omega))
  omega
 | a::l,k+1,h,g,hp,hq=>by
  have ih:=yA (P:=P) (Q:=Q) (l:=l) (k:=k) (by simpa using h) (λi hi=>g (i+1) (by simp;omega)) hp hq
  have h0:=g 0 (by simp)
  have e1:aD (a::l) 0=a:=rfl
  rw [e1] at h0
  rw [dR,dR]
  by_cases h9:P a=true
  ·rw [if_pos h9,if_pos (h0 h9)];omega
  ·rw [if_neg h9];omega
def ctW (hands:List (Option CtS×Nat)) (t:Nat):Nat:=match (hands.getD t (none,0)).1 with
 | some (.ad x)=>x.v
 | _=>0
def obO {n m:Nat} (st:aQ (bH n m)):List Nat:=st.obj
def haO {n m:Nat} (st:aQ (bH n m)):List (Option CtS×Nat):=st.hands
def gB (n m:Nat):Nat:=1+lev (aK n)*(3*m)
def ctG {n m:Nat} (st:aQ (bH n m)) (M rk:Nat->Nat):Gh:=dU n m st.wd.mem.ws (ctW (haO st)) M rk
def kJ (n m:Nat) (calls:List aF) (evs:List EvD) (g:Gh) (now p:Nat) (e:EvD):CtS->Prop
 | .rd l=>kindOf calls e=1/\l.v=1/\l.kind≠2/\e.steps+dF l<=m/\e.steps+dF l<=gB n m/\∃ lo,qQ n m g lo l/\cnt (bD calls e.inv) evs<=lo/\∀ j,j<evs.length->cR calls (aD evs j)->(aD evs j).resp<e.inv->(aD evs j).ans.val<=lo
 | .ad x=>kindOf calls e=0/\lF n m g now p x/\e.steps+eB m x<=gB n m
structure jE (n m:Nat) (calls:List aF) (st:aQ (bH n m)) (M rk:Nat->Nat):Prop where
 len:st.wd.mem.ws.length=n+(aK n - 1)*(2^m - 1)
 olen:(obO st).length=n
 inv:GInv n m (ctG st M rk)
 own:∀ t,t<n->st.wd.mem.ws.getD t 0=(obO st).getD t 0+(if ctW (haO st) t=0 then 0 else 1)
 cnt:∀ t,t<n->(obO st).getD t 0=cnt (cP calls t) st.evs
 full:∀ t,t<n->st.wd.mem.ws.getD t 0*n<=2^m - 1
 hand:∀ p s k,(haO st).getD p (none,0)=(some s,k)->p<n/\lH calls (aD st.evs k)=0/\(aD st.evs k).ans.err=0/\kJ n m calls st.evs (ctG st M rk) st.wd.now p (aD st.evs k) s
 past:∀ i,i<st.evs.length->cR calls (aD st.evs i)->(aD st.evs i).ans.val<=(ctG st M rk).cur n (aK n) 1/\(∀ j,j<st.evs.length->cR calls (aD st.evs j)->(aD st.evs j).resp<(aD st.evs i).inv->(aD st.evs j).ans.val<=(aD st.evs i).ans.val)/\Go.Proofs.Ytifhldnmcdbpfaa.cnt (bD calls (aD st.evs i).inv) st.evs<=(aD st.evs i).ans.val/\(aD st.evs i).ans.val<=Go.Proofs.Ytifhldnmcdbpfaa.cnt (bB calls (aD st.evs i).resp) st.evs
 steps:∀ i,i<st.evs.length->(aD st.evs i).resp≠0->(aD st.evs i).steps<=gB n m/\(kindOf calls (aD st.evs i)=1->(aD st.evs i).steps<=m)
 tr:∀ a x,x∈st.wd.traces a->0<=x/\x<=(st.wd.now:Int)
 invs:∀ p,st.wd.inv.getD p 0<=st.wd.now
theorem jE.F1 {n m:Nat} {calls:List aF} {st:aQ (bH n m)} {M rk:Nat->Nat} (hn:n<=16) (h:jE n m calls st M rk):(ctG st M rk).F n (aK n) 1=fC n (λt=>Go.Proofs.Ytifhldnmcdbpfaa.cnt (cP calls t) st.evs)/\(ctG st M rk).S n (aK n) 1=fC n (λt=>Go.Proofs.Ytifhldnmcdbpfaa.cnt (cP calls t) st.evs+(if ctW (haO st) t=0 then 0 else 1)):=by
 have hl:=(bM hn).1
 have ha:∀ t,t<n->(ctG st M rk).a t=Go.Proofs.Ytifhldnmcdbpfaa.cnt (cP calls t) st.evs+(if ctW (haO st) t=0 then 0 else 1):=λt ht=>by
  rw [<-h.cnt t ht,<-h.own t ht];exact if_pos ht
 refine⟨fI λt ht=>?_,fI λt ht=>?_⟩
 ·rw [if_pos (AZ (oG hn) (by omega))]
  dsimp only
  rw [ha t ht]
  show _ - (if 1<=ctW (haO st) t then 1 else 0)=_
  by_cases h9:ctW (haO st) t=0
  ·rw [if_pos h9,if_neg (by omega)];omega
  ·rw [if_neg h9,if_pos (by omega)];omega
 ·rw [if_pos (AZ (oG hn) (by omega)),ha t ht]
theorem jE.low {n m:Nat} {calls:List aF} {st:aQ (bH n m)} {M rk:Nat->Nat} (hn:n<=16) (hthr:∀ c,c<calls.length->0<=(calls.getD c d0).thread/\(calls.getD c d0).thread<n) (hg:eD calls st) (h:jE n m calls st M rk) (iv:Nat):Go.Proofs.Ytifhldnmcdbpfaa.cnt (bD calls iv) st.evs<=(ctG st M rk).cur n (aK n) 1:=by
 refine Nat.le_trans (Nat.le_trans (cnt_mono (Q:=cK calls) λi _ hp=>?_) ?_) (h.inv.low hn (Nat.le_refl _) (by have:=(bM hn).2.1;omega))
 ·unfold bD at hp
  unfold cK
  simp only [Bool.and_eq_true,decide_eq_true_eq] at hp ⊢
  exact⟨hp.1.1.1.1,rQ.2 ⟨hp.1.1.1.2,hp.1.1.2,hp.1.2⟩⟩
 ·rw [(h.F1 hn).1]
  refine(wM calls n (cK calls) st.evs).2 λe he=>?_
  obtain⟨j,hj,rfl⟩:=List.mem_iff_getElem.1 he
  have hc:=hg.ev.call j hj
  have ee:aD st.evs j=st.evs[j]:=by unfold aD;rw [List.getD_eq_getElem?_getD,List.getElem?_eq_getElem hj];rfl
  rw [ee] at hc
  have:=hthr _ hc
  unfold tn;omega
theorem jE.high {n m:Nat} {calls:List aF} {st:aQ (bH n m)} {M rk:Nat->Nat} (hn:n<=16) (hg:eD calls st) (h:jE n m calls st M rk):(ctG st M rk).S n (aK n) 1<=Go.Proofs.Ytifhldnmcdbpfaa.cnt (bB calls (st.wd.now+1)) st.evs:=by
 rw [(h.F1 hn).2]
 refine Nat.le_trans (nM λt ht=>?_) (wM calls n (bB calls (st.wd.now+1)) st.evs).1
 have hmono:∀ i,i<st.evs.length->cP calls t (aD st.evs i)=true->(bB calls (st.wd.now+1) (aD st.evs i) && decide (tn calls (aD st.evs i)=t))=true:=λi hi hp=>by
  unfold cP cK at hp
  unfold bB
  simp only [Bool.and_eq_true,decide_eq_true_eq] at hp ⊢
  obtain⟨k1,k2,k3⟩:=rQ.1 hp.1.2
  exact⟨⟨⟨⟨hp.1.1,k1⟩,k2⟩,by have:=(hg.ev.tick i hi).2.1;omega⟩,hp.2⟩
 by_cases hw:ctW (haO st) t=0
 ·rw [if_pos hw,Nat.add_zero]
  exact cnt_mono hmono
 ·rw [if_neg hw]
  have hx:∃ x k,(haO st).getD t (none,0)=(some (.ad x),k):=by
   unfold ctW at hw
   cases hh:(haO st).getD t (none,0) with
   | mk a k=>
    rw [hh] at hw
    match a,hw with
    | some (.ad x),_=>exact⟨x,k,rfl⟩
    | some (.rd l),hw=>exact absurd rfl hw
    | none,hw=>exact absurd rfl hw
  obtain⟨x,k,hh⟩:=hx
  obtain⟨_,a1,a2,a3,_⟩:=h.hand t _ k hh
  obtain⟨b1,b2,b3,b4⟩:=hg.ev.hand t k (by unfold eT;rw [show st.hands.getD t (none,0)=(some (.ad x),k) from hh];rfl)
  refine yA b1 hmono (rF _ b3) ?_
  unfold bB
  simp only [Bool.and_eq_true,decide_eq_true_eq]
  exact⟨⟨⟨⟨a2,a1⟩,a3⟩,by have:=(hg.ev.tick k b1).2.1;omega⟩,b2⟩
theorem kJ.next {n m:Nat} {calls:List aF} {st:aQ (bH n m)} {q k now now' p:Nat} {evs':List EvD} {e1 e:EvD} {g g':Gh} {s:CtS} (hx:Next calls st q evs' k e1) (hr:e1.resp=0∨e1.resp=st.wd.now+1) (he:e.inv<=st.wd.now+1) (hle:g.Le g') (hrk:g'.rk p=g.rk p) (hn:now<=now') (h:kJ n m calls st.evs g now p e s):kJ n m calls evs' g' now' p e s:=by
 match s,h with
 | .rd l,⟨a,b,c,d,d2,lo,f,i,j⟩=>
  refine⟨a,b,c,d,d2,lo,f.mono hle,?_,λy hy hc hlt=>?_⟩
  ·rw [hx.cnt rA]
   have:bD calls e.inv e1=false:=by
    rcases hr with h0|h0
    ·exact rA _ h0
    ·unfold bD
     rw [decide_eq_false (show ¬ e1.resp<e.inv by omega),Bool.and_false]
   rw [this];simpa using i
  ·by_cases hyk:y=k
   ·subst hyk
    rw [hx.self] at hc hlt
    have:=hc.2.2.1
    rcases hr with h0|h0<;>omega
   ·obtain⟨z1,z2⟩:=hx.other y hy hyk
    rw [z2] at hc hlt ⊢
    exact j y z1 hc hlt
 | .ad x,⟨a,b,c⟩=>exact⟨a,b.mono hle hrk hn,c⟩
theorem Gh.cur_mono {n L:Nat} {g g':Gh} (ha:∀ t,g.a t<=g'.a t) (hM:∀ v,g.M v<=g'.M v) (v:Nat):g.cur n L v<=g'.cur n L v:=by
 unfold Gh.cur
 split
 ·exact hM v
 ·split
  ·exact ha _
  ·exact Nat.le_refl _
theorem lI {n m:Nat} {calls:List aF} {st st':aQ (bH n m)} {M rk M' rk':Nat->Nat} {q k:Nat} {e1:EvD} {mo:Option CtS} (hg:eD calls st) (h:jE n m calls st M rk) (hqn:q<n) (hx:Next calls st q st'.evs k e1) (hnow:st'.wd.now=st.wd.now+1) (hr:e1.resp=0∨e1.resp=st.wd.now+1)
  (hk:k<st.evs.length->e1.inv=(aD st.evs k).inv/\e1.call=(aD st.evs k).call/\e1.ans.err=0) (hkn:¬ k<st.evs.length->e1.inv=st.wd.now+1) (hh:∀ p,(haO st').getD p (none,0)=if p=q then (mo,k) else (haO st).getD p (none,0)) (hlen:st'.wd.mem.ws.length=st.wd.mem.ws.length) (hol:(obO st').length=(obO st).length)
  (hle:(ctG st M rk).Le (ctG st' M' rk')) (hG:GInv n m (ctG st' M' rk')) (hM:∀ v,M v<=M' v) (hrk:∀ p,p≠q->rk' p=rk p) (hown:∀ t,t<n->st'.wd.mem.ws.getD t 0=(obO st').getD t 0+(if ctW (haO st') t=0 then 0 else 1)) (hcnt:∀ t,t<n->(obO st').getD t 0=(obO st).getD t 0+(if cP calls t e1=true then 1 else 0)) (hfull:∀ t,t<n->st'.wd.mem.ws.getD t 0*n<=2^m - 1)
  (hhand:∀ s,mo=some s->lH calls e1=0/\e1.ans.err=0/\kJ n m calls st.evs (ctG st' M' rk') st'.wd.now q e1 s)
  (hdone:cR calls e1->e1.ans.val<=(ctG st' M' rk').cur n (aK n) 1/\(∀ j,j<st.evs.length->cR calls (aD st.evs j)->(aD st.evs j).resp<e1.inv->(aD st.evs j).ans.val<=e1.ans.val)/\cnt (bD calls e1.inv) st.evs<=e1.ans.val/\e1.ans.val<=cnt (bB calls (st.wd.now+1)) st.evs)
  (hsteps:e1.resp≠0->e1.steps<=gB n m/\(kindOf calls e1=1->e1.steps<=m)) (htr:∀ a x,x∈st'.wd.traces a->0<=x/\x<=(st'.wd.now:Int)) (hinvs:∀ p,st'.wd.inv.getD p 0<=st'.wd.now):jE n m calls st' M' rk':=by
 have hcur:=Gh.cur_mono (n:=n) (L:=aK n) (g:=ctG st M rk) (g':=ctG st' M' rk') hle.a hM 1
 have hi1:e1.inv<=st.wd.now+1:=by
  by_cases h9:k<st.evs.length
  ·rw [(hk h9).1];have:=(hg.ev.tick k h9).2.1;omega
  ·rw [hkn h9];exact Nat.le_refl _
 have hbB:∀ rs,rs<=st.wd.now+1->cnt (bB calls rs) st.evs<=cnt (bB calls rs) st'.evs:=λrs hrs=>yH hx.size λi hi hp=>by
  by_cases hik:i=k
  ·subst hik
   rw [hx.self]
   obtain⟨a,b,c⟩:=hk hi
   unfold bB at hp ⊢
   rw [a,b,c]
   simp only [Bool.and_eq_true,decide_eq_true_eq] at hp ⊢
   exact⟨⟨⟨trivial,hp.1.1.2⟩,hp.1.2⟩,hp.2⟩
  ·rw [(hx.other i (Nat.lt_of_lt_of_le hi hx.size) hik).2];exact hp
 have hbD:∀ iv,iv<=st.wd.now+1->cnt (bD calls iv) st'.evs=cnt (bD calls iv) st.evs:=λiv hiv=>by
  rw [hx.cnt rA]
  have:bD calls iv e1=false:=by
   rcases hr with h0|h0
   ·exact rA _ h0
   ·unfold bD
    rw [decide_eq_false (show ¬ e1.resp<iv by omega),Bool.and_false]
  rw [this];rfl
 refine⟨hlen.trans h.len,hol.trans h.olen,hG,hown,λt ht=>?_,hfull,λp s j hp=>?_,λi hi hc=>?_,λi hi hresp=>?_,htr,hinvs⟩
 ·rw [hcnt t ht,h.cnt t ht,hx.cnt rF]
 ·rw [hh] at hp
  split at hp
  ·rename_i e
   obtain⟨rfl,rfl⟩:=Prod.mk.inj hp
   obtain⟨a,b,c⟩:=hhand s rfl
   rw [hx.self,e]
   exact⟨hqn,a,b,kJ.next hx hr hi1 (Gh.Le.refl _) rfl (Nat.le_refl _) c⟩
  ·rename_i hpq
   obtain⟨a1,a2⟩:=hx.apart p s j hpq hp
   rw [(hx.other j (Nat.lt_of_lt_of_le a2 hx.size) a1).2]
   obtain⟨b1,b2,b3,b4⟩:=h.hand p s j hp
   exact⟨b1,b2,b3,kJ.next hx hr (by have:=(hg.ev.tick j a2).2.1;omega) hle (hrk p hpq) (by omega) b4⟩
 ·by_cases hik:i=k
  ·subst hik
   rw [hx.self] at hc ⊢
   obtain⟨d1,d2,d3,d4⟩:=hdone hc
   have hr1:e1.resp=st.wd.now+1:=hr.resolve_left hc.2.2.1
   refine⟨d1,λj hj hcj hlt=>?_,by rw [hbD _ hi1];exact d3,by rw [hr1];exact Nat.le_trans d4 (hbB _ (Nat.le_refl _))⟩
   by_cases hjk:j=i
   ·subst hjk
    rw [hx.self];exact Nat.le_refl _
   ·obtain⟨z1,z2⟩:=hx.other j hj hjk
    rw [z2] at hcj hlt ⊢
    exact d2 j z1 hcj hlt
  ·obtain⟨z1,z2⟩:=hx.other i hi hik
   rw [z2] at hc ⊢
   obtain⟨d1,d2,d3,d4⟩:=h.past i z1 hc
   have ht:=hg.ev.tick i z1
   refine⟨Nat.le_trans d1 hcur,λj hj hcj hlt=>?_,by rw [hbD _ (by omega)];exact d3,Nat.le_trans d4 (hbB _ (by omega))⟩
   by_cases hjk:j=k
   ·subst hjk
    rw [hx.self] at hcj hlt
    have:=hcj.2.2.1
    rcases hr with h0|h0<;>omega
   ·obtain⟨y1,y2⟩:=hx.other j hj hjk
    rw [y2] at hcj hlt ⊢
    exact d2 j y1 hcj hlt
 ·by_cases hik:i=k
  ·subst hik
   rw [hx.self] at hresp ⊢
   exact hsteps hresp
  ·obtain⟨z1,z2⟩:=hx.other i hi hik
   rw [z2] at hresp ⊢
   exact h.steps i z1 hresp
end
section
open Go.RowKit
def wOf:Option CtS->Nat
 | some (.ad x)=>x.v
 | _=>0
theorem nY {hands:List (Option CtS×Nat)} {h16 q:Nat} (hl:hands.length=h16) (hq:q<h16) (mo:Option CtS) (k:Nat):ctW (hands.set q (mo,k))=bR (ctW hands) q (wOf mo):=by
 funext t
 unfold bR
 by_cases e:t=q
 ·rw [if_pos e,e]
  unfold ctW
  rw [aL (by omega)]
  match mo with
  | some (.ad x)=>rfl
  | some (.rd l)=>rfl
  | none=>rfl
 ·rw [if_neg e]
  unfold ctW
  rw [aR (Ne.symm e)]
theorem tF {hands:List (Option CtS×Nat)} {q:Nat} (h:(hands.getD q (none,0)).1=none):ctW hands q=0:=by
 unfold ctW;rw [h]
theorem FH {hands:List (Option CtS×Nat)} {q k:Nat} {s:CtS} (h:hands.getD q (none,0)=(some s,k)):ctW hands q=wOf (some s):=by
 unfold ctW
 rw [h]
 match s with
 | .ad x=>rfl
 | .rd l=>rfl
theorem yQ (n m p:Nat) (wd:WD) (l:LkD):∃ a,(aI n m p wd l).1=dI wd a:=by
 unfold aI
 split
 ·exact⟨_,rfl⟩
 ·split
  ·exact⟨_,gI _ _ _ _⟩
  ·exact⟨_,gI _ _ _ _⟩
theorem JV {n m p:Nat} {o:List Nat} {wd:WD} {x:AdD} (h:∀ a z,z∈wd.traces a->0<=z/\z<=(wd.now:Int)):(∀ a z,z∈(dX n m o wd p x).2.1.traces a->0<=z/\z<=(wd.now:Int))/\(dX n m o wd p x).2.1.inv=wd.inv/\(dX n m o wd p x).2.1.now=wd.now:=by
 have hl:∀ l,(∀ a z,z∈(aI n m p wd l).1.traces a->0<=z/\z<=(wd.now:Int))/\(aI n m p wd l).1.inv=wd.inv/\(aI n m p wd l).1.now=wd.now:=λl=>by
  obtain⟨a,e⟩:=yQ n m p wd l
  rw [e];exact⟨h,rfl,rfl⟩
 have hw:∀ b y,(∀ a z,z∈(aO b p wd y).1.traces a->0<=z/\z<=(wd.now:Int))/\(aO b p wd y).1.inv=wd.inv/\(aO b p wd y).1.now=wd.now:=λb y=>by
  rw [kI]
  obtain⟨a,b,c,_⟩:=MI (b:=b) (x:=y) h
  exact⟨a,b,c⟩
 unfold dX
 split
 ·exact⟨h,rfl,rfl⟩
 ·split
  ·exact hl _
  ·split
   ·exact hl _
   ·split
    ·exact hw _ _
    ·exact hw _ _
theorem vD {n q:Nat} (hn:n<=16) (hq:q<aK n) (h2:2<=aK n):lev ((aK n+q) / 2)+1=lev (aK n):=by
 have h:∀ L,L<17->L=2∨L=4∨L=8∨L=16->∀ q,q<L->lev ((L+q) / 2)+1=lev L:=by decide
 have:=(bM hn).2.2
 have hp:=oG hn
 exact h (aK n) (by omega) (by omega) q hq
def QI {n m:Nat} (calls:List aF) (st:aQ (bH n m)) (M rk:Nat->Nat) (q:Nat) (e:EvD):CtS->Prop
 | .rd l=>kJ n m calls st.evs (ctG st M rk) (st.wd.now+1) q e (.rd l)/\ctW (haO st) q=0
 | .ad x=>(kJ n m calls st.evs (ctG st M rk) (st.wd.now+1) q e (.ad x)/\ctW (haO st) q=x.v)∨(x=ad0/\kindOf calls e=0/\e.steps=0/\((obO st).getD q 0+1)*n<=2^m - 1/\ctW (haO st) q=0)
theorem JF {n m:Nat} (hn1:1<=n) (hn:n<=16) (hm:0<m) {calls:List aF} (hthr:∀ c,c<calls.length->0<=(calls.getD c d0).thread/\(calls.getD c d0).thread<n) {st:aQ (bH n m)} {M rk:Nat->Nat} {q i k:Nat} {s:CtS} {bJ:List EvD} {dK:WD} (hg:eD calls st) (h:jE n m calls st M rk) (hf:From calls st q i k s bJ dK) :
  lH calls (aD bJ k)=0/\(aD bJ k).ans.err=0/\QI calls st M rk q (aD bJ k) s:=by
 rcases hf.or with⟨hh,hk,hc,hr,rfl,rfl⟩|⟨hh,hs,rfl,rfl,rfl⟩
 ·obtain⟨_,a1,a2,a3⟩:=h.hand q s k hh
  have hw:=FH (hands:=haO st) hh
  refine⟨a1,a2,?_⟩
  match s,a3,hw with
  | .rd l,a3,hw=>exact⟨a3,hw⟩
  | .ad x,⟨b1,b2,b3⟩,hw=>exact .inl ⟨⟨b1,b2.mono (Gh.Le.refl _) rfl (Nat.le_succ _),b3⟩,hw⟩
 ·have he:aD (st.evs++[dC i (st.wd.tick.begin q)]) st.evs.length=dC i (st.wd.tick.begin q):=jV
  rw [he]
  have hw:=tF (hands:=haO st) hh
  have ho:lH calls (dC i (st.wd.tick.begin q))=(calls.getD i d0).obj:=rfl
  have hkd:kindOf calls (dC i (st.wd.tick.begin q))=(calls.getD i d0).kind:=rfl
  have hst:(dC i (st.wd.tick.begin q)).steps=0:=rfl
  rw [ho]
  unfold dH at hs
  split at hs
  case isFalse=>cases hs
  rename_i ho0
  refine⟨ho0,rfl,?_⟩
  have hs':(if (calls.getD i d0).kind=1 then Mc.run (CtS.rd (dS n m 1)) else if (calls.getD i d0).kind≠0 then .refuse 9 else if 2^m - 1<((obO st).getD q 0+1)*n then .refuse 6 else .run (.ad ad0))=Mc.run s:=hs
  obtain⟨l1,l2,l3⟩:=bM hn
  split at hs'
  ·rename_i hk1
   cases hs'
   have hk2:(dS n m 1).kind≠2:=by
    show(if 1<aK n then 0 else if 1 - aK n<n then 1 else 2)≠2
    split
    ·decide
    ·rw [if_pos (by omega)];decide
   have hrem:dF (dS n m 1)<=m/\dF (dS n m 1)<=gB n m:=by
    refine⟨lT hm 1,?_⟩
    by_cases hL:1<aK n
    ·have h1:=lT (n:=n) hm 1
     have h2:=vD (q:=0) hn (by omega) hL
     unfold gB
     rw [<-h2,Nat.add_mul,Nat.one_mul]
     omega
    ·have e:(dS n m 1).kind≠0:=by
      show(if 1<aK n then 0 else if 1 - aK n<n then 1 else 2)≠0
      rw [if_neg hL,if_pos (by omega)];decide
     unfold dF gB
     rw [if_neg e]
     split<;>omega
   refine⟨⟨by rw [hkd];exact hk1,rfl,hk2,by rw [hst,Nat.zero_add];exact hrem.1,by rw [hst,Nat.zero_add];exact hrem.2,_,rM hm hn h.inv (Nat.le_refl _) (Nat.le_refl _),h.low hn hthr hg _,λj hj hc _=>(h.past j hj hc).1⟩,hw⟩
  ·split at hs'
   ·cases hs'
   ·rename_i hk0
    split at hs'
    ·cases hs'
    ·rename_i hfull
     cases hs'
     exact .inr ⟨rfl,by rw [hkd];omega,hst,by omega,hw⟩
theorem AV {wd:WD} {q:Nat} (h:∀ p,wd.inv.getD p 0<=wd.now):∀ p,(wd.tick.begin q).inv.getD p 0<=wd.now+1:=by
 intro p
 show(wd.inv.set q (wd.now+1)).getD p 0<=wd.now+1
 by_cases hpq:q=p
 ·subst hpq
  by_cases hl:q<wd.inv.length
  ·rw [aL hl];exact Nat.le_refl _
  ·rw [List.set_eq_of_length_le (by omega)];exact Nat.le_succ_of_le (h q)
 ·rw [aR hpq];exact Nat.le_succ_of_le (h p)
theorem FI {n m:Nat} {ws:List Nat} (hn1:1<=n) (hfull:∀ t,t<n->ws.getD t 0*n<=2^m - 1):und n (aK n) (ghA n ws) 1<2^m:=by
 have h1:und n (aK n) (ghA n ws) 1<=n*((2^m - 1) / n):=xL λt ht=>by
  split
  ·show ghA n ws t<=_
   unfold ghA
   rw [if_pos ht]
   exact(Nat.le_div_iff_mul_le (by omega)).2 (hfull t ht)
  ·exact Nat.zero_le _
 have h2:=Nat.mul_div_le (2^m - 1) n
 have h3:=Nat.two_pow_pos m
 omega
theorem OM {n m q:Nat} {o:List Nat} {wd:WD} {w M rk:Nat->Nat} (hn1:1<=n) (hm:0<m) (hn:n<=16) (hq:q<n) (hlen:wd.mem.ws.length=n+(aK n - 1)*(2^m - 1)) (h:GInv n m (dU n m wd.mem.ws w M rk)) (hw:w q=0) (ho:wd.mem.ws.getD q 0=o.getD q 0) (hfull:∀ t,t<n->wd.mem.ws.getD t 0*n<=2^m - 1) (hfq:(o.getD q 0+1)*n<=2^m - 1) :
  ∃ rk',(bS wd.mem (q:Int) (o.getD q 0+1)).ws.length=wd.mem.ws.length/\(∀ t,(bS wd.mem (q:Int) (o.getD q 0+1)).ws.getD t 0=if t=q then o.getD q 0+1 else wd.mem.ws.getD t 0)/\
   (dU n m wd.mem.ws w M rk).Le (dU n m (bS wd.mem (q:Int) (o.getD q 0+1)).ws (bR w q ((aK n+q) / 2)) M rk')/\GInv n m (dU n m (bS wd.mem (q:Int) (o.getD q 0+1)).ws (bR w q ((aK n+q) / 2)) M rk')/\(∀ p,p≠q->rk' p=rk p)/\(∀ t,t<n->(bS wd.mem (q:Int) (o.getD q 0+1)).ws.getD t 0*n<=2^m - 1)/\
   (1<=(aK n+q) / 2->lF n m (dU n m (bS wd.mem (q:Int) (o.getD q 0+1)).ws (bR w q ((aK n+q) / 2)) M rk') wd.now q (ad0.climb n m ((aK n+q) / 2))/\1+eB m (ad0.climb n m ((aK n+q) / 2))<=gB n m):=by
 obtain⟨l1,l2,l3⟩:=bM hn
 have hql:q<wd.mem.ws.length:=by rw [hlen];omega
 have hws:(bS wd.mem (q:Int) (o.getD q 0+1)).ws=wd.mem.ws.set q (o.getD q 0+1):=(QL _ hql).1
 rw [hws]
 have hget:∀ t,(wd.mem.ws.set q (o.getD q 0+1)).getD t 0=if t=q then o.getD q 0+1 else wd.mem.ws.getD t 0:=λt=>by
  by_cases e:t=q
  ·rw [if_pos e,e,aL hql]
  ·rw [if_neg e,aR (Ne.symm e)]
 have hfull':∀ t,t<n->(wd.mem.ws.set q (o.getD q 0+1)).getD t 0*n<=2^m - 1:=λt ht=>by
  rw [hget]
  split
  ·exact hfq
  ·exact hfull t ht
 have ha:ghA n (wd.mem.ws.set q (o.getD q 0+1))=bR (ghA n wd.mem.ws) q (ghA n wd.mem.ws q+1):=by
  funext t
  unfold bR
  by_cases e:t=q
  ·subst e
   rw [if_pos rfl]
   unfold ghA
   rw [if_pos hq,if_pos hq,hget,if_pos rfl,ho]
  ·rw [if_neg e]
   unfold ghA
   rw [hget,if_neg e]
 have hs:ghS n m (wd.mem.ws.set q (o.getD q 0+1))=ghS n m wd.mem.ws:=by
  funext v k
  unfold ghS
  by_cases h9:1<=v/\v<aK n/\1<=k/\k<2^m
  ·obtain⟨a,b,c,d⟩:=h9
   have:=(BJ (n:=n) (m:=m) a b c d).1
   rw [hget,if_neg (by omega)]
  ·have hno:∀ P:Prop,¬ (1<=v/\v<aK n/\1<=k/\k<2^m/\P):=λP z=>h9 ⟨z.1,z.2.1,z.2.2.1,z.2.2.2.1⟩
   rw [decide_eq_false (hno _),decide_eq_false (hno _)]
 have hsm:=FI hn1 hfull'
 obtain⟨r',hr'⟩:∃ r',r'=Gh.A n (aK n) ⟨ghA n (wd.mem.ws.set q (o.getD q 0+1)),bR w q ((aK n+q) / 2),M,rk,ghS n m wd.mem.ws⟩ ((aK n+q) / 2):=⟨_,rfl⟩
 have g1:=GInv.begin hn h hq hw _ _ ha rfl r' hr' hsm
 have hG:dU n m (wd.mem.ws.set q (o.getD q 0+1)) (bR w q ((aK n+q) / 2)) M (bR rk q r')=⟨ghA n (wd.mem.ws.set q (o.getD q 0+1)),bR w q ((aK n+q) / 2),M,bR rk q r',ghS n m wd.mem.ws⟩:=by
  unfold dU
  rw [hs]
 refine⟨bR rk q r',List.length_set ..,hget,?_,by rw [hG];exact g1,λp hp=>dE hp,hfull',λh1=>?_⟩
 ·rw [hG]
  refine⟨λt=>?_,λv k h=>h⟩
  show ghA n wd.mem.ws t<=ghA n _ t
  rw [ha]
  by_cases e:t=q
  ·rw [e,bG];omega
  ·rw [dE e];exact Nat.le_refl _
 ·rw [hG]
  obtain⟨z1,z2⟩:=xH (now:=wd.now) (q:=q) (x:=ad0) hm hn g1 h1 (by omega) (by
   show bR rk q r' q<=_
   rw [bG,hr']
   exact Nat.le_refl _)
  refine⟨z1,?_⟩
  have h2:=vD (q:=q) hn (by omega) (by omega)
  unfold gB
  rw [<-h2,Nat.add_mul,Nat.one_mul]
  omega
theorem sG (n m:Nat) (y:AdD) (v:Nat):(y.climb n m v).v=v:=by
 unfold AdD.climb
 split
 ·rfl
 ·unfold AdD.pass AdD.pass1 AdD.pass2
  split<;>split<;>rfl
end
end Go.Proofs.Ytifhldnmcdbpfaa
