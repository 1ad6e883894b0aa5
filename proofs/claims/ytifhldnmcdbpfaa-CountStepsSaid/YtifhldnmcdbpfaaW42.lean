/- Layer 11: what every play of a counter keeps, in plain numbers: each turn keeps it. -/
import Derived.Test.YtifhldnmcdbpfaaW41
set_option maxRecDepth 100000
set_option linter.unusedVariables false
set_option linter.unusedSimpArgs false
set_option linter.unnecessarySimpa false
namespace Go.Proofs.Ytifhldnmcdbpfaa
open Go.RowKit
def wOf:Option CtS->Nat
 | some (.ad x)=>x.v
 | _=>0
theorem nU {hands:List (Option CtS×Nat)} {h16 q:Nat} (hl:hands.length=h16) (hq:q<h16) (mo:Option CtS) (k:Nat):ctW (hands.set q (mo,k))=bQ (ctW hands) q (wOf mo):=by
 funext t
 unfold bQ
 by_cases e:t=q
 ·rw [if_pos e,e]
  unfold ctW
  rw [aL (by omega)]
  match mo with
  | some (.ad x)=>rfl
  | some (.rd l)=>rfl
  | none=>rfl
 ·rw [if_neg e]
  unfold ctW
  rw [aR (Ne.symm e)]
theorem rU {hands:List (Option CtS×Nat)} {q:Nat} (h:(hands.getD q (none,0)).1=none):ctW hands q=0:=by
 unfold ctW;rw [h]
theorem IZ {hands:List (Option CtS×Nat)} {q k:Nat} {s:CtS} (h:hands.getD q (none,0)=(some s,k)):ctW hands q=wOf (some s):=by
 unfold ctW
 rw [h]
 match s with
 | .ad x=>rfl
 | .rd l=>rfl
theorem xY (n m p:Nat) (wd:WD) (l:LkD):∃ a,(aI n m p wd l).1=dJ wd a:=by
 unfold aI
 split
 ·exact⟨_,rfl⟩
 ·split
  ·exact⟨_,gI _ _ _ _⟩
  ·exact⟨_,gI _ _ _ _⟩
theorem FU {n m p:Nat} {o:List Nat} {wd:WD} {x:AdD} (h:∀ a z,z∈wd.traces a->0<=z/\z<=(wd.now:Int)):(∀ a z,z∈(dU n m o wd p x).2.1.traces a->0<=z/\z<=(wd.now:Int))/\(dU n m o wd p x).2.1.inv=wd.inv/\(dU n m o wd p x).2.1.now=wd.now:=by
 have hl:∀ l,(∀ a z,z∈(aI n m p wd l).1.traces a->0<=z/\z<=(wd.now:Int))/\(aI n m p wd l).1.inv=wd.inv/\(aI n m p wd l).1.now=wd.now:=λl=>by
  obtain⟨a,e⟩:=xY n m p wd l
  rw [e];exact⟨h,rfl,rfl⟩
 have hw:∀ b y,(∀ a z,z∈(aO b p wd y).1.traces a->0<=z/\z<=(wd.now:Int))/\(aO b p wd y).1.inv=wd.inv/\(aO b p wd y).1.now=wd.now:=λb y=>by
  rw [kE]
  obtain⟨a,b,c,_⟩:=KT (b:=b) (x:=y) h
  exact⟨a,b,c⟩
 unfold dU
 split
 ·exact⟨h,rfl,rfl⟩
 ·split
  ·exact hl _
  ·split
   ·exact hl _
   ·split
    ·exact hw _ _
    ·exact hw _ _
theorem uP {n q:Nat} (hn:n<=16) (hq:q<aJ n) (h2:2<=aJ n):lev ((aJ n+q) / 2)+1=lev (aJ n):=by
 have h:∀ L,L<17->L=2∨L=4∨L=8∨L=16->∀ q,q<L->lev ((L+q) / 2)+1=lev L:=by decide
 have:=(bL hn).2.2
 have hp:=nY hn
 exact h (aJ n) (by omega) (by omega) q hq
def PX {n m:Nat} (calls:List aF) (st:aQ (bH n m)) (M rk:Nat->Nat) (q:Nat) (e:EvD):CtS->Prop
 | .rd l=>jZ n m calls st.evs (ctG st M rk) (st.wd.now+1) q e (.rd l)/\ctW (haO st) q=0
 | .ad x=>(jZ n m calls st.evs (ctG st M rk) (st.wd.now+1) q e (.ad x)/\ctW (haO st) q=x.v)∨(x=ad0/\kindOf calls e=0/\e.steps=0/\((obO st).getD q 0+1)*n<=2^m - 1/\ctW (haO st) q=0)
theorem JV {n m:Nat} (hn1:1<=n) (hn:n<=16) (hm:0<m) {calls:List aF} (hthr:∀ c,c<calls.length->0<=(calls.getD c d0).thread/\(calls.getD c d0).thread<n) {st:aQ (bH n m)} {M rk:Nat->Nat} {q i k:Nat} {s:CtS} {bJ:List EvD} {dK:WD} (hg:eB calls st) (h:jB n m calls st M rk) (hf:From calls st q i k s bJ dK) :
  lL calls (aD bJ k)=0/\(aD bJ k).ans.err=0/\PX calls st M rk q (aD bJ k) s:=by
 rcases hf.or with⟨hh,hk,hc,hr,rfl,rfl⟩|⟨hh,hs,rfl,rfl,rfl⟩
 ·obtain⟨_,a1,a2,a3⟩:=h.hand q s k hh
  have hw:=IZ (hands:=haO st) hh
  refine⟨a1,a2,?_⟩
  match s,a3,hw with
  | .rd l,a3,hw=>exact⟨a3,hw⟩
  | .ad x,⟨b1,b2,b3⟩,hw=>exact .inl ⟨⟨b1,b2.mono (Gh.Le.refl _) rfl (Nat.le_succ _),b3⟩,hw⟩
 ·have he:aD (st.evs++[dC i (st.wd.tick.begin q)]) st.evs.length=dC i (st.wd.tick.begin q):=jT
  rw [he]
  have hw:=rU (hands:=haO st) hh
  have ho:lL calls (dC i (st.wd.tick.begin q))=(calls.getD i d0).obj:=rfl
  have hkd:kindOf calls (dC i (st.wd.tick.begin q))=(calls.getD i d0).kind:=rfl
  have hst:(dC i (st.wd.tick.begin q)).steps=0:=rfl
  rw [ho]
  unfold dI at hs
  split at hs
  case isFalse=>cases hs
  rename_i ho0
  refine⟨ho0,rfl,?_⟩
  have hs':(if (calls.getD i d0).kind=1 then Mc.run (CtS.rd (dR n m 1)) else if (calls.getD i d0).kind≠0 then .refuse 9 else if 2^m - 1<((obO st).getD q 0+1)*n then .refuse 6 else .run (.ad ad0))=Mc.run s:=hs
  obtain⟨l1,l2,l3⟩:=bL hn
  split at hs'
  ·rename_i hk1
   cases hs'
   have hk2:(dR n m 1).kind≠2:=by
    show(if 1<aJ n then 0 else if 1 - aJ n<n then 1 else 2)≠2
    split
    ·decide
    ·rw [if_pos (by omega)];decide
   have hrem:dH (dR n m 1)<=m/\dH (dR n m 1)<=fF n m:=by
    refine⟨lQ hm 1,?_⟩
    by_cases hL:1<aJ n
    ·have h1:=lQ (n:=n) hm 1
     have h2:=uP (q:=0) hn (by omega) hL
     unfold fF
     rw [<-h2,Nat.add_mul,Nat.one_mul]
     omega
    ·have e:(dR n m 1).kind≠0:=by
      show(if 1<aJ n then 0 else if 1 - aJ n<n then 1 else 2)≠0
      rw [if_neg hL,if_pos (by omega)];decide
     unfold dH fF
     rw [if_neg e]
     split<;>omega
   refine⟨⟨by rw [hkd];exact hk1,rfl,hk2,by rw [hst,Nat.zero_add];exact hrem.1,by rw [hst,Nat.zero_add];exact hrem.2,_,sG hm hn h.inv (Nat.le_refl _) (Nat.le_refl _),h.low hn hthr hg _,λj hj hc _=>(h.past j hj hc).1⟩,hw⟩
  ·split at hs'
   ·cases hs'
   ·rename_i hk0
    split at hs'
    ·cases hs'
    ·rename_i hfull
     cases hs'
     exact .inr ⟨rfl,by rw [hkd];omega,hst,by omega,hw⟩
theorem zL {wd:WD} {q:Nat} (h:∀ p,wd.inv.getD p 0<=wd.now):∀ p,(wd.tick.begin q).inv.getD p 0<=wd.now+1:=by
 intro p
 show(wd.inv.set q (wd.now+1)).getD p 0<=wd.now+1
 by_cases hpq:q=p
 ·subst hpq
  by_cases hl:q<wd.inv.length
  ·rw [aL hl];exact Nat.le_refl _
  ·rw [List.set_eq_of_length_le (by omega)];exact Nat.le_succ_of_le (h q)
 ·rw [aR hpq];exact Nat.le_succ_of_le (h p)
theorem GX {n m:Nat} {ws:List Nat} (hn1:1<=n) (hfull:∀ t,t<n->ws.getD t 0*n<=2^m - 1):und n (aJ n) (ghA n ws) 1<2^m:=by
 have h1:und n (aJ n) (ghA n ws) 1<=n*((2^m - 1) / n):=wR λt ht=>by
  split
  ·show ghA n ws t<=_
   unfold ghA
   rw [if_pos ht]
   exact(Nat.le_div_iff_mul_le (by omega)).2 (hfull t ht)
  ·exact Nat.zero_le _
 have h2:=Nat.mul_div_le (2^m - 1) n
 have h3:=Nat.two_pow_pos m
 omega
theorem OO {n m q:Nat} {o:List Nat} {wd:WD} {w M rk:Nat->Nat} (hn1:1<=n) (hm:0<m) (hn:n<=16) (hq:q<n) (hlen:wd.mem.ws.length=n+(aJ n - 1)*(2^m - 1)) (h:GInv n m (dS n m wd.mem.ws w M rk)) (hw:w q=0) (ho:wd.mem.ws.getD q 0=o.getD q 0) (hfull:∀ t,t<n->wd.mem.ws.getD t 0*n<=2^m - 1) (hfq:(o.getD q 0+1)*n<=2^m - 1) :
  ∃ rk',(bR wd.mem (q:Int) (o.getD q 0+1)).ws.length=wd.mem.ws.length/\(∀ t,(bR wd.mem (q:Int) (o.getD q 0+1)).ws.getD t 0=if t=q then o.getD q 0+1 else wd.mem.ws.getD t 0)/\
   (dS n m wd.mem.ws w M rk).Le (dS n m (bR wd.mem (q:Int) (o.getD q 0+1)).ws (bQ w q ((aJ n+q) / 2)) M rk')/\GInv n m (dS n m (bR wd.mem (q:Int) (o.getD q 0+1)).ws (bQ w q ((aJ n+q) / 2)) M rk')/\(∀ p,p≠q->rk' p=rk p)/\(∀ t,t<n->(bR wd.mem (q:Int) (o.getD q 0+1)).ws.getD t 0*n<=2^m - 1)/\
   (1<=(aJ n+q) / 2->kV n m (dS n m (bR wd.mem (q:Int) (o.getD q 0+1)).ws (bQ w q ((aJ n+q) / 2)) M rk') wd.now q (ad0.climb n m ((aJ n+q) / 2))/\1+eD m (ad0.climb n m ((aJ n+q) / 2))<=fF n m):=by
 obtain⟨l1,l2,l3⟩:=bL hn
 have hql:q<wd.mem.ws.length:=by rw [hlen];omega
 have hws:(bR wd.mem (q:Int) (o.getD q 0+1)).ws=wd.mem.ws.set q (o.getD q 0+1):=(QU _ hql).1
 rw [hws]
 have hget:∀ t,(wd.mem.ws.set q (o.getD q 0+1)).getD t 0=if t=q then o.getD q 0+1 else wd.mem.ws.getD t 0:=λt=>by
  by_cases e:t=q
  ·rw [if_pos e,e,aL hql]
  ·rw [if_neg e,aR (Ne.symm e)]
 have hfull':∀ t,t<n->(wd.mem.ws.set q (o.getD q 0+1)).getD t 0*n<=2^m - 1:=λt ht=>by
  rw [hget]
  split
  ·exact hfq
  ·exact hfull t ht
 have ha:ghA n (wd.mem.ws.set q (o.getD q 0+1))=bQ (ghA n wd.mem.ws) q (ghA n wd.mem.ws q+1):=by
  funext t
  unfold bQ
  by_cases e:t=q
  ·subst e
   rw [if_pos rfl]
   unfold ghA
   rw [if_pos hq,if_pos hq,hget,if_pos rfl,ho]
  ·rw [if_neg e]
   unfold ghA
   rw [hget,if_neg e]
 have hs:ghS n m (wd.mem.ws.set q (o.getD q 0+1))=ghS n m wd.mem.ws:=by
  funext v k
  unfold ghS
  by_cases h9:1<=v/\v<aJ n/\1<=k/\k<2^m
  ·obtain⟨a,b,c,d⟩:=h9
   have:=(CE (n:=n) (m:=m) a b c d).1
   rw [hget,if_neg (by omega)]
  ·have hno:∀ P:Prop,¬ (1<=v/\v<aJ n/\1<=k/\k<2^m/\P):=λP z=>h9 ⟨z.1,z.2.1,z.2.2.1,z.2.2.2.1⟩
   rw [decide_eq_false (hno _),decide_eq_false (hno _)]
 have hsm:=GX hn1 hfull'
 obtain⟨r',hr'⟩:∃ r',r'=Gh.A n (aJ n) ⟨ghA n (wd.mem.ws.set q (o.getD q 0+1)),bQ w q ((aJ n+q) / 2),M,rk,ghS n m wd.mem.ws⟩ ((aJ n+q) / 2):=⟨_,rfl⟩
 have g1:=GInv.begin hn h hq hw _ _ ha rfl r' hr' hsm
 have hG:dS n m (wd.mem.ws.set q (o.getD q 0+1)) (bQ w q ((aJ n+q) / 2)) M (bQ rk q r')=⟨ghA n (wd.mem.ws.set q (o.getD q 0+1)),bQ w q ((aJ n+q) / 2),M,bQ rk q r',ghS n m wd.mem.ws⟩:=by
  unfold dS
  rw [hs]
 refine⟨bQ rk q r',List.length_set ..,hget,?_,by rw [hG];exact g1,λp hp=>dD hp,hfull',λh1=>?_⟩
 ·rw [hG]
  refine⟨λt=>?_,λv k h=>h⟩
  show ghA n wd.mem.ws t<=ghA n _ t
  rw [ha]
  by_cases e:t=q
  ·rw [e,bG];omega
  ·rw [dD e];exact Nat.le_refl _
 ·rw [hG]
  obtain⟨z1,z2⟩:=wO (now:=wd.now) (q:=q) (x:=ad0) hm hn g1 h1 (by omega) (by
   show bQ rk q r' q<=_
   rw [bG,hr']
   exact Nat.le_refl _)
  refine⟨z1,?_⟩
  have h2:=uP (q:=q) hn (by omega) (by omega)
  unfold fF
  rw [<-h2,Nat.add_mul,Nat.one_mul]
  omega
theorem rH (n m:Nat) (y:AdD) (v:Nat):(y.climb n m v).v=v:=by
 unfold AdD.climb
 split
 ·rfl
 ·unfold AdD.pass AdD.pass1 AdD.pass2
  split<;>split<;>rfl
end Go.Proofs.Ytifhldnmcdbpfaa
