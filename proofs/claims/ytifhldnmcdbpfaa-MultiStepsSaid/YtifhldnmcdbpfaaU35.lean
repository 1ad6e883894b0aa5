/- Layer 15: what every play of a snapshot keeps: the turns of one that updates, and those that are refused. -/
import Derived.Test.YtifhldnmcdbpfaaU20
import Derived.Test.YtifhldnmcdbpfaaU33
import Derived.Test.YtifhldnmcdbpfaaU22
import Derived.Test.YtifhldnmcdbpfaaU34
import Derived.Test.YtifhldnmcdbpfaaU16
import Derived.Test.YtifhldnmcdbpfaaU15
set_option maxRecDepth 100000
set_option linter.unusedVariables false
set_option linter.unusedSimpArgs false
set_option linter.unnecessarySimpa false
namespace Go.Proofs.Ytifhldnmcdbpfaa
section
open Go.RowKit
variable {n k:Nat} {calls:List aF}
section
variable {st:aP (EE n k)} {q i j:Nat} {aU:List EvD} {rho:Nat->Nat} {bQ:WD}
end
end
section
open Go.RowKit
variable {n k:Nat} {calls:List aF}
theorem yO.stepsLe {prt val:aF->Nat} {rho:Nat->Nat} {evs:List EvD} {traces:Int->List Int} {T p I N:Nat} {s:ScD} (hn:n<=16) (hp:p<n) (h:yO n calls prt val rho evs traces T p I N s):N<=(n+1)*n+n:=by
 rcases h.body with⟨_,c⟩|⟨_,c⟩|⟨_,c⟩|⟨_,c⟩
 ·have h1:=DY hp (by have:=h.l3;omega) h.dn h.own
  have h2:=c.few
  have h3:s.rounds*n<=n*n:=Nat.mul_le_mul_right n (by omega)
  have h4:=c.at_
  rw [c.steps,Nat.succ_mul];omega
 ·have:=c.steps;have:=c.at_;omega
 ·have:=c.steps;have:=c.at_;omega
 ·exact c.steps
structure VQ (n k:Nat) (calls:List aF) (evs:List EvD):Prop where
 call:∀ i,i<evs.length->(aB evs i).call<calls.length
 steps:∀ i,i<evs.length->(aB evs i).steps<=(n+1)*n+n+n+2/\(kindOf calls (aB evs i)=1->(aB evs i).steps<=(n+1)*n+n)
end
section
open Go.RowKit
variable {n m q:Nat} {calls:List aF}
theorem KX (hm:1<=m) (n q:Nat) (calls:List aF):MuInv n m q calls (bM (aR n m q) fA (List.replicate (bF n m q) 0) calls) (λ_=>0):=by
 have hz:∀ t,List.getD (α:=Nat) (bM (aR n m q) fA (List.replicate (bF n m q) 0) calls).obj t 0=0:=λt=>iV
 have hw:∀ a,(List.replicate (bF n m q) 0).getD a 0=0:=λa=>iV
 refine⟨rfl,rfl,Nat.le_refl _,by show(List.replicate (bF n m q) 0).length=_;rw [List.length_replicate];rfl,rfl,λt=>by rw [hz];exact Nat.zero_le _,λt _=>by rw [hz];rfl,⟨λi hi=>⟨none,λj hj=>absurd hj (Nat.not_lt_zero _),hw i⟩,by show m<=(List.replicate (bF n m q) 0).length;rw [List.length_replicate];unfold bF;omega,λx hx=>absurd hx (Nat.not_lt_zero _),λx y hx=>absurd hx (Nat.not_lt_zero _),λx hx=>absurd hx (Nat.not_lt_zero _),λx hx=>absurd hx (Nat.not_lt_zero _),λx y hx=>absurd hx (Nat.not_lt_zero _),λx y hx=>absurd hx (Nat.not_lt_zero _)⟩,λx hx=>absurd hx (Nat.not_lt_zero _),λx y hx=>absurd hx (Nat.not_lt_zero _),λp s j hp=>?_,λj hj=>absurd hj (Nat.not_lt_zero _)⟩
 rw [show(bM (aR n m q) fA (List.replicate (bF n m q) 0) calls).hands.getD p (none,0)=(none,0) from iV] at hp;cases hp
theorem uB {np:Nat} (hck:checkN n calls np=0) (hm:1<=m) (dF:m<=16) (hq:1<=q) (dQ:q<=64) (l:List Int):bH calls (dX (aR n m q) calls (bM (aR n m q) fA (List.replicate (bF n m q) 0) calls) l)/\kQ (dX (aR n m q) calls (bM (aR n m q) fA (List.replicate (bF n m q) 0) calls) l)/\∃ rho,MuInv n m q calls (dX (aR n m q) calls (bM (aR n m q) fA (List.replicate (bF n m q) 0) calls) l) rho:=by
 obtain⟨hn1,hn16⟩:=zD hck
 have hthr':=DC hck
 have hthr:∀ c,c<calls.length->0<=(calls.getD c d0).thread/\(calls.getD c d0).thread<n:=λc hc=>by have:=tK hck c hc;omega
 have hnow:=(tX n m q 0 0 hm dF hq dQ).now
 exact wL (S:=aR n m q) hnow hthr' (J:=λst=>kQ st/\∃ rho,MuInv n m q calls st rho) (λst st' hg _ hj hT=>⟨CX hnow hg hj.1 hT,OW hm (by omega) hthr hg hj.2 hT⟩) l (BV (S:=aR n m q) calls fA (List.replicate (bF n m q) 0)) ⟨λi j hi=>absurd hi (Nat.not_lt_zero _),_,KX hm n q calls⟩
theorem kS.stepsLe {rho:Nat->Nat} {evs:List EvD} {ws:List Nat} {T p I N:Nat} {s:MuD} (hn:n<=16) (hp:p<n) (h:kS n m calls gV iZ rho evs ws T p I N s):N<=(n+1)*m+m:=by
 rcases h.body with⟨_,c⟩|⟨_,c⟩
 ·obtain⟨R,r1,r2,_⟩:=c.rnd
  have h1:=IV hp (by have:=h.n16;omega) c.dn c.own
  have h3:R*m<=n*m:=Nat.mul_le_mul_right m (by omega)
  have h4:=c.lt
  rw [r1,Nat.succ_mul];omega
 ·have:=c.steps;have:=c.len;omega
theorem FJ {rho:Nat->Nat} {evs:List EvD} {ws:List Nat} {traces:Int->List Int} {T p I N:Nat} {s:MuD} {wd:WD} (dF:m<=16) (hn16:n<=16) (htr:wd.traces=traces) (hws:wd.mem.ws=ws) (hR:yD n m q calls gV iZ rho evs ws traces T) (hlow:∀ x,x<evs.length->piW calls (aB evs x)->m<=rho x) (hwl:ws.length<=20000)
  (h:kS n m calls gV iZ rho evs ws T p I N s) (hlive:aS s=false):nA m q wd s:=by
 obtain⟨h16,hit,hb⟩:=h
 have hpos:∀ x,x<evs.length->piW calls (aB evs x)->0<rho x/\rho x<=20000:=λx hx hw=>⟨(hR.ok.pos x hx hw).1,by have:=(hR.ok.pos x hx hw).2;omega⟩
 rcases hb with⟨hc,c⟩|⟨hc,c⟩
 ·refine⟨λh9=>(by rw [hc] at h9;cases h9),λ_=>⟨c.lt,c.nilL,λhl=>?_⟩⟩
  have hat:=c.lt
  have hlt:s.now.length<ws.length:=Nat.lt_of_lt_of_le hat hR.ok.nw
  have hg:dP wd s.now.length=ws.getD s.now.length 0:=by rw [uM (by rw [hws];exact hlt),hws]
  rw [hg]
  obtain⟨g,hgg⟩:∃ g,g=ws.getD s.now.length 0:=⟨_,rfl⟩
  rw [<-hgg]
  have hcell:=hR.ok.cell s.now.length hat
  rw [<-hgg] at hcell
  have hcur:∀ i,i<m->∃ a,I<=a/\a<=T/\(s.old≠[]->s.last<=a)/\fI calls gV rho evs i a ((s.now++[g]).getD i 0):=λi hi=>by
   by_cases e:i=s.now.length
   ·rw [e,qI]
    exact⟨T,hit,Nat.le_refl _,λhr=>(c.last hr).2,hcell⟩
   ·rw [gB (by omega)]
    exact c.cur i (by omega)
  have hrec:∀ i,i<m->(s.now++[g]).getD i 0≠0->∃ x,x<evs.length/\piW calls (aB evs x)/\(s.now++[g]).getD i 0=rho x:=λi hi h0=>by
   obtain⟨a,_,_,_,oj,o1,o2⟩:=hcur i hi
   match oj,o1,o2 with
   | none,_,o2=>exact absurd o2 h0
   | some y,o1,o2=>exact⟨y,o1.1,o1.2.1,o2⟩
  have hlen:(s.now++[g]).length=m:=by simp;omega
  have hdf:s.old≠[]->∀ k,k<m->s.old.getD k 0≠(s.now++[g]).getD k 0->∃ x,x<evs.length/\piW calls (aB evs x)/\(s.now++[g]).getD k 0=rho x:=λho k hk hne=>by
   obtain⟨a,a1,a2,a3,_⟩:=c.prev ho k hk
   obtain⟨b,b1,b2,b3,b4⟩:=hcur k hk
   obtain⟨j,j1,j2,_⟩:=a3.differ hR.ok.apart (Nat.le_trans a2 (b3 ho)) b4 hne
   exact⟨j,j1.1,j1.2.1,j2⟩
  have hlim:s.old≠[]->∀ i,s.old.getD i 0≠(s.now++[g]).getD i 0->i<m:=λho i hne=>by
   refine Nat.lt_of_not_le λh9=>hne ?_
   rw [List.getD_eq_getElem?_getD,List.getElem?_eq_none (by have:=c.lo ho;omega),List.getD_eq_getElem?_getD,List.getElem?_eq_none (by omega)]
  refine⟨?_,λk=>?_,λho k hk hne=>?_,λho d A hd=>?_⟩
  ·by_cases ho:s.old=[]
   ·exact .inl ho
   ·exact .inr (c.lo ho)
  ·by_cases hk:k<m
   ·by_cases h0:(s.now++[g]).getD k 0=0
    ·omega
    ·obtain⟨x,x1,x2,x3⟩:=hrec k hk h0
     have:=hpos x x1 x2
     omega
   ·rw [List.getD_eq_getElem?_getD,List.getElem?_eq_none (by omega)]
    show 0<=_
    omega
  ·obtain⟨x,x1,x2,x3⟩:=hdf ho k hk hne
   have:=hpos x x1 x2
   have:=hlow x x1 x2
   have hw:=hR.wr x x1 x2
   rw [x3,hw.1]
   exact⟨by omega,by omega,by omega⟩
  ·obtain⟨_,s2⟩:=kF m q s.old (s.now++[g]) m 0 s.noted (λi _ _ hne=>by
    obtain⟨x,x1,x2,x3⟩:=hdf ho i (hlim ho i hne) hne
    have:=hpos x x1 x2
    have hw:=hR.wr x x1 x2
    rw [x3,hw.1]
    exact⟨by omega,by omega⟩)
   obtain⟨_,i,_,i2,i3,b,b0,bA,bb⟩:=s2 d A hd
   have hA:∃ x,x<evs.length/\piW calls (aB evs x)/\A=rho x:=by
    obtain⟨x,x1,x2,x3⟩:=hdf ho i (hlim ho i i3) i3
    have hb:∃ y,y<evs.length/\piW calls (aB evs y)/\b=rho y:=by
     rcases bb with bb|⟨i',_,q2,q3,_,q5⟩
     ·obtain⟨jj,k1,k2,_,k4,_⟩:=c.noted _ (by rw [<-bb];exact b0)
      exact⟨jj,k1,k2,bb.trans k4⟩
     ·obtain⟨y,y1,y2,y3⟩:=hdf ho i' (hlim ho i' q3) q3
      exact⟨y,y1,y2,q5.trans y3⟩
    obtain⟨y,y1,y2,y3⟩:=hb
    by_cases hle:(s.now++[g]).getD i 0<=b
    ·exact⟨y,y1,y2,by rw [bA,Nat.max_eq_right hle,y3]⟩
    ·exact⟨x,x1,x2,by rw [bA,Nat.max_eq_left (Nat.le_of_not_le hle),x3]⟩
   obtain⟨x,x1,x2,x3⟩:=hA
   have:=hpos x x1 x2
   obtain⟨mm,v1,_⟩:=hR.ok.view x x1 x2
   refine⟨by omega,?_⟩
   rw [htr,x3,v1]
   exact List.cons_ne_nil _ _
 ·refine⟨λ_=>?_,λh9=>(by rw [hc] at h9;cases h9)⟩
  have hne:s.reads≠[]:=λe=>by
   have:aS s=true:=by unfold aS;rw [hc,decide_eq_true e];rfl
   rw [this] at hlive;cases hlive
  obtain⟨x,r,hxr⟩:∃ x r,s.reads=x::r:=List.exists_cons_of_ne_nil hne
  obtain⟨mm,m1,m2,m3,m4,m5⟩:=c.mom
  have hh:=c.head hne
  obtain⟨_,p2⟩:=m5 0 (by rw [hxr];simp)
  obtain⟨jj,cc,j1,j2,j3,j4⟩:=p2 hh
  have:=hpos jj j1 j2
  rw [hxr] at j4
  have j4:x=rho jj+cc:=j4
  have:=c.len
  exact⟨x,r,hxr,by omega,by omega⟩
theorem JL:∀(l:List Nat) (k:Nat),(∀ t,l.getD t 0<=k)->l.sum<=l.length*k
 | [],k,_=>by simp
 | x::l,k,h=>by
  have h0:x<=k:=h 0
  have:=JL l k (λt=>h (t+1))
  rw [List.length_cons,Nat.succ_mul,List.sum_cons]
  omega
theorem ED {st:aP (aR n m q)} {p i j:Nat} {aU:List EvD} {rho:Nat->Nat} {s:MuS} {bQ:WD} (hm:1<=m) (dF:m<=16) (hn16:n<=16) (dQ:q<=64) (hthr:∀ c,c<calls.length->0<=(calls.getD c d0).thread/\(calls.getD c d0).thread<n) (hg:bH calls st) (h:MuInv n m q calls st rho) (ht:st.wd.now<=1000000) (hN:gU calls st.fin (p:Int)=some i) (hf:From calls st p i j s aU bQ):DR m q st.obj bQ s:=by
 have hopen:(aB aU j).resp=0:=hf.open_
 have hnx:=hf.next hg hN (aV (aB aU j)) rfl
 have hqn:=pY hthr hN
 have hwl:st.wd.mem.ws.length<=20000:=by rw [h.wl];exact qL hn16 dF dQ
 obtain⟨g1,g2⟩:=lL hm hg h hf hnx (.inl hopen) (eH hopen)
 have hlow:∀ x,x<(aU.set j (aV (aB aU j))).length->piW calls (aB (aU.set j (aV (aB aU j))) x)->m<=rho x:=λx hx hp=>by
  obtain⟨r,_,r2⟩:=uP (st:=st) hnx (eH hopen) h x hx hp
  rw [r2,iK];exact Nat.le_add_right _ _
 have sc:∀(x:MuD) (N:Nat),aS x=false->kS n m calls gV iZ rho (aU.set j (aV (aB aU j))) st.wd.mem.ws (st.wd.now+1) p (aB aU j).inv N x->nA m q bQ x/\(aS (bJ m q bQ x)=true->(bJ m q bQ x).list.length=m/\0<=(bJ m q bQ x).moment/\(bJ m q bQ x).moment<1000000000):=λx N h3 hx=>by
  obtain⟨a1,a2,a3⟩:=nN hm hn16 hthr hg h hN hf hnx (.inl hopen) (eH hopen) h3 hx
  refine⟨FJ dF hn16 hf.trs (show bQ.mem.ws=st.wd.mem.ws by rw [hf.mem]) a3 hlow hwl hx h3,λe=>?_⟩
  obtain⟨c1,_,mm,m1,m2,m3,_⟩:=a2.over e
  exact⟨c1,by omega,by omega⟩
 match s,g2 with
 | .rd x key,⟨_,_,h3,hx⟩=>
  obtain⟨b1,b2⟩:=sc x _ h3 hx
  exact⟨b1,λe=>(b2 e).2⟩
 | .up x p' a r k v wr,⟨_,g3,g3a,g3b,_,g5,g6,g7⟩=>
  rcases g7 with⟨rfl,_,h3,hx⟩|⟨rfl,h3,h4,⟨N,hx,_⟩,_⟩
  ·obtain⟨b1,b2⟩:=sc x _ h3 hx
   exact⟨b1,λe=>(b2 e).1⟩
  ·obtain⟨c1,_⟩:=hx.over h3
   have hhi:=uL (n:=n) (m:=m) hqn g5
   have hsz:CY n m q<=20000:=qL hn16 dF dQ
   have hsum:=JL st.obj q h.uk
   rw [h.u16] at hsum
   have hsum:List.sum (α:=Nat) st.obj<=16*q:=hsum
   have hpu:=h.uk p'
   refine⟨c1,by omega,h4,by omega,?_,by omega,by omega⟩
   show List.getD (α:=Nat) st.obj p' 0<1000000
   omega
theorem NZ (hm:1<=m) (dF:m<=16) (hq:1<=q) (dQ:q<=64) {picks:List Int} (hck:checkN n calls picks.length=0):∀ l p k,picks=l++p::k->qQ (sS n m q 0 0) calls (dX (aR n m q) calls (bM (aR n m q) fA (List.replicate (bF n m q) 0) calls) l) p:=by
 intro l p k hl i hN
 obtain⟨hn1,hn16⟩:=zD hck
 have hnp:=zN hck
 have hll:l.length<picks.length:=by rw [hl];simp
 have htk:=kG (S:=aR n m q) (tX n m q 0 0 hm dF hq dQ).now (bM (aR n m q) fA (List.replicate (bF n m q) 0) calls) l (calls:=calls)
 rw [show(bM (aR n m q) fA (List.replicate (bF n m q) 0) calls).wd.now=0 from rfl,show(bM (aR n m q) fA (List.replicate (bF n m q) 0) calls).idle=0 from rfl] at htk
 obtain⟨a,_,rho,b⟩:=uB hck hm dF hq dQ l
 have hthr:∀ c,c<calls.length->0<=(calls.getD c d0).thread/\(calls.getD c d0).thread<n:=λc hc=>by have:=tK hck c hc;omega
 have hN0:=hN
 obtain⟨n1,n2,n3⟩:=fQ hN
 have ht:=DC hck i n1
 obtain⟨z,rfl⟩:∃ z:Nat,p=(z:Int):=⟨p.toNat,by omega⟩
 simp only [Int.toNat_natCast]
 refine⟨λs j hh=>?_,λhh s hs=>?_⟩
 ·obtain⟨k1,k2,k3,k4⟩:=a.ev.hand z j (by unfold dU;rw [hh];rfl)
  have hc:(aB (dX (aR n m q) calls (bM (aR n m q) fA (List.replicate (bF n m q) 0) calls) l).evs j).call=i:=by rw [hN] at k4;exact(Option.some.inj k4).symm
  exact ED hm dF (by omega) dQ hthr a b (by omega) hN (.old j s hh k1 hc k3)
 ·exact ED hm dF (by omega) dQ hthr a b (by omega) hN (.new s hh hs)
theorem KO {st:aP (aR n m q)} {rho:Nat->Nat} (hn:n<=16) (hthr:∀ c,c<calls.length->0<=(calls.getD c d0).thread/\(calls.getD c d0).thread<n) (hg:bH calls st) (h:MuInv n m q calls st rho) {i:Nat} (hi:i<st.evs.length):(aB st.evs i).steps<=(n+1)*m+m+m+2/\(kindOf calls (aB st.evs i)=1->(aB st.evs i).steps<=(n+1)*m+m):=by
 by_cases hr:(aB st.evs i).resp=0
 ·have ho:=(hg.ev.open_ i hi hr).2
  unfold dU at ho
  obtain⟨p,hp⟩:∃ p,p=tn calls (aB st.evs i):=⟨_,rfl⟩
  have hpn:p<n:=by
   have h5:=hthr _ (hg.ev.call i hi)
   rw [hp];unfold tn;omega
  rw [<-hp] at ho
  cases hh:st.hands.getD p (none,0) with
  | mk mc j=>
   rw [hh] at ho
   cases mc with
   | none=>simp at ho
   | some s=>
    simp only [Option.isSome_some,if_true,Option.some.injEq] at ho
    subst ho
    obtain⟨_,g2⟩:=h.hand p s j hh
    match s,g2 with
    | .rd x key,⟨_,_,_,hx⟩=>
     have:=hx.stepsLe hn hpn
     exact⟨by omega,λ_=>this⟩
    | .up x p' a r k v wr,⟨k0,_,_,_,_,_,_,g7⟩=>
     refine⟨?_,λh1=>by omega⟩
     rcases g7 with⟨_,_,_,hx⟩|⟨_,_,h4,⟨N,hx,h5⟩,_⟩
     ·have:=hx.stepsLe hn hpn;omega
     ·have:=hx.stepsLe hn hpn;omega
 ·exact(h.told i hi hr).st
structure JA (n m:Nat) (calls:List aF) (evs:List EvD):Prop where
 call:∀ i,i<evs.length->(aB evs i).call<calls.length
 steps:∀ i,i<evs.length->(aB evs i).steps<=m*(n+2)+m+2/\(kindOf calls (aB evs i)=1->(aB evs i).steps<=m*(n+2))
theorem qD (hm:1<=m) (dF:m<=16) (hq:1<=q) (dQ:q<=64) {picks:List Int} (hck:checkN n calls picks.length=0) :
  (iM (aR n m q) fA (List.replicate (bF n m q) 0) calls picks).evs.length<=picks.length/\JA n m calls (iM (aR n m q) fA (List.replicate (bF n m q) 0) calls picks).evs:=by
 obtain⟨hn1,hn16⟩:=zD hck
 have hnp:=zN hck
 have hthr:∀ c,c<calls.length->0<=(calls.getD c d0).thread/\(calls.getD c d0).thread<n:=λc hc=>by have:=tK hck c hc;omega
 have htk:=kG (S:=aR n m q) (tX n m q 0 0 hm dF hq dQ).now (bM (aR n m q) fA (List.replicate (bF n m q) 0) calls) picks (calls:=calls)
 rw [show(bM (aR n m q) fA (List.replicate (bF n m q) 0) calls).wd.now=0 from rfl,show(bM (aR n m q) fA (List.replicate (bF n m q) 0) calls).idle=0 from rfl] at htk
 obtain⟨hg,_,rho,h⟩:=uB hck hm dF hq dQ picks
 obtain⟨st,hst⟩:∃ st,st=dX (aR n m q) calls (bM (aR n m q) fA (List.replicate (bF n m q) 0) calls) picks:=⟨_,rfl⟩
 rw [<-hst] at hg h htk
 have hE:(iM (aR n m q) fA (List.replicate (bF n m q) 0) calls picks).evs=bR (aR n m q) st:=by rw [hst];rfl
 rw [hE]
 have hlen:=oI (calls:=calls) hg
 obtain⟨e1,e2⟩:=zQ st (λ_ _ _ _=>rfl) (List.range 16) st.evs
 have hev:=hg.ev.len_le
 have hsame:∀ i,(aB (bR (aR n m q) st) i).call=(aB st.evs i).call/\(aB (bR (aR n m q) st) i).inv=(aB st.evs i).inv/\(aB (bR (aR n m q) st) i).resp=(aB st.evs i).resp/\(aB (bR (aR n m q) st) i).steps=(aB st.evs i).steps/\(aB (bR (aR n m q) st) i).ans=(aB st.evs i).ans:=e2
 have e9:m*(n+2)=(n+1)*m+m:=by rw [<-Nat.succ_mul,Nat.mul_comm]
 refine⟨by omega,⟨λi hi=>?_,λi hi=>?_⟩⟩
 ·rw [hlen] at hi
  rw [(hsame i).1];exact hg.ev.call i hi
 ·rw [hlen] at hi
  obtain⟨s1,s2,s3,s4,s5⟩:=hsame i
  unfold kindOf
  rw [s1,s4,e9]
  exact KO (by omega) hthr hg h hi
end
section
open Go.RowKit
end
section
open Go.RowKit
theorem pE {q0 q1 q2:Int} {calls:List aF} {np:Nat} (h:fM q0 q1 q2 calls np=0):checkN q0 calls np=0/\1<=q1/\q1<=16/\1<=q2/\q2<=64:=by
 unfold fM at h
 split at h
 ·rename_i h1;exact absurd h h1
 ·rename_i h1
  split at h
  ·cases h
  ·rename_i h2;exact⟨Classical.not_not.1 h1,by omega,by omega,by omega,by omega⟩
theorem lH (X:Nat->Prop) (w:World) (n m q:Int) (calls:List aF) (picks:List Int) (ca pa:Option Addr) (cc pc:Nat) (hX:∀ b,X b->b<w.heap.size) (hc:iX X w ca calls) (hp:lT w pa picks) :
  Calls Try.prog 17 #[.int .i64 n,.int .i64 m,.int .i64 q,.slice ca calls.length cc,.slice pa picks.length pc] w λe w'=>oW X w w' (fM n m q calls picks.length) (iM (aR n.toNat m.toNat q.toNat) fA (List.replicate (bF n.toNat m.toNat q.toNat) 0) calls picks) e:=by
 refine zZ X w n m q calls picks ca pa cc pc hX hc hp (λh0 h1 h2 h3 h4=>?_)
 have hn:=zD h0
 exact NZ (by omega) (by omega) (by omega) (by omega) (by rw [show((n.toNat:Nat):Int)=n by omega];exact h0)
def gI:List aF:=[⟨0,0,0,0,5,0⟩,⟨1,0,0,0,6,0⟩,⟨1,0,1,0,0,0⟩]
theorem zF:iM (aR 2 1 1) fA (List.replicate (bF 2 1 1) 0) gI [0,0,0,0,0,1,1,1,1,1,1,1,1,1]=⟨[⟨0,1,5,5,⟨0,0,[]⟩,[10]⟩,⟨1,6,11,6,⟨0,0,[]⟩,[22]⟩,⟨2,12,14,3,⟨0,0,[6]⟩,[24,28]⟩],[3,5,0,6,5],⟨8,6,0,0,0⟩,14,0⟩:=by kernel_rfl
theorem vK:fM 2 1 1 gI 14=0:=by rfl
set_option maxHeartbeats 4000000 in
theorem vS (w:World):Calls Try.prog 16 #[] w λe w'=>e=.returned (.bool true)/\Below w.heap.size w w':=by
 obtain⟨wa,hwa⟩:∃ wa,wa=(w.alloc (.cells #[.int .i64 0,.int .i64 0,.int .i64 0,.int .u64 0,.int .u64 5,.int .u64 0,.int .i64 1,.int .i64 0,.int .i64 0,.int .u64 0,.int .u64 6,.int .u64 0,.int .i64 1,.int .i64 0,.int .i64 1,.int .u64 0,.int .u64 0,.int .u64 0] 46)).alloc (.cells #[.int .i64 0,.int .i64 0,.int .i64 0,.int .i64 0,.int .i64 0,.int .i64 1,.int .i64 1,.int .i64 1,.int .i64 1,.int .i64 1,.int .i64 1,.int .i64 1,.int .i64 1,.int .i64 1] 3):=⟨_,rfl⟩
 have hga:Below w.heap.size w wa:=by rw [hwa];exact Gr.alloc (Gr.new _ _) _
 have h1:wa.heap[w.heap.size]?=some (.cells (gI.flatMap sQ).toArray 46 (0,0)):=by rw [hwa,Below.heap_alloc _ _ _ (by simp),heap_alloc_new];rfl
 have h2:wa.heap[w.heap.size+1]?=some (.cells (([0,0,0,0,0,1,1,1,1,1,1,1,1,1]:List Int).map (Value.int .i64)).toArray 3 (0,0)):=by
  rw [hwa]
  have:=heap_alloc_new (w.alloc (.cells #[.int .i64 0,.int .i64 0,.int .i64 0,.int .u64 0,.int .u64 5,.int .u64 0,.int .i64 1,.int .i64 0,.int .i64 0,.int .u64 0,.int .u64 6,.int .u64 0,.int .i64 1,.int .i64 0,.int .i64 1,.int .u64 0,.int .u64 0,.int .u64 0] 46)) (.cells #[.int .i64 0,.int .i64 0,.int .i64 0,.int .i64 0,.int .i64 0,.int .i64 1,.int .i64 1,.int .i64 1,.int .i64 1,.int .i64 1,.int .i64 1,.int .i64 1,.int .i64 1,.int .i64 1] 3 (0,0))
  simp only [World.size_alloc] at this
  exact this
 have P:=lH noB wa 2 1 1 gI [0,0,0,0,0,1,1,1,1,1,1,1,1,1] (some ⟨w.heap.size,0,none⟩) (some ⟨w.heap.size+1,0,none⟩) 3 14 (λb hb=>hb.elim) ⟨zU h1 (by decide),(by
   intro x hx
   simp only [gI,List.mem_cons,List.not_mem_nil,or_false] at hx
   rcases hx with rfl|rfl|rfl<;>exact xG (by decide) (by decide) (by decide) (by decide) (by decide) (by decide) (by decide)),λ_ _ _ _ h=>h⟩ ⟨oJ h2 (by decide),by intro x hx;simp only [List.mem_cons,List.not_mem_nil,or_false] at hx;rcases hx with rfl|rfl|rfl|rfl|rfl|rfl|rfl|rfl|rfl|rfl|rfl|rfl|rfl|rfl<;>rfl⟩
 rw [show([0,0,0,0,0,1,1,1,1,1,1,1,1,1]:List Int).length=14 from rfl,vK,show(2:Int).toNat=2 from rfl,show(1:Int).toNat=1 from rfl,zF,show gI.length=3 from rfl] at P
 have HP:=Lib.hid P;have Hwa:=Lib.hid hwa;have Hga:=Lib.hid hga
 clear P h1 h2 hwa hga
 go_enter Try.func16,Try.ntmps16
 go_wp2_with fail
 rw [<-Hwa.out]
 refine HP.out.mono ?_
 rintro e w1 ⟨ea,en,ec,va,vn,vc,rp,rfl,hb,hr⟩
 rcases hr with⟨h0,_⟩|⟨_,hrp,hen,hvn,ers,hrep⟩
 ·exact absurd rfl h0
 subst hrp
 obtain⟨g,la,lc,ka,kc,rfl,hg,_,_,_,_,_,_,e6,_,hls,_,_⟩:=hrep.ev8 hen (k:=2) (by rw [hen];decide) (Gr.refl _)
 obtain⟨g2,hgg,_,hev⟩:=hrep.event hen (by rw [hen];decide)
 cases hgg
 have WQ:en=3:=hen
 subst WQ
 have c14:w1.cell? ⟨g,22,none⟩=some (.slice la 1 lc):=e6
 have hls':aW w1 la [6].length 1 (dY [6]):=hls
 have c2:w1.cell? ⟨g,2,none⟩=some (.int .i64 5):=hev 0 2 (by omega) (by omega)
 have c10:w1.cell? ⟨g,10,none⟩=some (.int .i64 11):=hev 1 2 (by omega) (by omega)
 have Hb:=Lib.hid hb;have Hls:=Lib.hid hls'
 obtain⟨w4,hw4⟩:∃ w4,w4=(w1.alloc (.cells #[.slice (some ⟨g,0,none⟩) 3 ec,.slice va vn vc,.int .i64 8,.int .i64 6,.int .i64 0,.int .i64 0,.int .i64 0,.int .i64 14,.int .i64 0] 32)).alloc (.cells #[.int .u64 6] 40):=⟨_,rfl⟩
 have hb4:Below w1.heap.size w1 w4:=by rw [hw4];exact Gr.alloc (Gr.new _ _) _
 have hq4:w4.heap[w1.heap.size+1]?=some (.cells #[.int .u64 6] 40 (0,0)):=by
  have:=heap_alloc_new (w1.alloc (.cells #[.slice (some ⟨g,0,none⟩) 3 ec,.slice va vn vc,.int .i64 8,.int .i64 6,.int .i64 0,.int .i64 0,.int .i64 0,.int .i64 14,.int .i64 0] 32)) (.cells #[.int .u64 6] 40 (0,0))
  simp only [World.size_alloc] at this
  rw [hw4];exact this
 have UH:aW w4 (some ⟨w1.heap.size+1,0,none⟩) [6].length 1 (dY [6]):=⟨by decide,λj hj=>⟨w1.heap.size+1,0,rfl,aH hq4,λf hf=>by
  have hj':j<1:=hj
  rw [aA hq4]
  have hf0:f=0:=by omega
  subst hf0
  have:j=0:=by omega
  subst this;rfl⟩⟩
 have SM:=Lib.hid (same_eq [6] la (some ⟨w1.heap.size+1,0,none⟩) lc 1 w4 (Hls.out.grown hb4) UH)
 have Hw4:=Lib.hid hw4;have Hb4:=Lib.hid hb4
 clear hw4 hb4 hq4 UH
 clear hrep hev hb hen hvn hls hls' e6
 unfold jL
 go_wp2_with fail
 rw [<-Hw4.out]
 refine SM.out.mono ?_
 rintro e w5 ⟨rfl,hb5⟩
 go_wp2
 go_ret
 exact⟨rfl,Gr.trans Hga.out (Gr.trans Hb.out (Gr.trans Hb4.out hb5))⟩
end
section
open Go.RowKit
def bD (calls:List aF) (iv:Nat) (y:EvD):Bool:=decide (y.ans.err=0) && decide ((calls.getD y.call d0).obj=0) && decide ((calls.getD y.call d0).kind=0) && decide (y.resp≠0) && decide (y.resp<iv)
def bB (calls:List aF) (rs:Nat) (y:EvD):Bool:=decide (y.ans.err=0) && decide ((calls.getD y.call d0).obj=0) && decide ((calls.getD y.call d0).kind=0) && decide (y.inv<rs)
structure VF (calls:List aF) (evs:List EvD):Prop where
 call:∀ i,i<evs.length->(aB evs i).call<calls.length
 reads:∀ i,i<evs.length->(calls.getD (aB evs i).call d0).obj=0->(calls.getD (aB evs i).call d0).kind=1->(aB evs i).resp≠0->(aB evs i).ans.err=0->
  (∀ j,j<evs.length->(aB evs j).ans.err=0->(calls.getD (aB evs j).call d0).obj=0->(calls.getD (aB evs j).call d0).kind=1->(aB evs j).resp≠0->(aB evs j).resp<(aB evs i).inv->(aB evs j).ans.val<=(aB evs i).ans.val)/\
  cnt (bD calls (aB evs i).inv) evs<=(aB evs i).ans.val/\(aB evs i).ans.val<=cnt (bB calls (aB evs i).resp) evs
end
end Go.Proofs.Ytifhldnmcdbpfaa
