/- Layer 15: a scan's step keeps what it has seen. -/
import Derived.Test.YtfkokppncipgnaaGreatW33
set_option maxRecDepth 100000
set_option linter.unusedVariables false
set_option linter.unusedSimpArgs false
set_option linter.unnecessarySimpa false
namespace Go.Proofs.YtfkokppncipgnaaGreat
section
open Go.RowKit
variable {calls:List aD} {prt val:aD->Nat} {rho:Nat->Nat} {evs:List EvD}
theorem OI {a b:List Nat} (h1:a.length=16) (h2:b.length=16) (h:∀ i,i<16->a.getD i 0=b.getD i 0):a=b:=by
 apply List.ext_getElem
 ·omega
 ·intro i i1 i2
  have:=h i (by omega)
  rw [List.getD_eq_getElem?_getD,List.getElem?_eq_getElem i1,List.getD_eq_getElem?_getD,List.getElem?_eq_getElem i2] at this
  exact this
theorem Le {n T I N p:Nat} {s:ScD} {ws:List Nat} {traces:Int->List Int} {wd:WD} (hn:n<=16) (hp:p<n) (hprt:∀ x,x<evs.length->piW calls (aF evs x)->prt (calls.getD (aF evs x).call d0)=tn calls (aF evs x)) (hnow:wd.now=T) (htr:wd.traces=traces) (hR:xH n calls prt val rho evs ws traces T) (hmine:∀ x,x<evs.length->piW calls (aF evs x)->tn calls (aF evs x)=p->(aF evs x).resp<I)
  (h1:s.old.length=16) (h2:s.now.length=16) (h3:s.diff.length=16) (hz:∀ i,n<=i->s.old.getD i 0=0/\s.now.getD i 0=0) (hit:I<=T) (hown:s.diff.getD p false=false) (hdn:∀ i,n<=i->s.diff.getD i false=false)
  (hpc:s.pc=0) (hnil:s.list=[]) (hst:N=(s.rounds+1)*n) (hfew:s.rounds<=EM s.diff+1)
  (hcur:∀ i,i<n->∃ a,I<=a/\a<=T/\(1<=s.rounds->s.last<=a)/\jI calls prt rho evs i a (s.now.getD i 0))
  (hlast:1<=s.rounds->I<=s.last/\s.last<=T)
  (hprev:1<=s.rounds->∀ i,i<n->∃ a,I<=a/\a<=s.last/\jI calls prt rho evs i a (s.old.getD i 0)/\(s.diff.getD i false=true->∃ jj,eU calls prt evs i a (some jj)/\I<=(aF evs jj).resp))
  (hfirst:s.rounds=0->∀ i,s.diff.getD i false=false):BH n calls prt val rho evs traces T p I N (eH n wd s):=by
 have hcl:=SA hp (by omega) hdn hown
 unfold eH
 by_cases hr:s.rounds+1=1
 ·have hr0:s.rounds=0:=by omega
  rw [if_pos hr]
  refine⟨h2,h2,h3,λi hi=>⟨(hz i hi).2,(hz i hi).2⟩,hit,hown,hdn,.inl ⟨hpc,?_⟩⟩
  refine⟨by show 0<n;omega,hnil,hst,by show s.rounds+1<=_;omega,λi hi=>absurd hi (Nat.not_lt_zero i),λ_=>by show I<=wd.now/\wd.now<=T;omega,λ_ i hi=>?_,λh0=>absurd h0 (Nat.succ_ne_zero _)⟩
  obtain⟨a,a1,a2,_,a4⟩:=hcur i hi
  refine⟨a,a1,by show a<=wd.now;omega,a4,λhd=>?_⟩
  have hd':s.diff.getD i false=true:=hd
  rw [hfirst hr0 i] at hd';cases hd'
 rw [if_neg hr]
 have hr1:1<=s.rounds:=by omega
 obtain⟨l1,l2⟩:=hlast hr1
 by_cases heq:s.old=s.now
 ·rw [if_pos heq]
  refine Ae (m:=s.last) (λx hx hw=>(hR.pos x hx hw).1) h1 h2 h3 hz hit hown hdn rfl (Nat.zero_le _) (by show s.list.length=0;rw [hnil];rfl) ?_ rfl l1 l2 (λi hi=>?_) (λi hi=>absurd hi (Nat.not_lt_zero i))
  ·show N<=(n+1)*n+0
   rw [hst,Nat.add_zero]
   exact Nat.mul_le_mul_right n (by omega)
  ·obtain⟨a,a1,a2,a3,_⟩:=hprev hr1 i hi
   obtain⟨b,b1,b2,b3,b4⟩:=hcur i hi
   show ∃ oj,eU calls prt evs i s.last oj/\s.now.getD i 0=CY rho oj
   rw [heq] at a3
   exact a3.between hR.inj (λx hx hw=>(hR.pos x hx hw).1) b4 a2 (b3 hr1)
 rw [if_neg heq]
 have hdf:∀ i,i<n->s.old.getD i 0≠s.now.getD i 0->∃ a b j,I<=a/\a<=s.last/\jI calls prt rho evs i a (s.old.getD i 0)/\(s.diff.getD i false=true->∃ jj,eU calls prt evs i a (some jj)/\I<=(aF evs jj).resp)/\b<=T/\eU calls prt evs i b (some j)/\s.now.getD i 0=rho j/\a<(aF evs j).resp:=λi hi hne=>by
  obtain⟨a,a1,a2,a3,a4⟩:=hprev hr1 i hi
  obtain⟨b,b1,b2,b3,b4⟩:=hcur i hi
  obtain⟨j,j1,j2,j3⟩:=a3.differ hR.apart (Nat.le_trans a2 (b3 hr1)) b4 hne
  exact⟨a,b,j,a1,a2,a3,a4,b2,j1,j2,j3⟩
 have hpn:s.old.getD p 0=s.now.getD p 0:=by
  by_cases h9:s.old.getD p 0=s.now.getD p 0
  ·exact h9
  ·exfalso
   obtain⟨a,b,j,a1,_,_,_,_,j1,_,j3⟩:=hdf p hp h9
   have:=hmine j j1.1 j1.2.1 (by rw [<-hprt j j1.1 j1.2.1];exact j1.2.2.1)
   omega
 obtain⟨s1,s2⟩:=yD s.old s.now n 0 s.diff (by omega)
 cases hd:iA s.old s.now n 0 s.diff with
 | mk d o=>
  cases o with
  | some f=>
   obtain⟨i,_,i2,i3,i4,i5,i6,i7,i8⟩:=s2 d f hd
   rw [Nat.zero_add] at i2
   obtain⟨a,b,j,a1,a2,a3,a4,b2,j1,j2,j3⟩:=hdf i i2 i3
   obtain⟨jj,k1,k2⟩:=a4 i4
   obtain⟨m,v1,v2,v3,v4⟩:=hR.view j j1.1 j1.2.1
   have hI:I<=m:=by
    have hjr:=j1.resp_le
    have h5:=hR.seq jj j k1.1 j1.1 k1.2.1 j1.2.1 (by rw [<-hprt jj k1.1 k1.2.1,<-hprt j j1.1 j1.2.1,k1.2.2.1,j1.2.2.1]) (by have:=k1.resp_le;omega)
    omega
   have hmT:m<=T:=by have:=j1.resp_le;omega
   refine⟨h1,h2,by show d.length=16;omega,hz,hit,?_,λx hx=>?_,.inr (.inr (.inl ⟨rfl,?_⟩))⟩
   ·show d.getD p false=false
    rw [i8 p (Nat.zero_le _) (by omega) hpn];exact hown
   ·show d.getD x false=false
    rw [i7 x (by omega)];exact hdn x hx
   ·have hf:f=rho j:=i5.trans j2
    refine⟨by show 0<n;omega,by show s.list.length=0;rw [hnil];rfl,?_,⟨j,j1.1,j1.2.1,hf⟩,?_,m,?_,hI,hmT,λx hx=>absurd hx (Nat.not_lt_zero x)⟩
    ·show N<=(n+1)*n+0
     rw [hst,Nat.add_zero]
     exact Nat.mul_le_mul_right n (by omega)
    ·show traces (f:Int)=[(wd.traces (f:Int)).headD 0]
     rw [htr,hf,v1];rfl
    ·show(wd.traces (f:Int)).headD 0=(m:Int)
     rw [htr,hf,v1];rfl
  | none=>
   obtain⟨g1,g2,g3⟩:=s1 d hd
   rw [Nat.zero_add] at g1 g2 g3
   have hex:∃ i,0<=i/\i<n/\s.old.getD i 0≠s.now.getD i 0:=by
    by_cases h9:∃ i,0<=i/\i<n/\s.old.getD i 0≠s.now.getD i 0
    ·exact h9
    ·exfalso
     refine heq (OI h1 h2 λi _=>?_)
     by_cases hi:i<n
     ·by_cases e:s.old.getD i 0=s.now.getD i 0
      ·exact e
      ·exact absurd ⟨i,Nat.zero_le _,hi,e⟩ h9
     ·rw [(hz i (by omega)).1,(hz i (by omega)).2]
   have hmore:=g3 hex
   refine⟨h2,h2,by show d.length=16;rw [g1.len];exact h3,λi hi=>⟨(hz i hi).2,(hz i hi).2⟩,hit,?_,λx hx=>?_,.inl ⟨hpc,?_⟩⟩
   ·show d.getD p false=false
    rw [g1.same p (Nat.zero_le _) hp hpn];exact hown
   ·show d.getD x false=false
    rw [g1.out x (by omega)];exact hdn x hx
   refine⟨by show 0<n;omega,hnil,hst,by show s.rounds+1<=EM d+1;omega,λi hi=>absurd hi (Nat.not_lt_zero i),λ_=>by show I<=wd.now/\wd.now<=T;omega,λ_ i hi=>?_,λh0=>absurd h0 (Nat.succ_ne_zero _)⟩
   obtain⟨b,b1,b2,b3,b4⟩:=hcur i hi
   refine⟨b,b1,by show b<=wd.now;omega,b4,λhdi=>?_⟩
   have hdi':d.getD i false=true:=hdi
   by_cases hne:s.old.getD i 0=s.now.getD i 0
   ·-- it differed ahead;the last update then is no later one
    rw [g1.same i (Nat.zero_le _) hi hne] at hdi'
    obtain⟨a,a1,a2,a3,a4⟩:=hprev hr1 i hi
    obtain⟨jj,k1,k2⟩:=a4 hdi'
    obtain⟨oj,o1,o2⟩:=b4
    obtain⟨oj',p1,p2⟩:=a3
    have e:=p1.unique hR.apart k1
    subst e
    match oj,o1,o2 with
    | none,o1,o2=>
     exfalso
     have:=o1 jj k1.1 k1.2.1 k1.2.2.1
     have:=k1.resp_le
     have:=b3 hr1
     omega
    | some y,o1,o2=>
     refine⟨y,o1,?_⟩
     have h5:=o1.2.2.2.2 jj k1.1 k1.2.1 k1.2.2.1 (by have:=k1.resp_le;have:=b3 hr1;omega)
     omega
   ·obtain⟨a,b',j,a1,a2,a3,a4,b2',j1,j2,j3⟩:=hdf i hi hne
    obtain⟨oj,o1,o2⟩:=b4
    obtain⟨a',a1',a2',a3',_⟩:=hprev hr1 i hi
    obtain⟨y,y1,y2,y3⟩:=a3'.differ hR.apart (Nat.le_trans a2' (b3 hr1)) ⟨oj,o1,o2⟩ hne
    exact⟨y,y1,by omega⟩
theorem Tu {n T I N p:Nat} {s:ScD} {ws:List Nat} {traces:Int->List Int} {wd:WD} (hn1:1<=n) (hn:n<=16) (hp:p<n) (hprt:∀ x,x<evs.length->piW calls (aF evs x)->prt (calls.getD (aF evs x).call d0)=tn calls (aF evs x)) (hnow:wd.now=T) (htr:wd.traces=traces) (hws:wd.mem.ws=ws) (hR:xH n calls prt val rho evs ws traces T) (hmine:∀ x,x<evs.length->piW calls (aF evs x)->tn calls (aF evs x)=p->(aF evs x).resp<I)
  (h:BH n calls prt val rho evs traces T p I N s) (hlive:s.pc≠3):bK s<ws.length/\BH n calls prt val rho evs traces T p I (N+1) (bE n wd s):=by
 obtain⟨h1,h2,h3,hz,hit,hown,hdn,hb⟩:=h
 rcases hb with⟨hpc,c⟩|⟨hpc,c⟩|⟨hpc,c⟩|⟨hpc,_⟩
 ·have hat:=c.at_
  have ha:bK s=s.at_:=by unfold bK;rw [if_pos hpc]
  have hlt:s.at_<ws.length:=Nat.lt_of_lt_of_le hat hR.nw
  have hg:dZ wd (bK s)=ws.getD s.at_ 0:=by rw [ha,MC (by rw [hws];exact hlt),hws]
  refine⟨by rw [ha];exact hlt,?_⟩
  unfold bE
  rw [hg]
  obtain⟨g,hgg⟩:∃ g,g=ws.getD s.at_ 0:=⟨_,rfl⟩
  rw [<-hgg]
  have hcell:=hR.cell s.at_ hat
  rw [<-hgg] at hcell
  have hset:∀ i,(s.now.set s.at_ g).getD i 0=if i=s.at_ then g else s.now.getD i 0:=λi=>vE _ _ _ _ (by omega)
  have hz':∀ i,n<=i->s.old.getD i 0=0/\(s.now.set s.at_ g).getD i 0=0:=λi hi=>by rw [hset i,if_neg (by omega)];exact hz i hi
  have hcur:∀ i,i<s.at_+1->∃ a,I<=a/\a<=T/\(1<=s.rounds->s.last<=a)/\jI calls prt rho evs i a ((s.now.set s.at_ g).getD i 0):=λi hi=>by
   rw [hset i]
   by_cases e:i=s.at_
   ·rw [if_pos e,e]
    exact⟨T,hit,Nat.le_refl _,λhr=>(c.last hr).2,hcell⟩
   ·rw [if_neg e]
    exact c.cur i (by omega)
  unfold jJ
  rw [if_pos hpc]
  by_cases hl:s.at_+1=n
  ·rw [if_pos hl]
   refine Le (wd:=wd) (s:={ s with now:=s.now.set s.at_ g,at_:=s.at_+1 }) hn hp hprt hnow htr hR hmine h1 (by show(s.now.set s.at_ g).length=16;rw [List.length_set];exact h2) h3 hz' hit hown hdn hpc c.nil ?_ c.few (λi hi=>hcur i (by omega)) c.last c.prev c.first
   rw [c.steps,Nat.succ_mul];show s.rounds*n+s.at_+1=s.rounds*n+n;omega
  ·rw [if_neg hl]
   exact⟨h1,by show(s.now.set s.at_ g).length=16;rw [List.length_set];exact h2,h3,hz',hit,hown,hdn,.inl ⟨hpc,⟨by show s.at_+1<n;omega,c.nil,by show N+1=s.rounds*n+(s.at_+1);rw [c.steps];omega,c.few,hcur,c.last,c.prev,c.first⟩⟩⟩
 ·have hat:=c.at_
  obtain⟨m,m1,m2,m3,m4,m5⟩:=c.mom
  have ha:bK s=s.now.getD s.at_ 0:=by unfold bK;rw [if_neg (by omega),if_pos hpc]
  obtain⟨oj,o1,o2⟩:=m4 s.at_ hat
  match oj,o1,o2 with
  | none,_,o2=>exact absurd o2 c.pos
  | some y,o1,o2=>
   have hy:=hR.pos y o1.1 o1.2.1
   have ha2:bK s=rho y:=ha.trans o2
   have hlt:bK s<ws.length:=by rw [ha2];omega
   have hg:dZ wd (bK s)=val (calls.getD (aF evs y).call d0):=by rw [MC (by rw [hws];exact hlt),hws,ha2];exact hR.value y o1.1 o1.2.1
   refine⟨hlt,?_⟩
   unfold bE jJ
   rw [hg,if_neg (by omega),if_pos hpc]
   refine Ae (s:={ s with list:=s.list++[val (calls.getD (aF evs y).call d0)],at_:=s.at_+1 }) (m:=m) (λx hx hw=>(hR.pos x hx hw).1) h1 h2 h3 hz hit hown hdn hpc (by show s.at_+1<=n;omega) (by show(s.list++[_]).length=s.at_+1;rw [List.length_append,c.len];rfl) (by show N+1<=(n+1)*n+(s.at_+1);have:=c.steps;omega) m1 m2 m3 m4 (λi hi=>?_)
   show ValAt calls prt val evs i m ((s.list++[_]).getD i 0)
   by_cases e:i=s.at_
   ·rw [e,<-c.len,QW,c.len];exact⟨some y,o1,rfl⟩
   ·have hi':i<s.at_+1:=hi
    rw [kU (by have:=c.len;omega)];exact m5 i (by omega)
 ·have hat:=c.at_
  obtain⟨m,m1,m2,m3,m5⟩:=c.mom
  obtain⟨jj,j1,j2,j3⟩:=c.ref
  have hy:=hR.pos jj j1 j2
  have ha:bK s=s.from_+1+s.at_:=by unfold bK;rw [if_neg (by omega),if_neg (by omega)]
  have hlt:bK s<ws.length:=by rw [ha,j3];omega
  obtain⟨m',v1,_,_,v4⟩:=hR.view jj j1 j2
  have hmm:m'=m:=by
   have h5:=c.tr
   rw [j3,v1,m1] at h5
   have:=(List.cons.inj h5).1
   omega
  have hg:dZ wd (bK s)=ws.getD (rho jj+1+s.at_) 0:=by rw [MC (by rw [hws];exact hlt),hws,ha,j3]
  refine⟨hlt,?_⟩
  unfold bE jJ
  rw [hg,if_neg (by omega),if_neg (by omega)]
  have hv:∀ i,i<s.at_+1->ValAt calls prt val evs i m ((s.list++[ws.getD (rho jj+1+s.at_) 0]).getD i 0):=λi hi=>by
   by_cases e:i=s.at_
   ·rw [e,<-c.len,QW,c.len,<-hmm];exact v4 s.at_ hat
   ·rw [kU (by have:=c.len;omega)];exact m5 i (by omega)
  have hlen:(s.list++[ws.getD (rho jj+1+s.at_) 0]).length=s.at_+1:=by rw [List.length_append,c.len];rfl
  refine⟨h1,h2,h3,hz,hit,hown,hdn,?_⟩
  by_cases hl:s.at_+1=n
  ·rw [if_pos hl]
   exact .inr (.inr (.inr ⟨rfl,⟨hlen.trans hl,by have:=c.steps;omega,m,m1,m2,m3,λi hi=>hv i (by omega)⟩⟩))
  ·rw [if_neg hl]
   exact .inr (.inr (.inl ⟨hpc,⟨by show s.at_+1<n;omega,hlen,by show N+1<=(n+1)*n+(s.at_+1);have:=c.steps;omega,⟨jj,j1,j2,j3⟩,c.tr,m,m1,m2,m3,hv⟩⟩))
 ·exact absurd hpc hlive
end
section
open Go.RowKit
variable {n k:Nat} {calls:List aD}
theorem VM {wd:WD} {a:Nat} (h:a<wd.mem.ws.length):(eY wd a).mem.c.fault=wd.mem.c.fault/\(eY wd a).mem.c.all=wd.mem.c.all+1:=by
 have ho:gI wd.mem (a:Int)=false:=by unfold gI;simp;omega
 unfold eY bL
 rw [if_neg (by rw [ho];simp)]
 refine⟨rfl,?_⟩
 unfold eO.all
 simp only
 omega
theorem QB {wd:WD} {a v:Nat} (h:a<wd.mem.ws.length):(eB wd a v).mem.c.fault=wd.mem.c.fault/\(eB wd a v).mem.c.all=wd.mem.c.all+1:=by
 have ho:gI wd.mem (a:Int)=false:=by unfold gI;simp;omega
 unfold eB fJ
 simp only
 rw [if_neg (by rw [ho];simp)]
 refine⟨rfl,?_⟩
 unfold eO.all
 simp only
 omega
theorem kL {e:EvD} (h:e.resp=0):¬ piW calls e:=λhp=>hp.2.2.2 h
end
section
open Go.RowKit
section
variable {S:Sys} {calls:List aD} {prt val:aD->Nat} {rho rho':Nat->Nat} {st:aP S} {q j:Nat} {evs':List EvD} {e1:EvD}
theorem jI.keep {i T c:Nat} (h:jI calls prt rho st.evs i T c) (hx:Next calls st q evs' j e1) (hr:e1.resp=0∨e1.resp=st.wd.now+1) (hT:T<=st.wd.now) (hrho:∀ x,x<st.evs.length->piW calls (aF st.evs x)->rho' x=rho x):jI calls prt rho' evs' i T c:=by
 obtain⟨oj,h1,h2⟩:=h
 refine⟨oj,h1.keep hx hr hT,h2.trans ?_⟩
 match oj,h1 with
 | none,_=>rfl
 | some y,h1=>exact(hrho y h1.1 h1.2.1).symm
theorem ValAt.keep {i T v:Nat} (h:ValAt calls prt val st.evs i T v) (hx:Next calls st q evs' j e1) (hr:e1.resp=0∨e1.resp=st.wd.now+1) (hT:T<=st.wd.now):ValAt calls prt val evs' i T v:=by
 obtain⟨oj,h1,h2⟩:=h
 refine⟨oj,h1.keep hx hr hT,h2.trans ?_⟩
 match oj,h1 with
 | none,_=>rfl
 | some y,h1=>
  show val (calls.getD (aF st.evs y).call d0)=val (calls.getD (aF evs' y).call d0)
  rw [h1.old hx]
theorem Next.piw {x:Nat} (hx:Next calls st q evs' j e1) (hx1:x<st.evs.length) (hw:piW calls (aF st.evs x)):x<evs'.length/\x≠j/\aF evs' x=aF st.evs x:=by
 have hxj:x≠j:=λe=>hw.2.2.2 (hx.old (by omega) ▸ (by rw [e]))
 exact⟨Nat.lt_of_lt_of_le hx1 hx.size,hxj,(hx.other x (Nat.lt_of_lt_of_le hx1 hx.size) hxj).2⟩
theorem BH.keep {n p I N:Nat} {s:ScD} {traces traces':Int->List Int} (h:BH n calls prt val rho st.evs traces st.wd.now p I N s) (hx:Next calls st q evs' j e1) (hr:e1.resp=0∨e1.resp=st.wd.now+1) (hrho:∀ x,x<st.evs.length->piW calls (aF st.evs x)->rho' x=rho x) (htr:∀ x,x<st.evs.length->piW calls (aF st.evs x)->traces' (rho x:Int)=traces (rho x:Int)) :
  BH n calls prt val rho' evs' traces' (st.wd.now+1) p I N s:=by
 obtain⟨h1,h2,h3,hz,hit,hown,hdn,hb⟩:=h
 refine⟨h1,h2,h3,hz,by omega,hown,hdn,?_⟩
 rcases hb with⟨hpc,c⟩|⟨hpc,c⟩|⟨hpc,c⟩|⟨hpc,c⟩
 ·refine .inl ⟨hpc,⟨c.at_,c.nil,c.steps,c.few,λi hi=>?_,λhr1=>?_,λhr1 i hi=>?_,c.first⟩⟩
  ·obtain⟨a,a1,a2,a3,a4⟩:=c.cur i hi
   exact⟨a,a1,by omega,a3,a4.keep hx hr a2 hrho⟩
  ·have:=c.last hr1;omega
  ·obtain⟨a,a1,a2,a3,a4⟩:=c.prev hr1 i hi
   have:=(c.last hr1).2
   refine⟨a,a1,a2,a3.keep hx hr (by omega) hrho,λhd=>?_⟩
   obtain⟨jj,k1,k2⟩:=a4 hd
   exact⟨jj,k1.keep hx hr (by omega),by rw [k1.old hx];exact k2⟩
 ·obtain⟨m,m1,m2,m3,m4,m5⟩:=c.mom
  refine .inr (.inl ⟨hpc,⟨c.at_,c.pos,c.len,c.steps,m,m1,m2,by omega,λi hi=>?_,λi hi=>(m5 i hi).keep hx hr m3⟩⟩)
  obtain⟨oj,o1,o2⟩:=m4 i hi
  exact jI.keep (rho':=rho') ⟨oj,o1,o2⟩ hx hr m3 hrho
 ·obtain⟨m,m1,m2,m3,m5⟩:=c.mom
  obtain⟨jj,j1,j2,j3⟩:=c.ref
  obtain⟨p1,p2,p3⟩:=hx.piw j1 j2
  refine .inr (.inr (.inl ⟨hpc,⟨c.at_,c.len,c.steps,⟨jj,p1,by rw [p3];exact j2,by rw [hrho jj j1 j2];exact j3⟩,?_,m,m1,m2,by omega,λi hi=>(m5 i hi).keep hx hr m3⟩⟩))
  have:=c.tr
  rw [j3] at this ⊢
  rw [htr jj j1 j2];exact this
 ·obtain⟨m,m1,m2,m3,m5⟩:=c.mom
  exact .inr (.inr (.inr ⟨hpc,⟨c.len,c.steps,m,m1,m2,by omega,λi hi=>(m5 i hi).keep hx hr m3⟩⟩))
theorem xH.keep {n:Nat} {ws ws':List Nat} {traces traces':Int->List Int} (hg:bQ calls st) (h:xH n calls prt val rho st.evs ws traces st.wd.now) (hx:Next calls st q evs' j e1) (hr:e1.resp=0∨e1.resp=st.wd.now+1) (hw:¬ piW calls e1) (hl:ws'.length=ws.length) (hc:∀ i,i<n->ws'.getD i 0=ws.getD i 0)
  (hrec:∀ x,x<st.evs.length->piW calls (aF st.evs x)->∀ a,a<=n->ws'.getD (rho x+a) 0=ws.getD (rho x+a) 0) (htr:∀ x,x<st.evs.length->piW calls (aF st.evs x)->traces' (rho x:Int)=traces (rho x:Int)):xH n calls prt val rho evs' ws' traces' (st.wd.now+1):=by
 have old:∀ x,x<evs'.length->piW calls (aF evs' x)->x<st.evs.length/\piW calls (aF st.evs x)/\aF evs' x=aF st.evs x:=λx hxl hp=>by
  have hxj:x≠j:=λe=>by subst e;rw [hx.self] at hp;exact hw hp
  obtain⟨a,b⟩:=hx.other x hxl hxj
  exact⟨a,by rw [<-b];exact hp,b⟩
 refine⟨λi hi=>?_,by rw [hl];exact h.nw,λx hxl hp=>?_,λx y hxl hyl hp hp' e=>?_,λx hxl hp=>?_,λx hxl hp=>?_,λx y hxl hyl hp hp' ht hlt=>?_,hx.respApart hg h.apart hr⟩
 ·rw [hc i hi]
  obtain⟨oj,o1,o2⟩:=h.cell i hi
  exact⟨oj,o1.up hg hx (λhp=>absurd hp hw),o2⟩
 ·obtain⟨a,b,_⟩:=old x hxl hp
  rw [hl];exact h.pos x a b
 ·obtain⟨a,b,_⟩:=old x hxl hp
  obtain⟨a',b',_⟩:=old y hyl hp'
  exact h.inj x y a a' b b' e
 ·obtain⟨a,b,c⟩:=old x hxl hp
  have:=hrec x a b 0 (Nat.zero_le _)
  rw [Nat.add_zero] at this
  rw [this,c];exact h.value x a b
 ·obtain⟨a,b,c⟩:=old x hxl hp
  obtain⟨m,v1,v2,v3,v4⟩:=h.view x a b
  refine⟨m,by rw [htr x a b];exact v1,by rw [c];exact v2,by rw [c];exact v3,λi hi=>?_⟩
  have:=hrec x a b (1+i) (by omega)
  rw [<-Nat.add_assoc] at this
  rw [this]
  exact(v4 i hi).keep hx hr (by have:=(hg.ev.tick x a).2.2.2;omega)
 ·obtain⟨a,b,c⟩:=old x hxl hp
  obtain⟨a',b',c'⟩:=old y hyl hp'
  rw [c,c'] at ht hlt ⊢
  exact h.seq x y a a' b b' ht hlt
theorem xH.new {n r t m:Nat} {ws ws':List Nat} {traces:Int->List Int} (hg:bQ calls st) (h:xH n calls prt val rho st.evs ws traces st.wd.now) (hx:Next calls st q evs' j e1) (hw:piW calls e1) (hr:e1.resp=st.wd.now+1) (hp:prt (calls.getD e1.call d0)=t) (ht:t<n) (hws:ws'=ws.set t r) (hrl:r+n<ws.length) (hrn:n<=r) (hr0:0<r)
  (hfar:∀ x,x<st.evs.length->piW calls (aF st.evs x)->rho x≠r) (hlow:∀ x,x<st.evs.length->piW calls (aF st.evs x)->n<=rho x)
  (hv:ws.getD r 0=val (calls.getD e1.call d0)) (hm:e1.inv<=m) (hmT:m<=st.wd.now) (hview:∀ i,i<n->ValAt calls prt val st.evs i m (ws.getD (r+1+i) 0)) (hseq:∀ x,x<st.evs.length->piW calls (aF st.evs x)->tn calls (aF st.evs x)=tn calls e1->(aF st.evs x).resp<e1.inv) :
  xH n calls prt val (λx=>if x=j then r else rho x) evs' ws' (BF traces (r:Int) [(m:Int)]) (st.wd.now+1):=by
 have hrr:e1.resp=0∨e1.resp=st.wd.now+1:=.inr hr
 have cas:∀ x,x<evs'.length->piW calls (aF evs' x)->(x=j/\aF evs' x=e1)∨(x≠j/\x<st.evs.length/\piW calls (aF st.evs x)/\aF evs' x=aF st.evs x):=λx hxl hp=>by
  by_cases hxj:x=j
  ·exact .inl ⟨hxj,by rw [hxj];exact hx.self⟩
  ·obtain⟨a,b⟩:=hx.other x hxl hxj
   exact .inr ⟨hxj,a,by rw [<-b];exact hp,b⟩
 have hrho:∀ x,x<st.evs.length->piW calls (aF st.evs x)->(if x=j then r else rho x)=rho x:=λx hx1 hp=>if_neg (hx.piw hx1 hp).2.1
 have htl:t<ws.length:=by omega
 have hset:∀ a,ws'.getD a 0=if a=t then r else ws.getD a 0:=λa=>by rw [hws];exact vE _ _ _ _ htl
 refine⟨λi hi=>?_,by rw [hws,List.length_set];exact h.nw,λx hxl hpw=>?_,λx y hxl hyl hpx hpy e=>?_,λx hxl hpw=>?_,λx hxl hpw=>?_,λx y hxl hyl hpx hpy htt hlt=>?_,hx.respApart hg h.apart hrr⟩
 ·rw [hset]
  by_cases e:i=t
  ·rw [if_pos e]
   exact⟨some j,eU.new hg hx hw (by rw [e];exact hp) hr,(if_pos rfl:(if j=j then r else rho j)=r).symm⟩
  ·rw [if_neg e]
   obtain⟨oj,o1,o2⟩:=h.cell i hi
   refine⟨oj,o1.up hg hx (λ_ hp'=>e (hp'.symm.trans hp)),o2.trans ?_⟩
   match oj,o1 with
   | none,_=>rfl
   | some y,o1=>exact(hrho y o1.1 o1.2.1).symm
 ·have hl':ws'.length=ws.length:=by rw [hws,List.length_set]
  rw [hl']
  rcases cas x hxl hpw with⟨rfl,_⟩|⟨a,b,c,_⟩
  ·rw [if_pos rfl];exact⟨hr0,hrl⟩
  ·rw [if_neg a];exact h.pos x b c
 ·have e':(if x=j then r else rho x)=(if y=j then r else rho y):=e
  rcases cas x hxl hpx with⟨rfl,_⟩|⟨a,b,c,_⟩
  ·rcases cas y hyl hpy with⟨rfl,_⟩|⟨a',b',c',_⟩
   ·rfl
   ·rw [if_pos rfl,if_neg a'] at e'
    exact absurd e'.symm (hfar y b' c')
  ·rcases cas y hyl hpy with⟨rfl,_⟩|⟨a',b',c',_⟩
   ·rw [if_pos rfl,if_neg a] at e'
    exact absurd e' (hfar x b c)
   ·rw [if_neg a,if_neg a'] at e'
    exact h.inj x y b b' c c' e'
 ·rcases cas x hxl hpw with⟨rfl,d⟩|⟨a,b,c,d⟩
  ·rw [if_pos rfl,hset,if_neg (by omega),d];exact hv
  ·rw [if_neg a,hset,if_neg (by have:=hlow x b c;omega),d];exact h.value x b c
 ·rcases cas x hxl hpw with⟨rfl,d⟩|⟨a,b,c,d⟩
  ·rw [if_pos rfl]
   refine⟨m,by unfold BF;rw [if_pos rfl],by rw [d];exact hm,by rw [d,hr];omega,λi hi=>?_⟩
   rw [hset,if_neg (by omega)]
   exact(hview i hi).keep hx hrr hmT
  ·rw [if_neg a]
   obtain⟨m',v1,v2,v3,v4⟩:=h.view x b c
   have hne:¬ ((rho x:Nat):Int)=(r:Int):=λe=>hfar x b c (by omega)
   refine⟨m',by unfold BF;rw [if_neg hne];exact v1,by rw [d];exact v2,by rw [d];exact v3,λi hi=>?_⟩
   rw [hset,if_neg (by have:=hlow x b c;omega)]
   exact(v4 i hi).keep hx hrr (by have:=(hg.ev.tick x b).2.2.2;omega)
 ·rcases cas x hxl hpx with⟨rfl,d⟩|⟨a,b,c,d⟩
  ·rcases cas y hyl hpy with⟨rfl,d'⟩|⟨a',b',c',d'⟩
   ·rw [d] at hlt;omega
   ·rw [d,d',hr] at hlt
    have:=(hg.ev.tick y b').2.2.2
    omega
  ·rcases cas y hyl hpy with⟨rfl,d'⟩|⟨a',b',c',d'⟩
   ·rw [d,d'] at htt ⊢
    exact hseq x b c htt
   ·rw [d,d'] at htt hlt ⊢
    exact h.seq x y b b' c c' htt hlt
end
end
section
open Go.RowKit
variable {n k:Nat} {calls:List aD}
def FK (c:aD):Nat:=c.thread.toNat
def EI (c:aD):Nat:=c.a
instance aAa (calls:List aD) (e:EvD):Decidable (piW calls e):=by unfold piW;infer_instance
def isU (calls:List aD) (t:Nat) (e:EvD):Bool:=decide (piW calls e) && decide (tn calls e=t)
def EG (calls:List aD) (t T:Nat) (e:EvD):Bool:=isU calls t e && decide (e.resp<T)
def VB (n k:Nat):Nat:=n+n*k*(n+1)
theorem BR (n k t r:Nat):bG n k t r=n+(t*k+r)*(n+1):=rfl
theorem SN {t r:Nat} (ht:t<n) (hr:r<k):bG n k t r+n<VB n k:=by
  have h1:(t+1)*k<=n*k:=Nat.mul_le_mul_right k ht
  rw [Nat.succ_mul] at h1
  have h2:(t*k+r+1)*(n+1)<=n*k*(n+1):=Nat.mul_le_mul_right (n+1) (by omega)
  rw [Nat.succ_mul] at h2
  unfold VB
  rw [BR]
  omega
theorem LA {t r t' r' a a':Nat} (hr:r<k) (hr':r'<k) (ha:a<=n) (ha':a'<=n) (h:bG n k t r+a=bG n k t' r'+a'):t=t'/\r=r'/\a=a':=by
  rw [BR,BR] at h
  have h1:(t*k+r)*(n+1)+a=(t'*k+r')*(n+1)+a':=by omega
  have e1:((t*k+r)*(n+1)+a) / (n+1)=t*k+r:=by
    rw [Nat.mul_comm,Nat.mul_add_div (Nat.succ_pos n),Nat.div_eq_of_lt (by omega),Nat.add_zero]
  have e2:((t'*k+r')*(n+1)+a') / (n+1)=t'*k+r':=by
    rw [Nat.mul_comm,Nat.mul_add_div (Nat.succ_pos n),Nat.div_eq_of_lt (by omega),Nat.add_zero]
  have e3:t*k+r=t'*k+r':=by rw [<-e1,<-e2,h1]
  have hk:0<k:=by omega
  have f1:(t*k+r) / k=t:=by rw [Nat.mul_comm,Nat.mul_add_div hk,Nat.div_eq_of_lt hr,Nat.add_zero]
  have f2:(t'*k+r') / k=t':=by rw [Nat.mul_comm,Nat.mul_add_div hk,Nat.div_eq_of_lt hr',Nat.add_zero]
  have e4:t=t':=by rw [<-f1,<-f2,e3]
  subst e4
  have e5:r=r':=by omega
  subst e5
  exact⟨rfl,rfl,by omega⟩
def yZ (n k:Nat) (calls:List aD) (rho:Nat->Nat) (evs:List EvD) (ws:List Nat) (traces:Int->List Int) (T:Nat) (o:List Nat) (p:Nat) (e:EvD):SnS->Prop
  | .rd s key=>kindOf calls e=1/\key=[]/\s.pc≠3/\BH n calls FK EI rho evs traces T p e.inv e.steps s
  | .up s p' r nx v sc=>kindOf calls e=0/\p'=p/\v=(calls.getD e.call d0).a/\o.getD p 0<k/\r=bG n k p (o.getD p 0)/\
    ((sc=false/\nx=0/\s.pc≠3/\BH n calls FK EI rho evs traces T p e.inv e.steps s)∨
     (sc=true/\s.pc=3/\nx<=n+1/\(∃ N,BH n calls FK EI rho evs traces T p e.inv N s/\e.steps=N+nx)/\(1<=nx->ws.getD r 0=v)/\∀ i,i+1<nx->ws.getD (r+1+i) 0=s.list.getD i 0))
structure LJ (n k:Nat) (calls:List aD) (evs:List EvD) (e:EvD):Prop where
  rd:iG calls e=0->kindOf calls e=1->∃ m:Nat,e.ans.err=0/\e.ans.val=0/\e.ans.list.length=n/\e.key=[2*(m:Int),2*(e.resp:Int)]/\e.inv<=m/\m<=e.resp/\∀ i,i<n->ValAt calls FK EI evs i m (e.ans.list.getD i 0)
  up:iG calls e=0->kindOf calls e=0->(e.ans=⟨0,0,[]⟩/\cnt (EG calls (tn calls e) e.resp) evs<k)∨(e.ans=⟨6,0,[]⟩/\k<=cnt (EG calls (tn calls e) e.resp) evs)
  el:¬ (iG calls e=0/\kindOf calls e=1)->e.key=[2*(e.resp:Int)]/\(¬ (iG calls e=0/\kindOf calls e=0)->e.ans=(if iG calls e≠0 then ⟨12,0,[]⟩ else ⟨9,0,[]⟩))
  st:e.steps<=(n+1)*n+n+n+2/\(kindOf calls e=1->e.steps<=(n+1)*n+n)
structure gY (n k:Nat) (calls:List aD) (st:aP (aV n k)) (rho:Nat->Nat):Prop where
  marks:st.wd.marks=List.replicate 16 []
  cf:st.wd.mem.c.fault=0
  ca:st.wd.mem.c.all<=st.wd.now
  wl:st.wd.mem.ws.length=VB n k
  u16:List.length (α:=Nat) st.obj=16
  uk:∀ t,List.getD (α:=Nat) st.obj t 0<=k
  uc:∀ t,t<n->List.getD (α:=Nat) st.obj t 0=cnt (isU calls t) st.evs
  rc:xH n calls FK EI rho st.evs st.wd.mem.ws st.wd.traces st.wd.now
  rcd:∀ x,x<st.evs.length->piW calls (aF st.evs x)->∃ r,r<List.getD (α:=Nat) st.obj (tn calls (aF st.evs x)) 0/\rho x=bG n k (tn calls (aF st.evs x)) r
  hand:∀ p s j,st.hands.getD p (none,0)=(some s,j)->iG calls (aF st.evs j)=0/\yZ n k calls rho st.evs st.wd.mem.ws st.wd.traces st.wd.now st.obj p (aF st.evs j) s
  told:∀ j,j<st.evs.length->(aF st.evs j).resp≠0->LJ n k calls st.evs (aF st.evs j)
section
variable {st st':aP (aV n k)} {q j:Nat} {evs':List EvD} {e1 e:EvD} {rho rho':Nat->Nat}
theorem Ia {t T:Nat} (h:e1.resp=0∨e1.resp=st.wd.now+1) (hT:T<=st.wd.now+1):EG calls t T e1=false:=by
  unfold EG isU
  rcases h with h|h
  · have:¬ piW calls e1:=λhp=>hp.2.2.2 h
    rw [decide_eq_false this];rfl
  · rw [decide_eq_false (show ¬ e1.resp<T by omega),Bool.and_false]
theorem Cz {t T:Nat}:∀ e:EvD,e.resp=0->EG calls t T e=false:=λe h=>by
  unfold EG isU
  rw [decide_eq_false (show ¬ piW calls e from λhp=>hp.2.2.2 h)];rfl
theorem VJ {t:Nat}:∀ e:EvD,e.resp=0->isU calls t e=false:=λe h=>by
  unfold isU
  rw [decide_eq_false (show ¬ piW calls e from λhp=>hp.2.2.2 h)];rfl
theorem FB {t T:Nat} (hx:Next calls st q evs' j e1) (hr:e1.resp=0∨e1.resp=st.wd.now+1) (hT:T<=st.wd.now+1):cnt (EG calls t T) evs'=cnt (EG calls t T) st.evs:=by
  rw [hx.cnt Cz,Ia hr hT];simp
theorem VQ {t:Nat} (hg:bQ calls st):cnt (EG calls t (st.wd.now+1)) st.evs=cnt (isU calls t) st.evs:=Da λi hi=>by
  unfold EG
  rw [decide_eq_true (show(aF st.evs i).resp<st.wd.now+1 by have:=(hg.ev.tick i hi).2.2.2;omega),Bool.and_true]
theorem LJ.keep (h:LJ n k calls st.evs e) (hx:Next calls st q evs' j e1) (hr:e1.resp=0∨e1.resp=st.wd.now+1) (hT:e.resp<=st.wd.now):LJ n k calls evs' e:=by
  refine⟨λh0 h1=>?_,λh0 h1=>?_,h.el,h.st⟩
  · obtain⟨m,a1,a2,a3,a4,a5,a6,a7⟩:=h.rd h0 h1
    exact⟨m,a1,a2,a3,a4,a5,a6,λi hi=>(a7 i hi).keep hx hr (by omega)⟩
  · rw [FB hx hr (by omega)];exact h.up h0 h1
theorem yZ.keep {p:Nat} {ws ws':List Nat} {traces traces':Int->List Int} {o o':List Nat} {s:SnS} (h:yZ n k calls rho st.evs ws traces st.wd.now o p e s) (hx:Next calls st q evs' j e1) (hr:e1.resp=0∨e1.resp=st.wd.now+1) (hrho:∀ x,x<st.evs.length->piW calls (aF st.evs x)->rho' x=rho x) (htr:∀ x,x<st.evs.length->piW calls (aF st.evs x)->traces' (rho x:Int)=traces (rho x:Int))
    (ho:o'.getD p 0=o.getD p 0) (hw:o.getD p 0<k->∀ a,a<=n->ws'.getD (bG n k p (o.getD p 0)+a) 0=ws.getD (bG n k p (o.getD p 0)+a) 0):yZ n k calls rho' evs' ws' traces' (st.wd.now+1) o' p e s:=by
  match s,h with
  | .rd s key,⟨h1,h2,h3,h4⟩=>exact⟨h1,h2,h3,h4.keep hx hr hrho htr⟩
  | .up s p' r nx v sc,⟨h1,h2,h3,h4,h5,h6⟩=>
    refine⟨h1,h2,h3,by rw [ho];exact h4,by rw [ho];exact h5,?_⟩
    rcases h6 with⟨g1,g2,g3,g4⟩|⟨g1,g2,g3,⟨N,g4,g5⟩,g6,g7⟩
    · exact .inl ⟨g1,g2,g3,g4.keep hx hr hrho htr⟩
    · refine .inr ⟨g1,g2,g3,⟨N,g4.keep hx hr hrho htr,g5⟩,λh9=>?_,λi hi=>?_⟩
      · have:=hw h4 0 (Nat.zero_le _)
        rw [h5];rw [Nat.add_zero] at this;rw [this,<-h5];exact g6 h9
      · have:=hw h4 (1+i) (by omega)
        rw [<-Nat.add_assoc] at this
        rw [h5,this,<-h5];exact g7 i hi
theorem KY {x:Option (aV n k).σ×Nat} (hg:bQ calls st) (h:gY n k calls st rho) (hq:q<16) (hthr:∀ c,c<calls.length->0<=(calls.getD c d0).thread/\(calls.getD c d0).thread<n) (hx:Next calls st q st'.evs j e1) (hh:st'.hands=st.hands.set q x) (hr:e1.resp=0∨e1.resp=st.wd.now+1) (hnow:st'.wd.now=st.wd.now+1)
    (hm:st'.wd.marks=List.replicate 16 []) (hcf:st'.wd.mem.c.fault=0) (hca:st'.wd.mem.c.all<=st.wd.mem.c.all+1) (hwl:st'.wd.mem.ws.length=VB n k) (hu:List.length (α:=Nat) st'.obj=16) (huk:∀ t,List.getD (α:=Nat) st'.obj t 0<=k) (huc:∀ t,t<n->List.getD (α:=Nat) st'.obj t 0=cnt (isU calls t) st'.evs)
    (hR:xH n calls FK EI rho' st'.evs st'.wd.mem.ws st'.wd.traces (st.wd.now+1)) (hrec:∀ x,x<st'.evs.length->piW calls (aF st'.evs x)->∃ r,r<List.getD (α:=Nat) st'.obj (tn calls (aF st'.evs x)) 0/\rho' x=bG n k (tn calls (aF st'.evs x)) r)
    (hrho:∀ x,x<st.evs.length->piW calls (aF st.evs x)->rho' x=rho x) (htr:∀ x,x<st.evs.length->piW calls (aF st.evs x)->st'.wd.traces (rho x:Int)=st.wd.traces (rho x:Int))
    (ho:∀ p,p≠q->List.getD (α:=Nat) st'.obj p 0=List.getD (α:=Nat) st.obj p 0) (hw:∀ p,p≠q->p<n->List.getD (α:=Nat) st.obj p 0<k->∀ a,a<=n->st'.wd.mem.ws.getD (bG n k p (List.getD (α:=Nat) st.obj p 0)+a) 0=st.wd.mem.ws.getD (bG n k p (List.getD (α:=Nat) st.obj p 0)+a) 0)
    (hS:∀ s i,x=(some s,i)->i=j/\iG calls e1=0/\yZ n k calls rho' st'.evs st'.wd.mem.ws st'.wd.traces (st.wd.now+1) st'.obj q e1 s)
    (hD:e1.resp≠0->LJ n k calls st'.evs e1):gY n k calls st' rho':=by
  refine⟨hm,hcf,by rw [hnow];have:=h.ca;omega,hwl,hu,huk,huc,by rw [hnow];exact hR,hrec,λp s i hp=>?_,λi hi hri=>?_⟩
  · rw [hnow]
    rw [hh,Dh hg.h16 hq] at hp
    split at hp
    · rename_i hpq
      obtain⟨g0,g1,g2⟩:=hS s i hp
      rw [g0,hx.self,hpq]
      exact⟨g1,g2⟩
    · rename_i hpq
      obtain⟨a1,a2⟩:=hx.apart p _ i hpq hp
      have e:=(hx.other i (Nat.lt_of_lt_of_le a2 hx.size) a1).2
      obtain⟨g1,g2⟩:=h.hand p s i hp
      obtain⟨b1,b2,b3,b4⟩:=hg.ev.hand p i (by unfold fQ;rw [hp];rfl)
      have hpn:p<n:=by
        have h5:=hthr _ (hg.ev.call i b1)
        unfold tn at b2;omega
      rw [e]
      exact⟨g1,g2.keep hx hr hrho htr (ho p hpq) (λhu=>hw p hpq hpn hu)⟩
  · by_cases hij:i=j
    · subst hij
      rw [hx.self] at hri ⊢
      exact hD hri
    · obtain⟨a1,e⟩:=hx.other i hi hij
      rw [e] at hri ⊢
      exact(h.told i a1 hri).keep hx hr (hg.ev.tick i a1).2.2.2
end
end
end Go.Proofs.YtfkokppncipgnaaGreat
