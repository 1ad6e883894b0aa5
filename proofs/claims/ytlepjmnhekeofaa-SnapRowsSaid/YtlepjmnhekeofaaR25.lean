/- Layer 15: a scan's step keeps what it has seen. -/
import Derived.Test.YtlepjmnhekeofaaR24
import Derived.Test.YtlepjmnhekeofaaR23
set_option maxRecDepth 100000
set_option linter.unusedVariables false
set_option linter.unusedSimpArgs false
set_option linter.unnecessarySimpa false
namespace Go.Proofs.Ytlepjmnhekeofaa
section
open Go.RowKit
variable {calls:List CallD} {prt val:CallD->Nat} {rho:Nat->Nat} {evs:List EvD}
theorem list_ext16 {a b:List Nat} (h1:a.length=16) (h2:b.length=16) (h:∀ i,i<16->a.getD i 0=b.getD i 0):a=b:=by
 apply List.ext_getElem
 ·omega
 ·intro i i1 i2
  have:=h i (by omega)
  rw [List.getD_eq_getElem?_getD,List.getElem?_eq_getElem i1,List.getD_eq_getElem?_getD,List.getElem?_eq_getElem i2] at this
  exact this
theorem sc_held {n T I N p:Nat} {s:ScD} {ws:List Nat} {traces:Int->List Int} {wd:WD} (hn:n<=16) (hp:p<n) (hprt:∀ x,x<evs.length->piW calls (evAt evs x)->prt (calls.getD (evAt evs x).call d0)=tn calls (evAt evs x)) (hnow:wd.now=T) (htr:wd.traces=traces) (hR:RecOk n calls prt val rho evs ws traces T) (hmine:∀ x,x<evs.length->piW calls (evAt evs x)->tn calls (evAt evs x)=p->(evAt evs x).resp<I)
  (h1:s.old.length=16) (h2:s.now.length=16) (h3:s.diff.length=16) (hz:∀ i,n<=i->s.old.getD i 0=0/\s.now.getD i 0=0) (hit:I<=T) (hown:s.diff.getD p false=false) (hdn:∀ i,n<=i->s.diff.getD i false=false)
  (hpc:s.pc=0) (hnil:s.list=[]) (hst:N=(s.rounds+1)*n) (hfew:s.rounds<=cntT s.diff+1)
  (hcur:∀ i,i<n->∃ a,I<=a/\a<=T/\(1<=s.rounds->s.last<=a)/\CellAt calls prt rho evs i a (s.now.getD i 0))
  (hlast:1<=s.rounds->I<=s.last/\s.last<=T)
  (hprev:1<=s.rounds->∀ i,i<n->∃ a,I<=a/\a<=s.last/\CellAt calls prt rho evs i a (s.old.getD i 0)/\(s.diff.getD i false=true->∃ jj,LastAt calls prt evs i a (some jj)/\I<=(evAt evs jj).resp))
  (hfirst:s.rounds=0->∀ i,s.diff.getD i false=false):ScOk n calls prt val rho evs traces T p I N (scHeld n wd s):=by
 have hcl:=cntT_lt hp (by omega) hdn hown
 unfold scHeld
 by_cases hr:s.rounds+1=1
 ·have hr0:s.rounds=0:=by omega
  rw [if_pos hr]
  refine⟨h2,h2,h3,λi hi=>⟨(hz i hi).2,(hz i hi).2⟩,hit,hown,hdn,.inl ⟨hpc,?_⟩⟩
  refine⟨by show 0<n;omega,hnil,hst,by show s.rounds+1<=_;omega,λi hi=>absurd hi (Nat.not_lt_zero i),λ_=>by show I<=wd.now/\wd.now<=T;omega,λ_ i hi=>?_,λh0=>absurd h0 (Nat.succ_ne_zero _)⟩
  obtain⟨a,a1,a2,_,a4⟩:=hcur i hi
  refine⟨a,a1,by show a<=wd.now;omega,a4,λhd=>?_⟩
  have hd':s.diff.getD i false=true:=hd
  rw [hfirst hr0 i] at hd';cases hd'
 rw [if_neg hr]
 have hr1:1<=s.rounds:=by omega
 obtain⟨l1,l2⟩:=hlast hr1
 by_cases heq:s.old=s.now
 ·rw [if_pos heq]
  refine sc_pass (m:=s.last) (λx hx hw=>(hR.pos x hx hw).1) h1 h2 h3 hz hit hown hdn rfl (Nat.zero_le _) (by show s.list.length=0;rw [hnil];rfl) ?_ rfl l1 l2 (λi hi=>?_) (λi hi=>absurd hi (Nat.not_lt_zero i))
  ·show N<=(n+1)*n+0
   rw [hst,Nat.add_zero]
   exact Nat.mul_le_mul_right n (by omega)
  ·obtain⟨a,a1,a2,a3,_⟩:=hprev hr1 i hi
   obtain⟨b,b1,b2,b3,b4⟩:=hcur i hi
   show ∃ oj,LastAt calls prt evs i s.last oj/\s.now.getD i 0=recOf rho oj
   rw [heq] at a3
   exact a3.between hR.inj (λx hx hw=>(hR.pos x hx hw).1) b4 a2 (b3 hr1)
 rw [if_neg heq]
 have hdf:∀ i,i<n->s.old.getD i 0≠s.now.getD i 0->∃ a b j,I<=a/\a<=s.last/\CellAt calls prt rho evs i a (s.old.getD i 0)/\(s.diff.getD i false=true->∃ jj,LastAt calls prt evs i a (some jj)/\I<=(evAt evs jj).resp)/\b<=T/\LastAt calls prt evs i b (some j)/\s.now.getD i 0=rho j/\a<(evAt evs j).resp:=λi hi hne=>by
  obtain⟨a,a1,a2,a3,a4⟩:=hprev hr1 i hi
  obtain⟨b,b1,b2,b3,b4⟩:=hcur i hi
  obtain⟨j,j1,j2,j3⟩:=a3.differ hR.apart (Nat.le_trans a2 (b3 hr1)) b4 hne
  exact⟨a,b,j,a1,a2,a3,a4,b2,j1,j2,j3⟩
 have hpn:s.old.getD p 0=s.now.getD p 0:=by
  by_cases h9:s.old.getD p 0=s.now.getD p 0
  ·exact h9
  ·exfalso
   obtain⟨a,b,j,a1,_,_,_,_,j1,_,j3⟩:=hdf p hp h9
   have:=hmine j j1.1 j1.2.1 (by rw [<-hprt j j1.1 j1.2.1];exact j1.2.2.1)
   omega
 obtain⟨s1,s2⟩:=scDif_spec s.old s.now n 0 s.diff (by omega)
 cases hd:scDif s.old s.now n 0 s.diff with
 | mk d o=>
  cases o with
  | some f=>
   obtain⟨i,_,i2,i3,i4,i5,i6,i7,i8⟩:=s2 d f hd
   rw [Nat.zero_add] at i2
   obtain⟨a,b,j,a1,a2,a3,a4,b2,j1,j2,j3⟩:=hdf i i2 i3
   obtain⟨jj,k1,k2⟩:=a4 i4
   obtain⟨m,v1,v2,v3,v4⟩:=hR.view j j1.1 j1.2.1
   have hI:I<=m:=by
    have hjr:=j1.resp_le
    have h5:=hR.seq jj j k1.1 j1.1 k1.2.1 j1.2.1 (by rw [<-hprt jj k1.1 k1.2.1,<-hprt j j1.1 j1.2.1,k1.2.2.1,j1.2.2.1]) (by have:=k1.resp_le;omega)
    omega
   have hmT:m<=T:=by have:=j1.resp_le;omega
   refine⟨h1,h2,by show d.length=16;omega,hz,hit,?_,λx hx=>?_,.inr (.inr (.inl ⟨rfl,?_⟩))⟩
   ·show d.getD p false=false
    rw [i8 p (Nat.zero_le _) (by omega) hpn];exact hown
   ·show d.getD x false=false
    rw [i7 x (by omega)];exact hdn x hx
   ·have hf:f=rho j:=i5.trans j2
    refine⟨by show 0<n;omega,by show s.list.length=0;rw [hnil];rfl,?_,⟨j,j1.1,j1.2.1,hf⟩,?_,m,?_,hI,hmT,λx hx=>absurd hx (Nat.not_lt_zero x)⟩
    ·show N<=(n+1)*n+0
     rw [hst,Nat.add_zero]
     exact Nat.mul_le_mul_right n (by omega)
    ·show traces (f:Int)=[(wd.traces (f:Int)).headD 0]
     rw [htr,hf,v1];rfl
    ·show(wd.traces (f:Int)).headD 0=(m:Int)
     rw [htr,hf,v1];rfl
  | none=>
   obtain⟨g1,g2,g3⟩:=s1 d hd
   rw [Nat.zero_add] at g1 g2 g3
   have hex:∃ i,0<=i/\i<n/\s.old.getD i 0≠s.now.getD i 0:=by
    by_cases h9:∃ i,0<=i/\i<n/\s.old.getD i 0≠s.now.getD i 0
    ·exact h9
    ·exfalso
     refine heq (list_ext16 h1 h2 λi _=>?_)
     by_cases hi:i<n
     ·by_cases e:s.old.getD i 0=s.now.getD i 0
      ·exact e
      ·exact absurd ⟨i,Nat.zero_le _,hi,e⟩ h9
     ·rw [(hz i (by omega)).1,(hz i (by omega)).2]
   have hmore:=g3 hex
   refine⟨h2,h2,by show d.length=16;rw [g1.len];exact h3,λi hi=>⟨(hz i hi).2,(hz i hi).2⟩,hit,?_,λx hx=>?_,.inl ⟨hpc,?_⟩⟩
   ·show d.getD p false=false
    rw [g1.same p (Nat.zero_le _) hp hpn];exact hown
   ·show d.getD x false=false
    rw [g1.out x (by omega)];exact hdn x hx
   refine⟨by show 0<n;omega,hnil,hst,by show s.rounds+1<=cntT d+1;omega,λi hi=>absurd hi (Nat.not_lt_zero i),λ_=>by show I<=wd.now/\wd.now<=T;omega,λ_ i hi=>?_,λh0=>absurd h0 (Nat.succ_ne_zero _)⟩
   obtain⟨b,b1,b2,b3,b4⟩:=hcur i hi
   refine⟨b,b1,by show b<=wd.now;omega,b4,λhdi=>?_⟩
   have hdi':d.getD i false=true:=hdi
   by_cases hne:s.old.getD i 0=s.now.getD i 0
   ·-- it differed ahead;the last update then is no later one
    rw [g1.same i (Nat.zero_le _) hi hne] at hdi'
    obtain⟨a,a1,a2,a3,a4⟩:=hprev hr1 i hi
    obtain⟨jj,k1,k2⟩:=a4 hdi'
    obtain⟨oj,o1,o2⟩:=b4
    obtain⟨oj',p1,p2⟩:=a3
    have e:=p1.unique hR.apart k1
    subst e
    match oj,o1,o2 with
    | none,o1,o2=>
     exfalso
     have:=o1 jj k1.1 k1.2.1 k1.2.2.1
     have:=k1.resp_le
     have:=b3 hr1
     omega
    | some y,o1,o2=>
     refine⟨y,o1,?_⟩
     have h5:=o1.2.2.2.2 jj k1.1 k1.2.1 k1.2.2.1 (by have:=k1.resp_le;have:=b3 hr1;omega)
     omega
   ·obtain⟨a,b',j,a1,a2,a3,a4,b2',j1,j2,j3⟩:=hdf i hi hne
    obtain⟨oj,o1,o2⟩:=b4
    obtain⟨a',a1',a2',a3',_⟩:=hprev hr1 i hi
    obtain⟨y,y1,y2,y3⟩:=a3'.differ hR.apart (Nat.le_trans a2' (b3 hr1)) ⟨oj,o1,o2⟩ hne
    exact⟨y,y1,by omega⟩
theorem sc_go {n T I N p:Nat} {s:ScD} {ws:List Nat} {traces:Int->List Int} {wd:WD} (hn1:1<=n) (hn:n<=16) (hp:p<n) (hprt:∀ x,x<evs.length->piW calls (evAt evs x)->prt (calls.getD (evAt evs x).call d0)=tn calls (evAt evs x)) (hnow:wd.now=T) (htr:wd.traces=traces) (hws:wd.mem.ws=ws) (hR:RecOk n calls prt val rho evs ws traces T) (hmine:∀ x,x<evs.length->piW calls (evAt evs x)->tn calls (evAt evs x)=p->(evAt evs x).resp<I)
  (h:ScOk n calls prt val rho evs traces T p I N s) (hlive:s.pc≠3):scAddr s<ws.length/\ScOk n calls prt val rho evs traces T p I (N+1) (scGo n wd s):=by
 obtain⟨h1,h2,h3,hz,hit,hown,hdn,hb⟩:=h
 rcases hb with⟨hpc,c⟩|⟨hpc,c⟩|⟨hpc,c⟩|⟨hpc,_⟩
 ·have hat:=c.at_
  have ha:scAddr s=s.at_:=by unfold scAddr;rw [if_pos hpc]
  have hlt:s.at_<ws.length:=Nat.lt_of_lt_of_le hat hR.nw
  have hg:taGot wd (scAddr s)=ws.getD s.at_ 0:=by rw [ha,taGot_in (by rw [hws];exact hlt),hws]
  refine⟨by rw [ha];exact hlt,?_⟩
  unfold scGo
  rw [hg]
  obtain⟨g,hgg⟩:∃ g,g=ws.getD s.at_ 0:=⟨_,rfl⟩
  rw [<-hgg]
  have hcell:=hR.cell s.at_ hat
  rw [<-hgg] at hcell
  have hset:∀ i,(s.now.set s.at_ g).getD i 0=if i=s.at_ then g else s.now.getD i 0:=λi=>getD_set_if' _ _ _ _ (by omega)
  have hz':∀ i,n<=i->s.old.getD i 0=0/\(s.now.set s.at_ g).getD i 0=0:=λi hi=>by rw [hset i,if_neg (by omega)];exact hz i hi
  have hcur:∀ i,i<s.at_+1->∃ a,I<=a/\a<=T/\(1<=s.rounds->s.last<=a)/\CellAt calls prt rho evs i a ((s.now.set s.at_ g).getD i 0):=λi hi=>by
   rw [hset i]
   by_cases e:i=s.at_
   ·rw [if_pos e,e]
    exact⟨T,hit,Nat.le_refl _,λhr=>(c.last hr).2,hcell⟩
   ·rw [if_neg e]
    exact c.cur i (by omega)
  unfold scNext
  rw [if_pos hpc]
  by_cases hl:s.at_+1=n
  ·rw [if_pos hl]
   refine sc_held (wd:=wd) (s:={ s with now:=s.now.set s.at_ g,at_:=s.at_+1 }) hn hp hprt hnow htr hR hmine h1 (by show(s.now.set s.at_ g).length=16;rw [List.length_set];exact h2) h3 hz' hit hown hdn hpc c.nil ?_ c.few (λi hi=>hcur i (by omega)) c.last c.prev c.first
   rw [c.steps,Nat.succ_mul];show s.rounds*n+s.at_+1=s.rounds*n+n;omega
  ·rw [if_neg hl]
   exact⟨h1,by show(s.now.set s.at_ g).length=16;rw [List.length_set];exact h2,h3,hz',hit,hown,hdn,.inl ⟨hpc,⟨by show s.at_+1<n;omega,c.nil,by show N+1=s.rounds*n+(s.at_+1);rw [c.steps];omega,c.few,hcur,c.last,c.prev,c.first⟩⟩⟩
 ·have hat:=c.at_
  obtain⟨m,m1,m2,m3,m4,m5⟩:=c.mom
  have ha:scAddr s=s.now.getD s.at_ 0:=by unfold scAddr;rw [if_neg (by omega),if_pos hpc]
  obtain⟨oj,o1,o2⟩:=m4 s.at_ hat
  match oj,o1,o2 with
  | none,_,o2=>exact absurd o2 c.pos
  | some y,o1,o2=>
   have hy:=hR.pos y o1.1 o1.2.1
   have ha2:scAddr s=rho y:=ha.trans o2
   have hlt:scAddr s<ws.length:=by rw [ha2];omega
   have hg:taGot wd (scAddr s)=val (calls.getD (evAt evs y).call d0):=by rw [taGot_in (by rw [hws];exact hlt),hws,ha2];exact hR.value y o1.1 o1.2.1
   refine⟨hlt,?_⟩
   unfold scGo scNext
   rw [hg,if_neg (by omega),if_pos hpc]
   refine sc_pass (s:={ s with list:=s.list++[val (calls.getD (evAt evs y).call d0)],at_:=s.at_+1 }) (m:=m) (λx hx hw=>(hR.pos x hx hw).1) h1 h2 h3 hz hit hown hdn hpc (by show s.at_+1<=n;omega) (by show(s.list++[_]).length=s.at_+1;rw [List.length_append,c.len];rfl) (by show N+1<=(n+1)*n+(s.at_+1);have:=c.steps;omega) m1 m2 m3 m4 (λi hi=>?_)
   show ValAt calls prt val evs i m ((s.list++[_]).getD i 0)
   by_cases e:i=s.at_
   ·rw [e,<-c.len,getD_snoc,c.len];exact⟨some y,o1,rfl⟩
   ·have hi':i<s.at_+1:=hi
    rw [getD_append_left' (by have:=c.len;omega)];exact m5 i (by omega)
 ·have hat:=c.at_
  obtain⟨m,m1,m2,m3,m5⟩:=c.mom
  obtain⟨jj,j1,j2,j3⟩:=c.ref
  have hy:=hR.pos jj j1 j2
  have ha:scAddr s=s.from_+1+s.at_:=by unfold scAddr;rw [if_neg (by omega),if_neg (by omega)]
  have hlt:scAddr s<ws.length:=by rw [ha,j3];omega
  obtain⟨m',v1,_,_,v4⟩:=hR.view jj j1 j2
  have hmm:m'=m:=by
   have h5:=c.tr
   rw [j3,v1,m1] at h5
   have:=(List.cons.inj h5).1
   omega
  have hg:taGot wd (scAddr s)=ws.getD (rho jj+1+s.at_) 0:=by rw [taGot_in (by rw [hws];exact hlt),hws,ha,j3]
  refine⟨hlt,?_⟩
  unfold scGo scNext
  rw [hg,if_neg (by omega),if_neg (by omega)]
  have hv:∀ i,i<s.at_+1->ValAt calls prt val evs i m ((s.list++[ws.getD (rho jj+1+s.at_) 0]).getD i 0):=λi hi=>by
   by_cases e:i=s.at_
   ·rw [e,<-c.len,getD_snoc,c.len,<-hmm];exact v4 s.at_ hat
   ·rw [getD_append_left' (by have:=c.len;omega)];exact m5 i (by omega)
  have hlen:(s.list++[ws.getD (rho jj+1+s.at_) 0]).length=s.at_+1:=by rw [List.length_append,c.len];rfl
  refine⟨h1,h2,h3,hz,hit,hown,hdn,?_⟩
  by_cases hl:s.at_+1=n
  ·rw [if_pos hl]
   exact .inr (.inr (.inr ⟨rfl,⟨hlen.trans hl,by have:=c.steps;omega,m,m1,m2,m3,λi hi=>hv i (by omega)⟩⟩))
  ·rw [if_neg hl]
   exact .inr (.inr (.inl ⟨hpc,⟨by show s.at_+1<n;omega,hlen,by show N+1<=(n+1)*n+(s.at_+1);have:=c.steps;omega,⟨jj,j1,j2,j3⟩,c.tr,m,m1,m2,m3,hv⟩⟩))
 ·exact absurd hpc hlive
end
section

/- Layer 14: what every play of a register keeps: what was written last: each turn keeps it. -/
open Go.RowKit
variable {n k:Nat} {calls:List CallD}
theorem taRead_c {wd:WD} {a:Nat} (h:a<wd.mem.ws.length):(taRead wd a).mem.c.fault=wd.mem.c.fault/\(taRead wd a).mem.c.all=wd.mem.c.all+1:=by
 have ho:memOut wd.mem (a:Int)=false:=by unfold memOut;simp;omega
 unfold taRead memRead
 rw [if_neg (by rw [ho];simp)]
 refine⟨rfl,?_⟩
 unfold CountsD.all
 simp only
 omega
theorem doWrite_c {wd:WD} {a v:Nat} (h:a<wd.mem.ws.length):(doWrite wd a v).mem.c.fault=wd.mem.c.fault/\(doWrite wd a v).mem.c.all=wd.mem.c.all+1:=by
 have ho:memOut wd.mem (a:Int)=false:=by unfold memOut;simp;omega
 unfold doWrite memWrite
 simp only
 rw [if_neg (by rw [ho];simp)]
 refine⟨rfl,?_⟩
 unfold CountsD.all
 simp only
 omega
theorem piW_open {e:EvD} (h:e.resp=0):¬ piW calls e:=λhp=>hp.2.2.2 h
end
end Go.Proofs.Ytlepjmnhekeofaa
