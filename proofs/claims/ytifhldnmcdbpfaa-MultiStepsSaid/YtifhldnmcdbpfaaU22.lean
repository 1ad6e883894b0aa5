/- Layer 16: what every play of a snapshot of many writers keeps: the turns of one that updates, and those that are refused. -/
import Derived.Test.YtifhldnmcdbpfaaU21
import Derived.Test.YtifhldnmcdbpfaaU03
import Derived.Test.YtifhldnmcdbpfaaU05
import Derived.Deep.QuietTactic
import Derived.BigQuiet
import Derived.Test.YtifhldnmcdbpfaaU02
import Derived.BigRegion
import Derived.Test.YtifhldnmcdbpfaaU15
import Derived.Test.YtifhldnmcdbpfaaU16
set_option maxRecDepth 100000
set_option linter.unusedVariables false
set_option linter.unusedSimpArgs false
set_option linter.unnecessarySimpa false
namespace Go.Proofs.Ytifhldnmcdbpfaa
section
open Go.RowKit
variable {n m q:Nat} {calls:List aF}
section
variable {st:aP (aR n m q)} {p i j:Nat} {aU:List EvD} {rho:Nat->Nat} {bQ:WD}
theorem BM {sc:MuD} {p' a r x v:Nat} (hm:1<=m) (hn16:n<=16) (hthr:∀ c,c<calls.length->0<=(calls.getD c d0).thread/\(calls.getD c d0).thread<n) (hg:bH calls st) (h:MuInv n m q calls st rho) (hq:p<16) (hN:gU calls st.fin (p:Int)=some i) (hf:From calls st p i j (.up sc p' a r x v false) aU bQ) :
  MuInv n m q calls (jV st ((aR n m q).step st.obj bQ p (.up sc p' a r x v false)) p i j aU) rho:=by
 have hopen:(aB aU j).resp=0:=hf.open_
 have CQ:=hf.next hg hN (aV (aB aU j)) rfl
 obtain⟨g1,g2,g3,g3a,g3b,g4,g5,g6,g7⟩:=lL hm hg h hf CQ (.inl hopen) (eH hopen)
 rcases g7 with⟨_,a2,a3,a4⟩|⟨a1,_⟩
 case inr=>cases a1
 obtain⟨hlt,_,_⟩:=nN hm hn16 hthr hg h hN hf CQ (.inl hopen) (eH hopen) a3 a4
 obtain⟨r1,r2⟩:=xZ (wd:=bQ) (a:=eQ sc) (by rw [hf.mem];exact hlt)
 have hw':=wD bQ (eQ sc)
 refine wX (s':=.up (bJ m q bQ sc) p' a r x v (aS (bJ m q bQ sc))) (ws':=st.wd.mem.ws) hm hthr hg h hq hN hf rfl rfl rfl r1 r2 rfl (hw'.trans (by rw [hf.mem])) rfl (λ_ _=>rfl) (λ_ _ _ _ _=>rfl) (λ_ _ _ _ _ _=>rfl) (λevs' hx=>?_)
 obtain⟨_,_,_,_,_,_,_,_,k7⟩:=lL hm hg h hf hx (.inl hopen) (eH hopen)
 rcases k7 with⟨_,b2,b3,b4⟩|⟨b1,_⟩
 case inr=>cases b1
 obtain⟨_,k6,_⟩:=nN hm hn16 hthr hg h hN hf hx (.inl hopen) (eH hopen) b3 b4
 refine⟨g2,g3,g3a,g3b,g4,g5,g6,?_⟩
 by_cases h3:aS (bJ m q bQ sc)=true
 ·exact .inr ⟨h3,h3,by omega,⟨_,k6,by show(aB aU j).steps+1=(aB aU j).steps+1+x;omega⟩,λh9=>by omega,λi hi=>by omega⟩
 ·exact .inl ⟨by simpa using h3,a2,by simpa using h3,k6⟩
theorem yJ {sc:MuD} {p' a r x v:Nat} (hm:1<=m) (hthr:∀ c,c<calls.length->0<=(calls.getD c d0).thread/\(calls.getD c d0).thread<n) (hg:bH calls st) (h:MuInv n m q calls st rho) (hq:p<16) (hN:gU calls st.fin (p:Int)=some i) (hf:From calls st p i j (.up sc p' a r x v true) aU bQ) (hx:x<=m) :
  MuInv n m q calls (jV st ((aR n m q).step st.obj bQ p (.up sc p' a r x v true)) p i j aU) rho:=by
 have hopen:(aB aU j).resp=0:=hf.open_
 have hqn:=pY hthr hN
 have CQ:=hf.next hg hN (aV (aB aU j)) rfl
 obtain⟨g1,g2,g3,g3a,g3b,g4,g5,g6,g7⟩:=lL hm hg h hf CQ (.inl hopen) (eH hopen)
 have hhi:=uL (n:=n) (m:=m) hqn g5
 have hst:(aR n m q).step st.obj bQ p (.up sc p' a r x v true)=(st.obj,dK bQ (r+x) ((v::sc.list).getD x 0),.up sc p' a r (x+1) v true,false):=if_pos hx
 obtain⟨y,hy⟩:∃ y,y=(v::sc.list).getD x 0:=⟨_,rfl⟩
 rw [<-hy] at hst
 have hlt:r+x<bQ.mem.ws.length:=by rw [hf.mem,h.wl,g6];omega
 obtain⟨r1,r2⟩:=wI (wd:=bQ) (a:=r+x) (v:=y) hlt
 have hw':=tY hlt y
 rw [show bQ.mem.ws=st.wd.mem.ws by rw [hf.mem]] at hw'
 have hrn:m<=r:=by rw [g6,iK];exact Nat.le_add_right _ _
 refine wX (ws':=st.wd.mem.ws.set (r+x) y) hm hthr hg h hq hN hf hst rfl rfl r1 r2 rfl hw' (List.length_set ..) (λb hb=>aO (by omega)) (λz hz hp b hb=>?_) (λp2 hp2 hpn hu b hb=>?_) (λevs' hx'=>?_)
 ·obtain⟨r',y1,y2⟩:=h.rcd z hz hp
  refine aO λe=>?_
  rw [y2,g6] at e
  have:=qK g5 (Nat.lt_of_lt_of_le y1 (h.uk _)) hx hb e
  rw [<-this.1,<-this.2.1] at y1
  exact absurd y1 (Nat.lt_irrefl _)
 ·refine aO λe=>hp2 ?_
  rw [g6] at e
  exact(qK g5 hu hx hb e).1.symm
 ·obtain⟨_,_,_,_,_,_,_,_,k7⟩:=lL hm hg h hf hx' (.inl hopen) (eH hopen)
  rcases k7 with⟨b1,_⟩|⟨_,c2,c3,⟨N,c4,c5⟩,c6,c7⟩
  ·cases b1
  have hlt':r+x<st.wd.mem.ws.length:=by rw [<-show bQ.mem.ws=st.wd.mem.ws by rw [hf.mem]];exact hlt
  have hset:∀ b,(st.wd.mem.ws.set (r+x) y).getD b 0=if b=r+x then y else st.wd.mem.ws.getD b 0:=λb=>gJ _ _ _ _ hlt'
  have hkeep:kS n m calls gV iZ rho evs' (st.wd.mem.ws.set (r+x) y) (st.wd.now+1) p (aB aU j).inv N sc:=by
   obtain⟨d1,d2,d3⟩:=c4
   refine⟨d1,d2,?_⟩
   rcases d3 with⟨e,c⟩|⟨e,c⟩
   ·exact .inl ⟨e,c⟩
   ·refine .inr ⟨e,⟨c.len,c.head,c.steps,?_⟩⟩
    obtain⟨mm,m1,m2,m3,m4,m5⟩:=c.mom
    refine⟨mm,m1,m2,m3,m4,λj' hj'=>?_⟩
    unfold aS at c2
    rw [Bool.and_eq_true] at c2
    rw [of_decide_eq_true c2.2] at hj'
    exact absurd hj' (Nat.not_lt_zero _)
  refine⟨g2,g3,g3a,g3b,g4,g5,g6,.inr ⟨rfl,c2,by omega,⟨N,hkeep,by show(aB aU j).steps+1=N+(x+1);omega⟩,λ_=>?_,λb hb=>?_⟩⟩
  ·rw [hset]
   by_cases e:x=0
   ·rw [if_pos (by omega),hy,e];rfl
   ·rw [if_neg (by omega)];exact c6 (by omega)
  ·rw [hset]
   by_cases e:x=b+1
   ·rw [if_pos (by omega),hy,e];rfl
   ·rw [if_neg (by omega)];exact c7 b (by omega)
theorem yF {sc:MuD} {p' a r x v:Nat} (hm:1<=m) (hthr:∀ c,c<calls.length->0<=(calls.getD c d0).thread/\(calls.getD c d0).thread<n) (hg:bH calls st) (h:MuInv n m q calls st rho) (hq:p<16) (hN:gU calls st.fin (p:Int)=some i) (hf:From calls st p i j (.up sc p' a r x v true) aU bQ) (hlast:¬ x<=m) :
  ∃ rho',MuInv n m q calls (jV st ((aR n m q).step st.obj bQ p (.up sc p' a r x v true)) p i j aU) rho':=by
 have hqn:=pY hthr hN
 obtain⟨hh,hjl,hc,hr0,rfl,rfl⟩:st.hands.getD p (none,0)=(some (.up sc p' a r x v true),j)/\j<st.evs.length/\(aB st.evs j).call=i/\(aB st.evs j).resp=0/\aU=st.evs/\bQ=st.wd.tick:=by
  rcases hf.or with h9|⟨_,hs,_,_,_⟩
  ·exact h9
  ·exfalso
   obtain⟨_,⟨_,e⟩|⟨_,_,_,e⟩⟩:=DF hs
   ·cases e
   ·cases e
 obtain⟨e0,he0⟩:∃ e0,e0=aB st.evs j:=⟨_,rfl⟩
 obtain⟨g1,g2,g3,g3a,g3b,g4,g5,g6,g7⟩:=h.hand p _ j hh
 rw [<-he0] at g1 g2 g3a g4 g7
 rcases g7 with⟨b1,_⟩|⟨_,c2,c3,⟨N,c4,c5⟩,c6,c7⟩
 ·cases b1
 have hnx':x=m+1:=by omega
 obtain⟨c1,c9,mm,m1,m2,m3,m4⟩:=c4.over c2
 have hhi:=uL (n:=n) (m:=m) hqn g5
 rw [<-g6] at hhi
 have hrn:m<=r:=by rw [g6,iK];exact Nat.le_add_right _ _
 have hwl:=h.wl
 have hnsz:m<=CY n m q:=by unfold CY;omega
 have hlt:a<(nH st.wd.tick r sc.moment).mem.ws.length:=by show a<st.wd.mem.ws.length;rw [hwl];omega
 obtain⟨r1,r2⟩:=wI (v:=r) hlt
 have hw':=tY hlt r
 obtain⟨wd',hwd'⟩:∃ wd',wd'=dK (nH st.wd.tick r sc.moment) a r:=⟨_,rfl⟩
 rw [<-hwd'] at r1 r2 hw'
 replace hw':wd'.mem.ws=st.wd.mem.ws.set a r:=hw'
 have hnow':wd'.now=st.wd.now+1:=by rw [hwd'];rfl
 have hmk':wd'.marks=List.replicate 16 []:=by rw [hwd'];exact h.marks
 have htr':wd'.traces=vH st.wd.traces (r:Int) [(mm:Int)]:=by rw [hwd',<-m1];rfl
 obtain⟨o',ho'⟩:∃ o':List Nat,o'=List.set (α:=Nat) st.obj p (List.getD (α:=Nat) st.obj p 0+1):=⟨_,rfl⟩
 have hst:(aR n m q).step st.obj st.wd.tick p (.up sc p' a r x v true)=(o',wd',.up sc p' a r x v true,true):=by
  rw [ho',hwd']
  subst g3
  exact if_neg hlast
 obtain⟨e1,he1⟩:∃ e1,e1=bL wd' p ⟨0,0,[]⟩ [] e0:=⟨_,rfl⟩
 have hto:jV st ((aR n m q).step st.obj st.wd.tick p (.up sc p' a r x v true)) p i j st.evs={ wd:=wd',obj:=o',fin:=st.fin.set i true,hands:=st.hands.set p (none,j),evs:=st.evs.set j e1,idle:=st.idle }:=by rw [hst,he1,he0];rfl
 have hnx:=hf.next hg hN e1 (by rw [he1,he0];rfl)
 have hresp:e1.resp=st.wd.now+1:=by rw [he1];exact hnow'
 have hob:bY calls e1=0:=by rw [he1];exact g1
 have hkd:kindOf calls e1=0:=by rw [he1];exact g2
 have hans:e1.ans=⟨0,0,[]⟩:=by rw [he1];rfl
 have hcall:e1.call=e0.call:=by rw [he1];rfl
 have hpw:piW calls e1:=⟨hob,hkd,by rw [hans],by rw [hresp];omega⟩
 have htn:tn calls e1=p:=hnx.thr
 have hkey:e1.key=[2*(e1.resp:Int)]:=by
  rw [hresp,<-hnow',he1]
  show keyOf wd' p []=_
  rw [oM hmk',if_pos rfl];rfl
 have VX:=h.u16
 have hset:∀ t,List.getD (α:=Nat) o' t 0=if t=p then List.getD (α:=Nat) st.obj p 0+1 else List.getD (α:=Nat) st.obj t 0:=λt=>by
  rw [ho'];exact gJ _ _ _ _ (by omega)
 have hmine:∀ x,x<st.evs.length->piW calls (aB st.evs x)->tn calls (aB st.evs x)=tn calls e1->(aB st.evs x).resp<e1.inv:=λx hx hp ht=>by
  have hxj:x≠j:=λe=>by subst e;exact hp.2.2.2 hr0
  have:=EA hg hN hf x hx hxj (ht.trans htn) hp.2.2.2
  rw [he1,he0];exact this
 have hfar:∀ x,x<st.evs.length->piW calls (aB st.evs x)->rho x≠r:=λx hx hp e=>by
  obtain⟨r',y1,y2⟩:=h.rcd x hx hp
  rw [y2,g6] at e
  have:=qK (m:=m) (a:=0) (a':=0) (Nat.lt_of_lt_of_le y1 (h.uk _)) g5 (Nat.zero_le _) (Nat.zero_le _) (by rw [Nat.add_zero,Nat.add_zero];exact e)
  rw [this.1,this.2.1] at y1
  exact absurd y1 (Nat.lt_irrefl _)
 have hlow:∀ x,x<st.evs.length->piW calls (aB st.evs x)->m<=rho x:=λx hx hp=>by
  obtain⟨r',_,y2⟩:=h.rcd x hx hp
  rw [y2,iK];exact Nat.le_add_right _ _
 have hRn:=h.rc.new (t:=a) (r:=r) (m:=mm) (ws':=wd'.mem.ws) hg hnx hpw hresp (show gV (calls.getD e1.call d0)=a by rw [hcall,g3a];rfl) g3b hw' (by rw [hwl];exact hhi) hrn (by omega) hfar hlow (by rw [c6 (by omega),g4,hcall];rfl) (by rw [he1];exact m2) m3 (λb hb=>by rw [c7 b (by omega)];exact m4 b hb) hmine
 have hcas:∀ y,y<(st.evs.set j e1).length->piW calls (aB (st.evs.set j e1) y)->(y=j/\aB (st.evs.set j e1) y=e1)∨(y≠j/\y<st.evs.length/\piW calls (aB st.evs y)/\aB (st.evs.set j e1) y=aB st.evs y):=λy hyl hp=>by
  by_cases hyj:y=j
  ·exact .inl ⟨hyj,by rw [hyj];exact hnx.self⟩
  ·obtain⟨a,b⟩:=hnx.other y hyl hyj
   exact .inr ⟨hyj,a,by rw [<-b];exact hp,b⟩
 refine⟨λx=>if x=j then r else rho x,?_⟩
 rw [hto]
 refine sF (rho:=rho) (rho':=λx=>if x=j then r else rho x) hg h hq hthr hnx rfl (.inr hresp) hnow' hmk' (by show wd'.mem.c.fault=0;rw [r1];exact h.cf) (Nat.le_of_eq r2) (by show wd'.mem.ws.length=_;rw [hw',List.length_set];exact hwl) (by show List.length (α:=Nat) o'=16;rw [ho'];exact(List.length_set ..).trans VX) (λt=>?_) (λt ht=>?_) (by rw [<-htr'] at hRn;exact hRn) (λy hyl hp=>?_) (λy z hyl hzl hpy hpz htt hlt2=>?_) (λ_=>⟨by show 0<(if j=j then r else rho j);rw [if_pos rfl];omega,λy hy hp=>by show rho y≠(if j=j then r else rho j);rw [if_pos rfl];exact hfar y hy hp⟩) (λy hy hp=>if_neg (hnx.piw hy hp).2.1) (λy hy hp b hb=>?_) (λp2 hp2=>?_) (λp2 hp2 hpn hu b hb=>?_) (λ_ _ hx=>by cases hx) (λ_=>⟨λ_ h1=>by omega,λ_ _=>.inl ⟨hans,by rw [hcall,<-g3a];exact g3b,?_⟩,λ_=>⟨hkey,λhne=>absurd ⟨hob,hkd⟩ hne⟩,?_⟩)
 ·show List.getD (α:=Nat) o' t 0<=q
  rw [hset]
  by_cases e:t=p
  ·rw [if_pos e];omega
  ·rw [if_neg e];exact h.uk t
 ·show List.getD (α:=Nat) o' t 0=cnt (isU calls t) (st.evs.set j e1)
  rw [hset,hnx.cnt zV]
  by_cases e:t=p
  ·rw [if_pos e,show isU calls t e1=true from by unfold isU;rw [decide_eq_true hpw,decide_eq_true (htn.trans e.symm)];rfl,if_pos rfl,e,h.uc p hqn]
  ·rw [if_neg e,show isU calls t e1=false from by unfold isU;rw [decide_eq_false (show ¬ tn calls e1=t from λe9=>e (e9.symm.trans htn)),Bool.and_false],h.uc t ht];simp
 ·show ∃ r',r'<List.getD (α:=Nat) o' (tn calls (aB (st.evs.set j e1) y)) 0/\(if y=j then r else rho y)=bI m q (tn calls (aB (st.evs.set j e1) y)) r'
  rcases hcas y hyl hp with⟨rfl,d⟩|⟨d1,d2,d3,d4⟩
  ·rw [d,htn,hset,if_pos rfl,if_pos rfl]
   exact⟨List.getD (α:=Nat) st.obj p 0,Nat.lt_succ_self _,g6⟩
  ·rw [d4]
   obtain⟨r',y1,y2⟩:=h.rcd y d2 d3
   refine⟨r',?_,by rw [if_neg d1];exact y2⟩
   rw [hset]
   by_cases e9:tn calls (aB st.evs y)=p
   ·rw [if_pos e9];rw [e9] at y1;omega
   ·rw [if_neg e9];exact y1
 ·show(if y=j then r else rho y)<(if z=j then r else rho z)
  replace htt:tn calls (aB (st.evs.set j e1) y)=tn calls (aB (st.evs.set j e1) z):=htt
  replace hlt2:(aB (st.evs.set j e1) y).resp<(aB (st.evs.set j e1) z).resp:=hlt2
  rcases hcas y hyl hpy with⟨rfl,d⟩|⟨d1,d2,d3,d4⟩
  ·exfalso
   rcases hcas z hzl hpz with⟨rfl,d'⟩|⟨d1',d2',d3',d4'⟩
   ·omega
   ·rw [d,d4',hresp] at hlt2
    have:=(hg.ev.tick z d2').2.2.2
    omega
  ·rcases hcas z hzl hpz with⟨rfl,d'⟩|⟨d1',d2',d3',d4'⟩
   ·rw [if_neg d1,if_pos rfl]
    rw [d4,d',htn] at htt
    obtain⟨r',y1,y2⟩:=h.rcd y d2 d3
    rw [htt] at y1 y2
    rw [y2,g6]
    exact BA y1
   ·rw [if_neg d1,if_neg d1']
    rw [d4,d4'] at htt hlt2
    exact h.ord y z d2 d2' d3 d3' htt hlt2
 ·show wd'.mem.ws.getD _ 0=_
  rw [hw']
  refine aO ?_
  have:=hlow y hy hp
  omega
 ·show List.getD (α:=Nat) o' p2 0=_
  rw [hset,if_neg hp2]
 ·show wd'.mem.ws.getD _ 0=_
  rw [hw']
  refine aO ?_
  have:m<=bI m q p2 (List.getD (α:=Nat) st.obj p2 0):=by rw [iK];exact Nat.le_add_right _ _
  omega
 ·show cnt (kK calls (tn calls e1) e1.resp) (st.evs.set j e1)<q
  rw [htn,hresp,oK hnx (.inr hresp) (Nat.le_refl _),vT hg,<-h.uc p hqn]
  exact g5
 ·have hs:e1.steps=e0.steps+1:=by rw [he1];rfl
  rw [hs]
  exact⟨by omega,λh1=>by omega⟩
theorem GH {er:Int} (hm:1<=m) (hthr:∀ c,c<calls.length->0<=(calls.getD c d0).thread/\(calls.getD c d0).thread<n) (hg:bH calls st) (h:MuInv n m q calls st rho) (hq:p<16) (hN:gU calls st.fin (p:Int)=some i) (hs:dB (aR n m q) st.obj (st.wd.tick.begin p) p (calls.getD i d0)=.refuse er):MuInv n m q calls (tZ st p i er) rho:=by
 obtain⟨e,he⟩:∃ e,e=bL (st.wd.tick.begin p) p ⟨er,0,[]⟩ [] (eB i (st.wd.tick.begin p)):=⟨_,rfl⟩
 have hst:tZ st p i er={ wd:=st.wd.tick.begin p,obj:=st.obj,fin:=st.fin.set i true,hands:=st.hands.set p (none,st.evs.length),evs:=st.evs++[e],idle:=st.idle }:=by rw [he];rfl
 have hnx:=qW hg hN e (by rw [he];rfl)
 have hqn:=pY hthr hN
 have hresp:e.resp=st.wd.now+1:=by rw [he];rfl
 have hmk:=mJ (q:=p) h.marks
 have e1:bY calls e=(calls.getD i d0).obj:=by rw [he];rfl
 have e2:kindOf calls e=(calls.getD i d0).kind:=by rw [he];rfl
 have e4:(calls.getD e.call d0).a=(calls.getD i d0).a:=by rw [he];rfl
 have e3:tn calls e=p:=hnx.thr
 have hkey:e.key=[2*(e.resp:Int)]:=by
  rw [he]
  show keyOf (st.wd.tick.begin p) p []=_
  rw [oM hmk,if_pos rfl];rfl
 have hans:e.ans=⟨er,0,[]⟩:=by rw [he];rfl
 have hcn:cnt (kK calls p (st.wd.now+1)) (st.evs++[e])=List.getD (α:=Nat) st.obj p 0:=by rw [oK hnx (.inr hresp) (Nat.le_refl _),vT hg,<-h.uc p hqn]
 have htold:er≠0/\¬ (bY calls e=0/\kindOf calls e=1)/\(bY calls e=0->kindOf calls e=0->(er=10/\m<=(calls.getD i d0).a)∨(er=6/\(calls.getD i d0).a<m/\q<=List.getD (α:=Nat) st.obj p 0))/\(¬ (bY calls e=0/\kindOf calls e=0)->e.ans=(if bY calls e≠0 then ⟨12,0,[]⟩ else ⟨9,0,[]⟩)):=by
  rw [hans,e1,e2]
  unfold dB at hs
  by_cases h0:(calls.getD i d0).obj=0
  ·rw [if_pos h0] at hs
   have hs':(if (calls.getD i d0).kind=1 then Mc.run (MuS.rd xV []) else if (calls.getD i d0).kind≠0 then .refuse 9 else if m<=(calls.getD i d0).a then .refuse 10 else if q<=List.getD (α:=Nat) st.obj p 0 then .refuse 6 else .run (.up xV p (calls.getD i d0).a (bI m q p (List.getD (α:=Nat) st.obj p 0)) 0 (calls.getD i d0).b false))=Mc.refuse er:=hs
   split at hs'
   ·cases hs'
   ·rename_i k1
    split at hs'
    ·rename_i k0
     cases hs'
     exact⟨by decide,λx=>k1 x.2,λ_ x=>absurd x k0,λ_=>by rw [if_neg (λx=>x h0)]⟩
    ·rename_i k0
     split at hs'
     ·rename_i k2
      cases hs'
      exact⟨by decide,λx=>k1 x.2,λ_ _=>.inl ⟨rfl,k2⟩,λx=>absurd ⟨h0,Classical.not_not.1 k0⟩ x⟩
     ·rename_i k2
      split at hs'
      ·rename_i k3
       cases hs'
       exact⟨by decide,λx=>k1 x.2,λ_ _=>.inr ⟨rfl,Nat.lt_of_not_le k2,k3⟩,λx=>absurd ⟨h0,Classical.not_not.1 k0⟩ x⟩
      ·cases hs'
  ·rw [if_neg h0] at hs
   cases hs
   exact⟨by decide,λx=>h0 x.1,λx=>absurd x h0,λ_=>by rw [if_pos h0]⟩
 have hnw:¬ piW calls e:=λhp=>htold.1 (by have:=hp.2.2.1;rw [hans] at this;exact this)
 rw [hst]
 refine sF (rho':=rho) hg h hq hthr hnx rfl (.inr hresp) rfl hmk h.cf (Nat.le_succ _) h.wl h.u16 h.uk (MQ (st:=st) hnx hnw h) (h.rc.keep hg hnx (.inr hresp) hnw rfl (λ_ _=>rfl) (λ_ _ _ _ _=>rfl) (λ_ _ _=>rfl)) (uP (st:=st) hnx hnw h) (xN (st:=st) hnx hnw h) (λhp=>absurd hp hnw) (λ_ _ _=>rfl) (λ_ _ _ _ _=>rfl) (λ_ _=>rfl) (λ_ _ _ _ _ _=>rfl) (λ_ _ hx=>by cases hx) (λ_=>⟨λh0 h1=>absurd ⟨h0,h1⟩ htold.2.1,λh0 h1=>.inr ?_,λ_=>⟨hkey,htold.2.2.2⟩,?_⟩)
 ·rw [hans,e4,e3,hresp]
  rcases htold.2.2.1 h0 h1 with⟨b1,b2⟩|⟨b1,b2,b3⟩
  ·exact .inl ⟨by rw [b1],b2⟩
  ·refine .inr ⟨by rw [b1],b2,?_⟩
   show q<=cnt (kK calls p (st.wd.now+1)) (st.evs++[e])
   rw [hcn];exact b3
 ·have hs:e.steps=1:=by rw [he];rfl
  rw [hs]
  have:1<=(n+1)*m:=Nat.mul_pos (Nat.succ_pos n) hm
  exact⟨by omega,λ_=>by omega⟩
end
theorem OW (hm:1<=m) (hn16:n<=16) (hthr:∀ c,c<calls.length->0<=(calls.getD c d0).thread/\(calls.getD c d0).thread<n) {st st':aP (aR n m q)} (hg:bH calls st) (h:∃ rho,MuInv n m q calls st rho) (hT:wZ calls st st'):∃ rho,MuInv n m q calls st' rho:=by
 obtain⟨rho,h⟩:=h
 cases hT with
 | idle=>
  refine⟨rho,h.marks,h.cf,h.ca,h.wl,h.u16,h.uk,h.uc,h.rc,h.rcd,h.ord,h.hand,h.told⟩
 | refuse p i er hq hN hh hs=>exact⟨rho,GH hm hthr hg h hq hN hs⟩
 | step p i j s aU bQ hq hN hf=>
  match s,hf with
  | .rd sc key,hf=>exact⟨rho,AU hm hn16 hthr hg h hq hN hf⟩
  | .up sc p' a r x v false,hf=>exact⟨rho,BM hm hn16 hthr hg h hq hN hf⟩
  | .up sc p' a r x v true,hf=>
   by_cases hx:x<=m
   ·exact⟨rho,yJ hm hthr hg h hq hN hf hx⟩
   ·exact yF hm hthr hg h hq hN hf hx
end
section
open Go.RowKit
end
section
open Go.RowKit
def vW (wa:Option Addr) (n cap:Nat) (c:dG) (tail:List Value):Array Value:=
 (.slice wa n cap::.int .i64 (c.read:Int)::.int .i64 (c.write:Int)::.int .i64 (c.swap:Int)::.int .i64 (c.add:Int)::.int .i64 (c.fault:Int)::tail).toArray
structure nG (w:World) (b:Nat) (T:TypeId) (tail:List Value) (bw:Option Nat) (m:eX):Prop where
 blk:∃ wa cap,EI wa m.ws.length cap/\w.heap[b]?=some (.cells (vW wa m.ws.length cap m.c tail) T (0,0))/\
  (0<m.ws.length->∃ q rest,bw=some q/\wa=some ⟨q,0,none⟩/\w.heap[q]?=some (.cells (m.ws.map cZ++rest).toArray 40 (0,0)))
 apart:bw≠some b
 low:∀ q,bw=some q->q<w.heap.size
 len:m.ws.length<=1048576
 cnt:m.c.all<1000000000000
 val:∀ x∈m.ws,x<18446744073709551616
theorem nG.lt {w:World} {b:Nat} {T:TypeId} {tail:List Value} {bw:Option Nat} {m:eX} (h:nG w b T tail bw m):b<w.heap.size:=by obtain⟨_,_,_,h1,_⟩:=h.blk;exact aH h1
theorem nG.chg {S:Nat->Prop} {w w':World} {b:Nat} {T:TypeId} {tail:List Value} {bw:Option Nat} {m:eX} (h:nG w b T tail bw m) (hc:Chg S w w') (h1:¬ S b) (h2:∀ q,bw=some q->¬ S q):nG w' b T tail bw m:=by
 obtain⟨wa,cap,hl,hb,hw⟩:=h.blk
 refine⟨⟨wa,cap,hl,(hc.block _ (aH hb) h1).trans hb,λhp=>?_⟩,h.apart,λq e=>Nat.lt_of_lt_of_le (h.low q e) hc.size,h.len,h.cnt,h.val⟩
 obtain⟨q,rest,hq,ha,hr⟩:=hw hp
 exact⟨q,rest,hq,ha,(hc.block _ (h.low q hq) (h2 q hq)).trans hr⟩
end
section
open Go.RowKit
structure XD where
 thread:Int
 inv:Int
 got:List Nat
 ticks:List Int
 at_:Nat
 fresh:Bool
 halt:Bool
 priv:Value
 err:Int
 val:Nat
 list:Value
 key:Value
structure OP where
 tb:Nat
 pre:List Value
 post:List Value
 T:TypeId
 bW:Nat
 bw:Option Nat
 mks:Value
 trs:Value
def VU (I:OP) (G K L:Value) (k:Nat):Prop:=k=I.tb∨k=I.bW∨I.bw=some k∨G.ownBlock=some k∨K.ownBlock=some k∨L.ownBlock=some k
def mG (w:World) (V V':Value):Prop:=∀ b,V'.ownBlock=some b->V.ownBlock=some b∨w.heap.size<=b
structure qR (w w':World) (I:OP) (G K L G' K' L':Value):Prop where
 chg:Chg (VU I G K L) w w'
 kg:mG w G G'
 kk:mG w K K'
 kl:mG w L L'
theorem mG.refl (w:World) (V:Value):mG w V V:=λ_ h=>.inl h
theorem mG.trans {w w1:World} {V V1 V2:Value} (h:mG w V V1) (h1:mG w1 V1 V2) (hs:w.heap.size<=w1.heap.size):mG w V V2:=λb hb=>by
 rcases h1 b hb with h9|h9
 ·exact h b h9
 ·exact .inr (by omega)
theorem CZ {S S1:Nat->Prop} {a b c:World} (h:Chg S a b) (k:Chg S1 b c) (hs:∀ x,x<a.heap.size->S1 x->S x):Chg S a c:=
 ⟨k.os.trans h.os,k.tape.trans h.tape,k.output.trans h.output,Nat.le_trans h.size k.size,λi hi hn=>(k.block i (Nat.lt_of_lt_of_le hi h.size) (λx=>hn (hs i hi x))).trans (h.block i hi hn)⟩
theorem qR.refl (w:World) (I:OP) (G K L:Value):qR w w I G K L G K L:=⟨Chg.refl _ _,mG.refl _ _,mG.refl _ _,mG.refl _ _⟩
theorem qR.trans {w w1 w2:World} {I:OP} {G K L G1 K1 L1 G2 K2 L2:Value} (h:qR w w1 I G K L G1 K1 L1) (h1:qR w1 w2 I G1 K1 L1 G2 K2 L2):qR w w2 I G K L G2 K2 L2:=by
 refine⟨CZ h.chg h1.chg (λx hx hs=>?_),h.kg.trans h1.kg h.chg.size,h.kk.trans h1.kk h.chg.size,h.kl.trans h1.kl h.chg.size⟩
 rcases hs with e|e|e|e|e|e
 ·exact .inl e
 ·exact .inr (.inl e)
 ·exact .inr (.inr (.inl e))
 ·rcases h.kg x e with h9|h9
  ·exact .inr (.inr (.inr (.inl h9)))
  ·omega
 ·rcases h.kk x e with h9|h9
  ·exact .inr (.inr (.inr (.inr (.inl h9))))
  ·omega
 ·rcases h.kl x e with h9|h9
  ·exact .inr (.inr (.inr (.inr (.inr h9))))
  ·omega
theorem mQ {w:World} {B:Nat} {e:TypeId} {k n:Nat} {V:Value} {xs:List Value} (h:w.ownsRow B e k V n xs) {b:Nat} (hb:V.ownBlock=some b):∃ cs fz,w.heap[b]?=some (.cells cs e fz):=by
 obtain⟨_,h2⟩:=h
 rcases h2 with⟨rfl,_⟩|⟨g,cap,cur,rfl,_,hh,_⟩
 ·cases hb
 ·cases hb;exact⟨_,_,hh⟩
theorem oG {w:World} {B:Nat} {e T:TypeId} {k n b:Nat} {V:Value} {xs:List Value} {cs:Array Value} {fz:Nat×Nat} (h:w.ownsRow B e k V n xs) (hb:w.heap[b]?=some (.cells cs T fz)) (hT:T≠e):V.ownBlock≠some b:=λe9=>by
 obtain⟨cs',fz',h'⟩:=mQ h e9
 rw [hb] at h'
 simp only [Option.some.injEq,Obj.cells.injEq] at h'
 exact hT h'.2.1
theorem PH {w:World} {B B':Nat} {e e':TypeId} {k k' n n' b:Nat} {V V':Value} {xs xs':List Value} (h:w.ownsRow B e k V n xs) (h':w.ownsRow B' e' k' V' n' xs') (hT:e'≠e) (hb:V'.ownBlock=some b):V.ownBlock≠some b:=by
 obtain⟨cs',fz',h9⟩:=mQ h' hb
 exact oG h h9 hT
theorem nG.tail {w:World} {b:Nat} {T:TypeId} {tail:List Value} {bw:Option Nat} {m:eX} (h:nG w b T tail bw m) (i:Nat) (v:Value):nG (w.setCell ⟨b,6+i,none⟩ v) b T (tail.set i v) bw m:=by
 obtain⟨wa,cap,hl,hb,hw⟩:=h.blk
 refine⟨⟨wa,cap,hl,?_,λhp=>?_⟩,h.apart,λq e=>by have:=h.low q e;simpa [World.setCell] using this,h.len,h.cnt,h.val⟩
 ·rw [aG hb]
  congr 2
  unfold vW
  rw [show 6+i=i+6 by omega]
  simp [List.set]
 ·obtain⟨q,rest,hq,ha,hr⟩:=hw hp
  exact⟨q,rest,hq,ha,by rw [aL (by rintro rfl;exact h.apart hq)];exact hr⟩
end
section
open Go.RowKit
structure gL (w:World) where
 u:World
 below:Below w.heap.size w u
instance FL (w:World):Nonempty (gL w):=⟨⟨w,Below.refl _ _⟩⟩
theorem dA {P:Program} {id:Nat} {Q:Exit->Act->World->Prop} {a:Act} {w:World} {l:List Oper} (hm:P.follows .mixedOrders=true) (hB:Region.lexB .any l.toArray=true)
  (h:wpQuiet P l.toArray (λw'=>∃ n:gL w,w'=n.u) (λa'=>∀ w',(∃ n:gL w,w'=n.u)->Q .normal a' w') l a):(Code.region id l.toArray true).wp P Q a w:=
 wp_region_quiet (C:=λw'=>∃ n:gL w,w'=n.u) hm hB ⟨⟨_,(Below.refl w.heap.size w).drew⟩,rfl⟩ (by simpa using h)
theorem bG {w:World} {p:Addr} {v:Value} (h:w.cell? p=some v):∀ n:gL w,n.u.cell? p=some v:=λn=>(n.below.cell (World.block_lt_of_cell? _ _ h)).trans h
theorem oF {P:Program} {f:FuncId} {args:Array Value} {w:World} {n:gL w} {v:Value}
  (h:Calls P f args n.u λe w'=>e=.returned v/\Below n.u.heap.size n.u w'):Calls P f args n.u λe w''=>e=.returned v/\∃ m:gL w,w''=m.u:=
 h.mono λ_ w' ⟨he,hb⟩=>⟨he,⟨w',Gr.trans n.below hb⟩,rfl⟩
theorem lW {P:Program} {f:FuncId} {args:Array Value} {w:World} {n:gL w} {v:Value}
  (h:Calls P f args n.u λe w'=>e=.returned v/\n.u=w'):Calls P f args n.u λe w''=>e=.returned v/\∃ m:gL w,w''=m.u:=
 h.mono λ_ w' ⟨he,hb⟩=>⟨he,n,hb.symm⟩
theorem iG (w:World):∀ l:List Obj,Below w.heap.size w (l.foldl World.alloc w):=by
 have:∀(l:List Obj) (u:World),Below w.heap.size w u->Below w.heap.size w (l.foldl World.alloc u):=by
  intro l
  induction l with
  | nil=>intro u h;exact h
  | cons o l ih=>intro u h;exact ih _ (Gr.alloc h o)
 exact λl=>this l w (Gr.refl w)
theorem dE:∀(l:List Obj) (w:World) (k:Nat) (o:Obj),l[k]?=some o->(l.foldl World.alloc w).heap[w.heap.size+k]?=some o
 | [],_,k,_,h=>by simp at h
 | x::l,w,0,o,h=>by
  rw [List.foldl_cons,(iG (w.alloc x) l).block _ (by simp)]
  simp only [List.getElem?_cons_zero,Option.some.injEq] at h
  subst h
  exact heap_alloc_new _ _
 | x::l,w,k+1,o,h=>by
  rw [List.foldl_cons]
  have:=dE l (w.alloc x) k o (by simpa using h)
  rw [World.size_alloc] at this
  rw [show w.heap.size+(k+1)=w.heap.size+1+k by omega]
  exact this
end
section
open Go.RowKit
end
section
open Go.RowKit
theorem fB.ev8 {X:Nat->Prop} {B:Nat} {w wr:World} {ea:Option Addr} {en ec:Nat} {wv:Value} {ers:List (Value×Value)} {r:gT} (h:fB X B w (.slice ea en ec) wv ers r) (hn:en=r.evs.length) {k:Nat} (hk:k<en) (hb:Below w.heap.size w wr) :
  ∃ g la lc ka kc,ea=some ⟨g,0,none⟩/\g<wr.heap.size/\
   wr.cell? ⟨g,k*8,none⟩=some (.int .i64 ((aB r.evs k).call:Int))/\wr.cell? ⟨g,k*8+1,none⟩=some (.int .i64 ((aB r.evs k).inv:Int))/\wr.cell? ⟨g,k*8+2,none⟩=some (.int .i64 ((aB r.evs k).resp:Int))/\wr.cell? ⟨g,k*8+3,none⟩=some (.int .i64 ((aB r.evs k).steps:Int))/\
   wr.cell? ⟨g,k*8+4,none⟩=some (.int .i64 (aB r.evs k).ans.err)/\wr.cell? ⟨g,k*8+5,none⟩=some (.int .u64 ((aB r.evs k).ans.val:Int))/\wr.cell? ⟨g,k*8+6,none⟩=some (.slice la (aB r.evs k).ans.list.length lc)/\wr.cell? ⟨g,k*8+7,none⟩=some (.slice ka (aB r.evs k).key.length kc)/\
   aW wr la (aB r.evs k).ans.list.length 1 (dY (aB r.evs k).ans.list)/\aW wr ka (aB r.evs k).key.length 1 (iY (aB r.evs k).key)/\((aB r.evs k).key=[]->ka=none/\kc=0):=by
 obtain⟨g,rfl,hg,hev⟩:=h.event hn (by omega)
 have hans:=h.ans k (by rw [<-hn];exact hk)
 obtain⟨V,hV⟩:∃ V,V=ers.getD k sI:=⟨_,rfl⟩
 rw [<-hV] at hans
 obtain⟨⟨la,lc,hlv,hls,_⟩,⟨ka,kc,hkv,hkn,hks,_⟩⟩:=hans
 have hcells:∀ f,f<8->wr.cell? ⟨g,k*8+f,none⟩=(dL (aB r.evs k) V)[f]?:=λf hf=>by rw [hb.cell hg,hev k f hk hf,hV];rfl
 refine⟨g,la,lc,ka,kc,rfl,Nat.lt_of_lt_of_le hg hb.size,hcells 0 (by omega),hcells 1 (by omega),hcells 2 (by omega),hcells 3 (by omega),hcells 4 (by omega),hcells 5 (by omega),?_,?_,hls.grown hb,hks.grown hb,λh0=>?_⟩
 ·rw [hcells 6 (by omega)];exact congrArg some hlv
 ·rw [hcells 7 (by omega)];exact congrArg some hkv
 ·have:=hkn h0
  rw [hkv] at this
  simp only [Value.slice.injEq] at this
  exact⟨this.1,this.2.2⟩
end
end Go.Proofs.Ytifhldnmcdbpfaa
