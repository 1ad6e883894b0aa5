/- Layer 11: each turn of a counter's play keeps what is kept. -/
import Derived.Test.YtifhldnmcdbpfaaW42
set_option maxRecDepth 100000
set_option linter.unusedVariables false
set_option linter.unusedSimpArgs false
set_option linter.unnecessarySimpa false
namespace Go.Proofs.Ytifhldnmcdbpfaa
open Go.RowKit
theorem xP {n m:Nat} {st st':aQ (bH n m)} {M rk:Nat->Nat} (h1:st'.wd.mem.ws=st.wd.mem.ws) (h2:ctW (haO st')=ctW (haO st)):ctG st' M rk=ctG st M rk:=by
 unfold ctG
 rw [h1,h2]
set_option maxHeartbeats 1000000 in
theorem KV {n m:Nat} (hn1:1<=n) (hn:n<=16) (hm:0<m) (hnw:∀(o:(bH n m).ω) (wd:WD) (p:Nat) (s:(bH n m).σ),((bH n m).step o wd p s).2.1.now=wd.now) {calls:List aF} (hthr:∀ c,c<calls.length->0<=(calls.getD c d0).thread/\(calls.getD c d0).thread<n) {st st':aQ (bH n m)} (hg:eB calls st) (h:∃ M rk,jB n m calls st M rk) (ht:wN calls st st'):∃ M rk,jB n m calls st' M rk:=by
 obtain⟨M,rk,h⟩:=h
 cases ht with
 | idle=>exact⟨M,rk,⟨h.len,h.olen,h.inv,h.own,h.cnt,h.full,h.hand,h.past,h.steps,h.tr,h.invs⟩⟩
 | refuse q i er hq hN hh hs=>
  have hqn:q<n:=by
   have:=hthr i (dO hN).1
   rw [(dO hN).2.1] at this;omega
  have her:er≠0:=by
   unfold dI at hs
   split at hs
   ·have hs':(if (calls.getD i d0).kind=1 then Mc.run (CtS.rd (dR n m 1)) else if (calls.getD i d0).kind≠0 then .refuse 9 else if 2^m - 1<((obO st).getD q 0+1)*n then .refuse 6 else .run (.ad ad0))=Mc.refuse er:=hs
    split at hs'
    ·cases hs'
    ·split at hs'
     ·cases hs';decide
     ·split at hs'
      ·cases hs';decide
      ·cases hs'
   ·cases hs;decide
  have hx:=xU (e1:=bK (st.wd.tick.begin q) q ⟨er,0,[]⟩ [] (dC i (st.wd.tick.begin q))) hg hN rfl
  have hW:ctW (haO (nD st q i er))=ctW (haO st):=by
   show ctW ((haO st).set q (none,st.evs.length))=_
   rw [nU (hands:=haO st) (h16:=16) hg.h16 hq]
   exact qZ (rU (hands:=haO st) hh)
  have hG:ctG (nD st q i er) M rk=ctG st M rk:=xP rfl hW
  have hno:∀ t,cP calls t (bK (st.wd.tick.begin q) q ⟨er,0,[]⟩ [] (dC i (st.wd.tick.begin q)))=false:=λt=>by
   unfold cP cK
   rw [show(bK (st.wd.tick.begin q) q ⟨er,0,[]⟩ [] (dC i (st.wd.tick.begin q))).ans.err=er from rfl,decide_eq_false her]
   rfl
  refine⟨M,rk,lG (st':=nD st q i er) (mo:=none) (k:=st.evs.length) hg h hqn hx rfl (.inr rfl) (λh=>absurd h (Nat.lt_irrefl _)) (λ_=>rfl) (λp=>jV hg.h16 hq _ p) rfl rfl (by rw [hG];exact Gh.Le.refl _) (by rw [hG];exact h.inv) (λ_=>Nat.le_refl _) (λ_ _=>rfl) (λt ht=>by rw [hW];exact h.own t ht) (λt _=>by rw [hno];exact(Nat.add_zero _).symm) h.full (λs e=>by cases e) (λhc=>absurd hc.2.2.2 her) (λ_=>⟨by show 0+1<=fF n m;unfold fF;omega,λ_=>by show 0+1<=m;omega⟩) (λa x hx=>?_) (zL h.invs)⟩
  have:=h.tr a x hx
  show 0<=x/\x<=((st.wd.now+1:Nat):Int)
  omega
 | step q i k s bJ dK hq hN hf=>
  have hqn:q<n:=by
   have:=hthr i (dO hN).1
   rw [(dO hN).2.1] at this;omega
  obtain⟨p1,p2,p3⟩:=JV hn1 hn hm hthr hg h hf
  have hopen:=hf.open_
  have hcall:=hf.call
  have htn:=hf.tn hN
  have hold:=hf.obj.2
  have hnew:¬ k<st.evs.length->(aD bJ k).inv=st.wd.now+1:=λhk=>by
   rcases hf.or with⟨_,h1,_⟩|⟨_,_,rfl,rfl,_⟩
   ·exact absurd h1 hk
   ·rw [jT];rfl
  obtain⟨e0,he0⟩:∃ e0,e0=aD bJ k:=⟨_,rfl⟩
  rw [<-he0] at p1 p2 p3 hopen htn hnew
  have hmem:=hf.mem;have hnow:=hf.now;have OW:=hf.traces
  have htrw:∀ a z,z∈dK.traces a->0<=z/\z<=(dK.now:Int):=λa z hz=>by
   rw [OW] at hz
   have:=h.tr a z hz
   omega
  have BM:=hf.invs h.invs
  have eG:ctG st M rk=dS n m dK.mem.ws (ctW (haO st)) M rk:=by unfold ctG;rw [hmem]
  have uJ:dK.mem.ws.length=n+(aJ n - 1)*(2^m - 1):=by rw [hmem];exact h.len
  have hG0:=h.inv
  rw [eG] at hG0
  match s,p3 with
  | .rd l,⟨⟨k1,k2,k3,k4,k5,lo,k6,k7,k8⟩,hw⟩=>
   rw [eG] at k6
   obtain⟨t1,t2,t3,t4⟩:=xK (p:=q) hn uJ hG0 k6 k3
   obtain⟨r1,r2⟩:=sN (p:=q) (wd:=dK) k6 k3
   obtain⟨wa,hwa⟩:=xY n m q dK l
   have hst:(bH n m).step st.obj dK q (.rd l)=(obO st,(aI n m q dK l).1,CtS.rd (aI n m q dK l).2.1,(aI n m q dK l).2.2):=rfl
   have OG:(aI n m q dK l).1.now=st.wd.now+1:=by rw [hwa];exact hnow
   cases hd:(aI n m q dK l).2.2 with
   | false=>
    rw [hd] at hst
    obtain⟨t5,t6⟩:=t3 hd
    obtain⟨st',hst'⟩:∃ st':aQ (bH n m),st'={ wd:=(aI n m q dK l).1,obj:=obO st,fin:=st.fin,hands:=(haO st).set q (some (.rd (aI n m q dK l).2.1),k),evs:=bJ.set k (aZ e0),idle:=st.idle }:=⟨_,rfl⟩
    have hto:mM st ((bH n m).step st.obj dK q (.rd l)) q i k bJ=st':=by rw [hst,hst',he0];rfl
    rw [hto]
    have hx:=hf.next hg hN (aZ e0) (by rw [he0];rfl)
    have hW:ctW (haO st')=ctW (haO st):=by
     rw [hst']
     show ctW ((haO st).set q (some (.rd (aI n m q dK l).2.1),k))=_
     rw [nU (hands:=haO st) (h16:=16) hg.h16 hq]
     exact qZ hw
    have hws:st'.wd.mem.ws=st.wd.mem.ws:=by rw [hst',<-hmem];exact t1
    have hGs:ctG st' M rk=ctG st M rk:=xP hws hW
    have hop:(aZ e0).resp=0:=hopen
    have hob:obO st'=obO st:=by rw [hst'];rfl
    refine⟨M,rk,lG (st':=st') (mo:=some (.rd (aI n m q dK l).2.1)) (k:=k) (e1:=aZ e0) hg h hqn (by rw [hst'];exact hx) (by rw [hst'];exact OG) (.inl hop) (λhk=>by rw [he0,hold k hk];exact⟨rfl,rfl,by show(aD st.evs k).ans.err=0;rw [<-hold k hk,<-he0];exact p2⟩) hnew (λp=>by rw [hst'];exact jV hg.h16 hq _ p) (by rw [hws]) (by rw [hob]) (by rw [hGs];exact Gh.Le.refl _) (by rw [hGs];exact h.inv) (λ_=>Nat.le_refl _) (λ_ _=>rfl) (λt ht=>by rw [hW,hws,hob];exact h.own t ht) (λt _=>by rw [hob,rE _ hop];exact(Nat.add_zero _).symm) (λt ht=>by rw [hws];exact h.full t ht) (λs e=>?_) (λhc=>absurd hop hc.2.2.1) (λhc=>absurd hop hc) (by rw [hst'];show ∀ a x,x∈(aI n m q dK l).1.traces a->0<=x/\x<=((aI n m q dK l).1.now:Int);rw [hwa];exact htrw) (by rw [hst'];show ∀ p,(aI n m q dK l).1.inv.getD p 0<=(aI n m q dK l).1.now;rw [hwa];exact BM)⟩
    cases e
    have hrr:=r1 hd
    refine⟨p1,p2,⟨k1,t2.trans k2,by rw [t6];exact k3,by show e0.steps+1+_<=m;omega,by show e0.steps+1+_<=fF n m;omega,lo,?_,k7,k8⟩⟩
    rw [hGs,eG];exact t5
   | true=>
    rw [hd] at hst
    obtain⟨t5,t6,t7⟩:=t4 hd
    obtain⟨V,hV⟩:∃ V,V=(aI n m q dK l).2.1.val:=⟨_,rfl⟩
    rw [t2,k2,<-hV] at t6 t7
    rw [<-hV] at t5
    obtain⟨e1,he1⟩:∃ e1,e1=bK (aI n m q dK l).1 q ⟨0,V,[]⟩ [] e0:=⟨_,rfl⟩
    obtain⟨st',hst'⟩:∃ st':aQ (bH n m),st'={ wd:=(aI n m q dK l).1,obj:=obO st,fin:=st.fin.set i true,hands:=(haO st).set q (none,k),evs:=bJ.set k e1,idle:=st.idle }:=⟨_,rfl⟩
    have hto:mM st ((bH n m).step st.obj dK q (.rd l)) q i k bJ=st':=by rw [hst,hst',he1,hV,he0];rfl
    rw [hto]
    have hx:=hf.next hg hN e1 (by rw [he1,he0];rfl)
    have hW:ctW (haO st')=ctW (haO st):=by
     rw [hst']
     show ctW ((haO st).set q (none,k))=_
     rw [nU (hands:=haO st) (h16:=16) hg.h16 hq]
     exact qZ hw
    have hws:st'.wd.mem.ws=st.wd.mem.ws:=by rw [hst',<-hmem];exact t1
    have hob:obO st'=obO st:=by rw [hst'];rfl
    have hGs:∀ M',ctG st' M' rk={ ctG st M rk with M:=M' }:=λM'=>by unfold ctG;rw [hws,hW];rfl
    have hr1:e1.resp=st.wd.now+1:=by rw [he1];exact OG
    have hk1:kindOf calls e1=1:=by rw [he1];exact k1
    have hno:∀ t,cP calls t e1=false:=λt=>by
     unfold cP cK
     have:isK calls 0 e1=false:=by
      unfold isK
      rw [hk1];simp
     rw [this,Bool.and_false];rfl
    have hMle:∀ v,M v<=bQ M 1 (max (M 1) V) v:=λv=>by
     by_cases e9:v=1
     ·rw [e9,bG];exact Nat.le_max_left _ _
     ·rw [dD e9];exact Nat.le_refl _
    have hraise:=h.inv.raise 1 V (λa b=>by rw [eG];exact⟨t7 a b,t6⟩)
    have hi1:e1.inv=e0.inv:=by rw [he1];rfl
    refine⟨bQ M 1 (max (M 1) V),rk,lG (st':=st') (mo:=none) (k:=k) (e1:=e1) hg h hqn (by rw [hst'];exact hx) (by rw [hst'];exact OG) (.inr hr1) (λhk=>by rw [he1,he0,hold k hk];exact⟨rfl,rfl,rfl⟩) (λhk=>by rw [hi1];exact hnew hk) (λp=>by rw [hst'];exact jV hg.h16 hq _ p) (by rw [hws]) (by rw [hob]) (by rw [hGs];exact⟨λ_=>Nat.le_refl _,λ_ _ h=>h⟩) (by rw [hGs];exact hraise) hMle (λ_ _=>rfl) (λt ht=>by rw [hW,hws,hob];exact h.own t ht) (λt _=>by rw [hob,hno];exact(Nat.add_zero _).symm) (λt ht=>by rw [hws];exact h.full t ht) (λs e=>by cases e) (λ_=>?_) (λ_=>?_) (by rw [hst'];show ∀ a x,x∈(aI n m q dK l).1.traces a->0<=x/\x<=((aI n m q dK l).1.now:Int);rw [hwa];exact htrw) (by rw [hst'];show ∀ p,(aI n m q dK l).1.inv.getD p 0<=(aI n m q dK l).1.now;rw [hwa];exact BM)⟩
    ·have hv:e1.ans.val=V:=by rw [he1];rfl
     rw [hv,hi1]
     refine⟨?_,λj hj hc hlt=>Nat.le_trans (k8 j hj hc hlt) t5,Nat.le_trans k7 t5,Nat.le_trans ?_ (h.high hn hg)⟩
     ·rw [hGs]
      unfold Gh.cur
      by_cases hL:1<aJ n
      ·rw [if_pos hL]
       show V<=bQ M 1 _ 1
       rw [bG];exact Nat.le_max_right _ _
      ·obtain⟨l1,l2,l3⟩:=bL hn
       rw [if_neg hL,if_pos (by omega)]
       have hS:=(h.inv.leaf hn (q:=1 - aJ n) (by omega)).2
       rw [show aJ n+(1 - aJ n)=1 by omega] at hS
       rw [<-eG,hS] at t6
       exact t6
     ·rw [eG];exact t6
    ·have hs1:e1.steps=e0.steps+1:=by rw [he1];rfl
     rw [hs1]
     exact⟨by omega,λ_=>by omega⟩
  | .ad x,p3=>
   obtain⟨RI,RN,FI⟩:=FU (n:=n) (m:=m) (p:=q) (o:=obO st) (x:=x) htrw
   obtain⟨r,hr⟩:∃ r,r=dU n m (obO st) dK q x:=⟨_,rfl⟩
   have hst:(bH n m).step st.obj dK q (.ad x)=(r.1,r.2.1,CtS.ad r.2.2.1,r.2.2.2):=lU hr.symm
   have k0:kindOf calls e0=0:=by
    rcases p3 with⟨a,_⟩|⟨_,a,_⟩
    ·exact a.1
    ·exact a
   have key:∃ M' rk',r.2.1.mem.ws.length=st.wd.mem.ws.length/\(ctG st M rk).Le (dS n m r.2.1.mem.ws (bQ (ctW (haO st)) q (if r.2.2.2=true then 0 else r.2.2.1.v)) M' rk')/\GInv n m (dS n m r.2.1.mem.ws (bQ (ctW (haO st)) q (if r.2.2.2=true then 0 else r.2.2.1.v)) M' rk')/\(∀ v,M v<=M' v)/\(∀ p,p≠q->rk' p=rk p)/\r.1=(if r.2.2.2=true then (obO st).set q ((obO st).getD q 0+1) else obO st)/\
     (∀ t,t<n->r.2.1.mem.ws.getD t 0=if t=q then (obO st).getD q 0+1 else st.wd.mem.ws.getD t 0)/\(∀ t,t<n->r.2.1.mem.ws.getD t 0*n<=2^m - 1)/\
     (r.2.2.2=false->kV n m (dS n m r.2.1.mem.ws (bQ (ctW (haO st)) q r.2.2.1.v) M' rk') dK.now q r.2.2.1/\e0.steps+1+eD m r.2.2.1<=fF n m)/\e0.steps+1<=fF n m:=by
    rcases p3 with⟨⟨_,b1,b2⟩,hw⟩|⟨rfl,_,b2,b3,hw⟩
    ·rw [eG,<-hnow] at b1
     obtain⟨M',rk',T⟩:=QX (o:=obO st) hm hn hqn uJ hG0 hw b1
     rw [<-hr] at T
     have hq1:st.wd.mem.ws.getD q 0=(obO st).getD q 0+1:=by
      have:=h.own q hqn
      rw [hw,if_neg (by have:=b1.1;omega)] at this
      exact this
     have hleaf:∀ t,t<n->r.2.1.mem.ws.getD t 0=st.wd.mem.ws.getD t 0:=λt ht=>by rw [T.leaf t ht,hmem]
     refine⟨M',rk',by rw [T.len,hmem],by rw [eG];exact T.le,T.inv,T.M,T.rk,T.own,λt ht=>?_,λt ht=>by rw [hleaf t ht];exact h.full t ht,λhd=>?_,by have:=T.fin;omega⟩
     ·rw [hleaf t ht]
      split
      ·rename_i e;rw [e];exact hq1
      ·rfl
     ·obtain⟨z1,z2⟩:=T.go hd
      exact⟨z1,by omega⟩
    ·have hq1:st.wd.mem.ws.getD q 0=(obO st).getD q 0:=by
      have:=h.own q hqn
      rw [hw,if_pos rfl] at this
      exact this
     obtain⟨rk',c1,c2,c3,c4,c5,c6,c7⟩:=OO hn1 hm hn hqn uJ hG0 hw (by rw [hmem];exact hq1) (by rw [hmem];exact h.full) b3
     have e9:r=(fJ (obO st) q ((aJ n+q) / 2),kG dK q ((obO st).getD q 0+1),ad0.climb n m ((aJ n+q) / 2),decide ((aJ n+q) / 2<1)):=by rw [hr];exact xE rfl
     have hwv:(if r.2.2.2=true then 0 else r.2.2.1.v)=(aJ n+q) / 2:=by
      rw [e9]
      show(if decide ((aJ n+q) / 2<1)=true then 0 else (ad0.climb n m ((aJ n+q) / 2)).v)=_
      rw [rH]
      split
      ·rename_i h9
       have:=of_decide_eq_true h9;omega
      ·rfl
     have hmw:r.2.1.mem.ws=(bR dK.mem (q:Int) ((obO st).getD q 0+1)).ws:=by rw [e9];rfl
     refine⟨M,rk',by rw [hmw,c1,hmem],by rw [hwv,hmw,eG];exact c3,by rw [hwv,hmw];exact c4,λ_=>Nat.le_refl _,c5,?_,λt _=>by rw [hmw,c2,hmem],λt ht=>by rw [hmw];exact c6 t ht,λhd=>?_,by rw [b2];unfold fF;omega⟩
     ·rw [e9]
      show fJ (obO st) q ((aJ n+q) / 2)=if decide ((aJ n+q) / 2<1)=true then _ else _
      unfold fJ
      by_cases h9:(aJ n+q) / 2<1
      ·rw [if_pos h9,if_pos (decide_eq_true h9)]
      ·rw [if_neg h9,if_neg (by simpa using h9)]
     ·have hd':decide ((aJ n+q) / 2<1)=false:=by rw [e9] at hd;exact hd
      obtain⟨z1,z2⟩:=c7 (by have:=of_decide_eq_false hd';omega)
      rw [b2]
      have e3:r.2.2.1=ad0.climb n m ((aJ n+q) / 2):=by rw [e9]
      rw [hmw,e3,rH]
      exact⟨z1,by omega⟩
   obtain⟨M',rk',f1,f2,f3,f4,f5,f6,f7,f8,f9,f10⟩:=key
   rw [<-hr] at RI RN FI
   obtain⟨ro,rw,rx,rd⟩:=r
   dsimp only at hst RI RN FI f1 f2 f3 f6 f7 f8 f9
   rw [hnow] at FI
   cases rd with
   | false=>
    rw [if_neg Bool.false_ne_true] at f2 f3 f6
    obtain⟨z1,z2⟩:=f9 rfl
    obtain⟨st',hst'⟩:∃ st':aQ (bH n m),st'={ wd:=rw,obj:=ro,fin:=st.fin,hands:=(haO st).set q (some (.ad rx),k),evs:=bJ.set k (aZ e0),idle:=st.idle }:=⟨_,rfl⟩
    have hto:mM st ((bH n m).step st.obj dK q (.ad x)) q i k bJ=st':=by rw [hst,hst',he0];rfl
    rw [hto]
    have hx:=hf.next hg hN (aZ e0) (by rw [he0];rfl)
    have hW:ctW (haO st')=bQ (ctW (haO st)) q rx.v:=by
     rw [hst']
     show ctW ((haO st).set q (some (.ad rx),k))=_
     rw [nU (hands:=haO st) (h16:=16) hg.h16 hq];rfl
    have hws:st'.wd.mem.ws=rw.mem.ws:=by rw [hst']
    have hob:obO st'=obO st:=by rw [hst'];exact f6
    have hGs:ctG st' M' rk'=dS n m rw.mem.ws (bQ (ctW (haO st)) q rx.v) M' rk':=by unfold ctG;rw [hws,hW]
    have hop:(aZ e0).resp=0:=hopen
    refine⟨M',rk',lG (st':=st') (mo:=some (.ad rx)) (k:=k) (e1:=aZ e0) hg h hqn (by rw [hst'];exact hx) (by rw [hst'];exact FI) (.inl hop) (λhk=>by rw [he0,hold k hk];exact⟨rfl,rfl,by show(aD st.evs k).ans.err=0;rw [<-hold k hk,<-he0];exact p2⟩) hnew (λp=>by rw [hst'];exact jV hg.h16 hq _ p) (by rw [hws];exact f1) (by rw [hob]) (by rw [hGs];exact f2) (by rw [hGs];exact f3) f4 f5 (λt ht=>?_) (λt _=>by rw [hob,rE _ hop];exact(Nat.add_zero _).symm) (λt ht=>by rw [hws];exact f8 t ht) (λs e=>?_) (λhc=>absurd hop hc.2.2.1) (λhc=>absurd hop hc) (by rw [hst'];show ∀ a x,x∈rw.traces a->0<=x/\x<=(rw.now:Int);rw [FI,<-hnow];exact RI) (by rw [hst'];show ∀ p,rw.inv.getD p 0<=rw.now;rw [RN,FI,<-hnow];exact BM)⟩
    ·rw [hW,hws,hob,f7 t ht]
     by_cases e:t=q
     ·rw [if_pos e,e,bG,if_neg (by have:=z1.1;omega)]
     ·rw [if_neg e,dD e];exact h.own t ht
    ·cases e
     refine⟨p1,p2,⟨k0,?_,z2⟩⟩
     rw [hGs]
     have e9:st'.wd.now=dK.now:=by rw [hst',hnow];exact FI
     rw [e9];exact z1
   | true=>
    rw [if_pos rfl] at f2 f3 f6
    obtain⟨e1,he1⟩:∃ e1,e1=bK rw q ⟨0,0,[]⟩ [] e0:=⟨_,rfl⟩
    obtain⟨st',hst'⟩:∃ st':aQ (bH n m),st'={ wd:=rw,obj:=ro,fin:=st.fin.set i true,hands:=(haO st).set q (none,k),evs:=bJ.set k e1,idle:=st.idle }:=⟨_,rfl⟩
    have hto:mM st ((bH n m).step st.obj dK q (.ad x)) q i k bJ=st':=by rw [hst,hst',he1,he0];rfl
    rw [hto]
    have hx:=hf.next hg hN e1 (by rw [he1,he0];rfl)
    have hW:ctW (haO st')=bQ (ctW (haO st)) q 0:=by
     rw [hst']
     show ctW ((haO st).set q (none,k))=_
     rw [nU (hands:=haO st) (h16:=16) hg.h16 hq];rfl
    have hws:st'.wd.mem.ws=rw.mem.ws:=by rw [hst']
    have hob:obO st'=(obO st).set q ((obO st).getD q 0+1):=by rw [hst'];exact f6
    have hGs:ctG st' M' rk'=dS n m rw.mem.ws (bQ (ctW (haO st)) q 0) M' rk':=by unfold ctG;rw [hws,hW]
    have hr1:e1.resp=st.wd.now+1:=by rw [he1];exact FI
    have hkd:kindOf calls e1=0:=by rw [he1];exact k0
    have TH:tn calls e1=q:=by rw [he1];exact htn
    have hcP:∀ t,cP calls t e1=decide (q=t):=λt=>by
     unfold cP cK
     rw [TH,show e1.ans.err=0 from by rw [he1];rfl,sF.2 ⟨by rw [he1];exact p1,hkd,by rw [hr1];omega⟩]
     rfl
    have hql:q<(obO st).length:=by rw [h.olen];exact hqn
    refine⟨M',rk',lG (st':=st') (mo:=none) (k:=k) (e1:=e1) hg h hqn (by rw [hst'];exact hx) (by rw [hst'];exact FI) (.inr hr1) (λhk=>by rw [he1,he0,hold k hk];exact⟨rfl,rfl,rfl⟩) (λhk=>by rw [he1];exact hnew hk) (λp=>by rw [hst'];exact jV hg.h16 hq _ p) (by rw [hws];exact f1) (by rw [hob,List.length_set]) (by rw [hGs];exact f2) (by rw [hGs];exact f3) f4 f5 (λt ht=>?_) (λt _=>?_) (λt ht=>by rw [hws];exact f8 t ht) (λs e=>by cases e) (λhc=>?_) (λ_=>⟨by show e1.steps<=_;rw [he1];exact f10,λh9=>absurd h9 (by rw [hkd];decide)⟩) (by rw [hst'];show ∀ a x,x∈rw.traces a->0<=x/\x<=(rw.now:Int);rw [FI,<-hnow];exact RI) (by rw [hst'];show ∀ p,rw.inv.getD p 0<=rw.now;rw [RN,FI,<-hnow];exact BM)⟩
    ·rw [hW,hws,hob,f7 t ht]
     by_cases e:t=q
     ·rw [if_pos e,e,bG,if_pos rfl,aL hql,Nat.add_zero]
     ·rw [if_neg e,dD e,aR (Ne.symm e)];exact h.own t ht
    ·rw [hob,hcP]
     by_cases e:t=q
     ·rw [e,aL hql,if_pos (by simp)]
     ·rw [aR (Ne.symm e),if_neg (by simpa using Ne.symm e),Nat.add_zero]
    ·have:=hc.2.1
     omega
end Go.Proofs.Ytifhldnmcdbpfaa
