/- Layer 14: what every play of a register keeps: to read a word, to leave. -/
import Derived.Test.YtlepjmnhekeofaaP30
set_option maxRecDepth 100000
set_option linter.unusedVariables false
set_option linter.unusedSimpArgs false
set_option linter.unnecessarySimpa false
namespace Go.Proofs.Ytlepjmnhekeofaa
section
open Go.RowKit
variable {n k:Nat} {calls:List CallD}
theorem pi_step_read {st:PlayD (pinS n k)} {q i j q' j':Nat} {l:List Nat} {key:List Int} {evs0:List EvD} {wd0:WD} (hn:1<=n) (hjk:j'<k) (hthr:∀ c,c<calls.length->0<=(calls.getD c d0).thread/\(calls.getD c d0).thread<n) (hg:StGood calls st) (h:PiInv n k calls st) (hq:q<16) (hN:nowN calls st.fin (q:Int)=some i) (hf:From calls st q i j (.rd q' (j'+1) l key) evs0 wd0) :
  PiInv n k calls (stepTo st ((pinS n k).step st.obj wd0 q (.rd q' (j'+1) l key)) q i j evs0):=by
 obtain⟨g1,g2,g3,g4⟩:=pi_pre hn hthr hg h hf
 obtain⟨e0,he0⟩:∃ e0,e0=evAt evs0 j:=⟨_,rfl⟩
 rw [<-he0] at g1 g2
 obtain⟨p1,p2,p3,_,p5⟩:=g2
 obtain⟨a1,a2,a3⟩:=p5 (by omega)
 have hws:wd0.mem.ws=st.wd.mem.ws:=by rw [hf.mem]
 have hgot:taGot wd0 (piWord n k q' j')=st.wd.mem.ws.getD (piWord n k q' j') 0:=by
  rw [taGot_in (by rw [hws,h.w.wl];exact piWord_lt a1 hjk),hws]
 have hw':(taRead wd0 (piWord n k q' j')).mem.ws=st.wd.mem.ws:=(taRead_ws _ _).trans hws
 have hnow:(taRead wd0 (piWord n k q' j')).now=st.wd.now+1:=hf.now
 have hnx:=hf.next hg hN (stepEv e0) (by rw [he0];rfl)
 have hopen:e0.resp=0:=by rw [he0];exact hf.open_
 obtain⟨s',hs'⟩:∃ s':PiS,s'=.rd q' (j'+2) (l++[taGot wd0 (piWord n k q' j')]) key:=⟨_,rfl⟩
 have hst:(pinS n k).step st.obj wd0 q (.rd q' (j'+1) l key)=(st.obj,taRead wd0 (piWord n k q' j'),s',false):=by rw [hs'];exact if_pos hjk
 obtain⟨s1,s2⟩:=pi_same (hs:=st.hands) (p:=q) (Nat.lt_of_lt_of_eq hq hg.h16.symm) (some s',j) (λy=>(g3 y).trans (by rw [hs'];simp [piAt])) (λo y=>(g4 o y).trans (by rw [hs'];simp [piFar]))
 have hto:stepTo st ((pinS n k).step st.obj wd0 q (.rd q' (j'+1) l key)) q i j evs0={ wd:=taRead wd0 (piWord n k q' j'),obj:=st.obj,fin:=st.fin,hands:=st.hands.set q (some s',j),evs:=evs0.set j (stepEv e0),idle:=st.idle }:=by rw [hst,he0];rfl
 rw [hto]
 refine pi_rest hg h hq hnx rfl ?_ (λp s2' e2 hpq _ hp=>?_) (λs1' j1 hx=>?_) (λq2 hq2 hn2=>?_) (λh0=>absurd (show e0.resp≠0 from h0) (by rw [hopen];simp))
 ·show PiW n k (taRead wd0 (piWord n k q' j')).now (taRead wd0 (piWord n k q' j')).mem.ws st.obj (st.hands.set q (some s',j))
  rw [hw',hnow]
  exact h.w.same (Nat.le_succ _) s1
 ·show piHand n k calls (taRead wd0 (piWord n k q' j')).mem.ws st.obj (st.hands.set q (some s',j)) p e2 s2'
  rw [hw']
  exact pi_others (λ_ _ _ _=>rfl) (λy=>Nat.le_of_eq (s2 _ y)) (λy _=>Nat.le_of_eq (s1 y)) hp
 ·cases hx
  refine⟨rfl,g1,?_⟩
  show piHand n k calls (taRead wd0 (piWord n k q' j')).mem.ws st.obj (st.hands.set q (some s',j)) q (stepEv e0) s'
  rw [hw',hs',hgot]
  refine⟨p1,by omega,by show e0.steps+1=_;omega,λh=>absurd h (by omega),λ_=>⟨a1,by simp [a2],λa ha=>?_⟩⟩
  by_cases hal:a<l.length
  ·rw [List.getD_eq_getElem?_getD,List.getElem?_append_left hal,<-List.getD_eq_getElem?_getD]
   exact a3 a (by omega)
  ·obtain rfl:a=j':=by omega
   rw [List.getD_eq_getElem?_getD,List.getElem?_append_right (by omega),show a - l.length=0 by omega]
   rfl
 ·show piGood k calls (λa=>(taRead wd0 (piWord n k q' j')).mem.ws.getD (piWord n k q2 a) 0)
  rw [hw']
  exact pi_cont hg h hf hq (λ_ _ _ _ e=>by cases e) (λ_ _ _ _=>rfl) q2 hq2 hn2
theorem pi_step_leave {st:PlayD (pinS n k)} {q i j q' j':Nat} {l:List Nat} {key:List Int} {evs0:List EvD} {wd0:WD} (hn:1<=n) (hjk:¬ j'<k) (ht:st.wd.now<=1000000) (hthr:∀ c,c<calls.length->0<=(calls.getD c d0).thread/\(calls.getD c d0).thread<n) (hg:StGood calls st) (h:PiInv n k calls st) (hq:q<16) (hN:nowN calls st.fin (q:Int)=some i) (hf:From calls st q i j (.rd q' (j'+1) l key) evs0 wd0) :
  PiInv n k calls (stepTo st ((pinS n k).step st.obj wd0 q (.rd q' (j'+1) l key)) q i j evs0):=by
 obtain⟨g1,g2,g3,g4⟩:=pi_pre hn hthr hg h hf
 obtain⟨e0,he0⟩:∃ e0,e0=evAt evs0 j:=⟨_,rfl⟩
 rw [<-he0] at g1 g2
 obtain⟨p1,p2,p3,_,p5⟩:=g2
 obtain⟨a1,a2,a3⟩:=p5 (by omega)
 have hws:wd0.mem.ws=st.wd.mem.ws:=by rw [hf.mem]
 obtain⟨c,c1,c2,c3,c4⟩:=h.w.cell
 have hlt:1+q'<st.wd.mem.ws.length:=by rw [h.w.wl];exact piLeft_lt a1
 have hlen:piLeft q'<wd0.mem.ws.length:=by rw [hws];exact hlt
 have hq':q<st.hands.length:=Nat.lt_of_lt_of_eq hq hg.h16.symm
 have hb:=c4 q' a1
 have hcm:=h.w.cm q' a1
 have hsmall:st.wd.mem.ws.getD (1+q') 0<=c:=by split at hb<;>omega
 have d1:=(doAdd_ws hlen 1).1
 rw [hws,show piLeft q'=1+q' from rfl,Nat.mod_eq_of_lt (by omega)] at d1
 have hnow':(doAdd wd0 (1+q') 1).now=st.wd.now+1:=hf.now
 obtain⟨e1,he1⟩:∃ e1,e1=finishEv (doAdd wd0 (1+q') 1) q ⟨0,0,l⟩ key e0:=⟨_,rfl⟩
 have hst:(pinS n k).step st.obj wd0 q (.rd q' (j'+1) l key)=(st.obj,doAdd wd0 (1+q') 1,.rd q' (j'+2) l key,true):=if_neg hjk
 have hto:stepTo st ((pinS n k).step st.obj wd0 q (.rd q' (j'+1) l key)) q i j evs0={ wd:=doAdd wd0 (1+q') 1,obj:=st.obj,fin:=st.fin.set i true,hands:=st.hands.set q (none,j),evs:=evs0.set j e1,idle:=st.idle }:=by rw [hst,he1,he0];rfl
 have hnx:=hf.next hg hN e1 (by rw [he1,he0];rfl)
 have hH:∀ y,piH y (st.hands.set q (none,j))+(if y=q' then 1 else 0)=piH y st.hands:=λy=>by
  have h1:=cp_put (P:=piAt y) (b1:=decide (q'=y)) (b2:=false) hq' (none,j) ((g3 y).trans (by simp [piAt])) rfl
  unfold piH
  by_cases hy:y=q'
  ·rw [if_pos hy];rw [decide_eq_true hy.symm] at h1;exact h1
  ·rw [if_neg hy];rw [decide_eq_false (Ne.symm hy)] at h1;exact h1
 have hNN:∀ y,piN st.obj.now y (st.hands.set q (none,j))<=piN st.obj.now y st.hands:=λy=>by
  have h1:=cp_put (P:=piFar st.obj.now y) (b2:=false) hq' (none,j) rfl rfl
  exact Nat.le.intro h1
 have hword:∀ q a,q<=n->a<k->(doAdd wd0 (1+q') 1).mem.ws.getD (piWord n k q a) 0=st.wd.mem.ws.getD (piWord n k q a) 0:=λq2 a _ _=>by
  rw [d1];exact getD_set_neq (Ne.symm (piWord_far a1).2)
 have hobj:objOf calls e1=0:=by rw [he1];exact g1
 rw [hto]
 refine pi_rest hg h hq hnx rfl ?_ (λp s2' e2 hpq _ hp=>?_) (λs1' j1 hx=>by cases hx) (λq2 hq2 hn2=>?_) (λ_=>?_)
 ·show PiW n k (doAdd wd0 (1+q') 1).now (doAdd wd0 (1+q') 1).mem.ws st.obj (st.hands.set q (none,j))
  rw [d1,hnow']
  refine⟨by rw [List.length_set];exact h.w.wl,h.w.cl,h.w.nl,⟨c,by rw [getD_set_neq (by omega)];exact c1,by omega,c3,λq2 hq2=>?_⟩,h.w.cm⟩
  have h1:=c4 q2 hq2
  have h2:=hH q2
  by_cases hy:q2=q'
  ·subst hy
   rw [if_pos rfl] at h2
   rw [getD_set_eq hlt]
   split at h1<;>split<;>omega
  ·rw [getD_set_neq (by omega)]
   rw [if_neg hy] at h2
   split at h1<;>split<;>omega
 ·exact pi_others hword hNN (λy _=>by have:=hH y;omega) hp
 ·exact pi_cont hg h hf hq (λ_ _ _ _ e=>by cases e) hword q2 hq2 hn2
 ·have hst1:e1.steps=e0.steps+1:=by rw [he1];rfl
  refine⟨by omega,λ_=>by omega,λ_ _=>?_⟩
  have hl1:e1.ans.list=l:=by rw [he1];rfl
  rw [hl1]
  have hjk':j'=k:=by omega
  refine⟨by omega,?_⟩
  have hgd:=h.cont q' a1 (λv i' ph j2 hp=>by
   obtain⟨_,h5⟩:=h.hand 0 (.wr v q' i' ph) j2 hp
   rcases h5.2.2.2.2 with⟨h6,_⟩|⟨_,_,_,h6,_⟩
   ·exact h6
   ·have:=hH q'
    rw [if_pos rfl] at this;omega)
  rcases hgd with h1|⟨cc,d1,d2,d3,d4,d5⟩
  ·exact .inl λa ha=>(a3 a (by omega)).trans (h1 a ha)
  ·exact .inr ⟨cc,d1,d2,d3,d4,λa ha=>(a3 a (by omega)).trans (d5 a ha)⟩
end
section

/- Layer 14: what every play of a register keeps: to fill a buffer, to change it. -/
open Go.RowKit
variable {n k:Nat} {calls:List CallD}
theorem piH_pos {hs:List (Option PiS×Nat)} {p q j:Nat} {s:PiS} (hp:hs.getD p (none,0)=(some s,j)) (h:piAt q (some s)=true):1<=piH q hs:=by
 have hl:p<hs.length:=by
  rcases Nat.lt_or_ge p hs.length with h9|h9
  ·exact h9
  ·rw [List.getD_eq_getElem?_getD,List.getElem?_eq_none h9] at hp;cases hp
 have h1:=cp_put (P:=piAt q) (b1:=true) (b2:=false) hl (none,0) (by rw [hp];exact h) rfl
 unfold piH
 simp at h1
 omega
theorem pi_step_fill {st:PlayD (pinS n k)} {q i j v q' iw:Nat} {evs0:List EvD} {wd0:WD} (hn:1<=n) (hthr:∀ c,c<calls.length->0<=(calls.getD c d0).thread/\(calls.getD c d0).thread<n) (hg:StGood calls st) (h:PiInv n k calls st) (hq:q<16) (hN:nowN calls st.fin (q:Int)=some i) (hf:From calls st q i j (.wr v q' iw 1) evs0 wd0) :
  PiInv n k calls (stepTo st ((pinS n k).step st.obj wd0 q (.wr v q' iw 1)) q i j evs0):=by
 obtain⟨g1,g2,g3,g4⟩:=pi_pre hn hthr hg h hf
 obtain⟨e0,he0⟩:∃ e0,e0=evAt evs0 j:=⟨_,rfl⟩
 rw [<-he0] at g1 g2
 obtain⟨p1,p2,p3,p4,p5⟩:=g2
 rcases p5 with⟨a1,_⟩|⟨_,_,a3,a4,a5,a6,a7,_,a9⟩
 ·omega
 have hik:=a7 rfl
 have hws:wd0.mem.ws=st.wd.mem.ws:=by rw [hf.mem]
 have hlt:piWord n k q' iw<st.wd.mem.ws.length:=by rw [h.w.wl];exact piWord_lt a3 hik
 obtain⟨x,hx⟩:∃ x,x=(v+iw) % 18446744073709551616:=⟨_,rfl⟩
 have d1:=doWrite_ws (wd:=wd0) (a:=piWord n k q' iw) (by rw [hws];exact hlt) x
 rw [hws] at d1
 have hnow:(doWrite wd0 (piWord n k q' iw) x).now=st.wd.now+1:=hf.now
 have hnx:=hf.next hg hN (stepEv e0) (by rw [he0];rfl)
 have hopen:e0.resp=0:=by rw [he0];exact hf.open_
 obtain⟨ph,hph⟩:∃ ph,ph=(if iw+1=k then 2 else 1):=⟨_,rfl⟩
 have hph1:1<=ph/\ph<=2/\(ph=1->iw+1<k)/\(ph=2->iw+1=k):=by rw [hph];split<;>omega
 have hst:(pinS n k).step st.obj wd0 q (.wr v q' iw 1)=(st.obj,doWrite wd0 (piWord n k q' iw) x,.wr v q' (iw+1) ph,false):=by rw [hx,hph];rfl
 obtain⟨s1,s2⟩:=pi_same (hs:=st.hands) (p:=q) (Nat.lt_of_lt_of_eq hq hg.h16.symm) (some (.wr v q' (iw+1) ph),j) (λy=>(g3 y).trans rfl) (λo y=>(g4 o y).trans rfl)
 have hto:stepTo st ((pinS n k).step st.obj wd0 q (.wr v q' iw 1)) q i j evs0={ wd:=doWrite wd0 (piWord n k q' iw) x,obj:=st.obj,fin:=st.fin,hands:=st.hands.set q (some (.wr v q' (iw+1) ph),j),evs:=evs0.set j (stepEv e0),idle:=st.idle }:=by rw [hst,he0];rfl
 have hword:∀ q2 a,a<k->q2≠q'->(doWrite wd0 (piWord n k q' iw) x).mem.ws.getD (piWord n k q2 a) 0=st.wd.mem.ws.getD (piWord n k q2 a) 0:=λq2 a ha hne=>by
  rw [d1];exact getD_set_neq (λe=>hne (piWord_inj ha hik e.symm).1)
 rw [hto]
 refine pi_rest hg h hq hnx rfl ?_ (λp s2' e2 hpq hex hp=>?_) (λs1' j1 hx=>?_) (λq2 hq2 hn2=>?_) (λh0=>absurd (show e0.resp≠0 from h0) (by rw [hopen];simp))
 ·show PiW n k (doWrite wd0 (piWord n k q' iw) x).now (doWrite wd0 (piWord n k q' iw) x).mem.ws st.obj (st.hands.set q (some (.wr v q' (iw+1) ph),j))
  rw [d1,hnow]
  obtain⟨c,c1,c2,c3,c4⟩:=h.w.cell
  refine⟨by rw [List.length_set];exact h.w.wl,h.w.cl,h.w.nl,⟨c,by rw [getD_set_neq (piWord_far (q':=0) (Nat.zero_le n)).1];exact c1,by omega,c3,λq2 hq2=>?_⟩,h.w.cm⟩
  rw [getD_set_neq (piWord_far hq2).2]
  exact(c4 q2 hq2).trans (congrArg (λz=>st.wd.mem.ws.getD (1+q2) 0+z) (s1 q2).symm)
 ·match s2',hp,hex with
  | .wr v2 q2 i2 ph2,hp,_=>exact absurd (hp.1.trans p1.symm) hpq
  | .rd q2 j2 l2 key2,hp,⟨jj,hex⟩=>
   refine rd_keep hp (λhj a ha=>hword q2 a ha (λe=>?_))
   have:=piH_pos (q:=q2) hex (by simp [piAt];exact hj)
   rw [e,a4] at this;omega
 ·cases hx
  refine⟨rfl,g1,?_⟩
  refine⟨p1,p2,p3,p4,.inr ⟨hph1.1,hph1.2.1,a3,(s1 q').trans a4,by show e0.steps+1<=_;omega,by omega,hph1.2.2.1,hph1.2.2.2,λa ha=>?_⟩⟩
  show(doWrite wd0 (piWord n k q' iw) x).mem.ws.getD (piWord n k q' a) 0=_
  rw [d1]
  by_cases hai:a=iw
  ·subst hai;rw [getD_set_eq hlt,<-hx]
  ·rw [getD_set_neq (λe=>hai (piWord_inj hik (by omega) e).2.symm)]
   exact a9 a (by omega)
 ·have hq0:q=0:=p1
  have hne:q2≠q':=by
   intro e
   have hp0:(st.hands.set q (some (PiS.wr v q' (iw+1) ph),j)).getD 0 (none,0)=(some (PiS.wr v q' (iw+1) ph),j):=by
    rw [hq0] at hq ⊢
    exact getD_set_eq (Nat.lt_of_lt_of_eq hq hg.h16.symm)
   have:=hn2 v (iw+1) ph j (by rw [e];exact hp0)
   omega
  have hc:=h.cont q2 hq2 (λv3 i3 ph3 j3 hp=>by
   have hp':st.hands.getD q (none,0)=(some (PiS.wr v3 q2 i3 ph3),j3):=by rw [hq0];exact hp
   have:=pi_old hf hp'
   cases this
   exact absurd rfl hne)
  rcases hc with h1|⟨cc,e1,e2,e3,e4,e5⟩
  ·exact .inl λa ha=>(hword q2 a ha hne).trans (h1 a ha)
  ·exact .inr ⟨cc,e1,e2,e3,e4,λa ha=>(hword q2 a ha hne).trans (e5 a ha)⟩
theorem pi_step_change {st:PlayD (pinS n k)} {q i j v q' iw ph:Nat} {evs0:List EvD} {wd0:WD} (hn:1<=n) (hn16:n<=16) (ht:st.wd.now<=1000000) (hthr:∀ c,c<calls.length->0<=(calls.getD c d0).thread/\(calls.getD c d0).thread<n) (hg:StGood calls st) (h:PiInv n k calls st) (hq:q<16) (hN:nowN calls st.fin (q:Int)=some i) (hf:From calls st q i j (.wr v q' iw (ph+2)) evs0 wd0) :
  PiInv n k calls (stepTo st ((pinS n k).step st.obj wd0 q (.wr v q' iw (ph+2))) q i j evs0):=by
 obtain⟨g1,g2,g3,g4⟩:=pi_pre hn hthr hg h hf
 obtain⟨e0,he0⟩:∃ e0,e0=evAt evs0 j:=⟨_,rfl⟩
 rw [<-he0] at g1 g2
 obtain⟨p1,p2,p3,p4,p5⟩:=g2
 rcases p5 with⟨a1,_⟩|⟨_,b2,a3,a4,a5,a6,_,a8,a9⟩
 ·omega
 have hik:iw=k:=a8 (by omega)
 have hws:wd0.mem.ws=st.wd.mem.ws:=by rw [hf.mem]
 obtain⟨c,c1,c2,c3,c4⟩:=h.w.cell
 have hnl:=h.w.nl
 have h0l:0<st.wd.mem.ws.length:=by rw [h.w.wl];omega
 obtain⟨d1,d2⟩:=doAdd_ws (wd:=wd0) (a:=0) (by rw [hws];exact h0l) (piDiff q' st.obj.now)
 rw [hws,c1] at d1 d2
 rw [piDiff_add hn16 a3 hnl c2 ht] at d1
 have hcnt:adGot wd0 0 (piDiff q' st.obj.now) % 4294967296=c:=by rw [d2];omega
 have hcn:=h.w.cm st.obj.now hnl
 have hpc:piCome st.obj c=st.obj.come.set st.obj.now (st.obj.come.getD st.obj.now 0+(c - st.obj.last)):=by
  unfold piCome
  congr 1
  omega
 obtain⟨o',ho'⟩:∃ o':PinO,o'=⟨st.obj.come.set st.obj.now (st.obj.come.getD st.obj.now 0+(c - st.obj.last)),c,q'⟩:=⟨_,rfl⟩
 obtain⟨wd',hwd'⟩:∃ wd',wd'=doAdd wd0 0 (piDiff q' st.obj.now):=⟨_,rfl⟩
 rw [<-hwd'] at d1
 have hnow':wd'.now=st.wd.now+1:=by rw [hwd'];exact hf.now
 have hst:(pinS n k).step st.obj wd0 q (.wr v q' iw (ph+2))=(o',wd',.wr v q' iw (ph+2),true):=by
  rw [ho',hwd',<-hpc]
  have:∀ z,z=c->((⟨piCome st.obj z,z,q'⟩:PinO),doAdd wd0 0 (piDiff q' st.obj.now),PiS.wr v q' iw (ph+2),true)=(⟨piCome st.obj c,c,q'⟩,doAdd wd0 0 (piDiff q' st.obj.now),PiS.wr v q' iw (ph+2),true):=λz hz=>by rw [hz]
  exact this _ hcnt
 obtain⟨e1,he1⟩:∃ e1,e1=finishEv wd' q ⟨0,0,[]⟩ [] e0:=⟨_,rfl⟩
 have hto:stepTo st ((pinS n k).step st.obj wd0 q (.wr v q' iw (ph+2))) q i j evs0={ wd:=wd',obj:=o',fin:=st.fin.set i true,hands:=st.hands.set q (none,j),evs:=evs0.set j e1,idle:=st.idle }:=by rw [hst,he1,he0];rfl
 have hnx:=hf.next hg hN e1 (by rw [he1,he0];rfl)
 obtain⟨s1,s2⟩:=pi_same (hs:=st.hands) (p:=q) (Nat.lt_of_lt_of_eq hq hg.h16.symm) (none,j) (λy=>(g3 y).trans rfl) (λo y=>(g4 o y).trans rfl)
 have hword:∀ q2 a,wd'.mem.ws.getD (piWord n k q2 a) 0=st.wd.mem.ws.getD (piWord n k q2 a) 0:=λq2 a=>by
  rw [d1];exact getD_set_neq (Ne.symm (piWord_far (q':=0) (Nat.zero_le n)).1)
 have hkd:kindOf calls e1=0:=by rw [he1];exact p2
 rw [hto]
 refine pi_rest hg h hq hnx rfl ?_ (λp s2' e2 hpq _ hp=>?_) (λs1' j1 hx=>by cases hx) (λq2 hq2 hn2=>?_) (λ_=>?_)
 ·show PiW n k wd'.now wd'.mem.ws o' (st.hands.set q (none,j))
  have hcl:=h.w.cl
  have hnl2:st.obj.now<st.obj.come.length:=by omega
  rw [d1,hnow',ho']
  refine⟨by rw [List.length_set];exact h.w.wl,by show(st.obj.come.set _ _).length=_;rw [List.length_set];exact hcl,a3,⟨c,getD_set_eq h0l,by omega,Nat.le_refl c,λq2 hq2=>?_⟩,λq2 hq2=>?_⟩
  ·show(st.obj.come.set _ _).getD q2 0+(if q2=q' then c - c else 0)=_
   rw [Nat.sub_self,ite_self,getD_set_neq (l:=st.wd.mem.ws) (by omega)]
   refine Eq.trans ?_ (congrArg (λz=>st.wd.mem.ws.getD (1+q2) 0+z) (s1 q2).symm)
   have h1:=c4 q2 hq2
   by_cases hy:q2=st.obj.now
   ·rw [if_pos hy] at h1
    rw [hy,getD_set_eq hnl2,<-hy]
    rw [hy] at h1 ⊢
    exact h1
   ·rw [if_neg hy] at h1
    rw [getD_set_neq (Ne.symm hy)]
    exact h1
  ·show(st.obj.come.set _ _).getD q2 0<=c
   by_cases hy:q2=st.obj.now
   ·rw [hy,getD_set_eq hnl2];omega
   ·rw [getD_set_neq (Ne.symm hy)]
    have:=h.w.cm q2 hq2
    omega
 ·match s2',hp with
  | .wr v2 q2 i2 ph2,hp=>exact absurd (hp.1.trans p1.symm) hpq
  | .rd q2 j2 l2 key2,hp=>exact rd_keep hp (λ_ a _=>hword q2 a)
 ·by_cases hqq:q2=q'
  ·subst hqq
   have hjl:=hf.open_
   have hcall:e0.call<calls.length:=by
    rw [he0,hf.call];exact(nowN_spec hN).1
   refine .inr ⟨e0.call,hcall,?_,g1,p2,λa ha=>?_⟩
   ·have h1:tn calls e0=q:=by rw [he0];exact hf.tn hN
    have h2:=hthr _ hcall
    unfold tn at h1
    rw [p1] at h1
    omega
   ·refine(hword q2 a).trans ?_
    rw [<-p3]
    exact a9 a (by omega)
  ·have hq0:q=0:=p1
   have hc:=h.cont q2 hq2 (λv3 i3 ph3 j3 hp=>by
    have hp':st.hands.getD q (none,0)=(some (PiS.wr v3 q2 i3 ph3),j3):=by rw [hq0];exact hp
    have:=pi_old hf hp'
    cases this
    exact absurd rfl hqq)
   rcases hc with h1|⟨cc,e1,e2,e3,e4,e5⟩
   ·exact .inl λa ha=>(hword q2 a).trans (h1 a ha)
   ·exact .inr ⟨cc,e1,e2,e3,e4,λa ha=>(hword q2 a).trans (e5 a ha)⟩
 ·have hst1:e1.steps=e0.steps+1:=by rw [he1];rfl
  exact⟨by omega,λh1=>by omega,λ_ h1=>by omega⟩
end
end Go.Proofs.Ytlepjmnhekeofaa
