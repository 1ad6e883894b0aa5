/- Layer 14: what every play of a register keeps: to read a word, to leave. -/
import Derived.Test.YtfkokppncipgnaaGreatV39
import Derived.Test.YtfkokppncipgnaaGreatV34
import Derived.Test.YtfkokppncipgnaaGreatV30
set_option maxRecDepth 100000
set_option linter.unusedVariables false
set_option linter.unusedSimpArgs false
set_option linter.unnecessarySimpa false
namespace Go.Proofs.YtfkokppncipgnaaGreat
section
open Go.RowKit
variable {n k:Nat} {calls:List CallD}
theorem pi_step_read {st:PlayD (pinS n k)} {q i j q' j':Nat} {l:List Nat} {key:List Int} {evs0:List EvD} {wd0:WD} (hn:1<=n) (hjk:j'<k) (hthr:∀ c,c<calls.length->0<=(calls.getD c d0).thread/\(calls.getD c d0).thread<n) (hg:StGood calls st) (h:PiInv n k calls st) (hq:q<16) (hN:nowN calls st.fin (q:Int)=some i) (hf:From calls st q i j (.rd q' (j'+1) l key) evs0 wd0) :
  PiInv n k calls (stepTo st ((pinS n k).step st.obj wd0 q (.rd q' (j'+1) l key)) q i j evs0):=by
 obtain⟨g1,g2,g3,g4⟩:=pi_pre hn hthr hg h hf
 obtain⟨e0,he0⟩:∃ e0,e0=evAt evs0 j:=⟨_,rfl⟩
 rw [<-he0] at g1 g2
 obtain⟨p1,p2,p3,_,p5⟩:=g2
 obtain⟨a1,a2,a3⟩:=p5 (by omega)
 have hws:wd0.mem.ws=st.wd.mem.ws:=by rw [hf.mem]
 have hgot:taGot wd0 (piWord n k q' j')=st.wd.mem.ws.getD (piWord n k q' j') 0:=by
  rw [taGot_in (by rw [hws,h.w.wl];exact piWord_lt a1 hjk),hws]
 have hw':(taRead wd0 (piWord n k q' j')).mem.ws=st.wd.mem.ws:=(taRead_ws _ _).trans hws
 have hnow:(taRead wd0 (piWord n k q' j')).now=st.wd.now+1:=hf.now
 have hnx:=hf.next hg hN (stepEv e0) (by rw [he0];rfl)
 have hopen:e0.resp=0:=by rw [he0];exact hf.open_
 obtain⟨s',hs'⟩:∃ s':PiS,s'=.rd q' (j'+2) (l++[taGot wd0 (piWord n k q' j')]) key:=⟨_,rfl⟩
 have hst:(pinS n k).step st.obj wd0 q (.rd q' (j'+1) l key)=(st.obj,taRead wd0 (piWord n k q' j'),s',false):=by rw [hs'];exact if_pos hjk
 obtain⟨s1,s2⟩:=pi_same (hs:=st.hands) (p:=q) (Nat.lt_of_lt_of_eq hq hg.h16.symm) (some s',j) (λy=>(g3 y).trans (by rw [hs'];simp [piAt])) (λo y=>(g4 o y).trans (by rw [hs'];simp [piFar]))
 have hto:stepTo st ((pinS n k).step st.obj wd0 q (.rd q' (j'+1) l key)) q i j evs0={ wd:=taRead wd0 (piWord n k q' j'),obj:=st.obj,fin:=st.fin,hands:=st.hands.set q (some s',j),evs:=evs0.set j (stepEv e0),idle:=st.idle }:=by rw [hst,he0];rfl
 rw [hto]
 refine pi_rest hg h hq hnx rfl ?_ (λp s2' e2 hpq _ hp=>?_) (λs1' j1 hx=>?_) (λq2 hq2 hn2=>?_) (λh0=>absurd (show e0.resp≠0 from h0) (by rw [hopen];simp))
 ·show PiW n k (taRead wd0 (piWord n k q' j')).now (taRead wd0 (piWord n k q' j')).mem.ws st.obj (st.hands.set q (some s',j))
  rw [hw',hnow]
  exact h.w.same (Nat.le_succ _) s1
 ·show piHand n k calls (taRead wd0 (piWord n k q' j')).mem.ws st.obj (st.hands.set q (some s',j)) p e2 s2'
  rw [hw']
  exact pi_others (λ_ _ _ _=>rfl) (λy=>Nat.le_of_eq (s2 _ y)) (λy _=>Nat.le_of_eq (s1 y)) hp
 ·cases hx
  refine⟨rfl,g1,?_⟩
  show piHand n k calls (taRead wd0 (piWord n k q' j')).mem.ws st.obj (st.hands.set q (some s',j)) q (stepEv e0) s'
  rw [hw',hs',hgot]
  refine⟨p1,by omega,by show e0.steps+1=_;omega,λh=>absurd h (by omega),λ_=>⟨a1,by simp [a2],λa ha=>?_⟩⟩
  by_cases hal:a<l.length
  ·rw [List.getD_eq_getElem?_getD,List.getElem?_append_left hal,<-List.getD_eq_getElem?_getD]
   exact a3 a (by omega)
  ·obtain rfl:a=j':=by omega
   rw [List.getD_eq_getElem?_getD,List.getElem?_append_right (by omega),show a - l.length=0 by omega]
   rfl
 ·show piGood k calls (λa=>(taRead wd0 (piWord n k q' j')).mem.ws.getD (piWord n k q2 a) 0)
  rw [hw']
  exact pi_cont hg h hf hq (λ_ _ _ _ e=>by cases e) (λ_ _ _ _=>rfl) q2 hq2 hn2
theorem pi_step_leave {st:PlayD (pinS n k)} {q i j q' j':Nat} {l:List Nat} {key:List Int} {evs0:List EvD} {wd0:WD} (hn:1<=n) (hjk:¬ j'<k) (ht:st.wd.now<=1000000) (hthr:∀ c,c<calls.length->0<=(calls.getD c d0).thread/\(calls.getD c d0).thread<n) (hg:StGood calls st) (h:PiInv n k calls st) (hq:q<16) (hN:nowN calls st.fin (q:Int)=some i) (hf:From calls st q i j (.rd q' (j'+1) l key) evs0 wd0) :
  PiInv n k calls (stepTo st ((pinS n k).step st.obj wd0 q (.rd q' (j'+1) l key)) q i j evs0):=by
 obtain⟨g1,g2,g3,g4⟩:=pi_pre hn hthr hg h hf
 obtain⟨e0,he0⟩:∃ e0,e0=evAt evs0 j:=⟨_,rfl⟩
 rw [<-he0] at g1 g2
 obtain⟨p1,p2,p3,_,p5⟩:=g2
 obtain⟨a1,a2,a3⟩:=p5 (by omega)
 have hws:wd0.mem.ws=st.wd.mem.ws:=by rw [hf.mem]
 obtain⟨c,c1,c2,c3,c4⟩:=h.w.cell
 have hlt:1+q'<st.wd.mem.ws.length:=by rw [h.w.wl];exact piLeft_lt a1
 have hlen:piLeft q'<wd0.mem.ws.length:=by rw [hws];exact hlt
 have hq':q<st.hands.length:=Nat.lt_of_lt_of_eq hq hg.h16.symm
 have hb:=c4 q' a1
 have hcm:=h.w.cm q' a1
 have hsmall:st.wd.mem.ws.getD (1+q') 0<=c:=by split at hb<;>omega
 have d1:=(doAdd_ws hlen 1).1
 rw [hws,show piLeft q'=1+q' from rfl,Nat.mod_eq_of_lt (by omega)] at d1
 have hnow':(doAdd wd0 (1+q') 1).now=st.wd.now+1:=hf.now
 obtain⟨e1,he1⟩:∃ e1,e1=finishEv (doAdd wd0 (1+q') 1) q ⟨0,0,l⟩ key e0:=⟨_,rfl⟩
 have hst:(pinS n k).step st.obj wd0 q (.rd q' (j'+1) l key)=(st.obj,doAdd wd0 (1+q') 1,.rd q' (j'+2) l key,true):=if_neg hjk
 have hto:stepTo st ((pinS n k).step st.obj wd0 q (.rd q' (j'+1) l key)) q i j evs0={ wd:=doAdd wd0 (1+q') 1,obj:=st.obj,fin:=st.fin.set i true,hands:=st.hands.set q (none,j),evs:=evs0.set j e1,idle:=st.idle }:=by rw [hst,he1,he0];rfl
 have hnx:=hf.next hg hN e1 (by rw [he1,he0];rfl)
 have hH:∀ y,piH y (st.hands.set q (none,j))+(if y=q' then 1 else 0)=piH y st.hands:=λy=>by
  have h1:=cp_put (P:=piAt y) (b1:=decide (q'=y)) (b2:=false) hq' (none,j) ((g3 y).trans (by simp [piAt])) rfl
  unfold piH
  by_cases hy:y=q'
  ·rw [if_pos hy];rw [decide_eq_true hy.symm] at h1;exact h1
  ·rw [if_neg hy];rw [decide_eq_false (Ne.symm hy)] at h1;exact h1
 have hNN:∀ y,piN st.obj.now y (st.hands.set q (none,j))<=piN st.obj.now y st.hands:=λy=>by
  have h1:=cp_put (P:=piFar st.obj.now y) (b2:=false) hq' (none,j) rfl rfl
  exact Nat.le.intro h1
 have hword:∀ q a,q<=n->a<k->(doAdd wd0 (1+q') 1).mem.ws.getD (piWord n k q a) 0=st.wd.mem.ws.getD (piWord n k q a) 0:=λq2 a _ _=>by
  rw [d1];exact getD_set_neq (Ne.symm (piWord_far a1).2)
 have hobj:objOf calls e1=0:=by rw [he1];exact g1
 rw [hto]
 refine pi_rest hg h hq hnx rfl ?_ (λp s2' e2 hpq _ hp=>?_) (λs1' j1 hx=>by cases hx) (λq2 hq2 hn2=>?_) (λ_=>?_)
 ·show PiW n k (doAdd wd0 (1+q') 1).now (doAdd wd0 (1+q') 1).mem.ws st.obj (st.hands.set q (none,j))
  rw [d1,hnow']
  refine⟨by rw [List.length_set];exact h.w.wl,h.w.cl,h.w.nl,⟨c,by rw [getD_set_neq (by omega)];exact c1,by omega,c3,λq2 hq2=>?_⟩,h.w.cm⟩
  have h1:=c4 q2 hq2
  have h2:=hH q2
  by_cases hy:q2=q'
  ·subst hy
   rw [if_pos rfl] at h2
   rw [getD_set_eq hlt]
   split at h1<;>split<;>omega
  ·rw [getD_set_neq (by omega)]
   rw [if_neg hy] at h2
   split at h1<;>split<;>omega
 ·exact pi_others hword hNN (λy _=>by have:=hH y;omega) hp
 ·exact pi_cont hg h hf hq (λ_ _ _ _ e=>by cases e) hword q2 hq2 hn2
 ·have hst1:e1.steps=e0.steps+1:=by rw [he1];rfl
  refine⟨by omega,λ_=>by omega,λ_ _=>?_⟩
  have hl1:e1.ans.list=l:=by rw [he1];rfl
  rw [hl1]
  have hjk':j'=k:=by omega
  refine⟨by omega,?_⟩
  have hgd:=h.cont q' a1 (λv i' ph j2 hp=>by
   obtain⟨_,h5⟩:=h.hand 0 (.wr v q' i' ph) j2 hp
   rcases h5.2.2.2.2 with⟨h6,_⟩|⟨_,_,_,h6,_⟩
   ·exact h6
   ·have:=hH q'
    rw [if_pos rfl] at this;omega)
  rcases hgd with h1|⟨cc,d1,d2,d3,d4,d5⟩
  ·exact .inl λa ha=>(a3 a (by omega)).trans (h1 a ha)
  ·exact .inr ⟨cc,d1,d2,d3,d4,λa ha=>(a3 a (by omega)).trans (d5 a ha)⟩
end
section

/- Layer 14: what every play of a register keeps: to fill a buffer, to change it. -/
open Go.RowKit
variable {n k:Nat} {calls:List CallD}
theorem piH_pos {hs:List (Option PiS×Nat)} {p q j:Nat} {s:PiS} (hp:hs.getD p (none,0)=(some s,j)) (h:piAt q (some s)=true):1<=piH q hs:=by
 have hl:p<hs.length:=by
  rcases Nat.lt_or_ge p hs.length with h9|h9
  ·exact h9
  ·rw [List.getD_eq_getElem?_getD,List.getElem?_eq_none h9] at hp;cases hp
 have h1:=cp_put (P:=piAt q) (b1:=true) (b2:=false) hl (none,0) (by rw [hp];exact h) rfl
 unfold piH
 simp at h1
 omega
theorem pi_step_fill {st:PlayD (pinS n k)} {q i j v q' iw:Nat} {evs0:List EvD} {wd0:WD} (hn:1<=n) (hthr:∀ c,c<calls.length->0<=(calls.getD c d0).thread/\(calls.getD c d0).thread<n) (hg:StGood calls st) (h:PiInv n k calls st) (hq:q<16) (hN:nowN calls st.fin (q:Int)=some i) (hf:From calls st q i j (.wr v q' iw 1) evs0 wd0) :
  PiInv n k calls (stepTo st ((pinS n k).step st.obj wd0 q (.wr v q' iw 1)) q i j evs0):=by
 obtain⟨g1,g2,g3,g4⟩:=pi_pre hn hthr hg h hf
 obtain⟨e0,he0⟩:∃ e0,e0=evAt evs0 j:=⟨_,rfl⟩
 rw [<-he0] at g1 g2
 obtain⟨p1,p2,p3,p4,p5⟩:=g2
 rcases p5 with⟨a1,_⟩|⟨_,_,a3,a4,a5,a6,a7,_,a9⟩
 ·omega
 have hik:=a7 rfl
 have hws:wd0.mem.ws=st.wd.mem.ws:=by rw [hf.mem]
 have hlt:piWord n k q' iw<st.wd.mem.ws.length:=by rw [h.w.wl];exact piWord_lt a3 hik
 obtain⟨x,hx⟩:∃ x,x=(v+iw) % 18446744073709551616:=⟨_,rfl⟩
 have d1:=doWrite_ws (wd:=wd0) (a:=piWord n k q' iw) (by rw [hws];exact hlt) x
 rw [hws] at d1
 have hnow:(doWrite wd0 (piWord n k q' iw) x).now=st.wd.now+1:=hf.now
 have hnx:=hf.next hg hN (stepEv e0) (by rw [he0];rfl)
 have hopen:e0.resp=0:=by rw [he0];exact hf.open_
 obtain⟨ph,hph⟩:∃ ph,ph=(if iw+1=k then 2 else 1):=⟨_,rfl⟩
 have hph1:1<=ph/\ph<=2/\(ph=1->iw+1<k)/\(ph=2->iw+1=k):=by rw [hph];split<;>omega
 have hst:(pinS n k).step st.obj wd0 q (.wr v q' iw 1)=(st.obj,doWrite wd0 (piWord n k q' iw) x,.wr v q' (iw+1) ph,false):=by rw [hx,hph];rfl
 obtain⟨s1,s2⟩:=pi_same (hs:=st.hands) (p:=q) (Nat.lt_of_lt_of_eq hq hg.h16.symm) (some (.wr v q' (iw+1) ph),j) (λy=>(g3 y).trans rfl) (λo y=>(g4 o y).trans rfl)
 have hto:stepTo st ((pinS n k).step st.obj wd0 q (.wr v q' iw 1)) q i j evs0={ wd:=doWrite wd0 (piWord n k q' iw) x,obj:=st.obj,fin:=st.fin,hands:=st.hands.set q (some (.wr v q' (iw+1) ph),j),evs:=evs0.set j (stepEv e0),idle:=st.idle }:=by rw [hst,he0];rfl
 have hword:∀ q2 a,a<k->q2≠q'->(doWrite wd0 (piWord n k q' iw) x).mem.ws.getD (piWord n k q2 a) 0=st.wd.mem.ws.getD (piWord n k q2 a) 0:=λq2 a ha hne=>by
  rw [d1];exact getD_set_neq (λe=>hne (piWord_inj ha hik e.symm).1)
 rw [hto]
 refine pi_rest hg h hq hnx rfl ?_ (λp s2' e2 hpq hex hp=>?_) (λs1' j1 hx=>?_) (λq2 hq2 hn2=>?_) (λh0=>absurd (show e0.resp≠0 from h0) (by rw [hopen];simp))
 ·show PiW n k (doWrite wd0 (piWord n k q' iw) x).now (doWrite wd0 (piWord n k q' iw) x).mem.ws st.obj (st.hands.set q (some (.wr v q' (iw+1) ph),j))
  rw [d1,hnow]
  obtain⟨c,c1,c2,c3,c4⟩:=h.w.cell
  refine⟨by rw [List.length_set];exact h.w.wl,h.w.cl,h.w.nl,⟨c,by rw [getD_set_neq (piWord_far (q':=0) (Nat.zero_le n)).1];exact c1,by omega,c3,λq2 hq2=>?_⟩,h.w.cm⟩
  rw [getD_set_neq (piWord_far hq2).2]
  exact(c4 q2 hq2).trans (congrArg (λz=>st.wd.mem.ws.getD (1+q2) 0+z) (s1 q2).symm)
 ·match s2',hp,hex with
  | .wr v2 q2 i2 ph2,hp,_=>exact absurd (hp.1.trans p1.symm) hpq
  | .rd q2 j2 l2 key2,hp,⟨jj,hex⟩=>
   refine rd_keep hp (λhj a ha=>hword q2 a ha (λe=>?_))
   have:=piH_pos (q:=q2) hex (by simp [piAt];exact hj)
   rw [e,a4] at this;omega
 ·cases hx
  refine⟨rfl,g1,?_⟩
  refine⟨p1,p2,p3,p4,.inr ⟨hph1.1,hph1.2.1,a3,(s1 q').trans a4,by show e0.steps+1<=_;omega,by omega,hph1.2.2.1,hph1.2.2.2,λa ha=>?_⟩⟩
  show(doWrite wd0 (piWord n k q' iw) x).mem.ws.getD (piWord n k q' a) 0=_
  rw [d1]
  by_cases hai:a=iw
  ·subst hai;rw [getD_set_eq hlt,<-hx]
  ·rw [getD_set_neq (λe=>hai (piWord_inj hik (by omega) e).2.symm)]
   exact a9 a (by omega)
 ·have hq0:q=0:=p1
  have hne:q2≠q':=by
   intro e
   have hp0:(st.hands.set q (some (PiS.wr v q' (iw+1) ph),j)).getD 0 (none,0)=(some (PiS.wr v q' (iw+1) ph),j):=by
    rw [hq0] at hq ⊢
    exact getD_set_eq (Nat.lt_of_lt_of_eq hq hg.h16.symm)
   have:=hn2 v (iw+1) ph j (by rw [e];exact hp0)
   omega
  have hc:=h.cont q2 hq2 (λv3 i3 ph3 j3 hp=>by
   have hp':st.hands.getD q (none,0)=(some (PiS.wr v3 q2 i3 ph3),j3):=by rw [hq0];exact hp
   have:=pi_old hf hp'
   cases this
   exact absurd rfl hne)
  rcases hc with h1|⟨cc,e1,e2,e3,e4,e5⟩
  ·exact .inl λa ha=>(hword q2 a ha hne).trans (h1 a ha)
  ·exact .inr ⟨cc,e1,e2,e3,e4,λa ha=>(hword q2 a ha hne).trans (e5 a ha)⟩
theorem pi_step_change {st:PlayD (pinS n k)} {q i j v q' iw ph:Nat} {evs0:List EvD} {wd0:WD} (hn:1<=n) (hn16:n<=16) (ht:st.wd.now<=1000000) (hthr:∀ c,c<calls.length->0<=(calls.getD c d0).thread/\(calls.getD c d0).thread<n) (hg:StGood calls st) (h:PiInv n k calls st) (hq:q<16) (hN:nowN calls st.fin (q:Int)=some i) (hf:From calls st q i j (.wr v q' iw (ph+2)) evs0 wd0) :
  PiInv n k calls (stepTo st ((pinS n k).step st.obj wd0 q (.wr v q' iw (ph+2))) q i j evs0):=by
 obtain⟨g1,g2,g3,g4⟩:=pi_pre hn hthr hg h hf
 obtain⟨e0,he0⟩:∃ e0,e0=evAt evs0 j:=⟨_,rfl⟩
 rw [<-he0] at g1 g2
 obtain⟨p1,p2,p3,p4,p5⟩:=g2
 rcases p5 with⟨a1,_⟩|⟨_,b2,a3,a4,a5,a6,_,a8,a9⟩
 ·omega
 have hik:iw=k:=a8 (by omega)
 have hws:wd0.mem.ws=st.wd.mem.ws:=by rw [hf.mem]
 obtain⟨c,c1,c2,c3,c4⟩:=h.w.cell
 have hnl:=h.w.nl
 have h0l:0<st.wd.mem.ws.length:=by rw [h.w.wl];omega
 obtain⟨d1,d2⟩:=doAdd_ws (wd:=wd0) (a:=0) (by rw [hws];exact h0l) (piDiff q' st.obj.now)
 rw [hws,c1] at d1 d2
 rw [piDiff_add hn16 a3 hnl c2 ht] at d1
 have hcnt:adGot wd0 0 (piDiff q' st.obj.now) % 4294967296=c:=by rw [d2];omega
 have hcn:=h.w.cm st.obj.now hnl
 have hpc:piCome st.obj c=st.obj.come.set st.obj.now (st.obj.come.getD st.obj.now 0+(c - st.obj.last)):=by
  unfold piCome
  congr 1
  omega
 obtain⟨o',ho'⟩:∃ o':PinO,o'=⟨st.obj.come.set st.obj.now (st.obj.come.getD st.obj.now 0+(c - st.obj.last)),c,q'⟩:=⟨_,rfl⟩
 obtain⟨wd',hwd'⟩:∃ wd',wd'=doAdd wd0 0 (piDiff q' st.obj.now):=⟨_,rfl⟩
 rw [<-hwd'] at d1
 have hnow':wd'.now=st.wd.now+1:=by rw [hwd'];exact hf.now
 have hst:(pinS n k).step st.obj wd0 q (.wr v q' iw (ph+2))=(o',wd',.wr v q' iw (ph+2),true):=by
  rw [ho',hwd',<-hpc]
  have:∀ z,z=c->((⟨piCome st.obj z,z,q'⟩:PinO),doAdd wd0 0 (piDiff q' st.obj.now),PiS.wr v q' iw (ph+2),true)=(⟨piCome st.obj c,c,q'⟩,doAdd wd0 0 (piDiff q' st.obj.now),PiS.wr v q' iw (ph+2),true):=λz hz=>by rw [hz]
  exact this _ hcnt
 obtain⟨e1,he1⟩:∃ e1,e1=finishEv wd' q ⟨0,0,[]⟩ [] e0:=⟨_,rfl⟩
 have hto:stepTo st ((pinS n k).step st.obj wd0 q (.wr v q' iw (ph+2))) q i j evs0={ wd:=wd',obj:=o',fin:=st.fin.set i true,hands:=st.hands.set q (none,j),evs:=evs0.set j e1,idle:=st.idle }:=by rw [hst,he1,he0];rfl
 have hnx:=hf.next hg hN e1 (by rw [he1,he0];rfl)
 obtain⟨s1,s2⟩:=pi_same (hs:=st.hands) (p:=q) (Nat.lt_of_lt_of_eq hq hg.h16.symm) (none,j) (λy=>(g3 y).trans rfl) (λo y=>(g4 o y).trans rfl)
 have hword:∀ q2 a,wd'.mem.ws.getD (piWord n k q2 a) 0=st.wd.mem.ws.getD (piWord n k q2 a) 0:=λq2 a=>by
  rw [d1];exact getD_set_neq (Ne.symm (piWord_far (q':=0) (Nat.zero_le n)).1)
 have hkd:kindOf calls e1=0:=by rw [he1];exact p2
 rw [hto]
 refine pi_rest hg h hq hnx rfl ?_ (λp s2' e2 hpq _ hp=>?_) (λs1' j1 hx=>by cases hx) (λq2 hq2 hn2=>?_) (λ_=>?_)
 ·show PiW n k wd'.now wd'.mem.ws o' (st.hands.set q (none,j))
  have hcl:=h.w.cl
  have hnl2:st.obj.now<st.obj.come.length:=by omega
  rw [d1,hnow',ho']
  refine⟨by rw [List.length_set];exact h.w.wl,by show(st.obj.come.set _ _).length=_;rw [List.length_set];exact hcl,a3,⟨c,getD_set_eq h0l,by omega,Nat.le_refl c,λq2 hq2=>?_⟩,λq2 hq2=>?_⟩
  ·show(st.obj.come.set _ _).getD q2 0+(if q2=q' then c - c else 0)=_
   rw [Nat.sub_self,ite_self,getD_set_neq (l:=st.wd.mem.ws) (by omega)]
   refine Eq.trans ?_ (congrArg (λz=>st.wd.mem.ws.getD (1+q2) 0+z) (s1 q2).symm)
   have h1:=c4 q2 hq2
   by_cases hy:q2=st.obj.now
   ·rw [if_pos hy] at h1
    rw [hy,getD_set_eq hnl2,<-hy]
    rw [hy] at h1 ⊢
    exact h1
   ·rw [if_neg hy] at h1
    rw [getD_set_neq (Ne.symm hy)]
    exact h1
  ·show(st.obj.come.set _ _).getD q2 0<=c
   by_cases hy:q2=st.obj.now
   ·rw [hy,getD_set_eq hnl2];omega
   ·rw [getD_set_neq (Ne.symm hy)]
    have:=h.w.cm q2 hq2
    omega
 ·match s2',hp with
  | .wr v2 q2 i2 ph2,hp=>exact absurd (hp.1.trans p1.symm) hpq
  | .rd q2 j2 l2 key2,hp=>exact rd_keep hp (λ_ a _=>hword q2 a)
 ·by_cases hqq:q2=q'
  ·subst hqq
   have hjl:=hf.open_
   have hcall:e0.call<calls.length:=by
    rw [he0,hf.call];exact(nowN_spec hN).1
   refine .inr ⟨e0.call,hcall,?_,g1,p2,λa ha=>?_⟩
   ·have h1:tn calls e0=q:=by rw [he0];exact hf.tn hN
    have h2:=hthr _ hcall
    unfold tn at h1
    rw [p1] at h1
    omega
   ·refine(hword q2 a).trans ?_
    rw [<-p3]
    exact a9 a (by omega)
  ·have hq0:q=0:=p1
   have hc:=h.cont q2 hq2 (λv3 i3 ph3 j3 hp=>by
    have hp':st.hands.getD q (none,0)=(some (PiS.wr v3 q2 i3 ph3),j3):=by rw [hq0];exact hp
    have:=pi_old hf hp'
    cases this
    exact absurd rfl hqq)
   rcases hc with h1|⟨cc,e1,e2,e3,e4,e5⟩
   ·exact .inl λa ha=>(hword q2 a).trans (h1 a ha)
   ·exact .inr ⟨cc,e1,e2,e3,e4,λa ha=>(hword q2 a).trans (e5 a ha)⟩
 ·have hst1:e1.steps=e0.steps+1:=by rw [he1];rfl
  exact⟨by omega,λh1=>by omega,λ_ h1=>by omega⟩
end
section

/- Layer 14: the register as the loom's object. -/
open Go.RowKit
theorem piLst_of_row {w:World} {Mut B:Nat->Prop} {la:Option Addr} {lc b:Nat} {l:List Nat} (h:w.ownsRow 0 46 1 (.slice la l.length lc) l.length (l.map u64V)) (hl:l.length<=1000) (hB:∀ g,(Value.slice la l.length lc).ownBlock=some g->B g/\g≠b) (hBM:∀ g,B g->Mut g):LstU w (mutTo Mut B (λk=>k=b)) (.slice la l.length lc) l:=by
 refine⟨la,lc,rfl,?_,λh0 b0 off e=>?_⟩
 ·exact(row_sl (g:=u64G l) h (by unfold maxLen;omega) (λi hi=>by simp [u64G,u64V,List.getD_eq_getElem?_getD,hi])).1
 ·obtain⟨g,c,hv,_,hg⟩:=h.form h0
  cases hv;cases e
  rintro(⟨_,h2⟩|h2)
  ·exact h2 (hB _ rfl).1
  ·exact(hB _ rfl).2 h2
theorem pin_ok (n k bP bC:Nat) (hn:n<=16) (hk:k<=8) (hPC:bP≠bC):RealOk (pinR n k bP bC) where
 keepM:=by
  intro w w' Q Mut Mut' B T x p s h hc hQ hB hm
  match s with
  | .wr v q i ph=>
   obtain⟨h1,b,h2,h3,h4⟩:=h
   exact⟨h1,b,h2,(hc.block _ (blk_lt h3) (hB b h4)).trans h3,h4⟩
  | .rd q j l key=>
   obtain⟨h1,b,la,lc,kv,h2,h3,h4,h5,h6⟩:=h
   refine⟨h1,b,la,lc,kv,h2,(hc.block _ (blk_lt h3) (hB b h4)).trans h3,h4,h5.keep hc hQ hm,?_⟩
   rcases h6 with⟨h7,h8,h9⟩|⟨h7,h8⟩
   ·exact .inl ⟨h7,row_chg h8 hc (λg hg=>hB g (h9 g hg).1),h9⟩
   ·exact .inr ⟨h7,h8.keep hc hQ hm⟩
 keepO:=λ_ _ _ _ _ _ h hc _ hB _ hM=>⟨h.1.chg hc (hB bP (.inl rfl)) (hB bC (.inr rfl)),hM bP (.inl rfl),hM bC (.inr rfl)⟩
 lowO:=by
  rintro w Mut o ⟨_,h1,h2⟩ b (rfl|rfl)
  ·exact h1
  ·exact h2
 start:=⟨_,_,pin_start_m _,λw Mut I N wd o p c hw ho _ hp hc=>pin_start n k bP bC hn hPC w Mut I N wd o p c hw ho hp hc⟩
 step:=by
  intro w Mut B I N wd o T' x' p s hw ho hm _ hp hN hcn hB hOW hlv
  obtain⟨hP,m1,m2⟩:=ho
  have hB2:∀ b,B b->Mut b/\¬ WSet I b:=λb hb=>⟨(hB b hb).1,(hB b hb).2.1⟩
  have hWP:¬ WSet I bP/\¬ WSet I bC:=⟨hOW bP (.inl rfl),hOW bC (.inr rfl)⟩
  have hBP:¬ B bP/\¬ B bC:=⟨λh=>(hB bP h).2.2 (.inl rfl),λh=>(hB bC h).2.2 (.inr rfl)⟩
  have hN2:N+1<1000000000:=hN
  have mt:∀ b,B b->mutTo Mut B (λk=>k=b) bP/\mutTo Mut B (λk=>k=b) bC:=λb _=>⟨.inl ⟨m1,hBP.1⟩,.inl ⟨m2,hBP.2⟩⟩
  match s with
  | .wr v q i ph=>
   obtain⟨rfl,b,rfl,hbk,hb⟩:=hm
   have hne:bP≠b/\bC≠b:=⟨λe=>hBP.1 (by rw [e];exact hb),λe=>hBP.2 (by rw [e];exact hb)⟩
   obtain⟨hq,hi⟩:=hlv
   have h4:w.cell? ⟨b,4,none⟩=some (piStep b ph):=by rw [cell_blk hbk];rfl
   have own:∀(wd':WD) (cs:Array Value) (s':PiS) (d:Bool),(pinS n k).step o wd p (.wr v q i ph)=(o,wd',s',d)->(∃ q' i' ph',s'=.wr v q' i' ph'/\cs=piWr bP b v q' i' ph')->∀ w',OwnTo w w' Mut B I N wd' b cs 257 d (.returned (.bool d))->StepPost (pinR n k bP bC) w Mut B I N wd o 255 (.pointer (some ⟨b,0,none⟩)) p (.wr v q i ph) (.returned (.bool d)) w':=by
    rintro wd' cs s' d hst ⟨q',i',ph',rfl,rfl⟩ w' ⟨_,hch,hw',hbk'⟩
    unfold StepPost
    rw [hst]
    refine⟨rfl,hch.mono (λb _ hb=>by rcases hb with hb|hb;exact .inl hb;exact .inr (.inr hb)),λk=>k=b,(λk hk=>by cases hk;exact .inl hb),(λk hk=>by cases hk;exact blk_lt hbk'),hw'.more (Nat.le_succ _) hN2,⟨hP.chg hch (λh=>?_) (λh=>?_),mt b hb⟩,rfl,b,rfl,hbk',rfl⟩
    ·rcases h with h|h
     ·exact hWP.1 h
     ·exact hBP.1 h
    ·rcases h with h|h
     ·exact hWP.2 h
     ·exact hBP.2 h
   match ph with
   | 0=>
    refine⟨_,_,pwr_step_m _,(wr_step b _ (.pointer (some ⟨I.bW,0,none⟩)) w (λd w'=>StepPost (pinR n k bP bC) w Mut B I N wd o 255 (.pointer (some ⟨b,0,none⟩)) p (.wr v q i 0) (.returned (.bool d)) w') h4 enter_look ((wr_look w Mut B I N wd n k bP bC b v q i o hw hP hbk hb hB2 hcn hq hn hne hWP).mono ?_)).mono ?_⟩
    ·intro e w' h
     obtain⟨rfl,h9⟩:=h
     refine⟨false,rfl,?_⟩
     by_cases hc:taGot wd (piLeft q)=o.come.getD q 0
     ·rw [if_pos hc] at h9
      exact own _ _ _ _ (if_pos hc) ⟨_,_,_,rfl,rfl⟩ w' ⟨rfl,h9⟩
     ·rw [if_neg hc] at h9
      exact own _ _ _ _ (if_neg hc) ⟨_,_,_,rfl,rfl⟩ w' ⟨rfl,h9⟩
    ·rintro e w' ⟨d,rfl,h⟩;exact h
   | 1=>
    refine⟨_,_,pwr_step_m _,(wr_step b _ (.pointer (some ⟨I.bW,0,none⟩)) w (λd w'=>StepPost (pinR n k bP bC) w Mut B I N wd o 255 (.pointer (some ⟨b,0,none⟩)) p (.wr v q i 1) (.returned (.bool d)) w') h4 enter_fill ((wr_fill w Mut B I N wd n k bP bC b v q i o hw hP hbk hb hB2 hcn hq hn hk (hi rfl) hne hWP).mono ?_)).mono ?_⟩
    ·intro e w' h
     obtain⟨rfl,h9⟩:=h
     exact⟨false,rfl,own _ _ _ _ rfl ⟨_,_,_,rfl,rfl⟩ w' ⟨rfl,h9⟩⟩
    ·rintro e w' ⟨d,rfl,h⟩;exact h
   | ph+2=>
    refine⟨_,_,pwr_step_m _,(wr_step b _ (.pointer (some ⟨I.bW,0,none⟩)) w (λd w'=>StepPost (pinR n k bP bC) w Mut B I N wd o 255 (.pointer (some ⟨b,0,none⟩)) p (.wr v q i (ph+2)) (.returned (.bool d)) w') h4 enter_change ((wr_change w Mut B I N wd n k bP bC b v q i (ph+2) o hw hP hbk hb hB2 hcn hq hn hne hPC hWP ⟨m1,m2⟩ hBP).mono ?_)).mono ?_⟩
    ·rintro e w' ⟨rfl,h1,h2,h3,h5⟩
     refine⟨true,rfl,rfl,h1.mono (λb _ hb=>?_),λk=>k=b,(λk hk=>by cases hk;exact .inl hb),(λk hk=>by cases hk;exact blk_lt h5),h2.more (Nat.le_succ _) hN2,⟨h3,mt b hb⟩,rfl,b,rfl,h5,rfl⟩
     rcases hb with hb|hb|hb
     ·exact .inl hb
     ·exact .inr (.inl hb)
     ·exact .inr (.inr hb)
    ·rintro e w' ⟨d,rfl,h⟩;exact h
  | .rd q j l key=>
   obtain⟨rfl,b,la,lc,kv,rfl,hbk,hb,hkv,hrow⟩:=hm
   have hne:bP≠b/\bC≠b:=⟨λe=>hBP.1 (by rw [e];exact hb),λe=>hBP.2 (by rw [e];exact hb)⟩
   obtain⟨hll,hq,hj⟩:=hlv
   rcases hrow with⟨_,hr1,hr2⟩|⟨h9,_⟩
   case inr=>omega
   have obj:∀(w':World) (B':Nat->Prop),Chg (λj=>WSet I j∨B j) w w'->PinAt w' bP bC n k o/\mutTo Mut B B' bP/\mutTo Mut B B' bC:=by
    intro w' B' hch
    refine⟨hP.chg hch (λh=>?_) (λh=>?_),.inl ⟨m1,hBP.1⟩,.inl ⟨m2,hBP.2⟩⟩
    ·rcases h with h|h
     ·exact hWP.1 h
     ·exact hBP.1 h
    ·rcases h with h|h
     ·exact hWP.2 h
     ·exact hBP.2 h
   have chg:∀(w':World),Chg (λj=>WSet I j∨B j) w w'->Chg (λb=>WSet I b∨(pinR n k bP bC).OB b∨B b) w w':=λw' h=>h.mono (λb _ hb=>hb.elim .inl (λh=>.inr (.inr h)))
   have upm:∀(w':World) (B':Nat->Prop),(∀ b,B' b->B b)->MutUp Mut w' (mutTo Mut B B'):=λw' B' h=>mutTo_up (λb hb=>.inl (h b hb)) (λb hb=>(hB b hb).1)
   have wow:∀ {w':World} {wd':WD} {B':Nat->Prop},WorldAt w' Mut I N wd'->(∀ b,B' b->B b)->WorldAt w' (mutTo Mut B B') I (N+1) wd':=by
    intro w' wd' B' hw' h1
    refine(hw'.keep (S:=noB) (Chg.refl _ _) (λ_ h=>h.elim) (λ_ h=>h.elim) (upm w' B' h1) ?_ ?_).more (Nat.le_succ _) hN2
    ·rintro b (⟨h,_⟩|h)
     ·exact hw'.low b h
     ·exact hw'.low b (hB b (h1 b h)).1
    ·intro b hb
     by_cases hbB:B b
     ·exact absurd hb (hB b hbB).2.1
     ·exact .inl ⟨hw'.muts b hb,hbB⟩
   match j with
   | 0=>
    refine⟨_,_,prd_step_m _,(rd_come w Mut B I N wd n k bP bC b q _ kv o hw hP hbk hb hB2 hcn hne.1 hWP).mono ?_⟩
    rintro e w' ⟨kv',⟨rfl,h0,h2,h3⟩,h4⟩
    have h1:Chg (λj=>WSet I j∨B j) w w':=h0.mono (λj _ h=>h.elim .inl (λe=>.inr (by rw [e];exact hb)))
    have hsub:∀ c,PiB b (.slice la l.length lc) c->B c:=by
     rintro c (rfl|h)
     ·exact hb
     ·exact(hr2 c h).1
    exact⟨rfl,chg w' h1,PiB b (.slice la l.length lc),λc hc=>.inl (hsub c hc),λc hc=>h2.low c (hB c (hsub c hc)).1,wow h2 hsub,obj w' _ h1,rfl,b,la,lc,kv',rfl,h3,.inl rfl,h4.keep (S:=noB) (Chg.refl _ _) (λ_ h=>h.elim) (upm w' _ hsub),.inl ⟨by omega,row_chg hr1 h0 (λg hg h=>by
     rcases h with h|h
     ·exact(hB2 g (hr2 g hg).1).2 h
     ·exact(hr2 g hg).2 h),λg hg=>⟨.inr hg,(hr2 g hg).2⟩⟩⟩
   | j+1=>
    by_cases hjk:j<k
    ·have hst:(pinS n k).step o wd p (.rd q (j+1) l key)=(o,taRead wd (piWord n k q j),.rd q (j+2) (l++[taGot wd (piWord n k q j)]) key,false):=if_pos hjk
     refine⟨_,_,prd_step_m _,(rd_read w Mut B I N wd n k bP bC b q j l _ kv o hw hP hbk hb hB2 hcn hr1 hr2 hll hn hk (hq (by omega)) hjk hne hBP hWP).mono ?_⟩
     rintro e w' ⟨lv',rfl,h1,h2,h3,h4,g,h5,h6,h7,h8⟩
     obtain⟨la',lc',rfl⟩:∃ a c,lv'=.slice a (l++[taGot wd (piWord n k q j)]).length c:=by obtain⟨a,c,e⟩:=row_form h4;exact⟨a,c,e⟩
     have hlow:=h2.low
     unfold StepPost
     rw [hst]
     refine⟨rfl,chg w' h1,PiB b (.slice la' (l++[taGot wd (piWord n k q j)]).length lc'),λc hc=>?_,λc hc=>hlow c (.inr hc),h2.more (Nat.le_succ _) hN2,obj w' _ h1,rfl,b,la',lc',kv,rfl,h3,.inl rfl,?_,.inl ⟨by omega,h4,λg' hg'=>⟨.inr hg',?_⟩⟩⟩
     ·rcases hc with rfl|h
      ·exact .inl hb
      ·rw [h5] at h;cases h
       rcases h6 with h|h
       ·exact .inl (hr2 _ h).1
       ·exact .inr h
     ·refine hkv.keep h1 (λc hc=>hc.elim (hw.muts c) (λh=>(hB c h).1)) (mutTo_up (λc hc=>?_) (λc hc=>(hB c hc).1))
      rcases hc with rfl|h
      ·exact .inl hb
      ·rw [h5] at h;cases h
       rcases h6 with h|h
       ·exact .inl (hr2 _ h).1
       ·exact .inr h
     ·rw [h5] at hg';cases hg';exact h7
    ·have hst:(pinS n k).step o wd p (.rd q (j+1) l key)=(o,doAdd wd (piLeft q) 1,.rd q (j+2) l key,true):=if_neg hjk
     refine⟨_,_,prd_step_m _,(rd_leave w Mut B I N wd n k bP bC b q j _ kv o hw hP hbk hb hB2 hcn (hq (by omega)) (by omega) hjk hne hWP).mono ?_⟩
     rintro e w' ⟨rfl,h0,h2,h3⟩
     have h1:Chg (λj=>WSet I j∨B j) w w':=h0.mono (λj _ h=>h.elim .inl (λe=>.inr (by rw [e];exact hb)))
     have hsub:∀ c,(λc=>c=b) c->B c:=by rintro c rfl;exact hb
     unfold StepPost
     rw [hst]
     refine⟨rfl,chg w' h1,λc=>c=b,λc hc=>.inl (hsub c hc),λc hc=>by cases hc;exact blk_lt h3,wow h2 hsub,obj w' _ h1,rfl,b,la,lc,kv,rfl,h3,rfl,?_,.inr ⟨by omega,?_⟩⟩
     ·exact hkv.keep h1 (λc hc=>hc.elim (hw.muts c) (λh=>(hB c h).1)) (upm w _ hsub)
     ·exact piLst_of_row (row_chg hr1 h0 (λg hg h=>by
       rcases h with h|h
       ·exact(hB2 g (hr2 g hg).1).2 h
       ·exact(hr2 g hg).2 h)) (by omega) hr2 (λg hg=>(hB g hg).1)
 answer:=by
  intro w Mut B T' x' p s hm hd
  match s with
  | .wr v q i ph=>
   obtain⟨rfl,b,rfl,h3,_⟩:=hm
   refine⟨_,_,pwr_answer_m _,(pwr_answer b w).mono ?_⟩
   rintro e' w' ⟨rfl,hb⟩
   exact⟨none,0,.slice none 0 0,rfl,LstU.nil _ _,Lst.nil _ _,hb⟩
  | .rd q j l key=>
   obtain⟨rfl,b,la,lc,kv,rfl,h3,h4,h5,h6⟩:=hm
   obtain⟨ka,kc,rfl⟩:∃ a c,kv=.slice a key.length c:=by obtain⟨a,c,e,_⟩:=h5;exact⟨a,c,e⟩
   rcases h6 with⟨h7,_⟩|⟨h7,h8⟩
   ·have:k+2<=j:=hd
    omega
   ·refine⟨_,_,prd_answer_m _,(prd_answer bP b q j l.length lc key.length kc la ka w h3).mono ?_⟩
    rintro e' w' ⟨rfl,hb⟩
    exact⟨la,lc,.slice ka key.length kc,rfl,h8.keep (S:=noB) (Chg.of_below hb) (λ_ h=>h.elim) (MutUp.refl _ _),h5.keep (S:=noB) (Chg.of_below hb) (λ_ h=>h.elim) (MutUp.refl _ _),hb⟩
 now:=by
  intro o wd p s
  match s with
  | .wr v q i 0=>show((pinS n k).step o wd p (.wr v q i 0)).2.1.now=_;by_cases h:taGot wd (piLeft q)=o.come.getD q 0;rw [show(pinS n k).step o wd p (.wr v q i 0)=_ from if_pos h];rfl;rw [show(pinS n k).step o wd p (.wr v q i 0)=_ from if_neg h];rfl
  | .wr v q i 1=>rfl
  | .wr v q i (ph+2)=>rfl
  | .rd q 0 l key=>rfl
  | .rd q (j+1) l key=>show((pinS n k).step o wd p (.rd q (j+1) l key)).2.1.now=_;by_cases h:j<k;rw [show(pinS n k).step o wd p (.rd q (j+1) l key)=_ from if_pos h];rfl;rw [show(pinS n k).step o wd p (.rd q (j+1) l key)=_ from if_neg h];rfl
 cnt:=by
  intro o wd p s
  match s with
  | .wr v q i 0=>show((pinS n k).step o wd p (.wr v q i 0)).2.1.mem.c.all<=_;by_cases h:taGot wd (piLeft q)=o.come.getD q 0;rw [show(pinS n k).step o wd p (.wr v q i 0)=_ from if_pos h];exact memRead_cnt _ _;rw [show(pinS n k).step o wd p (.wr v q i 0)=_ from if_neg h];exact memRead_cnt _ _
  | .wr v q i 1=>exact memWrite_cnt _ _ _
  | .wr v q i (ph+2)=>exact memAdd_cnt _ _ _
  | .rd q 0 l key=>exact memAdd_cnt _ _ _
  | .rd q (j+1) l key=>show((pinS n k).step o wd p (.rd q (j+1) l key)).2.1.mem.c.all<=_;by_cases h:j<k;rw [show(pinS n k).step o wd p (.rd q (j+1) l key)=_ from if_pos h];exact memRead_cnt _ _;rw [show(pinS n k).step o wd p (.rd q (j+1) l key)=_ from if_neg h];exact memAdd_cnt _ _ _
 invStep:=λ_ _ _ _ _=>trivial
 invTick:=λ_ _ _=>trivial
 invBegin:=λ_ _ _ _=>trivial
 fin:=by
  intro o wd p s h
  match s with
  | .wr v q i 0=>show(pinR n k bP bC).done ((pinS n k).step o wd p (.wr v q i 0)).2.2.1;by_cases h:taGot wd (piLeft q)=o.come.getD q 0;rw [show(pinS n k).step o wd p (.wr v q i 0)=_ from if_pos h];trivial;rw [show(pinS n k).step o wd p (.wr v q i 0)=_ from if_neg h];trivial
  | .wr v q i 1=>trivial
  | .wr v q i (ph+2)=>trivial
  | .rd q 0 l key=>cases h
  | .rd q (j+1) l key=>
   by_cases hj:j<k
   ·rw [show(pinS n k).step o wd p (.rd q (j+1) l key)=_ from if_pos hj] at h;cases h
   ·rw [show(pinS n k).step o wd p (.rd q (j+1) l key)=_ from if_neg hj]
    show k+2<=j+2
    omega
theorem pin_nolate (n k bP bC:Nat):NoLate (pinR n k bP bC) where
 late:=λ_ _ _ _=>rfl
 kind:=by
  intro w Mut B T' x' p s hm v u
  match s with
  | .wr v q i ph=>
   obtain⟨rfl,_⟩:=hm
   exact pwr_kind _ u
  | .rd q j l key=>
   obtain⟨rfl,_⟩:=hm
   exact prd_kind _ u
end
section

/- Layer 8: tally.Play. -/
open Go.RowKit
end
end Go.Proofs.YtfkokppncipgnaaGreat
