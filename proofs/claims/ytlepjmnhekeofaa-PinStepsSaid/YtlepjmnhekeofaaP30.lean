/- Layer 14: what every play of a register keeps: each turn keeps it. -/
import Derived.Test.YtlepjmnhekeofaaP29
set_option maxRecDepth 100000
set_option linter.unusedVariables false
set_option linter.unusedSimpArgs false
set_option linter.unnecessarySimpa false
namespace Go.Proofs.Ytlepjmnhekeofaa
section
open Go.RowKit
variable {n k:Nat} {calls:List CallD}
theorem pi_same {hs:List (Option PiS×Nat)} {p:Nat} (hp:p<hs.length) (x:Option PiS×Nat) (h1:∀ y,piAt y (hs.getD p (none,0)).1=piAt y x.1) (h2:∀ o y,piFar o y (hs.getD p (none,0)).1=piFar o y x.1):(∀ y,piH y (hs.set p x)=piH y hs)/\∀ o y,piN o y (hs.set p x)=piN o y hs:=by
 refine⟨λy=>?_,λo y=>?_⟩
 ·have:=cp_set (P:=piAt y) hp x
  rw [h1] at this
  unfold piH;omega
 ·have:=cp_set (P:=piFar o y) hp x
  rw [h2] at this
  unfold piN;omega
theorem PiW.same {t t':Nat} {ws:List Nat} {o:PinO} {hs hs':List (Option PiS×Nat)} (h:PiW n k t ws o hs) (ht:t<=t') (hH:∀ y,piH y hs'=piH y hs):PiW n k t' ws o hs':=by
 obtain⟨c,c1,c2,c3,c4⟩:=h.cell
 exact⟨h.wl,h.cl,h.nl,⟨c,c1,by omega,c3,λq hq=>by rw [hH];exact c4 q hq⟩,h.cm⟩
theorem taGot_in {wd:WD} {a:Nat} (h:a<wd.mem.ws.length):taGot wd a=wd.mem.ws.getD a 0:=by
 have ho:memOut wd.mem (a:Int)=false:=by unfold memOut;simp;omega
 unfold taGot memRead
 rw [if_neg (by rw [ho];simp)];simp
theorem taRead_ws (wd:WD) (a:Nat):(taRead wd a).mem.ws=wd.mem.ws:=by
 unfold taRead memRead
 split<;>rfl
theorem doWrite_ws {wd:WD} {a:Nat} (h:a<wd.mem.ws.length) (v:Nat):(doWrite wd a v).mem.ws=wd.mem.ws.set a v:=by
 have ho:memOut wd.mem (a:Int)=false:=by unfold memOut;simp;omega
 unfold doWrite memWrite
 simp only
 rw [if_neg (by rw [ho];simp)];simp
theorem doAdd_ws {wd:WD} {a:Nat} (h:a<wd.mem.ws.length) (v:Nat):(doAdd wd a v).mem.ws=wd.mem.ws.set a ((wd.mem.ws.getD a 0+v) % 18446744073709551616)/\adGot wd a v=wd.mem.ws.getD a 0:=by
 have ho:memOut wd.mem (a:Int)=false:=by unfold memOut;simp;omega
 unfold doAdd adGot memAdd
 simp only
 rw [if_neg (by rw [ho];simp)];simp
theorem pi_refuse {st:PlayD (pinS n k)} {q i:Nat} {er:Int} (hg:StGood calls st) (h:PiInv n k calls st) (hq:q<16) (hN:nowN calls st.fin (q:Int)=some i) (hh:(st.hands.getD q (none,0)).1=none) (hs:startD (pinS n k) st.obj (st.wd.tick.begin q) q (calls.getD i d0)=.refuse er):PiInv n k calls (refuseTo st q i er):=by
 obtain⟨e,he⟩:∃ e,e=finishEv (st.wd.tick.begin q) q ⟨er,0,[]⟩ [] (newEv i (st.wd.tick.begin q)):=⟨_,rfl⟩
 have hst:refuseTo st q i er={ wd:=st.wd.tick.begin q,obj:=st.obj,fin:=st.fin.set i true,hands:=st.hands.set q (none,st.evs.length),evs:=st.evs++[e],idle:=st.idle }:=by rw [he];rfl
 have est:e.steps=1:=by rw [he];rfl
 have hnx:=refuse_next hg hN e (by rw [he];rfl)
 have hk1:objOf calls e=0->kindOf calls e≠1:=by
  have e1:objOf calls e=(calls.getD i d0).obj:=by rw [he];rfl
  have e2:kindOf calls e=(calls.getD i d0).kind:=by rw [he];rfl
  rw [e1,e2]
  intro h0 h1
  unfold startD at hs
  rw [if_pos h0] at hs
  have e3:(pinS n k).start st.obj (st.wd.tick.begin q) q (calls.getD i d0)=.run (.rd 0 0 [] []):=if_pos h1
  rw [e3] at hs;cases hs
 obtain⟨s1,s2⟩:=pi_same (hs:=st.hands) (p:=q) (Nat.lt_of_lt_of_eq hq hg.h16.symm) (none,st.evs.length) (λy=>congrArg (piAt y) hh) (λo y=>congrArg (piFar o y) hh)
 rw [hst]
 refine pi_rest hg h hq hnx rfl (h.w.same (Nat.le_succ _) s1) (λp s2' e2 hpq _ hp=>?_) (λs1 j1 hx=>by cases hx) (λq2 hq2 hn2=>?_) (λ_=>⟨by omega,λ_=>by omega,λh0 h1=>absurd h1 (hk1 h0)⟩)
 ·match s2',hp with
  | .wr v q' i' ph,hp=>exact wr_keep hp (λ_ _ _ _=>rfl) (λy=>Nat.le_of_eq (s2 _ y)) (λy _=>Nat.le_of_eq (s1 y))
  | .rd q' j' l' key',hp=>exact rd_keep hp (λ_ _ _=>rfl)
 ·refine h.cont q2 hq2 (λv i' ph j hp=>?_)
  by_cases hq0:q=0
  ·subst hq0
   have:(st.hands.getD 0 (none,0)).1=some (.wr v q2 i' ph):=congrArg Prod.fst hp
   rw [hh] at this;cases this
  ·refine hn2 v i' ph j ?_
   show(st.hands.set q (none,st.evs.length)).getD 0 (none,0)=_
   rw [hands_set hg.h16 hq,if_neg (Ne.symm hq0)]
   exact hp
end
section

/- Layer 14: what every play of a register keeps: a look; to come; to leave; to read a word. -/
open Go.RowKit
variable {n k:Nat} {calls:List CallD}
theorem cp_put {P:Option PiS->Bool} {hs:List (Option PiS×Nat)} {p:Nat} (hp:p<hs.length) (x:Option PiS×Nat) {b1 b2:Bool} (h1:P (hs.getD p (none,0)).1=b1) (h2:P x.1=b2):(hs.set p x).countP (λh=>P h.1)+b1.toNat=hs.countP (λh=>P h.1)+b2.toNat:=by
 have h:=cp_set (P:=P) hp x
 rw [h1,h2] at h
 cases b1<;>cases b2<;>simpa using h
theorem pi_old {st:PlayD (pinS n k)} {q i j:Nat} {s:PiS} {evs0:List EvD} {wd0:WD} (hf:From calls st q i j s evs0 wd0) {s2:PiS} {j2:Nat} (h:st.hands.getD q (none,0)=(some s2,j2)):s2=s:=by
 rcases hf.or with⟨hh,_⟩|⟨hh,_⟩
 ·rw [h] at hh;cases hh;rfl
 ·rw [h] at hh;cases hh
theorem pi_others {st:PlayD (pinS n k)} {ws':List Nat} {hs':List (Option PiS×Nat)} (hw:∀ q a,q<=n->a<k->ws'.getD (piWord n k q a) 0=st.wd.mem.ws.getD (piWord n k q a) 0) (hN:∀ q,piN st.obj.now q hs'<=piN st.obj.now q st.hands) (hH:∀ q,q≠st.obj.now->piH q hs'<=piH q st.hands) {p:Nat} {s2:PiS} {e:EvD} (h:piHand n k calls st.wd.mem.ws st.obj st.hands p e s2):piHand n k calls ws' st.obj hs' p e s2:=by
 match s2,h with
 | .wr v q' i' ph,hp=>exact wr_keep hp hw hN hH
 | .rd q' j' l' key',hp=>exact rd_keep hp (λhj a ha=>hw q' a (hp.2.2.2.2 hj).1 ha)
theorem pi_cont {st:PlayD (pinS n k)} {q i j:Nat} {s:PiS} {evs0:List EvD} {wd0:WD} (hg:StGood calls st) (h:PiInv n k calls st) (hf:From calls st q i j s evs0 wd0) (hq:q<16) {x:Option PiS×Nat} {ws':List Nat} (hs:∀ v q' i' ph,s=.wr v q' i' ph->ph=0) (hw:∀ q a,q<=n->a<k->ws'.getD (piWord n k q a) 0=st.wd.mem.ws.getD (piWord n k q a) 0)
  (q2:Nat) (hq2:q2<=n) (hn2:∀ v i ph j,(st.hands.set q x).getD 0 (none,0)=(some (PiS.wr v q2 i ph),j)->ph=0):piGood k calls (λa=>ws'.getD (piWord n k q2 a) 0):=by
 have:=h.cont q2 hq2 (λv i' ph j2 hp=>by
  by_cases hq0:q=0
  ·subst hq0
   exact hs _ _ _ _ (pi_old hf hp).symm
  ·refine hn2 v i' ph j2 ?_
   exact((hands_set hg.h16 hq x 0).trans (if_neg (Ne.symm hq0))).trans hp)
 rcases this with h1|⟨c,c1,c2,c3,c4,c5⟩
 ·exact .inl λa ha=>(hw q2 a hq2 ha).trans (h1 a ha)
 ·exact .inr ⟨c,c1,c2,c3,c4,λa ha=>(hw q2 a hq2 ha).trans (c5 a ha)⟩
theorem pi_step_look {st:PlayD (pinS n k)} {q i j v q' iw:Nat} {evs0:List EvD} {wd0:WD} (hn:1<=n) (hk1:1<=k) (hthr:∀ c,c<calls.length->0<=(calls.getD c d0).thread/\(calls.getD c d0).thread<n) (hg:StGood calls st) (h:PiInv n k calls st) (hq:q<16) (hN:nowN calls st.fin (q:Int)=some i) (hf:From calls st q i j (.wr v q' iw 0) evs0 wd0) :
  PiInv n k calls (stepTo st ((pinS n k).step st.obj wd0 q (.wr v q' iw 0)) q i j evs0):=by
 obtain⟨g1,g2,g3,g4⟩:=pi_pre hn hthr hg h hf
 obtain⟨e0,he0⟩:∃ e0,e0=evAt evs0 j:=⟨_,rfl⟩
 rw [<-he0] at g1 g2
 obtain⟨p1,p2,p3,p4,p5⟩:=g2
 rcases p5 with⟨_,a2,a3,a4⟩|⟨a1,_⟩
 case inr=>omega
 subst a2
 have hqn:=pi_look p4 a3 a4
 have hws:wd0.mem.ws=st.wd.mem.ws:=by rw [hf.mem]
 have hgot:taGot wd0 (piLeft q')=st.wd.mem.ws.getD (1+q') 0:=by
  rw [taGot_in (by rw [hws,h.w.wl];exact piLeft_lt hqn),hws];rfl
 obtain⟨c,c1,c2,c3,c4⟩:=h.w.cell
 have hbal:=c4 q' hqn
 rw [if_neg p4,Nat.add_zero] at hbal
 have hw':(taRead wd0 (piLeft q')).mem.ws=st.wd.mem.ws:=(taRead_ws _ _).trans hws
 have hnow:(taRead wd0 (piLeft q')).now=st.wd.now+1:=hf.now
 have hnx:=hf.next hg hN (stepEv e0) (by rw [he0];rfl)
 have hopen:e0.resp=0:=by rw [he0];exact hf.open_
 have fin:∀ s':PiS,(∀ y,piAt y (some s')=false)->(∀ o y,piFar o y (some s')=false)->(∀ v q' i' ph,s'=.wr v q' i' ph->True)->
   (pinS n k).step st.obj wd0 q (.wr v q' 0 0)=(st.obj,taRead wd0 (piLeft q'),s',false)->((∀ y,piH y (st.hands.set q (some s',j))=piH y st.hands)->(∀ o y,piN o y (st.hands.set q (some s',j))=piN o y st.hands)->piHand n k calls st.wd.mem.ws st.obj (st.hands.set q (some s',j)) q (stepEv e0) s')->
   PiInv n k calls (stepTo st ((pinS n k).step st.obj wd0 q (.wr v q' 0 0)) q i j evs0):=by
  intro s' t1 t2 _ hst hS
  obtain⟨s1,s2⟩:=pi_same (hs:=st.hands) (p:=q) (Nat.lt_of_lt_of_eq hq hg.h16.symm) (some s',j) (λy=>(g3 y).trans (t1 y).symm) (λo y=>(g4 o y).trans (t2 o y).symm)
  have hto:stepTo st ((pinS n k).step st.obj wd0 q (.wr v q' 0 0)) q i j evs0={ wd:=taRead wd0 (piLeft q'),obj:=st.obj,fin:=st.fin,hands:=st.hands.set q (some s',j),evs:=evs0.set j (stepEv e0),idle:=st.idle }:=by rw [hst,he0];rfl
  rw [hto]
  refine pi_rest hg h hq hnx rfl ?_ (λp s2' e2 hpq _ hp=>?_) (λs1' j1 hx=>?_) (λq2 hq2 hn2=>?_) (λh0=>absurd (show e0.resp≠0 from h0) (by rw [hopen];simp))
  ·show PiW n k (taRead wd0 (piLeft q')).now (taRead wd0 (piLeft q')).mem.ws st.obj (st.hands.set q (some s',j))
   rw [hw',hnow]
   exact h.w.same (Nat.le_succ _) s1
  ·show piHand n k calls (taRead wd0 (piLeft q')).mem.ws st.obj (st.hands.set q (some s',j)) p e2 s2'
   rw [hw']
   exact pi_others (λ_ _ _ _=>rfl) (λy=>Nat.le_of_eq (s2 _ y)) (λy _=>Nat.le_of_eq (s1 y)) hp
  ·cases hx
   refine⟨rfl,g1,?_⟩
   show piHand n k calls (taRead wd0 (piLeft q')).mem.ws st.obj (st.hands.set q (some s',j)) q (stepEv e0) s'
   rw [hw'];exact hS s1 s2
  ·show piGood k calls (λa=>(taRead wd0 (piLeft q')).mem.ws.getD (piWord n k q2 a) 0)
   rw [hw']
   exact pi_cont hg h hf hq (λ_ _ _ _ e=>by cases e;rfl) (λ_ _ _ _=>rfl) q2 hq2 hn2
 by_cases hc:taGot wd0 (piLeft q')=st.obj.come.getD q' 0
 ·refine fin (.wr v q' 0 1) (λ_=>rfl) (λ_ _=>rfl) (λ_ _ _ _ _=>trivial) (if_pos hc) (λs1 s2=>⟨p1,p2,p3,p4,.inr ⟨Nat.le_refl _,by omega,hqn,?_,?_,Nat.zero_le _,λ_=>hk1,λh=>absurd h (by omega),λa ha=>absurd ha (Nat.not_lt_zero _)⟩⟩)
  ·rw [s1];rw [hgot] at hc;omega
  ·show e0.steps+1<=n+0;omega
 ·refine fin (.wr v (piNext st.obj.now (q'+1)) 0 0) (λ_=>rfl) (λ_ _=>rfl) (λ_ _ _ _ _=>trivial) (if_neg hc) (λs1 s2=>⟨p1,p2,p3,?_,.inl ⟨rfl,rfl,?_,?_⟩⟩)
  ·unfold piNext;split<;>omega
  ·show e0.steps+1+_=_
   unfold piNext
   split at a3<;>split<;>split<;>omega
  ·rw [s2]
   show _+(e0.steps+1)+1<=n
   have h1:=piFar_less (now:=st.obj.now) (q:=q') p4 st.hands
   have h2:=piFar_next (now:=st.obj.now) (q:=q'+1) st.hands
   rw [hgot] at hc
   omega
theorem pi_step_come {st:PlayD (pinS n k)} {q i j q':Nat} {l:List Nat} {key:List Int} {evs0:List EvD} {wd0:WD} (hn:1<=n) (hn16:n<=16) (ht:st.wd.now<=1000000) (hthr:∀ c,c<calls.length->0<=(calls.getD c d0).thread/\(calls.getD c d0).thread<n) (hg:StGood calls st) (h:PiInv n k calls st) (hq:q<16) (hN:nowN calls st.fin (q:Int)=some i) (hf:From calls st q i j (.rd q' 0 l key) evs0 wd0) :
  PiInv n k calls (stepTo st ((pinS n k).step st.obj wd0 q (.rd q' 0 l key)) q i j evs0):=by
 obtain⟨g1,g2,g3,g4⟩:=pi_pre hn hthr hg h hf
 obtain⟨e0,he0⟩:∃ e0,e0=evAt evs0 j:=⟨_,rfl⟩
 rw [<-he0] at g1 g2
 obtain⟨p1,p2,p3,p4,_⟩:=g2
 have hl:=p4 rfl
 subst hl
 have hws:wd0.mem.ws=st.wd.mem.ws:=by rw [hf.mem]
 obtain⟨c,c1,c2,c3,c4⟩:=h.w.cell
 have hnow:=h.w.nl
 have hlen:0<wd0.mem.ws.length:=by rw [hws,h.w.wl];omega
 obtain⟨d1,d2⟩:=doAdd_ws hlen 1
 rw [hws,c1] at d1 d2
 have hsum:(st.obj.now*4294967296+c+1) % 18446744073709551616=st.obj.now*4294967296+(c+1):=by omega
 have hbuf:(st.obj.now*4294967296+c) / 4294967296=st.obj.now:=by omega
 rw [hsum] at d1
 have hst:(pinS n k).step st.obj wd0 q (.rd q' 0 [] key)=(st.obj,doAdd wd0 0 1,.rd st.obj.now 1 [] (tickKey wd0),false):=by
  exact congrArg (λz=>(st.obj,doAdd wd0 0 1,PiS.rd z 1 [] (tickKey wd0),false)) (by rw [d2,hbuf])
 have hnow':(doAdd wd0 0 1).now=st.wd.now+1:=hf.now
 have hnx:=hf.next hg hN (stepEv e0) (by rw [he0];rfl)
 have hopen:e0.resp=0:=by rw [he0];exact hf.open_
 have hto:stepTo st ((pinS n k).step st.obj wd0 q (.rd q' 0 [] key)) q i j evs0={ wd:=doAdd wd0 0 1,obj:=st.obj,fin:=st.fin,hands:=st.hands.set q (some (.rd st.obj.now 1 [] (tickKey wd0)),j),evs:=evs0.set j (stepEv e0),idle:=st.idle }:=by rw [hst,he0];rfl
 have hq':q<st.hands.length:=Nat.lt_of_lt_of_eq hq hg.h16.symm
 have hH:∀ y,piH y (st.hands.set q (some (.rd st.obj.now 1 [] (tickKey wd0)),j))=piH y st.hands+(if y=st.obj.now then 1 else 0):=λy=>by
  have h1:=cp_put (P:=piAt y) (b1:=false) (b2:=decide (st.obj.now=y)) hq' (some (.rd st.obj.now 1 [] (tickKey wd0)),j) ((g3 y).trans (by simp [piAt])) (by simp [piAt])
  unfold piH
  by_cases hy:y=st.obj.now
  ·rw [if_pos hy];rw [decide_eq_true hy.symm] at h1;exact h1
  ·rw [if_neg hy];rw [decide_eq_false (Ne.symm hy)] at h1;exact h1
 have hNN:∀ y,piN st.obj.now y (st.hands.set q (some (.rd st.obj.now 1 [] (tickKey wd0)),j))=piN st.obj.now y st.hands:=λy=>by
  have h1:=cp_put (P:=piFar st.obj.now y) (b1:=false) (b2:=false) hq' (some (.rd st.obj.now 1 [] (tickKey wd0)),j) ((g4 _ y).trans (by simp [piFar])) (by simp [piFar])
  exact h1
 have hword:∀ q a,q<=n->a<k->(doAdd wd0 0 1).mem.ws.getD (piWord n k q a) 0=st.wd.mem.ws.getD (piWord n k q a) 0:=λq2 a _ _=>by
  rw [d1];exact getD_set_neq (Ne.symm (piWord_far (q':=0) (Nat.zero_le n)).1)
 rw [hto]
 refine pi_rest hg h hq hnx rfl ?_ (λp s2' e2 hpq _ hp=>?_) (λs1' j1 hx=>?_) (λq2 hq2 hn2=>?_) (λh0=>absurd (show e0.resp≠0 from h0) (by rw [hopen];simp))
 ·show PiW n k (doAdd wd0 0 1).now (doAdd wd0 0 1).mem.ws st.obj (st.hands.set q (some (.rd st.obj.now 1 [] (tickKey wd0)),j))
  rw [d1,hnow']
  have h0l:0<st.wd.mem.ws.length:=by rw [h.w.wl];omega
  refine⟨by rw [List.length_set];exact h.w.wl,h.w.cl,hnow,⟨c+1,getD_set_eq h0l,by omega,by omega,λq2 hq2=>?_⟩,h.w.cm⟩
  rw [getD_set_neq (by omega),hH]
  have:=c4 q2 hq2
  split at this<;>split<;>omega
 ·exact pi_others hword (λy=>Nat.le_of_eq (hNN y)) (λy hy=>by have:=hH y;rw [if_neg hy] at this;exact Nat.le_of_eq this) hp
 ·cases hx
  refine⟨rfl,g1,?_⟩
  refine⟨p1,by omega,?_,λh=>absurd h (by omega),λ_=>⟨hnow,rfl,λa ha=>absurd ha (by omega)⟩⟩
  show e0.steps+1=1
  omega
 ·exact pi_cont hg h hf hq (λ_ _ _ _ e=>by cases e) hword q2 hq2 hn2
end
end Go.Proofs.Ytlepjmnhekeofaa
