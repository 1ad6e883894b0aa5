/- Layer 15: what every play of a snapshot keeps: the turns of one that updates, and those that are refused. -/
import Derived.Test.YtlepjmnhekeofaaR27
set_option maxRecDepth 100000
set_option linter.unusedVariables false
set_option linter.unusedSimpArgs false
set_option linter.unnecessarySimpa false
namespace Go.Proofs.Ytlepjmnhekeofaa
open Go.RowKit
variable {n k:Nat} {calls:List CallD}
section
variable {st:PlayD (snapS n k)} {q i j:Nat} {evs0:List EvD} {rho:Nat->Nat} {wd0:WD}
theorem sn_step_sc {sc:ScD} {p r nx v:Nat} (hn:1<=n) (hn16:n<=16) (hthr:∀ c,c<calls.length->0<=(calls.getD c d0).thread/\(calls.getD c d0).thread<n) (hg:StGood calls st) (h:SnInv n k calls st rho) (hq:q<16) (hN:nowN calls st.fin (q:Int)=some i) (hf:From calls st q i j (.up sc p r nx v false) evs0 wd0) :
  SnInv n k calls (stepTo st ((snapS n k).step st.obj wd0 q (.up sc p r nx v false)) q i j evs0) rho:=by
 have hopen:(evAt evs0 j).resp=0:=hf.open_
 have hnx0:=hf.next hg hN (stepEv (evAt evs0 j)) rfl
 obtain⟨g1,g2,g3,g4,g5,g6,g7⟩:=sn_pre hn hthr hg h hN hf hnx0 (.inl hopen)
 rcases g7 with⟨_,a2,a3,a4⟩|⟨a1,_⟩
 case inr=>cases a1
 obtain⟨hlt,_,_⟩:=sn_scan hn hn16 hthr hg h hN hf hnx0 (.inl hopen) (piW_open hopen) a3 a4
 obtain⟨r1,r2⟩:=taRead_c (wd:=wd0) (a:=scAddr sc) (by rw [hf.mem];exact hlt)
 have hw':=taRead_ws wd0 (scAddr sc)
 refine sn_open (s':=.up (scGo n wd0 sc) p r nx v (decide ((scGo n wd0 sc).pc=3))) (ws':=st.wd.mem.ws) hn hthr hg h hq hN hf rfl rfl rfl r1 r2 rfl (hw'.trans (by rw [hf.mem])) rfl (λ_ _=>rfl) (λ_ _ _ _ _=>rfl) (λ_ _ _ _ _ _=>rfl) (λevs' hx=>?_)
 obtain⟨_,_,_,_,_,_,k7⟩:=sn_pre hn hthr hg h hN hf hx (.inl hopen)
 rcases k7 with⟨_,b2,b3,b4⟩|⟨b1,_⟩
 case inr=>cases b1
 obtain⟨_,k6,_⟩:=sn_scan hn hn16 hthr hg h hN hf hx (.inl hopen) (piW_open hopen) b3 b4
 refine⟨g2,g3,g4,g5,g6,?_⟩
 by_cases h3:(scGo n wd0 sc).pc=3
 ·exact .inr ⟨decide_eq_true h3,h3,by omega,⟨_,k6,by show(evAt evs0 j).steps+1=(evAt evs0 j).steps+1+nx;omega⟩,λh9=>by omega,λi hi=>by omega⟩
 ·exact .inl ⟨decide_eq_false h3,a2,h3,k6⟩
theorem sn_step_put {sc:ScD} {p r nx v a x:Nat} (hn:1<=n) (hthr:∀ c,c<calls.length->0<=(calls.getD c d0).thread/\(calls.getD c d0).thread<n) (hg:StGood calls st) (h:SnInv n k calls st rho) (hq:q<16) (hN:nowN calls st.fin (q:Int)=some i) (hf:From calls st q i j (.up sc p r nx v true) evs0 wd0)
  (ha:a<=n) (hst:(snapS n k).step st.obj wd0 q (.up sc p r nx v true)=(st.obj,doWrite wd0 (r+a) x,.up sc p r (nx+1) v true,false)) (hax:a=nx) (h0:nx=0->x=v) (h1:∀ b,nx=b+1->x=sc.list.getD b 0) :
  SnInv n k calls (stepTo st ((snapS n k).step st.obj wd0 q (.up sc p r nx v true)) q i j evs0) rho:=by
 have hopen:(evAt evs0 j).resp=0:=hf.open_
 have hqn:=sn_q hthr hN
 have hnx0:=hf.next hg hN (stepEv (evAt evs0 j)) rfl
 obtain⟨g1,g2,g3,g4,g5,g6,g7⟩:=sn_pre hn hthr hg h hN hf hnx0 (.inl hopen)
 have hhi:=rec_hi (n:=n) hqn g5
 have hlt:r+a<wd0.mem.ws.length:=by rw [hf.mem,h.wl,g6];omega
 obtain⟨r1,r2⟩:=doWrite_c (wd:=wd0) (a:=r+a) (v:=x) hlt
 have hw':=doWrite_ws hlt x
 rw [show wd0.mem.ws=st.wd.mem.ws by rw [hf.mem]] at hw'
 have hrn:n<=r:=by rw [g6,rec_at];exact Nat.le_add_right _ _
 refine sn_open (ws':=st.wd.mem.ws.set (r+a) x) hn hthr hg h hq hN hf hst rfl rfl r1 r2 rfl hw' (List.length_set ..) (λb hb=>getD_set_neq (by omega)) (λy hy hp b hb=>?_) (λp' hp' hpn hu b hb=>?_) (λevs' hx=>?_)
 ·obtain⟨r',y1,y2⟩:=h.rcd y hy hp
  refine getD_set_neq λe=>?_
  rw [y2,g6] at e
  have:=rec_inj g5 (Nat.lt_of_lt_of_le y1 (h.uk _)) ha hb e
  rw [<-this.1,<-this.2.1] at y1
  exact absurd y1 (Nat.lt_irrefl _)
 ·exact getD_set_neq λe=>sn_far (st:=st) (q:=q) hp' hu g5 hb ha (by rw [<-e,g6])
 ·obtain⟨_,_,_,_,_,_,k7⟩:=sn_pre hn hthr hg h hN hf hx (.inl hopen)
  rcases k7 with⟨b1,_⟩|⟨_,c2,c3,⟨N,c4,c5⟩,c6,c7⟩
  ·cases b1
  have hlt':r+a<st.wd.mem.ws.length:=by rw [<-show wd0.mem.ws=st.wd.mem.ws by rw [hf.mem]];exact hlt
  have hset:∀ b,(st.wd.mem.ws.set (r+a) x).getD b 0=if b=r+a then x else st.wd.mem.ws.getD b 0:=λb=>getD_set_if' _ _ _ _ hlt'
  refine⟨g2,g3,g4,g5,g6,.inr ⟨rfl,c2,by omega,⟨N,c4,by show(evAt evs0 j).steps+1=N+(nx+1);omega⟩,λ_=>?_,λb hb=>?_⟩⟩
  ·rw [hset]
   by_cases e:nx=0
   ·rw [if_pos (by omega)];exact h0 e
   ·rw [if_neg (by omega)];exact c6 (by omega)
  ·rw [hset]
   by_cases e:nx=b+1
   ·rw [if_pos (by omega)];exact h1 b e
   ·rw [if_neg (by omega)];exact c7 b (by omega)
theorem sn_step_end {sc:ScD} {p r nx v:Nat} (hn:1<=n) (hthr:∀ c,c<calls.length->0<=(calls.getD c d0).thread/\(calls.getD c d0).thread<n) (hg:StGood calls st) (h:SnInv n k calls st rho) (hq:q<16) (hN:nowN calls st.fin (q:Int)=some i) (hf:From calls st q i j (.up sc p r (nx+1) v true) evs0 wd0) (hlast:¬ nx+1<=n) :
  ∃ rho',SnInv n k calls (stepTo st ((snapS n k).step st.obj wd0 q (.up sc p r (nx+1) v true)) q i j evs0) rho':=by
 have hqn:=sn_q hthr hN
 obtain⟨hh,hjl,hc,hr0,rfl,rfl⟩:st.hands.getD q (none,0)=(some (.up sc p r (nx+1) v true),j)/\j<st.evs.length/\(evAt st.evs j).call=i/\(evAt st.evs j).resp=0/\evs0=st.evs/\wd0=st.wd.tick:=by
  rcases hf.or with h9|⟨_,hs,_,_,_⟩
  ·exact h9
  ·exfalso
   unfold startD at hs
   by_cases h0:(calls.getD i d0).obj=0
   ·rw [if_pos h0] at hs
    have hs':(if (calls.getD i d0).kind=1 then Mc.run (SnS.rd sc0 []) else if (calls.getD i d0).kind≠0 then .refuse 9 else if k<=List.getD (α:=Nat) st.obj q 0 then .refuse 6 else .run (.up sc0 q (snRecord n k q (List.getD (α:=Nat) st.obj q 0)) 0 (calls.getD i d0).a false))=Mc.run (SnS.up sc p r (nx+1) v true):=hs
    split at hs'
    ·cases hs'
    ·split at hs'
     ·cases hs'
     ·split at hs'
      ·cases hs'
      ·cases hs'
   ·rw [if_neg h0] at hs;cases hs
 obtain⟨e0,he0⟩:∃ e0,e0=evAt st.evs j:=⟨_,rfl⟩
 obtain⟨g1,g2,g3,g4,g5,g6,g7⟩:=h.hand q _ j hh
 rw [<-he0] at g1 g2 g4 g7
 rcases g7 with⟨b1,_⟩|⟨_,c2,c3,⟨N,c4,c5⟩,c6,c7⟩
 ·cases b1
 have hnx':nx=n:=by omega
 rcases c4.body with⟨e,_⟩|⟨e,_⟩|⟨e,_⟩|⟨_,c⟩
 ·omega
 ·omega
 ·omega
 obtain⟨m,m1,m2,m3,m4⟩:=c.mom
 have hhi:=rec_hi (n:=n) hqn g5
 rw [<-g6] at hhi
 have hrn:n<=r:=by rw [g6,rec_at];exact Nat.le_add_right _ _
 have hwl:=h.wl
 have hnsz:n<=snSz n k:=by unfold snSz;omega
 have hlt:q<(snNote st.wd.tick r sc.moment).mem.ws.length:=by show q<st.wd.mem.ws.length;rw [hwl];omega
 obtain⟨r1,r2⟩:=doWrite_c (v:=r) hlt
 have hw':=doWrite_ws hlt r
 obtain⟨wd',hwd'⟩:∃ wd',wd'=doWrite (snNote st.wd.tick r sc.moment) q r:=⟨_,rfl⟩
 rw [<-hwd'] at r1 r2 hw'
 replace hw':wd'.mem.ws=st.wd.mem.ws.set q r:=hw'
 have hnow':wd'.now=st.wd.now+1:=by rw [hwd'];rfl
 have hmk':wd'.marks=List.replicate 16 []:=by rw [hwd'];exact h.marks
 have htr':wd'.traces=updT st.wd.traces (r:Int) [(m:Int)]:=by rw [hwd',<-m1];rfl
 obtain⟨o',ho'⟩:∃ o':List Nat,o'=List.set (α:=Nat) st.obj q (List.getD (α:=Nat) st.obj q 0+1):=⟨_,rfl⟩
 have hst:(snapS n k).step st.obj st.wd.tick q (.up sc p r (nx+1) v true)=(o',wd',.up sc p r (nx+2) v true,true):=by
  rw [ho',hwd']
  subst g3
  exact if_neg hlast
 obtain⟨e1,he1⟩:∃ e1,e1=finishEv wd' q ⟨0,0,[]⟩ [] e0:=⟨_,rfl⟩
 have hto:stepTo st ((snapS n k).step st.obj st.wd.tick q (.up sc p r (nx+1) v true)) q i j st.evs={ wd:=wd',obj:=o',fin:=st.fin.set i true,hands:=st.hands.set q (none,j),evs:=st.evs.set j e1,idle:=st.idle }:=by rw [hst,he1,he0];rfl
 have hnx:=hf.next hg hN e1 (by rw [he1,he0];rfl)
 have hresp:e1.resp=st.wd.now+1:=by rw [he1];exact hnow'
 have hob:objOf calls e1=0:=by rw [he1];exact g1
 have hkd:kindOf calls e1=0:=by rw [he1];exact g2
 have hans:e1.ans=⟨0,0,[]⟩:=by rw [he1];rfl
 have hpw:piW calls e1:=⟨hob,hkd,by rw [hans],by rw [hresp];omega⟩
 have htn:tn calls e1=q:=hnx.thr
 have hkey:e1.key=[2*(e1.resp:Int)]:=by
  rw [hresp,<-hnow',he1]
  show keyOf wd' q []=_
  rw [keyOf_none hmk',if_pos rfl];rfl
 have hu16:=h.u16
 have hset:∀ t,List.getD (α:=Nat) o' t 0=if t=q then List.getD (α:=Nat) st.obj q 0+1 else List.getD (α:=Nat) st.obj t 0:=λt=>by
  rw [ho'];exact getD_set_if' _ _ _ _ (by omega)
 have hmine:∀ x,x<st.evs.length->piW calls (evAt st.evs x)->tn calls (evAt st.evs x)=tn calls e1->(evAt st.evs x).resp<e1.inv:=λx hx hp ht=>by
  have hxj:x≠j:=λe=>by subst e;exact hp.2.2.2 hr0
  have:=sn_mine hg hN hf x hx hxj (ht.trans htn) hp.2.2.2
  rw [he1,he0];exact this
 have hfar:∀ x,x<st.evs.length->piW calls (evAt st.evs x)->rho x≠r:=λx hx hp e=>by
  obtain⟨r',y1,y2⟩:=h.rcd x hx hp
  rw [y2,g6] at e
  have:=rec_inj (n:=n) (a:=0) (a':=0) (Nat.lt_of_lt_of_le y1 (h.uk _)) g5 (Nat.zero_le _) (Nat.zero_le _) (by rw [Nat.add_zero,Nat.add_zero];exact e)
  rw [this.1,this.2.1] at y1
  exact absurd y1 (Nat.lt_irrefl _)
 have hlow:∀ x,x<st.evs.length->piW calls (evAt st.evs x)->n<=rho x:=λx hx hp=>by
  obtain⟨r',_,y2⟩:=h.rcd x hx hp
  rw [y2,rec_at];exact Nat.le_add_right _ _
 have hRn:=h.rc.new (t:=q) (r:=r) (m:=m) (ws':=wd'.mem.ws) hg hnx hpw hresp htn hqn hw' (by rw [hwl];exact hhi) hrn (by omega) hfar hlow (by rw [c6 (by omega),g4,he1];rfl) (by rw [he1];exact m2) m3 (λa ha=>by rw [c7 a (by omega)];exact m4 a ha) hmine
 refine⟨λx=>if x=j then r else rho x,?_⟩
 rw [hto]
 refine sn_rest (rho:=rho) (rho':=λx=>if x=j then r else rho x) hg h hq hthr hnx rfl (.inr hresp) hnow' hmk' (by show wd'.mem.c.fault=0;rw [r1];exact h.cf) (Nat.le_of_eq r2) (by show wd'.mem.ws.length=_;rw [hw',List.length_set];exact hwl) (by show List.length (α:=Nat) o'=16;rw [ho'];exact(List.length_set ..).trans hu16) (λt=>?_) (λt ht=>?_) (by rw [<-htr'] at hRn;exact hRn) (λx hxl hp=>?_) (λx hx hp=>if_neg (hnx.piw hx hp).2.1) (λx hx hp=>?_) (λp' hp'=>?_) (λp' hp' hpn hu a ha=>?_) (λ_ _ hx=>by cases hx) (λ_=>⟨λ_ h1=>by omega,λ_ _=>.inl ⟨hans,?_⟩,λ_=>⟨hkey,λhne=>absurd ⟨hob,hkd⟩ hne⟩,?_⟩)
 ·show List.getD (α:=Nat) o' t 0<=k
  rw [hset]
  by_cases e:t=q
  ·rw [if_pos e];omega
  ·rw [if_neg e];exact h.uk t
 ·show List.getD (α:=Nat) o' t 0=cnt (isU calls t) (st.evs.set j e1)
  rw [hset,hnx.cnt isU_open]
  by_cases e:t=q
  ·rw [if_pos e,show isU calls t e1=true from by unfold isU;rw [decide_eq_true hpw,decide_eq_true (htn.trans e.symm)];rfl,if_pos rfl,e,h.uc q hqn]
  ·rw [if_neg e,show isU calls t e1=false from by unfold isU;rw [decide_eq_false (show ¬ tn calls e1=t from λe9=>e (e9.symm.trans htn)),Bool.and_false],h.uc t ht];simp
 ·show ∃ r',r'<List.getD (α:=Nat) o' (tn calls (evAt (st.evs.set j e1) x)) 0/\(if x=j then r else rho x)=snRecord n k (tn calls (evAt (st.evs.set j e1) x)) r'
  by_cases e:x=j
  ·subst e
   rw [hnx.self,htn,hset,if_pos rfl,if_pos rfl]
   exact⟨List.getD (α:=Nat) st.obj q 0,Nat.lt_succ_self _,g6⟩
  ·obtain⟨x1,x2⟩:=hnx.other x hxl e
   rw [x2] at hp ⊢
   obtain⟨r',y1,y2⟩:=h.rcd x x1 hp
   refine⟨r',?_,by rw [if_neg e];exact y2⟩
   rw [hset]
   by_cases e9:tn calls (evAt st.evs x)=q
   ·rw [if_pos e9];rw [e9] at y1;omega
   ·rw [if_neg e9];exact y1
 ·show wd'.traces _=_
  rw [htr']
  have hne:¬ ((rho x:Nat):Int)=(r:Int):=λe=>hfar x hx hp (by omega)
  unfold updT
  rw [if_neg hne]
 ·show List.getD (α:=Nat) o' p' 0=_
  rw [hset,if_neg hp']
 ·show wd'.mem.ws.getD _ 0=_
  rw [hw']
  refine getD_set_neq ?_
  have:n<=snRecord n k p' (List.getD (α:=Nat) st.obj p' 0):=by rw [rec_at];exact Nat.le_add_right _ _
  omega
 ·show cnt (isUT calls (tn calls e1) e1.resp) (st.evs.set j e1)<k
  rw [htn,hresp,cntU_keep hnx (.inr hresp) (Nat.le_refl _),cntU_now hg,<-h.uc q hqn]
  exact g5
 ·have hs:e1.steps=e0.steps+1:=by rw [he1];rfl
  have:=c.steps
  rw [hs]
  exact⟨by omega,λh1=>by omega⟩
theorem sn_refuse {er:Int} (hn:1<=n) (hthr:∀ c,c<calls.length->0<=(calls.getD c d0).thread/\(calls.getD c d0).thread<n) (hg:StGood calls st) (h:SnInv n k calls st rho) (hq:q<16) (hN:nowN calls st.fin (q:Int)=some i) (hs:startD (snapS n k) st.obj (st.wd.tick.begin q) q (calls.getD i d0)=.refuse er):SnInv n k calls (refuseTo st q i er) rho:=by
 obtain⟨e,he⟩:∃ e,e=finishEv (st.wd.tick.begin q) q ⟨er,0,[]⟩ [] (newEv i (st.wd.tick.begin q)):=⟨_,rfl⟩
 have hst:refuseTo st q i er={ wd:=st.wd.tick.begin q,obj:=st.obj,fin:=st.fin.set i true,hands:=st.hands.set q (none,st.evs.length),evs:=st.evs++[e],idle:=st.idle }:=by rw [he];rfl
 have hnx:=refuse_next hg hN e (by rw [he];rfl)
 have hqn:=sn_q hthr hN
 have hresp:e.resp=st.wd.now+1:=by rw [he];rfl
 have hmk:=begin_marks (q:=q) h.marks
 have e1:objOf calls e=(calls.getD i d0).obj:=by rw [he];rfl
 have e2:kindOf calls e=(calls.getD i d0).kind:=by rw [he];rfl
 have e3:tn calls e=q:=hnx.thr
 have hkey:e.key=[2*(e.resp:Int)]:=by
  rw [he]
  show keyOf (st.wd.tick.begin q) q []=_
  rw [keyOf_none hmk,if_pos rfl];rfl
 have hans:e.ans=⟨er,0,[]⟩:=by rw [he];rfl
 have hcn:cnt (isUT calls q (st.wd.now+1)) (st.evs++[e])=List.getD (α:=Nat) st.obj q 0:=by rw [cntU_keep hnx (.inr hresp) (Nat.le_refl _),cntU_now hg,<-h.uc q hqn]
 have htold:er≠0/\¬ (objOf calls e=0/\kindOf calls e=1)/\(objOf calls e=0->kindOf calls e=0->er=6/\k<=List.getD (α:=Nat) st.obj q 0)/\(¬ (objOf calls e=0/\kindOf calls e=0)->e.ans=(if objOf calls e≠0 then ⟨12,0,[]⟩ else ⟨9,0,[]⟩)):=by
  rw [hans,e1,e2]
  unfold startD at hs
  by_cases h0:(calls.getD i d0).obj=0
  ·rw [if_pos h0] at hs
   have hs':(if (calls.getD i d0).kind=1 then Mc.run (SnS.rd sc0 []) else if (calls.getD i d0).kind≠0 then .refuse 9 else if k<=List.getD (α:=Nat) st.obj q 0 then .refuse 6 else .run (.up sc0 q (snRecord n k q (List.getD (α:=Nat) st.obj q 0)) 0 (calls.getD i d0).a false))=Mc.refuse er:=hs
   split at hs'
   ·cases hs'
   ·rename_i k1
    split at hs'
    ·rename_i k0
     cases hs'
     exact⟨by decide,λx=>k1 x.2,λ_ x=>absurd x k0,λ_=>by rw [if_neg (λx=>x h0)]⟩
    ·rename_i k0
     split at hs'
     ·rename_i k2
      cases hs'
      exact⟨by decide,λx=>k1 x.2,λ_ _=>⟨rfl,k2⟩,λx=>absurd ⟨h0,Classical.not_not.1 k0⟩ x⟩
     ·cases hs'
  ·rw [if_neg h0] at hs
   cases hs
   exact⟨by decide,λx=>h0 x.1,λx=>absurd x h0,λ_=>by rw [if_pos h0]⟩
 have hnw:¬ piW calls e:=λhp=>htold.1 (by have:=hp.2.2.1;rw [hans] at this;exact this)
 rw [hst]
 refine sn_rest (rho':=rho) hg h hq hthr hnx rfl (.inr hresp) rfl hmk h.cf (Nat.le_succ _) h.wl h.u16 h.uk (sn_uc (st:=st) hnx hnw h) (h.rc.keep hg hnx (.inr hresp) hnw rfl (λ_ _=>rfl) (λ_ _ _ _ _=>rfl) (λ_ _ _=>rfl)) (sn_rcd (st:=st) hnx hnw h) (λ_ _ _=>rfl) (λ_ _ _=>rfl) (λ_ _=>rfl) (λ_ _ _ _ _ _=>rfl) (λ_ _ hx=>by cases hx) (λ_=>⟨λh0 h1=>absurd ⟨h0,h1⟩ htold.2.1,λh0 h1=>.inr ?_,λ_=>⟨hkey,htold.2.2.2⟩,?_⟩)
 ·obtain⟨b1,b2⟩:=htold.2.2.1 h0 h1
  refine⟨by rw [hans,b1],?_⟩
  rw [e3,hresp]
  show k<=cnt (isUT calls q (st.wd.now+1)) (st.evs++[e])
  rw [hcn];exact b2
 ·have hs:e.steps=1:=by rw [he];rfl
  rw [hs]
  have:1<=(n+1)*n:=Nat.mul_pos (Nat.succ_pos n) hn
  exact⟨by omega,λ_=>by omega⟩
end
theorem sn_turn (hn:1<=n) (hn16:n<=16) (hthr:∀ c,c<calls.length->0<=(calls.getD c d0).thread/\(calls.getD c d0).thread<n) {st st':PlayD (snapS n k)} (hg:StGood calls st) (h:∃ rho,SnInv n k calls st rho) (hT:Turn calls st st'):∃ rho,SnInv n k calls st' rho:=by
 obtain⟨rho,h⟩:=h
 cases hT with
 | idle=>exact⟨rho,h.marks,h.cf,h.ca,h.wl,h.u16,h.uk,h.uc,h.rc,h.rcd,h.hand,h.told⟩
 | refuse q i er hq hN hh hs=>exact⟨rho,sn_refuse hn hthr hg h hq hN hs⟩
 | step q i j s evs0 wd0 hq hN hf=>
  match s,hf with
  | .rd sc key,hf=>exact⟨rho,sn_step_rd hn hn16 hthr hg h hq hN hf⟩
  | .up sc p r nx v false,hf=>exact⟨rho,sn_step_sc hn hn16 hthr hg h hq hN hf⟩
  | .up sc p r 0 v true,hf=>exact⟨rho,sn_step_put (a:=0) (x:=v) hn hthr hg h hq hN hf (Nat.zero_le _) rfl rfl (λ_=>rfl) (λb e=>by cases e)⟩
  | .up sc p r (a+1) v true,hf=>
   by_cases ha:a+1<=n
   ·exact⟨rho,sn_step_put (a:=a+1) (x:=sc.list.getD a 0) hn hthr hg h hq hN hf ha (if_pos ha) rfl (λe=>by cases e) (λb e=>by cases e;rfl)⟩
   ·exact sn_step_end hn hthr hg h hq hN hf ha
end Go.Proofs.Ytlepjmnhekeofaa
