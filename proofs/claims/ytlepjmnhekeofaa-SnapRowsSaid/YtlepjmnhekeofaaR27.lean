/- Layer 15: what every play of a snapshot keeps: each turn keeps it. -/
import Derived.Test.YtlepjmnhekeofaaR26
set_option maxRecDepth 100000
set_option linter.unusedVariables false
set_option linter.unusedSimpArgs false
set_option linter.unnecessarySimpa false
namespace Go.Proofs.Ytlepjmnhekeofaa
open Go.RowKit
variable {n k:Nat} {calls:List CallD}
theorem From.trs {S:Sys} {st:PlayD S} {q i j:Nat} {s:S.σ} {evs0:List EvD} {wd0:WD} (h:From calls st q i j s evs0 wd0):wd0.traces=st.wd.traces:=by
 cases h<;>rfl
theorem sc0_ok {prt val:CallD->Nat} {rho:Nat->Nat} {evs:List EvD} {traces:Int->List Int} {T p:Nat} (hn:1<=n):ScOk n calls prt val rho evs traces T p T 0 sc0:=by
 have hz:∀ i,(List.replicate 16 0).getD i 0=0:=λi=>getD_rep'
 have hf:∀ i,(List.replicate 16 false).getD i false=false:=λi=>getD_rep'
 exact⟨rfl,rfl,rfl,λi _=>⟨hz i,hz i⟩,Nat.le_refl _,hf p,λi _=>hf i,.inl ⟨rfl,⟨hn,rfl,by show 0=0*n+0;omega,Nat.zero_le _,λi hi=>absurd hi (Nat.not_lt_zero i),λh=>absurd h (Nat.not_succ_le_zero 0),λh=>absurd h (Nat.not_succ_le_zero 0),λ_ i=>hf i⟩⟩⟩
section
variable {st:PlayD (snapS n k)} {q i j:Nat} {evs' evs0:List EvD} {e1:EvD} {rho:Nat->Nat} {s:SnS} {wd0:WD}
theorem sn_q (hthr:∀ c,c<calls.length->0<=(calls.getD c d0).thread/\(calls.getD c d0).thread<n) (hN:nowN calls st.fin (q:Int)=some i):q<n:=by
 obtain⟨a,b,_⟩:=nowN_spec hN
 have:=hthr i a
 omega
theorem sn_pre (hn:1<=n) (hthr:∀ c,c<calls.length->0<=(calls.getD c d0).thread/\(calls.getD c d0).thread<n) (hg:StGood calls st) (h:SnInv n k calls st rho) (hN:nowN calls st.fin (q:Int)=some i) (hf:From calls st q i j s evs0 wd0) (hx:Next calls st q evs' j e1) (hr:e1.resp=0∨e1.resp=st.wd.now+1) :
  objOf calls (evAt evs0 j)=0/\SnHand n k calls rho evs' st.wd.mem.ws st.wd.traces (st.wd.now+1) st.obj q (evAt evs0 j) s:=by
 rcases hf.or with⟨hh,hk,hc,hr0,rfl,rfl⟩|⟨hh,hs,rfl,rfl,rfl⟩
 ·obtain⟨a,b⟩:=h.hand q s j hh
  exact⟨a,b.keep hx hr (λ_ _ _=>rfl) (λ_ _ _=>rfl) rfl (λ_ _ _=>rfl)⟩
 ·rw [evAt_last]
  unfold startD at hs
  by_cases h0:(calls.getD i d0).obj=0
  ·rw [if_pos h0] at hs
   have hs':(if (calls.getD i d0).kind=1 then Mc.run (SnS.rd sc0 []) else if (calls.getD i d0).kind≠0 then .refuse 9 else if k<=List.getD (α:=Nat) st.obj q 0 then .refuse 6 else .run (.up sc0 q (snRecord n k q (List.getD (α:=Nat) st.obj q 0)) 0 (calls.getD i d0).a false))=Mc.run s:=hs
   refine⟨h0,?_⟩
   split at hs'
   ·rename_i k1
    cases hs'
    exact⟨k1,rfl,by decide,sc0_ok hn⟩
   ·split at hs'
    ·cases hs'
    ·rename_i k1 k0
     split at hs'
     ·cases hs'
     ·rename_i k2
      cases hs'
      exact⟨Classical.not_not.1 k0,rfl,rfl,Nat.lt_of_not_le k2,rfl,.inl ⟨rfl,rfl,by decide,sc0_ok hn⟩⟩
  ·rw [if_neg h0] at hs;cases hs
theorem sn_mine (hg:StGood calls st) (hN:nowN calls st.fin (q:Int)=some i) (hf:From calls st q i j s evs0 wd0):∀ x,x<st.evs.length->x≠j->tn calls (evAt st.evs x)=q->(evAt st.evs x).resp≠0->(evAt st.evs x).resp<(evAt evs0 j).inv:=by
 intro x hx hxj ht hr
 have htn:=hf.tn hN
 have hti:=(hg.ev.tick x hx).2.2.2
 rcases hf.or with⟨hh,hk,hc,hr0,rfl,rfl⟩|⟨hh,hs,rfl,rfl,rfl⟩
 ·rcases Nat.lt_trichotomy x j with h|h|h
  ·exact(hg.ev.same x j h hk (ht.trans htn.symm)).2.1
  ·exact absurd h hxj
  ·exact absurd hr0 (hg.ev.same j x h hx (htn.trans ht.symm)).1
 ·rw [evAt_last]
  show _<st.wd.now+1
  omega
theorem sn_scan (hn:1<=n) (hn16:n<=16) (hthr:∀ c,c<calls.length->0<=(calls.getD c d0).thread/\(calls.getD c d0).thread<n) (hg:StGood calls st) (h:SnInv n k calls st rho) (hN:nowN calls st.fin (q:Int)=some i) (hf:From calls st q i j s evs0 wd0) (hx:Next calls st q evs' j e1) (hr:e1.resp=0∨e1.resp=st.wd.now+1) (hw:¬ piW calls e1)
  {N:Nat} {sc:ScD} (hpc:sc.pc≠3) (hs:ScOk n calls prtT valA rho evs' st.wd.traces (st.wd.now+1) q (evAt evs0 j).inv N sc) :
  scAddr sc<st.wd.mem.ws.length/\ScOk n calls prtT valA rho evs' st.wd.traces (st.wd.now+1) q (evAt evs0 j).inv (N+1) (scGo n wd0 sc)/\RecOk n calls prtT valA rho evs' st.wd.mem.ws st.wd.traces (st.wd.now+1):=by
 have hR:=h.rc.keep hg hx hr hw rfl (λ_ _=>rfl) (λ_ _ _ _ _=>rfl) (λ_ _ _=>rfl)
 have hmine:∀ x,x<evs'.length->piW calls (evAt evs' x)->tn calls (evAt evs' x)=q->(evAt evs' x).resp<(evAt evs0 j).inv:=λx hxl hp ht=>by
  have hxj:x≠j:=λe=>by subst e;rw [hx.self] at hp;exact hw hp
  obtain⟨x1,x2⟩:=hx.other x hxl hxj
  rw [x2] at ht hp ⊢
  exact sn_mine hg hN hf x x1 hxj ht hp.2.2.2
 have hab:=sc_go (wd:=wd0) hn hn16 (sn_q hthr hN) (λ_ _ _=>rfl) hf.now hf.trs (show wd0.mem.ws=st.wd.mem.ws by rw [hf.mem]) hR hmine hs hpc
 exact⟨hab.1,hab.2,hR⟩
theorem sn_rcd (hx:Next calls st q evs' j e1) (hw:¬ piW calls e1) (h:SnInv n k calls st rho):∀ x,x<evs'.length->piW calls (evAt evs' x)->∃ r,r<List.getD (α:=Nat) st.obj (tn calls (evAt evs' x)) 0/\rho x=snRecord n k (tn calls (evAt evs' x)) r:=λx hxl hp=>by
 have hxj:x≠j:=λe=>by subst e;rw [hx.self] at hp;exact hw hp
 obtain⟨x1,x2⟩:=hx.other x hxl hxj
 rw [x2] at hp ⊢
 exact h.rcd x x1 hp
theorem sn_uc (hx:Next calls st q evs' j e1) (hw:¬ piW calls e1) (h:SnInv n k calls st rho):∀ t,t<n->List.getD (α:=Nat) st.obj t 0=cnt (isU calls t) evs':=λt ht=>by
 rw [hx.cnt isU_open,h.uc t ht,show isU calls t e1=false from by unfold isU;rw [decide_eq_false hw];rfl]
 try rfl
theorem sn_far {p u a a':Nat} (hp:p≠q) (hu:List.getD (α:=Nat) st.obj p 0<k) (hq:u<k) (ha:a<=n) (ha':a'<=n):snRecord n k p (List.getD (α:=Nat) st.obj p 0)+a≠snRecord n k q u+a':=λe=>hp (rec_inj hu hq ha ha' e).1
theorem sn_open {wd':WD} {s':SnS} {ws':List Nat} (hn:1<=n) (hthr:∀ c,c<calls.length->0<=(calls.getD c d0).thread/\(calls.getD c d0).thread<n) (hg:StGood calls st) (h:SnInv n k calls st rho) (hq:q<16) (hN:nowN calls st.fin (q:Int)=some i) (hf:From calls st q i j s evs0 wd0)
  (hst:(snapS n k).step st.obj wd0 q s=(st.obj,wd',s',false)) (hm:wd'.marks=wd0.marks) (hnow:wd'.now=wd0.now) (hcf:wd'.mem.c.fault=wd0.mem.c.fault) (hca:wd'.mem.c.all=wd0.mem.c.all+1) (htr:wd'.traces=wd0.traces) (hws:wd'.mem.ws=ws') (hwl:ws'.length=st.wd.mem.ws.length) (hcell:∀ a,a<n->ws'.getD a 0=st.wd.mem.ws.getD a 0)
  (hrec:∀ x,x<st.evs.length->piW calls (evAt st.evs x)->∀ a,a<=n->ws'.getD (rho x+a) 0=st.wd.mem.ws.getD (rho x+a) 0)
  (hw:∀ p,p≠q->p<n->List.getD (α:=Nat) st.obj p 0<k->∀ a,a<=n->ws'.getD (snRecord n k p (List.getD (α:=Nat) st.obj p 0)+a) 0=st.wd.mem.ws.getD (snRecord n k p (List.getD (α:=Nat) st.obj p 0)+a) 0)
  (hS:∀ evs',Next calls st q evs' j (stepEv (evAt evs0 j))->SnHand n k calls rho evs' ws' st.wd.traces (st.wd.now+1) st.obj q (stepEv (evAt evs0 j)) s'):SnInv n k calls (stepTo st ((snapS n k).step st.obj wd0 q s) q i j evs0) rho:=by
 obtain⟨e0,he0⟩:∃ e0,e0=evAt evs0 j:=⟨_,rfl⟩
 rw [<-he0] at hS
 have hopen:e0.resp=0:=by rw [he0];exact hf.open_
 have hnx:=hf.next hg hN (stepEv e0) (by rw [he0];rfl)
 have hto:stepTo st ((snapS n k).step st.obj wd0 q s) q i j evs0={ wd:=wd',obj:=st.obj,fin:=st.fin,hands:=st.hands.set q (some s',j),evs:=evs0.set j (stepEv e0),idle:=st.idle }:=by rw [hst,he0];rfl
 have hpw:¬ piW calls (stepEv e0):=piW_open hopen
 obtain⟨g1,_⟩:=sn_pre hn hthr hg h hN hf hnx (.inl hopen)
 rw [<-he0] at g1
 rw [hto]
 refine sn_rest (rho':=rho) hg h hq hthr hnx rfl (.inl hopen) (hnow.trans hf.now) (hm.trans (hf.mark0 h.marks)) (by show wd'.mem.c.fault=0;rw [hcf,hf.mem];exact h.cf) (by show wd'.mem.c.all<=_;rw [hca,hf.mem];exact Nat.le_refl _) (by show wd'.mem.ws.length=_;rw [hws,hwl];exact h.wl) h.u16 h.uk (sn_uc (st:=st) hnx hpw h) ?_ (sn_rcd (st:=st) hnx hpw h) (λ_ _ _=>rfl) (λx _ _=>by show wd'.traces _=_;rw [htr,hf.trs]) (λ_ _=>rfl) (λp hp hpn hu a ha=>by show wd'.mem.ws.getD _ 0=_;rw [hws];exact hw p hp hpn hu a ha) (λs i' hx=>?_) (λh0=>absurd hopen h0)
 ·show RecOk n calls prtT valA rho (evs0.set j (stepEv e0)) wd'.mem.ws wd'.traces (st.wd.now+1)
  rw [hws]
  exact h.rc.keep hg hnx (.inl hopen) hpw hwl hcell hrec (λx _ _=>by rw [htr,hf.trs])
 ·cases hx
  refine⟨rfl,g1,?_⟩
  show SnHand n k calls rho (evs0.set j (stepEv e0)) wd'.mem.ws wd'.traces (st.wd.now+1) st.obj q (stepEv e0) s'
  rw [hws,htr,hf.trs]
  exact hS _ hnx
theorem sn_step_rd {sc:ScD} {key:List Int} (hn:1<=n) (hn16:n<=16) (hthr:∀ c,c<calls.length->0<=(calls.getD c d0).thread/\(calls.getD c d0).thread<n) (hg:StGood calls st) (h:SnInv n k calls st rho) (hq:q<16) (hN:nowN calls st.fin (q:Int)=some i) (hf:From calls st q i j (.rd sc key) evs0 wd0) :
  SnInv n k calls (stepTo st ((snapS n k).step st.obj wd0 q (.rd sc key)) q i j evs0) rho:=by
 obtain⟨e0,he0⟩:∃ e0,e0=evAt evs0 j:=⟨_,rfl⟩
 have hopen:e0.resp=0:=by rw [he0];exact hf.open_
 have hnx0:=hf.next hg hN (stepEv e0) (by rw [he0];rfl)
 obtain⟨g1,g2,g3,g4,g5⟩:=sn_pre hn hthr hg h hN hf hnx0 (.inl hopen)
 obtain⟨hlt,g6,_⟩:=sn_scan hn hn16 hthr hg h hN hf hnx0 (.inl hopen) (piW_open hopen) g4 g5
 obtain⟨r1,r2⟩:=taRead_c (wd:=wd0) (a:=scAddr sc) (by rw [hf.mem];exact hlt)
 have hw':=taRead_ws wd0 (scAddr sc)
 by_cases h3:(scGo n wd0 sc).pc=3
 ·obtain⟨wd',hwd'⟩:∃ wd',wd'=scWd wd0 sc:=⟨_,rfl⟩
  have hnow':wd'.now=st.wd.now+1:=by rw [hwd'];exact hf.now
  have hmk':wd'.marks=List.replicate 16 []:=by rw [hwd'];exact hf.mark0 h.marks
  have hws':wd'.mem.ws=st.wd.mem.ws:=by rw [hwd'];exact hw'.trans (by rw [hf.mem])
  have htr':wd'.traces=st.wd.traces:=by rw [hwd'];exact hf.trs
  have hst:(snapS n k).step st.obj wd0 q (.rd sc key)=(st.obj,wd',.rd (scGo n wd0 sc) [2*(scGo n wd0 sc).moment,2*(wd0.now:Int)],true):=by
   rw [hwd']
   show(st.obj,scWd wd0 sc,SnS.rd (scGo n wd0 sc) (if (scGo n wd0 sc).pc=3 then _ else _),decide ((scGo n wd0 sc).pc=3))=_
   rw [if_pos h3,decide_eq_true h3];rfl
  obtain⟨e1,he1⟩:∃ e1,e1=finishEv wd' q ⟨0,0,(scGo n wd0 sc).list⟩ [2*(scGo n wd0 sc).moment,2*(wd0.now:Int)] e0:=⟨_,rfl⟩
  have hto:stepTo st ((snapS n k).step st.obj wd0 q (.rd sc key)) q i j evs0={ wd:=wd',obj:=st.obj,fin:=st.fin.set i true,hands:=st.hands.set q (none,j),evs:=evs0.set j e1,idle:=st.idle }:=by rw [hst,he1,he0];rfl
  have hnx:=hf.next hg hN e1 (by rw [he1,he0];rfl)
  have hresp:e1.resp=st.wd.now+1:=by rw [he1];exact hnow'
  have hkd:kindOf calls e1=1:=by rw [he1,he0];exact g2
  have hob:objOf calls e1=0:=by rw [he1,he0];exact g1
  have hpw:¬ piW calls e1:=λhp=>by have:=hp.2.1;omega
  obtain⟨_,_,_,_,k5⟩:=sn_pre hn hthr hg h hN hf hnx (.inr hresp)
  obtain⟨_,k6,k7⟩:=sn_scan hn hn16 hthr hg h hN hf hnx (.inr hresp) hpw g4 k5
  rcases k6.body with⟨e,_⟩|⟨e,_⟩|⟨e,_⟩|⟨_,c⟩
  ·omega
  ·omega
  ·omega
  obtain⟨m,m1,m2,m3,m4⟩:=c.mom
  rw [hto]
  refine sn_rest (rho':=rho) hg h hq hthr hnx rfl (.inr hresp) hnow' hmk' (by show wd'.mem.c.fault=0;rw [hwd'];exact r1.trans (by rw [hf.mem];exact h.cf)) (by show wd'.mem.c.all<=_;rw [hwd'];exact Nat.le_of_eq (r2.trans (by rw [hf.mem]))) (by show wd'.mem.ws.length=_;rw [hws'];exact h.wl) h.u16 h.uk (sn_uc (st:=st) hnx hpw h) (by show RecOk n calls prtT valA rho (evs0.set j e1) wd'.mem.ws wd'.traces _;rw [hws',htr'];exact k7) (sn_rcd (st:=st) hnx hpw h) (λ_ _ _=>rfl) (λx _ _=>by show wd'.traces _=_;rw [htr']) (λ_ _=>rfl) (λp _ _ _ a _=>by show wd'.mem.ws.getD _ 0=_;rw [hws']) (λ_ _ hx=>by cases hx) (λ_=>⟨λ_ _=>⟨m,?_⟩,λ_ h1=>by omega,λhne=>absurd ⟨hob,hkd⟩ hne,?_⟩)
  ·have ha:e1.ans=⟨0,0,(scGo n wd0 sc).list⟩:=by rw [he1];rfl
   have hi:e1.inv=(evAt evs0 j).inv:=by rw [he1,he0];rfl
   rw [ha,hi]
   refine⟨rfl,rfl,c.len,?_,m2,by rw [hresp];exact m3,m4⟩
   rw [hresp,he1]
   show keyOf wd' q [2*(scGo n wd0 sc).moment,2*(wd0.now:Int)]=_
   rw [keyOf_none hmk',if_neg (by simp),m1,hf.now]
  ·have hs:e1.steps=(evAt evs0 j).steps+1:=by rw [he1,he0];rfl
   have:=c.steps
   rw [hs]
   exact⟨by omega,λ_=>this⟩
 ·have hst:(snapS n k).step st.obj wd0 q (.rd sc key)=(st.obj,scWd wd0 sc,.rd (scGo n wd0 sc) key,false):=by
   show(st.obj,scWd wd0 sc,SnS.rd (scGo n wd0 sc) (if (scGo n wd0 sc).pc=3 then _ else _),decide ((scGo n wd0 sc).pc=3))=_
   rw [if_neg h3,decide_eq_false h3];rfl
  refine sn_open (ws':=st.wd.mem.ws) hn hthr hg h hq hN hf hst rfl rfl r1 r2 rfl (hw'.trans (by rw [hf.mem])) rfl (λ_ _=>rfl) (λ_ _ _ _ _=>rfl) (λ_ _ _ _ _ _=>rfl) (λevs' hx=>?_)
  rw [<-he0] at hx
  obtain⟨_,_,_,_,k5⟩:=sn_pre hn hthr hg h hN hf hx (.inl hopen)
  obtain⟨_,k6,_⟩:=sn_scan hn hn16 hthr hg h hN hf hx (.inl hopen) (piW_open hopen) g4 k5
  exact⟨g2,g3,h3,k6⟩
end
end Go.Proofs.Ytlepjmnhekeofaa
