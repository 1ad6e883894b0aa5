/- Layer 15: what every play of a snapshot keeps: each turn keeps it. -/
import Derived.Test.YtfkokppncipgnaaGreatW34
import Derived.Test.YtfkokppncipgnaaGreatW32
import Derived.Test.YtfkokppncipgnaaGreatW33
import Derived.ChangeKeysEq
import Derived.Deep.MidRow
set_option maxRecDepth 100000
set_option linter.unusedVariables false
set_option linter.unusedSimpArgs false
set_option linter.unnecessarySimpa false
namespace Go.Proofs.YtfkokppncipgnaaGreat
open List renaming getElem_toArray → zq1, getElem_cons_zero → zq2, getElem_cons_succ → zq3, setIfInBounds_toArray → zq4, set_cons_zero → zq5, set_cons_succ → zq6
section
open Go.RowKit
variable {n k:Nat} {calls:List aD}
theorem From.trs {S:Sys} {st:aP S} {q i j:Nat} {s:S.σ} {aQ:List EvD} {cZ:WD} (h:From calls st q i j s aQ cZ):cZ.traces=st.wd.traces:=by
 cases h<;>rfl
theorem Gf {prt val:aD->Nat} {rho:Nat->Nat} {evs:List EvD} {traces:Int->List Int} {T p:Nat} (hn:1<=n):BH n calls prt val rho evs traces T p T 0 AQ:=by
 have hz:∀ i,(List.replicate 16 0).getD i 0=0:=λi=>jN
 have hf:∀ i,(List.replicate 16 false).getD i false=false:=λi=>jN
 exact⟨rfl,rfl,rfl,λi _=>⟨hz i,hz i⟩,Nat.le_refl _,hf p,λi _=>hf i,.inl ⟨rfl,⟨hn,rfl,by show 0=0*n+0;omega,Nat.zero_le _,λi hi=>absurd hi (Nat.not_lt_zero i),λh=>absurd h (Nat.not_succ_le_zero 0),λh=>absurd h (Nat.not_succ_le_zero 0),λ_ i=>hf i⟩⟩⟩
section
variable {st:aP (aV n k)} {q i j:Nat} {evs' aQ:List EvD} {e1:EvD} {rho:Nat->Nat} {s:SnS} {cZ:WD}
theorem YM (hthr:∀ c,c<calls.length->0<=(calls.getD c d0).thread/\(calls.getD c d0).thread<n) (hN:gF calls st.fin (q:Int)=some i):q<n:=by
 obtain⟨a,b,_⟩:=fC hN
 have:=hthr i a
 omega
theorem wV (hn:1<=n) (hthr:∀ c,c<calls.length->0<=(calls.getD c d0).thread/\(calls.getD c d0).thread<n) (hg:bQ calls st) (h:gY n k calls st rho) (hN:gF calls st.fin (q:Int)=some i) (hf:From calls st q i j s aQ cZ) (hx:Next calls st q evs' j e1) (hr:e1.resp=0∨e1.resp=st.wd.now+1) :
  iG calls (aF aQ j)=0/\yZ n k calls rho evs' st.wd.mem.ws st.wd.traces (st.wd.now+1) st.obj q (aF aQ j) s:=by
 rcases hf.or with⟨hh,hk,hc,hr0,rfl,rfl⟩|⟨hh,hs,rfl,rfl,rfl⟩
 ·obtain⟨a,b⟩:=h.hand q s j hh
  exact⟨a,b.keep hx hr (λ_ _ _=>rfl) (λ_ _ _=>rfl) rfl (λ_ _ _=>rfl)⟩
 ·rw [vJ]
  unfold eG at hs
  by_cases h0:(calls.getD i d0).obj=0
  ·rw [if_pos h0] at hs
   have hs':(if (calls.getD i d0).kind=1 then Mc.run (SnS.rd AQ []) else if (calls.getD i d0).kind≠0 then .refuse 9 else if k<=List.getD (α:=Nat) st.obj q 0 then .refuse 6 else .run (.up AQ q (bG n k q (List.getD (α:=Nat) st.obj q 0)) 0 (calls.getD i d0).a false))=Mc.run s:=hs
   refine⟨h0,?_⟩
   split at hs'
   ·rename_i k1
    cases hs'
    exact⟨k1,rfl,by decide,Gf hn⟩
   ·split at hs'
    ·cases hs'
    ·rename_i k1 k0
     split at hs'
     ·cases hs'
     ·rename_i k2
      cases hs'
      exact⟨Classical.not_not.1 k0,rfl,rfl,Nat.lt_of_not_le k2,rfl,.inl ⟨rfl,rfl,by decide,Gf hn⟩⟩
  ·rw [if_neg h0] at hs;cases hs
theorem ZC (hg:bQ calls st) (hN:gF calls st.fin (q:Int)=some i) (hf:From calls st q i j s aQ cZ):∀ x,x<st.evs.length->x≠j->tn calls (aF st.evs x)=q->(aF st.evs x).resp≠0->(aF st.evs x).resp<(aF aQ j).inv:=by
 intro x hx hxj ht hr
 have htn:=hf.tn hN
 have hti:=(hg.ev.tick x hx).2.2.2
 rcases hf.or with⟨hh,hk,hc,hr0,rfl,rfl⟩|⟨hh,hs,rfl,rfl,rfl⟩
 ·rcases Nat.lt_trichotomy x j with h|h|h
  ·exact(hg.ev.same x j h hk (ht.trans htn.symm)).2.1
  ·exact absurd h hxj
  ·exact absurd hr0 (hg.ev.same j x h hx (htn.trans ht.symm)).1
 ·rw [vJ]
  show _<st.wd.now+1
  omega
theorem xV (hn:1<=n) (hn16:n<=16) (hthr:∀ c,c<calls.length->0<=(calls.getD c d0).thread/\(calls.getD c d0).thread<n) (hg:bQ calls st) (h:gY n k calls st rho) (hN:gF calls st.fin (q:Int)=some i) (hf:From calls st q i j s aQ cZ) (hx:Next calls st q evs' j e1) (hr:e1.resp=0∨e1.resp=st.wd.now+1) (hw:¬ piW calls e1)
  {N:Nat} {sc:ScD} (hpc:sc.pc≠3) (hs:BH n calls FK EI rho evs' st.wd.traces (st.wd.now+1) q (aF aQ j).inv N sc) :
  bK sc<st.wd.mem.ws.length/\BH n calls FK EI rho evs' st.wd.traces (st.wd.now+1) q (aF aQ j).inv (N+1) (bE n cZ sc)/\xH n calls FK EI rho evs' st.wd.mem.ws st.wd.traces (st.wd.now+1):=by
 have hR:=h.rc.keep hg hx hr hw rfl (λ_ _=>rfl) (λ_ _ _ _ _=>rfl) (λ_ _ _=>rfl)
 have hmine:∀ x,x<evs'.length->piW calls (aF evs' x)->tn calls (aF evs' x)=q->(aF evs' x).resp<(aF aQ j).inv:=λx hxl hp ht=>by
  have hxj:x≠j:=λe=>by subst e;rw [hx.self] at hp;exact hw hp
  obtain⟨x1,x2⟩:=hx.other x hxl hxj
  rw [x2] at ht hp ⊢
  exact ZC hg hN hf x x1 hxj ht hp.2.2.2
 have hab:=Tu (wd:=cZ) hn hn16 (YM hthr hN) (λ_ _ _=>rfl) hf.now hf.trs (show cZ.mem.ws=st.wd.mem.ws by rw [hf.mem]) hR hmine hs hpc
 exact⟨hab.1,hab.2,hR⟩
theorem TG (hx:Next calls st q evs' j e1) (hw:¬ piW calls e1) (h:gY n k calls st rho):∀ x,x<evs'.length->piW calls (aF evs' x)->∃ r,r<List.getD (α:=Nat) st.obj (tn calls (aF evs' x)) 0/\rho x=bG n k (tn calls (aF evs' x)) r:=λx hxl hp=>by
 have hxj:x≠j:=λe=>by subst e;rw [hx.self] at hp;exact hw hp
 obtain⟨x1,x2⟩:=hx.other x hxl hxj
 rw [x2] at hp ⊢
 exact h.rcd x x1 hp
theorem Ep (hx:Next calls st q evs' j e1) (hw:¬ piW calls e1) (h:gY n k calls st rho):∀ t,t<n->List.getD (α:=Nat) st.obj t 0=cnt (isU calls t) evs':=λt ht=>by
 rw [hx.cnt VJ,h.uc t ht,show isU calls t e1=false from by unfold isU;rw [decide_eq_false hw];rfl]
 try rfl
theorem Rx {p u a a':Nat} (hp:p≠q) (hu:List.getD (α:=Nat) st.obj p 0<k) (hq:u<k) (ha:a<=n) (ha':a'<=n):bG n k p (List.getD (α:=Nat) st.obj p 0)+a≠bG n k q u+a':=λe=>hp (LA hu hq ha ha' e).1
theorem SG {wd':WD} {s':SnS} {ws':List Nat} (hn:1<=n) (hthr:∀ c,c<calls.length->0<=(calls.getD c d0).thread/\(calls.getD c d0).thread<n) (hg:bQ calls st) (h:gY n k calls st rho) (hq:q<16) (hN:gF calls st.fin (q:Int)=some i) (hf:From calls st q i j s aQ cZ)
  (hst:(aV n k).step st.obj cZ q s=(st.obj,wd',s',false)) (hm:wd'.marks=cZ.marks) (hnow:wd'.now=cZ.now) (hcf:wd'.mem.c.fault=cZ.mem.c.fault) (hca:wd'.mem.c.all=cZ.mem.c.all+1) (htr:wd'.traces=cZ.traces) (hws:wd'.mem.ws=ws') (hwl:ws'.length=st.wd.mem.ws.length) (hcell:∀ a,a<n->ws'.getD a 0=st.wd.mem.ws.getD a 0)
  (hrec:∀ x,x<st.evs.length->piW calls (aF st.evs x)->∀ a,a<=n->ws'.getD (rho x+a) 0=st.wd.mem.ws.getD (rho x+a) 0)
  (hw:∀ p,p≠q->p<n->List.getD (α:=Nat) st.obj p 0<k->∀ a,a<=n->ws'.getD (bG n k p (List.getD (α:=Nat) st.obj p 0)+a) 0=st.wd.mem.ws.getD (bG n k p (List.getD (α:=Nat) st.obj p 0)+a) 0)
  (hS:∀ evs',Next calls st q evs' j (aS (aF aQ j))->yZ n k calls rho evs' ws' st.wd.traces (st.wd.now+1) st.obj q (aS (aF aQ j)) s'):gY n k calls (lL st ((aV n k).step st.obj cZ q s) q i j aQ) rho:=by
 obtain⟨e0,he0⟩:∃ e0,e0=aF aQ j:=⟨_,rfl⟩
 rw [<-he0] at hS
 have hopen:e0.resp=0:=by rw [he0];exact hf.open_
 have hnx:=hf.next hg hN (aS e0) (by rw [he0];rfl)
 have hto:lL st ((aV n k).step st.obj cZ q s) q i j aQ={ wd:=wd',obj:=st.obj,fin:=st.fin,hands:=st.hands.set q (some s',j),evs:=aQ.set j (aS e0),idle:=st.idle }:=by rw [hst,he0];rfl
 have hpw:¬ piW calls (aS e0):=kL hopen
 obtain⟨g1,_⟩:=wV hn hthr hg h hN hf hnx (.inl hopen)
 rw [<-he0] at g1
 rw [hto]
 refine KY (rho':=rho) hg h hq hthr hnx rfl (.inl hopen) (hnow.trans hf.now) (hm.trans (hf.mark0 h.marks)) (by show wd'.mem.c.fault=0;rw [hcf,hf.mem];exact h.cf) (by show wd'.mem.c.all<=_;rw [hca,hf.mem];exact Nat.le_refl _) (by show wd'.mem.ws.length=_;rw [hws,hwl];exact h.wl) h.u16 h.uk (Ep (st:=st) hnx hpw h) ?_ (TG (st:=st) hnx hpw h) (λ_ _ _=>rfl) (λx _ _=>by show wd'.traces _=_;rw [htr,hf.trs]) (λ_ _=>rfl) (λp hp hpn hu a ha=>by show wd'.mem.ws.getD _ 0=_;rw [hws];exact hw p hp hpn hu a ha) (λs i' hx=>?_) (λh0=>absurd hopen h0)
 ·show xH n calls FK EI rho (aQ.set j (aS e0)) wd'.mem.ws wd'.traces (st.wd.now+1)
  rw [hws]
  exact h.rc.keep hg hnx (.inl hopen) hpw hwl hcell hrec (λx _ _=>by rw [htr,hf.trs])
 ·cases hx
  refine⟨rfl,g1,?_⟩
  show yZ n k calls rho (aQ.set j (aS e0)) wd'.mem.ws wd'.traces (st.wd.now+1) st.obj q (aS e0) s'
  rw [hws,htr,hf.trs]
  exact hS _ hnx
theorem YA {sc:ScD} {key:List Int} (hn:1<=n) (hn16:n<=16) (hthr:∀ c,c<calls.length->0<=(calls.getD c d0).thread/\(calls.getD c d0).thread<n) (hg:bQ calls st) (h:gY n k calls st rho) (hq:q<16) (hN:gF calls st.fin (q:Int)=some i) (hf:From calls st q i j (.rd sc key) aQ cZ) :
  gY n k calls (lL st ((aV n k).step st.obj cZ q (.rd sc key)) q i j aQ) rho:=by
 obtain⟨e0,he0⟩:∃ e0,e0=aF aQ j:=⟨_,rfl⟩
 have hopen:e0.resp=0:=by rw [he0];exact hf.open_
 have YF:=hf.next hg hN (aS e0) (by rw [he0];rfl)
 obtain⟨g1,g2,g3,g4,g5⟩:=wV hn hthr hg h hN hf YF (.inl hopen)
 obtain⟨hlt,g6,_⟩:=xV hn hn16 hthr hg h hN hf YF (.inl hopen) (kL hopen) g4 g5
 obtain⟨r1,r2⟩:=VM (wd:=cZ) (a:=bK sc) (by rw [hf.mem];exact hlt)
 have hw':=AC cZ (bK sc)
 by_cases h3:(bE n cZ sc).pc=3
 ·obtain⟨wd',hwd'⟩:∃ wd',wd'=vQ cZ sc:=⟨_,rfl⟩
  have hnow':wd'.now=st.wd.now+1:=by rw [hwd'];exact hf.now
  have hmk':wd'.marks=List.replicate 16 []:=by rw [hwd'];exact hf.mark0 h.marks
  have hws':wd'.mem.ws=st.wd.mem.ws:=by rw [hwd'];exact hw'.trans (by rw [hf.mem])
  have htr':wd'.traces=st.wd.traces:=by rw [hwd'];exact hf.trs
  have hst:(aV n k).step st.obj cZ q (.rd sc key)=(st.obj,wd',.rd (bE n cZ sc) [2*(bE n cZ sc).moment,2*(cZ.now:Int)],true):=by
   rw [hwd']
   show(st.obj,vQ cZ sc,SnS.rd (bE n cZ sc) (if (bE n cZ sc).pc=3 then _ else _),decide ((bE n cZ sc).pc=3))=_
   rw [if_pos h3,decide_eq_true h3];rfl
  obtain⟨e1,he1⟩:∃ e1,e1=dF wd' q ⟨0,0,(bE n cZ sc).list⟩ [2*(bE n cZ sc).moment,2*(cZ.now:Int)] e0:=⟨_,rfl⟩
  have hto:lL st ((aV n k).step st.obj cZ q (.rd sc key)) q i j aQ={ wd:=wd',obj:=st.obj,fin:=st.fin.set i true,hands:=st.hands.set q (none,j),evs:=aQ.set j e1,idle:=st.idle }:=by rw [hst,he1,he0];rfl
  have hnx:=hf.next hg hN e1 (by rw [he1,he0];rfl)
  have hresp:e1.resp=st.wd.now+1:=by rw [he1];exact hnow'
  have hkd:kindOf calls e1=1:=by rw [he1,he0];exact g2
  have hob:iG calls e1=0:=by rw [he1,he0];exact g1
  have hpw:¬ piW calls e1:=λhp=>by have:=hp.2.1;omega
  obtain⟨_,_,_,_,k5⟩:=wV hn hthr hg h hN hf hnx (.inr hresp)
  obtain⟨_,k6,k7⟩:=xV hn hn16 hthr hg h hN hf hnx (.inr hresp) hpw g4 k5
  rcases k6.body with⟨e,_⟩|⟨e,_⟩|⟨e,_⟩|⟨_,c⟩
  ·omega
  ·omega
  ·omega
  obtain⟨m,m1,m2,m3,m4⟩:=c.mom
  rw [hto]
  refine KY (rho':=rho) hg h hq hthr hnx rfl (.inr hresp) hnow' hmk' (by show wd'.mem.c.fault=0;rw [hwd'];exact r1.trans (by rw [hf.mem];exact h.cf)) (by show wd'.mem.c.all<=_;rw [hwd'];exact Nat.le_of_eq (r2.trans (by rw [hf.mem]))) (by show wd'.mem.ws.length=_;rw [hws'];exact h.wl) h.u16 h.uk (Ep (st:=st) hnx hpw h) (by show xH n calls FK EI rho (aQ.set j e1) wd'.mem.ws wd'.traces _;rw [hws',htr'];exact k7) (TG (st:=st) hnx hpw h) (λ_ _ _=>rfl) (λx _ _=>by show wd'.traces _=_;rw [htr']) (λ_ _=>rfl) (λp _ _ _ a _=>by show wd'.mem.ws.getD _ 0=_;rw [hws']) (λ_ _ hx=>by cases hx) (λ_=>⟨λ_ _=>⟨m,?_⟩,λ_ h1=>by omega,λhne=>absurd ⟨hob,hkd⟩ hne,?_⟩)
  ·have ha:e1.ans=⟨0,0,(bE n cZ sc).list⟩:=by rw [he1];rfl
   have hi:e1.inv=(aF aQ j).inv:=by rw [he1,he0];rfl
   rw [ha,hi]
   refine⟨rfl,rfl,c.len,?_,m2,by rw [hresp];exact m3,m4⟩
   rw [hresp,he1]
   show keyOf wd' q [2*(bE n cZ sc).moment,2*(cZ.now:Int)]=_
   rw [BS hmk',if_neg (by simp),m1,hf.now]
  ·have hs:e1.steps=(aF aQ j).steps+1:=by rw [he1,he0];rfl
   have:=c.steps
   rw [hs]
   exact⟨by omega,λ_=>this⟩
 ·have hst:(aV n k).step st.obj cZ q (.rd sc key)=(st.obj,vQ cZ sc,.rd (bE n cZ sc) key,false):=by
   show(st.obj,vQ cZ sc,SnS.rd (bE n cZ sc) (if (bE n cZ sc).pc=3 then _ else _),decide ((bE n cZ sc).pc=3))=_
   rw [if_neg h3,decide_eq_false h3];rfl
  refine SG (ws':=st.wd.mem.ws) hn hthr hg h hq hN hf hst rfl rfl r1 r2 rfl (hw'.trans (by rw [hf.mem])) rfl (λ_ _=>rfl) (λ_ _ _ _ _=>rfl) (λ_ _ _ _ _ _=>rfl) (λevs' hx=>?_)
  rw [<-he0] at hx
  obtain⟨_,_,_,_,k5⟩:=wV hn hthr hg h hN hf hx (.inl hopen)
  obtain⟨_,k6,_⟩:=xV hn hn16 hthr hg h hN hf hx (.inl hopen) (kL hopen) g4 k5
  exact⟨g2,g3,h3,k6⟩
end
end
section
open Go.RowKit
variable {n k:Nat} {calls:List aD}
section
variable {st:aP (aV n k)} {q i j:Nat} {aQ:List EvD} {rho:Nat->Nat} {cZ:WD}
theorem YH {sc:ScD} {p r nx v:Nat} (hn:1<=n) (hn16:n<=16) (hthr:∀ c,c<calls.length->0<=(calls.getD c d0).thread/\(calls.getD c d0).thread<n) (hg:bQ calls st) (h:gY n k calls st rho) (hq:q<16) (hN:gF calls st.fin (q:Int)=some i) (hf:From calls st q i j (.up sc p r nx v false) aQ cZ) :
  gY n k calls (lL st ((aV n k).step st.obj cZ q (.up sc p r nx v false)) q i j aQ) rho:=by
 have hopen:(aF aQ j).resp=0:=hf.open_
 have YF:=hf.next hg hN (aS (aF aQ j)) rfl
 obtain⟨g1,g2,g3,g4,g5,g6,g7⟩:=wV hn hthr hg h hN hf YF (.inl hopen)
 rcases g7 with⟨_,a2,a3,a4⟩|⟨a1,_⟩
 case inr=>cases a1
 obtain⟨hlt,_,_⟩:=xV hn hn16 hthr hg h hN hf YF (.inl hopen) (kL hopen) a3 a4
 obtain⟨r1,r2⟩:=VM (wd:=cZ) (a:=bK sc) (by rw [hf.mem];exact hlt)
 have hw':=AC cZ (bK sc)
 refine SG (s':=.up (bE n cZ sc) p r nx v (decide ((bE n cZ sc).pc=3))) (ws':=st.wd.mem.ws) hn hthr hg h hq hN hf rfl rfl rfl r1 r2 rfl (hw'.trans (by rw [hf.mem])) rfl (λ_ _=>rfl) (λ_ _ _ _ _=>rfl) (λ_ _ _ _ _ _=>rfl) (λevs' hx=>?_)
 obtain⟨_,_,_,_,_,_,k7⟩:=wV hn hthr hg h hN hf hx (.inl hopen)
 rcases k7 with⟨_,b2,b3,b4⟩|⟨b1,_⟩
 case inr=>cases b1
 obtain⟨_,k6,_⟩:=xV hn hn16 hthr hg h hN hf hx (.inl hopen) (kL hopen) b3 b4
 refine⟨g2,g3,g4,g5,g6,?_⟩
 by_cases h3:(bE n cZ sc).pc=3
 ·exact .inr ⟨decide_eq_true h3,h3,by omega,⟨_,k6,by show(aF aQ j).steps+1=(aF aQ j).steps+1+nx;omega⟩,λh9=>by omega,λi hi=>by omega⟩
 ·exact .inl ⟨decide_eq_false h3,a2,h3,k6⟩
theorem JJ {sc:ScD} {p r nx v a x:Nat} (hn:1<=n) (hthr:∀ c,c<calls.length->0<=(calls.getD c d0).thread/\(calls.getD c d0).thread<n) (hg:bQ calls st) (h:gY n k calls st rho) (hq:q<16) (hN:gF calls st.fin (q:Int)=some i) (hf:From calls st q i j (.up sc p r nx v true) aQ cZ)
  (ha:a<=n) (hst:(aV n k).step st.obj cZ q (.up sc p r nx v true)=(st.obj,eB cZ (r+a) x,.up sc p r (nx+1) v true,false)) (hax:a=nx) (h0:nx=0->x=v) (h1:∀ b,nx=b+1->x=sc.list.getD b 0) :
  gY n k calls (lL st ((aV n k).step st.obj cZ q (.up sc p r nx v true)) q i j aQ) rho:=by
 have hopen:(aF aQ j).resp=0:=hf.open_
 have hqn:=YM hthr hN
 have YF:=hf.next hg hN (aS (aF aQ j)) rfl
 obtain⟨g1,g2,g3,g4,g5,g6,g7⟩:=wV hn hthr hg h hN hf YF (.inl hopen)
 have hhi:=SN (n:=n) hqn g5
 have hlt:r+a<cZ.mem.ws.length:=by rw [hf.mem,h.wl,g6];omega
 obtain⟨r1,r2⟩:=QB (wd:=cZ) (a:=r+a) (v:=x) hlt
 have hw':=OU hlt x
 rw [show cZ.mem.ws=st.wd.mem.ws by rw [hf.mem]] at hw'
 have hrn:n<=r:=by rw [g6,BR];exact Nat.le_add_right _ _
 refine SG (ws':=st.wd.mem.ws.set (r+a) x) hn hthr hg h hq hN hf hst rfl rfl r1 r2 rfl hw' (List.length_set ..) (λb hb=>aK (by omega)) (λy hy hp b hb=>?_) (λp' hp' hpn hu b hb=>?_) (λevs' hx=>?_)
 ·obtain⟨r',y1,y2⟩:=h.rcd y hy hp
  refine aK λe=>?_
  rw [y2,g6] at e
  have:=LA g5 (Nat.lt_of_lt_of_le y1 (h.uk _)) ha hb e
  rw [<-this.1,<-this.2.1] at y1
  exact absurd y1 (Nat.lt_irrefl _)
 ·exact aK λe=>Rx (st:=st) (q:=q) hp' hu g5 hb ha (by rw [<-e,g6])
 ·obtain⟨_,_,_,_,_,_,k7⟩:=wV hn hthr hg h hN hf hx (.inl hopen)
  rcases k7 with⟨b1,_⟩|⟨_,c2,c3,⟨N,c4,c5⟩,c6,c7⟩
  ·cases b1
  have hlt':r+a<st.wd.mem.ws.length:=by rw [<-show cZ.mem.ws=st.wd.mem.ws by rw [hf.mem]];exact hlt
  have hset:∀ b,(st.wd.mem.ws.set (r+a) x).getD b 0=if b=r+a then x else st.wd.mem.ws.getD b 0:=λb=>vE _ _ _ _ hlt'
  refine⟨g2,g3,g4,g5,g6,.inr ⟨rfl,c2,by omega,⟨N,c4,by show(aF aQ j).steps+1=N+(nx+1);omega⟩,λ_=>?_,λb hb=>?_⟩⟩
  ·rw [hset]
   by_cases e:nx=0
   ·rw [if_pos (by omega)];exact h0 e
   ·rw [if_neg (by omega)];exact c6 (by omega)
  ·rw [hset]
   by_cases e:nx=b+1
   ·rw [if_pos (by omega)];exact h1 b e
   ·rw [if_neg (by omega)];exact c7 b (by omega)
theorem VI {sc:ScD} {p r nx v:Nat} (hn:1<=n) (hthr:∀ c,c<calls.length->0<=(calls.getD c d0).thread/\(calls.getD c d0).thread<n) (hg:bQ calls st) (h:gY n k calls st rho) (hq:q<16) (hN:gF calls st.fin (q:Int)=some i) (hf:From calls st q i j (.up sc p r (nx+1) v true) aQ cZ) (hlast:¬ nx+1<=n) :
  ∃ rho',gY n k calls (lL st ((aV n k).step st.obj cZ q (.up sc p r (nx+1) v true)) q i j aQ) rho':=by
 have hqn:=YM hthr hN
 obtain⟨hh,hjl,hc,hr0,rfl,rfl⟩:st.hands.getD q (none,0)=(some (.up sc p r (nx+1) v true),j)/\j<st.evs.length/\(aF st.evs j).call=i/\(aF st.evs j).resp=0/\aQ=st.evs/\cZ=st.wd.tick:=by
  rcases hf.or with h9|⟨_,hs,_,_,_⟩
  ·exact h9
  ·exfalso
   unfold eG at hs
   by_cases h0:(calls.getD i d0).obj=0
   ·rw [if_pos h0] at hs
    have hs':(if (calls.getD i d0).kind=1 then Mc.run (SnS.rd AQ []) else if (calls.getD i d0).kind≠0 then .refuse 9 else if k<=List.getD (α:=Nat) st.obj q 0 then .refuse 6 else .run (.up AQ q (bG n k q (List.getD (α:=Nat) st.obj q 0)) 0 (calls.getD i d0).a false))=Mc.run (SnS.up sc p r (nx+1) v true):=hs
    split at hs'
    ·cases hs'
    ·split at hs'
     ·cases hs'
     ·split at hs'
      ·cases hs'
      ·cases hs'
   ·rw [if_neg h0] at hs;cases hs
 obtain⟨e0,he0⟩:∃ e0,e0=aF st.evs j:=⟨_,rfl⟩
 obtain⟨g1,g2,g3,g4,g5,g6,g7⟩:=h.hand q _ j hh
 rw [<-he0] at g1 g2 g4 g7
 rcases g7 with⟨b1,_⟩|⟨_,c2,c3,⟨N,c4,c5⟩,c6,c7⟩
 ·cases b1
 have hnx':nx=n:=by omega
 rcases c4.body with⟨e,_⟩|⟨e,_⟩|⟨e,_⟩|⟨_,c⟩
 ·omega
 ·omega
 ·omega
 obtain⟨m,m1,m2,m3,m4⟩:=c.mom
 have hhi:=SN (n:=n) hqn g5
 rw [<-g6] at hhi
 have hrn:n<=r:=by rw [g6,BR];exact Nat.le_add_right _ _
 have hwl:=h.wl
 have hnsz:n<=VB n k:=by unfold VB;omega
 have hlt:q<(vU st.wd.tick r sc.moment).mem.ws.length:=by show q<st.wd.mem.ws.length;rw [hwl];omega
 obtain⟨r1,r2⟩:=QB (v:=r) hlt
 have hw':=OU hlt r
 obtain⟨wd',hwd'⟩:∃ wd',wd'=eB (vU st.wd.tick r sc.moment) q r:=⟨_,rfl⟩
 rw [<-hwd'] at r1 r2 hw'
 replace hw':wd'.mem.ws=st.wd.mem.ws.set q r:=hw'
 have hnow':wd'.now=st.wd.now+1:=by rw [hwd'];rfl
 have hmk':wd'.marks=List.replicate 16 []:=by rw [hwd'];exact h.marks
 have htr':wd'.traces=BF st.wd.traces (r:Int) [(m:Int)]:=by rw [hwd',<-m1];rfl
 obtain⟨o',ho'⟩:∃ o':List Nat,o'=List.set (α:=Nat) st.obj q (List.getD (α:=Nat) st.obj q 0+1):=⟨_,rfl⟩
 have hst:(aV n k).step st.obj st.wd.tick q (.up sc p r (nx+1) v true)=(o',wd',.up sc p r (nx+2) v true,true):=by
  rw [ho',hwd']
  subst g3
  exact if_neg hlast
 obtain⟨e1,he1⟩:∃ e1,e1=dF wd' q ⟨0,0,[]⟩ [] e0:=⟨_,rfl⟩
 have hto:lL st ((aV n k).step st.obj st.wd.tick q (.up sc p r (nx+1) v true)) q i j st.evs={ wd:=wd',obj:=o',fin:=st.fin.set i true,hands:=st.hands.set q (none,j),evs:=st.evs.set j e1,idle:=st.idle }:=by rw [hst,he1,he0];rfl
 have hnx:=hf.next hg hN e1 (by rw [he1,he0];rfl)
 have hresp:e1.resp=st.wd.now+1:=by rw [he1];exact hnow'
 have hob:iG calls e1=0:=by rw [he1];exact g1
 have hkd:kindOf calls e1=0:=by rw [he1];exact g2
 have hans:e1.ans=⟨0,0,[]⟩:=by rw [he1];rfl
 have hpw:piW calls e1:=⟨hob,hkd,by rw [hans],by rw [hresp];omega⟩
 have htn:tn calls e1=q:=hnx.thr
 have hkey:e1.key=[2*(e1.resp:Int)]:=by
  rw [hresp,<-hnow',he1]
  show keyOf wd' q []=_
  rw [BS hmk',if_pos rfl];rfl
 have aAk:=h.u16
 have hset:∀ t,List.getD (α:=Nat) o' t 0=if t=q then List.getD (α:=Nat) st.obj q 0+1 else List.getD (α:=Nat) st.obj t 0:=λt=>by
  rw [ho'];exact vE _ _ _ _ (by omega)
 have hmine:∀ x,x<st.evs.length->piW calls (aF st.evs x)->tn calls (aF st.evs x)=tn calls e1->(aF st.evs x).resp<e1.inv:=λx hx hp ht=>by
  have hxj:x≠j:=λe=>by subst e;exact hp.2.2.2 hr0
  have:=ZC hg hN hf x hx hxj (ht.trans htn) hp.2.2.2
  rw [he1,he0];exact this
 have hfar:∀ x,x<st.evs.length->piW calls (aF st.evs x)->rho x≠r:=λx hx hp e=>by
  obtain⟨r',y1,y2⟩:=h.rcd x hx hp
  rw [y2,g6] at e
  have:=LA (n:=n) (a:=0) (a':=0) (Nat.lt_of_lt_of_le y1 (h.uk _)) g5 (Nat.zero_le _) (Nat.zero_le _) (by rw [Nat.add_zero,Nat.add_zero];exact e)
  rw [this.1,this.2.1] at y1
  exact absurd y1 (Nat.lt_irrefl _)
 have hlow:∀ x,x<st.evs.length->piW calls (aF st.evs x)->n<=rho x:=λx hx hp=>by
  obtain⟨r',_,y2⟩:=h.rcd x hx hp
  rw [y2,BR];exact Nat.le_add_right _ _
 have hRn:=h.rc.new (t:=q) (r:=r) (m:=m) (ws':=wd'.mem.ws) hg hnx hpw hresp htn hqn hw' (by rw [hwl];exact hhi) hrn (by omega) hfar hlow (by rw [c6 (by omega),g4,he1];rfl) (by rw [he1];exact m2) m3 (λa ha=>by rw [c7 a (by omega)];exact m4 a ha) hmine
 refine⟨λx=>if x=j then r else rho x,?_⟩
 rw [hto]
 refine KY (rho:=rho) (rho':=λx=>if x=j then r else rho x) hg h hq hthr hnx rfl (.inr hresp) hnow' hmk' (by show wd'.mem.c.fault=0;rw [r1];exact h.cf) (Nat.le_of_eq r2) (by show wd'.mem.ws.length=_;rw [hw',List.length_set];exact hwl) (by show List.length (α:=Nat) o'=16;rw [ho'];exact(List.length_set ..).trans aAk) (λt=>?_) (λt ht=>?_) (by rw [<-htr'] at hRn;exact hRn) (λx hxl hp=>?_) (λx hx hp=>if_neg (hnx.piw hx hp).2.1) (λx hx hp=>?_) (λp' hp'=>?_) (λp' hp' hpn hu a ha=>?_) (λ_ _ hx=>by cases hx) (λ_=>⟨λ_ h1=>by omega,λ_ _=>.inl ⟨hans,?_⟩,λ_=>⟨hkey,λhne=>absurd ⟨hob,hkd⟩ hne⟩,?_⟩)
 ·show List.getD (α:=Nat) o' t 0<=k
  rw [hset]
  by_cases e:t=q
  ·rw [if_pos e];omega
  ·rw [if_neg e];exact h.uk t
 ·show List.getD (α:=Nat) o' t 0=cnt (isU calls t) (st.evs.set j e1)
  rw [hset,hnx.cnt VJ]
  by_cases e:t=q
  ·rw [if_pos e,show isU calls t e1=true from by unfold isU;rw [decide_eq_true hpw,decide_eq_true (htn.trans e.symm)];rfl,if_pos rfl,e,h.uc q hqn]
  ·rw [if_neg e,show isU calls t e1=false from by unfold isU;rw [decide_eq_false (show ¬ tn calls e1=t from λe9=>e (e9.symm.trans htn)),Bool.and_false],h.uc t ht];simp
 ·show ∃ r',r'<List.getD (α:=Nat) o' (tn calls (aF (st.evs.set j e1) x)) 0/\(if x=j then r else rho x)=bG n k (tn calls (aF (st.evs.set j e1) x)) r'
  by_cases e:x=j
  ·subst e
   rw [hnx.self,htn,hset,if_pos rfl,if_pos rfl]
   exact⟨List.getD (α:=Nat) st.obj q 0,Nat.lt_succ_self _,g6⟩
  ·obtain⟨x1,x2⟩:=hnx.other x hxl e
   rw [x2] at hp ⊢
   obtain⟨r',y1,y2⟩:=h.rcd x x1 hp
   refine⟨r',?_,by rw [if_neg e];exact y2⟩
   rw [hset]
   by_cases e9:tn calls (aF st.evs x)=q
   ·rw [if_pos e9];rw [e9] at y1;omega
   ·rw [if_neg e9];exact y1
 ·show wd'.traces _=_
  rw [htr']
  have hne:¬ ((rho x:Nat):Int)=(r:Int):=λe=>hfar x hx hp (by omega)
  unfold BF
  rw [if_neg hne]
 ·show List.getD (α:=Nat) o' p' 0=_
  rw [hset,if_neg hp']
 ·show wd'.mem.ws.getD _ 0=_
  rw [hw']
  refine aK ?_
  have:n<=bG n k p' (List.getD (α:=Nat) st.obj p' 0):=by rw [BR];exact Nat.le_add_right _ _
  omega
 ·show cnt (EG calls (tn calls e1) e1.resp) (st.evs.set j e1)<k
  rw [htn,hresp,FB hnx (.inr hresp) (Nat.le_refl _),VQ hg,<-h.uc q hqn]
  exact g5
 ·have hs:e1.steps=e0.steps+1:=by rw [he1];rfl
  have:=c.steps
  rw [hs]
  exact⟨by omega,λh1=>by omega⟩
theorem Ch {er:Int} (hn:1<=n) (hthr:∀ c,c<calls.length->0<=(calls.getD c d0).thread/\(calls.getD c d0).thread<n) (hg:bQ calls st) (h:gY n k calls st rho) (hq:q<16) (hN:gF calls st.fin (q:Int)=some i) (hs:eG (aV n k) st.obj (st.wd.tick.begin q) q (calls.getD i d0)=.refuse er):gY n k calls (NT st q i er) rho:=by
 obtain⟨e,he⟩:∃ e,e=dF (st.wd.tick.begin q) q ⟨er,0,[]⟩ [] (fZ i (st.wd.tick.begin q)):=⟨_,rfl⟩
 have hst:NT st q i er={ wd:=st.wd.tick.begin q,obj:=st.obj,fin:=st.fin.set i true,hands:=st.hands.set q (none,st.evs.length),evs:=st.evs++[e],idle:=st.idle }:=by rw [he];rfl
 have hnx:=FY hg hN e (by rw [he];rfl)
 have hqn:=YM hthr hN
 have hresp:e.resp=st.wd.now+1:=by rw [he];rfl
 have hmk:=yV (q:=q) h.marks
 have e1:iG calls e=(calls.getD i d0).obj:=by rw [he];rfl
 have e2:kindOf calls e=(calls.getD i d0).kind:=by rw [he];rfl
 have e3:tn calls e=q:=hnx.thr
 have hkey:e.key=[2*(e.resp:Int)]:=by
  rw [he]
  show keyOf (st.wd.tick.begin q) q []=_
  rw [BS hmk,if_pos rfl];rfl
 have hans:e.ans=⟨er,0,[]⟩:=by rw [he];rfl
 have hcn:cnt (EG calls q (st.wd.now+1)) (st.evs++[e])=List.getD (α:=Nat) st.obj q 0:=by rw [FB hnx (.inr hresp) (Nat.le_refl _),VQ hg,<-h.uc q hqn]
 have htold:er≠0/\¬ (iG calls e=0/\kindOf calls e=1)/\(iG calls e=0->kindOf calls e=0->er=6/\k<=List.getD (α:=Nat) st.obj q 0)/\(¬ (iG calls e=0/\kindOf calls e=0)->e.ans=(if iG calls e≠0 then ⟨12,0,[]⟩ else ⟨9,0,[]⟩)):=by
  rw [hans,e1,e2]
  unfold eG at hs
  by_cases h0:(calls.getD i d0).obj=0
  ·rw [if_pos h0] at hs
   have hs':(if (calls.getD i d0).kind=1 then Mc.run (SnS.rd AQ []) else if (calls.getD i d0).kind≠0 then .refuse 9 else if k<=List.getD (α:=Nat) st.obj q 0 then .refuse 6 else .run (.up AQ q (bG n k q (List.getD (α:=Nat) st.obj q 0)) 0 (calls.getD i d0).a false))=Mc.refuse er:=hs
   split at hs'
   ·cases hs'
   ·rename_i k1
    split at hs'
    ·rename_i k0
     cases hs'
     exact⟨by decide,λx=>k1 x.2,λ_ x=>absurd x k0,λ_=>by rw [if_neg (λx=>x h0)]⟩
    ·rename_i k0
     split at hs'
     ·rename_i k2
      cases hs'
      exact⟨by decide,λx=>k1 x.2,λ_ _=>⟨rfl,k2⟩,λx=>absurd ⟨h0,Classical.not_not.1 k0⟩ x⟩
     ·cases hs'
  ·rw [if_neg h0] at hs
   cases hs
   exact⟨by decide,λx=>h0 x.1,λx=>absurd x h0,λ_=>by rw [if_pos h0]⟩
 have hnw:¬ piW calls e:=λhp=>htold.1 (by have:=hp.2.2.1;rw [hans] at this;exact this)
 rw [hst]
 refine KY (rho':=rho) hg h hq hthr hnx rfl (.inr hresp) rfl hmk h.cf (Nat.le_succ _) h.wl h.u16 h.uk (Ep (st:=st) hnx hnw h) (h.rc.keep hg hnx (.inr hresp) hnw rfl (λ_ _=>rfl) (λ_ _ _ _ _=>rfl) (λ_ _ _=>rfl)) (TG (st:=st) hnx hnw h) (λ_ _ _=>rfl) (λ_ _ _=>rfl) (λ_ _=>rfl) (λ_ _ _ _ _ _=>rfl) (λ_ _ hx=>by cases hx) (λ_=>⟨λh0 h1=>absurd ⟨h0,h1⟩ htold.2.1,λh0 h1=>.inr ?_,λ_=>⟨hkey,htold.2.2.2⟩,?_⟩)
 ·obtain⟨b1,b2⟩:=htold.2.2.1 h0 h1
  refine⟨by rw [hans,b1],?_⟩
  rw [e3,hresp]
  show k<=cnt (EG calls q (st.wd.now+1)) (st.evs++[e])
  rw [hcn];exact b2
 ·have hs:e.steps=1:=by rw [he];rfl
  rw [hs]
  have:1<=(n+1)*n:=Nat.mul_pos (Nat.succ_pos n) hn
  exact⟨by omega,λ_=>by omega⟩
end
theorem ZY (hn:1<=n) (hn16:n<=16) (hthr:∀ c,c<calls.length->0<=(calls.getD c d0).thread/\(calls.getD c d0).thread<n) {st st':aP (aV n k)} (hg:bQ calls st) (h:∃ rho,gY n k calls st rho) (hT:OZ calls st st'):∃ rho,gY n k calls st' rho:=by
 obtain⟨rho,h⟩:=h
 cases hT with
 | idle=>exact⟨rho,h.marks,h.cf,h.ca,h.wl,h.u16,h.uk,h.uc,h.rc,h.rcd,h.hand,h.told⟩
 | refuse q i er hq hN hh hs=>exact⟨rho,Ch hn hthr hg h hq hN hs⟩
 | step q i j s aQ cZ hq hN hf=>
  match s,hf with
  | .rd sc key,hf=>exact⟨rho,YA hn hn16 hthr hg h hq hN hf⟩
  | .up sc p r nx v false,hf=>exact⟨rho,YH hn hn16 hthr hg h hq hN hf⟩
  | .up sc p r 0 v true,hf=>exact⟨rho,JJ (a:=0) (x:=v) hn hthr hg h hq hN hf (Nat.zero_le _) rfl rfl (λ_=>rfl) (λb e=>by cases e)⟩
  | .up sc p r (a+1) v true,hf=>
   by_cases ha:a+1<=n
   ·exact⟨rho,JJ (a:=a+1) (x:=sc.list.getD a 0) hn hthr hg h hq hN hf ha (if_pos ha) rfl (λe=>by cases e) (λb e=>by cases e;rfl)⟩
   ·exact VI hn hthr hg h hq hN hf ha
end
section
open Go.RowKit
def uX (bP:Nat) (s:ScD) (lv:Value):List Value:=
 .pointer (some ⟨bP,0,none⟩)::.int .i64 (s.pc:Int)::.int .i64 (s.at_:Int)::.int .i64 (s.rounds:Int)::(s.old.map bI++(s.now.map bI++(.int .i64 (s.last:Int)::(s.diff.map Value.bool++[.int .u64 (s.from_:Int),lv,.int .i64 s.moment]))))
theorem AF {X Y:List Value} (h:X.length=16) (j:Nat):(X++Y)[16+j]?=Y[j]?:=by
 rw [List.getElem?_append_right (by omega)]
 congr 1;omega
theorem zQ {X Y:List Value} (h:X.length=16) (j:Nat) (v:Value):(X++Y).set (16+j) v=X++Y.set j v:=by
 rw [List.set_append_right _ _ (by omega)]
 congr 2;omega
structure aR (w:World) (b bP:Nat) (s:ScD) (lv:Value):Prop where
 blk:w.heap[b]?=some (.cells (uX bP s lv).toArray 276 (0,0))
 l1:s.old.length=16
 l2:s.now.length=16
 l3:s.diff.length=16
section
variable {w w':World} {b bP:Nat} {s:ScD} {lv:Value}
theorem aR.chg {S:Nat->Prop} (h:aR w b bP s lv) (hc:Chg S w w') (hn:¬ S b):aR w' b bP s lv:=⟨(hc.block _ (aC h.blk) hn).trans h.blk,h.l1,h.l2,h.l3⟩
theorem aR.get (h:aR w b bP s lv) (i:Nat):w.cell? ⟨b,i,none⟩=(uX bP s lv)[i]?:=by rw [aA h.blk];simp
theorem aR.lt (h:aR w b bP s lv):b<w.heap.size:=aC h.blk
theorem aR.frozen (h:aR w b bP s lv) (i:Nat):w.frozen? ⟨b,i,none⟩=false:=aB h.blk i
theorem aR.ptr (h:aR w b bP s lv):w.cell? ⟨b,0,none⟩=some (.pointer (some ⟨bP,0,none⟩)):=h.get 0
theorem aR.pc (h:aR w b bP s lv):w.cell? ⟨b,1,none⟩=some (.int .i64 (s.pc:Int)):=h.get 1
theorem aR.at_ (h:aR w b bP s lv):w.cell? ⟨b,2,none⟩=some (.int .i64 (s.at_:Int)):=h.get 2
theorem aR.rounds (h:aR w b bP s lv):w.cell? ⟨b,3,none⟩=some (.int .i64 (s.rounds:Int)):=h.get 3
theorem Gn (h1:s.old.length=16) {t:Nat} (ht:t<16):(uX bP s lv)[4+t]?=some (.int .u64 ((s.old.getD t 0:Nat):Int)):=by
 rw [show 4+t=t+1+1+1+1 by omega]
 show(s.old.map bI++_)[t]?=_
 rw [List.getElem?_append_left (by simpa [h1] using ht)]
 simp [bI,List.getD_eq_getElem?_getD,show t<s.old.length by omega]
theorem Ev (h1:s.old.length=16) (h2:s.now.length=16) {t:Nat} (ht:t<16):(uX bP s lv)[20+t]?=some (.int .u64 ((s.now.getD t 0:Nat):Int)):=by
 rw [show 20+t=(16+t)+1+1+1+1 by omega]
 show(s.old.map bI++_)[16+t]?=_
 rw [AF (by simpa using h1),List.getElem?_append_left (by simpa [h2] using ht)]
 simp [bI,List.getD_eq_getElem?_getD,show t<s.now.length by omega]
theorem ER (h1:s.old.length=16) (h2:s.now.length=16) (j:Nat):(uX bP s lv)[36+j]?=(Value.int .i64 (s.last:Int)::(s.diff.map Value.bool++[.int .u64 (s.from_:Int),lv,.int .i64 s.moment]))[j]?:=by
 rw [show 36+j=(16+(16+j))+1+1+1+1 by omega]
 show(s.old.map bI++_)[16+(16+j)]?=_
 rw [AF (by simpa using h1),AF (by simpa using h2)]
theorem aR.old (h:aR w b bP s lv) {t:Nat} (ht:t<16):w.cell? ⟨b,4+t,none⟩=some (.int .u64 ((s.old.getD t 0:Nat):Int)):=(h.get _).trans (Gn h.l1 ht)
theorem aR.now (h:aR w b bP s lv) {t:Nat} (ht:t<16):w.cell? ⟨b,20+t,none⟩=some (.int .u64 ((s.now.getD t 0:Nat):Int)):=(h.get _).trans (Ev h.l1 h.l2 ht)
theorem aR.last (h:aR w b bP s lv):w.cell? ⟨b,36,none⟩=some (.int .i64 (s.last:Int)):=(h.get 36).trans (ER h.l1 h.l2 0)
theorem aR.diff (h:aR w b bP s lv) {t:Nat} (ht:t<16):w.cell? ⟨b,37+t,none⟩=some (.bool (s.diff.getD t false)):=by
 rw [show 37+t=36+(t+1) by omega]
 refine(h.get _).trans ((ER h.l1 h.l2 (t+1)).trans ?_)
 show(s.diff.map Value.bool++_)[t]?=_
 have h3:=h.l3
 rw [List.getElem?_append_left (by simpa [h3] using ht)]
 simp [List.getD_eq_getElem?_getD,show t<s.diff.length by omega]
theorem NY (h1:s.old.length=16) (h2:s.now.length=16) (h3:s.diff.length=16) (j:Nat):(uX bP s lv)[53+j]?=[Value.int .u64 (s.from_:Int),lv,.int .i64 s.moment][j]?:=by
 rw [show 53+j=36+((16+j)+1) by omega,ER h1 h2]
 show(s.diff.map Value.bool++_)[16+j]?=_
 rw [AF (by simpa using h3)]
theorem aR.from_ (h:aR w b bP s lv):w.cell? ⟨b,53,none⟩=some (.int .u64 (s.from_:Int)):=(h.get 53).trans (NY h.l1 h.l2 h.l3 0)
theorem aR.list (h:aR w b bP s lv):w.cell? ⟨b,54,none⟩=some lv:=(h.get 54).trans (NY h.l1 h.l2 h.l3 1)
theorem aR.mom (h:aR w b bP s lv):w.cell? ⟨b,55,none⟩=some (.int .i64 s.moment):=(h.get 55).trans (NY h.l1 h.l2 h.l3 2)
theorem aR.rOld (h:aR w b bP s lv):w.rangeAt b 4 (s.old.map bI):=λj v hv=>by
 have hj:j<s.old.length:=by
  rcases Nat.lt_or_ge j s.old.length with h9|h9
  ·exact h9
  ·rw [List.getElem?_eq_none (by simpa using h9)] at hv;cases hv
 rw [h.old (by have:=h.l1;omega),<-hv]
 simp [bI,List.getD_eq_getElem?_getD,hj]
theorem aR.rNow (h:aR w b bP s lv):w.rangeAt b 20 (s.now.map bI):=λj v hv=>by
 have hj:j<s.now.length:=by
  rcases Nat.lt_or_ge j s.now.length with h9|h9
  ·exact h9
  ·rw [List.getElem?_eq_none (by simpa using h9)] at hv;cases hv
 rw [h.now (by have:=h.l2;omega),<-hv]
 simp [bI,List.getD_eq_getElem?_getD,hj]
theorem aR.put (h:aR w b bP s lv) (i:Nat) (v:Value) {s':ScD} {lv':Value} (e:(uX bP s lv).set i v=uX bP s' lv') (h1:s'.old.length=16) (h2:s'.now.length=16) (h3:s'.diff.length=16):aR (w.setCell ⟨b,i,none⟩ v) b bP s' lv':=by
 refine⟨?_,h1,h2,h3⟩
 rw [aG h.blk,<-e];simp
theorem aR.setPc (h:aR w b bP s lv) (x:Nat):aR (w.setCell ⟨b,1,none⟩ (.int .i64 (x:Int))) b bP { s with pc:=x } lv:=h.put 1 _ rfl h.l1 h.l2 h.l3
theorem aR.setAt (h:aR w b bP s lv) (x:Nat):aR (w.setCell ⟨b,2,none⟩ (.int .i64 (x:Int))) b bP { s with at_:=x } lv:=h.put 2 _ rfl h.l1 h.l2 h.l3
theorem aR.setRounds (h:aR w b bP s lv) (x:Nat):aR (w.setCell ⟨b,3,none⟩ (.int .i64 (x:Int))) b bP { s with rounds:=x } lv:=h.put 3 _ rfl h.l1 h.l2 h.l3
theorem aR.setNow (h:aR w b bP s lv) {t:Nat} (ht:t<16) (x:Nat):aR (w.setCell ⟨b,20+t,none⟩ (.int .u64 (x:Int))) b bP { s with now:=s.now.set t x } lv:=by
 refine h.put (20+t) _ ?_ h.l1 (by simpa using h.l2) h.l3
 rw [show 20+t=(16+t)+1+1+1+1 by omega]
 unfold uX
 simp only [zq6]
 rw [zQ (by simpa using h.l1),List.set_append_left _ _ (by simpa [h.l2] using ht),List.map_set];rfl
theorem aR.setTail (h:aR w b bP s lv) (j:Nat) (v:Value):(uX bP s lv).set (36+j) v=.pointer (some ⟨bP,0,none⟩)::.int .i64 (s.pc:Int)::.int .i64 (s.at_:Int)::.int .i64 (s.rounds:Int)::(s.old.map bI++(s.now.map bI++((Value.int .i64 (s.last:Int)::(s.diff.map Value.bool++[.int .u64 (s.from_:Int),lv,.int .i64 s.moment])).set j v))):=by
 rw [show 36+j=(16+(16+j))+1+1+1+1 by omega]
 unfold uX
 simp only [zq6]
 rw [zQ (by simpa using h.l1),zQ (by simpa using h.l2)]
theorem aR.setLast (h:aR w b bP s lv) (x:Nat):aR (w.setCell ⟨b,36,none⟩ (.int .i64 (x:Int))) b bP { s with last:=x } lv:=h.put 36 _ (h.setTail 0 _) h.l1 h.l2 h.l3
theorem aR.setDiff (h:aR w b bP s lv) {t:Nat} (ht:t<16) (x:Bool):aR (w.setCell ⟨b,37+t,none⟩ (.bool x)) b bP { s with diff:=s.diff.set t x } lv:=by
 refine h.put (37+t) _ ?_ h.l1 h.l2 (by simpa using h.l3)
 rw [show 37+t=36+(t+1) by omega,h.setTail,zq6,List.set_append_left _ _ (by simpa [h.l3] using ht)]
 unfold uX
 rw [List.map_set]
theorem aR.setEnd (h:aR w b bP s lv) (j:Nat) (v:Value):(uX bP s lv).set (53+j) v=.pointer (some ⟨bP,0,none⟩)::.int .i64 (s.pc:Int)::.int .i64 (s.at_:Int)::.int .i64 (s.rounds:Int)::(s.old.map bI++(s.now.map bI++(Value.int .i64 (s.last:Int)::(s.diff.map Value.bool++[.int .u64 (s.from_:Int),lv,.int .i64 s.moment].set j v)))):=by
 rw [show 53+j=36+((16+j)+1) by omega,h.setTail,zq6,zQ (by simpa using h.l3)]
theorem aR.setFrom (h:aR w b bP s lv) (x:Nat):aR (w.setCell ⟨b,53,none⟩ (.int .u64 (x:Int))) b bP { s with from_:=x } lv:=h.put 53 _ (h.setEnd 0 _) h.l1 h.l2 h.l3
theorem aR.setList (h:aR w b bP s lv) (l:List Nat) (v:Value):aR (w.setCell ⟨b,54,none⟩ v) b bP { s with list:=l } v:=h.put 54 _ (h.setEnd 1 _) h.l1 h.l2 h.l3
theorem aR.setMom (h:aR w b bP s lv) (x:Int):aR (w.setCell ⟨b,55,none⟩ (.int .i64 x)) b bP { s with moment:=x } lv:=h.put 55 _ (h.setEnd 2 _) h.l1 h.l2 h.l3
theorem CW {b:Nat} {T:TypeId}:∀(vs O P Y:List Value) (w:World),w.heap[b]?=some (.cells (P++(O++Y)).toArray T (0,0))->O.length=vs.length->(w.setCells b P.length vs).heap[b]?=some (.cells (P++(vs++Y)).toArray T (0,0))/\Chg (λk=>k=b) w (w.setCells b P.length vs)
 | [],O,P,Y,w,h,hl=>by
  obtain rfl:O=[]:=List.length_eq_zero_iff.1 hl
  exact⟨h,Chg.refl _ _⟩
 | v::vs,[],P,Y,w,h,hl=>by simp at hl
 | v::vs,o::O,P,Y,w,h,hl=>by
  have h1:(w.setCell ⟨b,P.length,none⟩ v).heap[b]?=some (.cells ((P++[v])++(O++Y)).toArray T (0,0)):=by
   rw [aG h]
   simp [List.set_append_right]
  obtain⟨h2,h3⟩:=CW vs O (P++[v]) Y _ h1 (by simpa using hl)
  have e:(P++[v]).length=P.length+1:=by simp
  rw [e] at h2 h3
  refine⟨?_,((Chg.refl (λk=>k=b) w).setCell (p:=⟨b,P.length,none⟩) (.inl rfl) v).trans h3⟩
  have e2:P++[v]++(vs++Y)=P++(v::vs++Y):=by simp
  rw [<-e2];exact h2
theorem aR.setOld (h:aR w b bP s lv) (l:List Nat) (hl:l.length=16):aR (w.setCells b 4 (l.map bI)) b bP { s with old:=l } lv/\Chg (λk=>k=b) w (w.setCells b 4 (l.map bI)):=by
 obtain⟨h1,h2⟩:=CW (l.map bI) (s.old.map bI) [.pointer (some ⟨bP,0,none⟩),.int .i64 (s.pc:Int),.int .i64 (s.at_:Int),.int .i64 (s.rounds:Int)] _ w h.blk (by simp [h.l1,hl])
 exact⟨⟨h1,hl,h.l2,h.l3⟩,h2⟩
theorem aR.thereOld (h:aR w b bP s lv):w.there b 4 16:=λj hj=>⟨by rw [h.old hj];rfl,h.frozen _⟩
end
theorem IG (w:World) (d:Nat) {l m:List Nat} (hl:l.length=16) (hm:m.length=16):∀ is:List Nat,(∀ i,i∈is->i<16)->(Op.eqItems (d+1) 46 1 (l.map bI).toArray (m.map bI).toArray is).run Tryz.prog w=.ok (is.all λi=>decide (l.getD i 0=m.getD i 0)) w
 | [],_=>rfl
 | i::is,h=>by
  have hi:=h i (List.mem_cons_self ..)
  have e1:(l.map bI).toArray[i]?=some (.int .u64 ((l.getD i 0:Nat):Int)):=by
   simp [bI,List.getD_eq_getElem?_getD,show i<l.length by omega]
  have e2:(m.map bI).toArray[i]?=some (.int .u64 ((m.getD i 0:Nat):Int)):=by
   simp [bI,List.getD_eq_getElem?_getD,show i<m.length by omega]
  have p1:=run_part_plain (P:=Tryz.prog) w (e:=46) (by kernel_rfl) e1
  have p2:=run_part_plain (P:=Tryz.prog) w (e:=46) (by kernel_rfl) e2
  have p3:=run_equalIn_int (P:=Tryz.prog) w d 46 .u64 .u64 ((l.getD i 0:Nat):Int) ((m.getD i 0:Nat):Int) (by kernel_rfl)
  simp only [Op.eqItems,Nat.mul_one,Sem.run_bind,p1,p2,p3,Result.andThen_ok]
  by_cases he:l.getD i 0=m.getD i 0
  ·have:(((l.getD i 0:Nat):Int) ==((m.getD i 0:Nat):Int))=true:=by rw [beq_iff_eq];omega
   rw [this]
   simp only [Bool.not_true,Bool.false_eq_true,if_false]
   rw [IG w d hl hm is (λx hx=>h x (List.mem_cons_of_mem _ hx)),List.all_cons,decide_eq_true he,Bool.true_and]
  ·have:(((l.getD i 0:Nat):Int) ==((m.getD i 0:Nat):Int))=false:=by rw [beq_eq_false_iff_ne];omega
   rw [this,List.all_cons,decide_eq_false he]
   simp
theorem Ca (w:World) {l m:List Nat} (hl:l.length=16) (hm:m.length=16):(Op.equal 273 (.agg (l.map bI).toArray) (.agg (m.map bI).toArray)).run Tryz.prog w=.ok (decide (l=m)) w:=by
 obtain⟨i0,hi0,_⟩:=info_parts iR
 have e:=run_equalIn_array (P:=Tryz.prog) w 9999 (t:=273) (e:=46) (n:=16) (l.map bI).toArray (m.map bI).toArray (by kernel_rfl) hi0
 have hc:Tryz.prog.cellsOf 46=1:=by kernel_rfl
 rw [hc] at e
 show(Op.equalIn 10000 _ _ _).run _ w=_
 rw [e,IG w 9998 hl hm _ (λi hi=>List.mem_range.1 hi)]
 congr 1
 by_cases he:l=m
 ·subst he;simp
 ·rw [decide_eq_false he,List.all_eq_false]
  by_cases hx:∃ i,i<16/\l.getD i 0≠m.getD i 0
  ·obtain⟨i,h1,h2⟩:=hx
   exact⟨i,List.mem_range.2 h1,by simpa using h2⟩
  ·exfalso
   apply he
   apply List.ext_getElem
   ·omega
   ·intro i i1 i2
    have h3:l.getD i 0=m.getD i 0:=by
     by_cases e:l.getD i 0=m.getD i 0
     ·exact e
     ·exact absurd ⟨i,by omega,e⟩ hx
    rw [List.getD_eq_getElem?_getD,List.getElem?_eq_getElem i1,List.getD_eq_getElem?_getD,List.getElem?_eq_getElem i2] at h3
    exact h3
end
end Go.Proofs.YtfkokppncipgnaaGreat
