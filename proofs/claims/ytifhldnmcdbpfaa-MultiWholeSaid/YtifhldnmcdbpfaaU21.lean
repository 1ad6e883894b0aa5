/- Layer 16: what every play of a snapshot of many writers keeps: each turn keeps it. -/
import Derived.Test.YtifhldnmcdbpfaaU20
set_option maxRecDepth 100000
set_option linter.unusedVariables false
set_option linter.unusedSimpArgs false
set_option linter.unnecessarySimpa false
namespace Go.Proofs.Ytifhldnmcdbpfaa
open Go.RowKit
variable {n m q:Nat} {calls:List aF}
theorem KR {rho:Nat->Nat} {evs:List EvD} {ws:List Nat} {T p:Nat} (hm:1<=m):kS n m calls gV iZ rho evs ws T p T 0 xV:=by
 have hz:∀ i,(List.replicate 16 0).getD i 0=0:=λi=>iV
 exact⟨rfl,Nat.le_refl _,.inl ⟨rfl,⟨hm,rfl,rfl,hz p,λi _=>hz i,⟨0,by show 0=0*m+0;omega,Nat.zero_le _,⟨λ_=>rfl,λ_=>rfl⟩⟩,λh=>absurd rfl h,λi hi=>absurd hi (Nat.not_lt_zero i),λh=>absurd rfl h,λh=>absurd rfl h,λt ht=>absurd (hz t) ht,λ_ t=>hz t⟩⟩⟩
theorem DF {o:List Nat} {wd:WD} {p i:Nat} {s:MuS} (hs:dB (aR n m q) o wd p (calls.getD i d0)=.run s):(calls.getD i d0).obj=0/\(((calls.getD i d0).kind=1/\s=.rd xV [])∨((calls.getD i d0).kind=0/\(calls.getD i d0).a<m/\o.getD p 0<q/\s=.up xV p (calls.getD i d0).a (bI m q p (o.getD p 0)) 0 (calls.getD i d0).b false)):=by
 unfold dB at hs
 by_cases h0:(calls.getD i d0).obj=0
 ·rw [if_pos h0] at hs
  have hs':(if (calls.getD i d0).kind=1 then Mc.run (MuS.rd xV []) else if (calls.getD i d0).kind≠0 then .refuse 9 else if m<=(calls.getD i d0).a then .refuse 10 else if q<=o.getD p 0 then .refuse 6 else .run (.up xV p (calls.getD i d0).a (bI m q p (o.getD p 0)) 0 (calls.getD i d0).b false))=Mc.run s:=hs
  refine⟨h0,?_⟩
  split at hs'
  ·rename_i k1
   cases hs'
   exact .inl ⟨k1,rfl⟩
  ·split at hs'
   ·cases hs'
   ·rename_i k0
    split at hs'
    ·cases hs'
    ·rename_i k2
     split at hs'
     ·cases hs'
     ·rename_i k3
      cases hs'
      exact .inr ⟨Classical.not_not.1 k0,Nat.lt_of_not_le k2,Nat.lt_of_not_le k3,rfl⟩
 ·rw [if_neg h0] at hs;cases hs
section
variable {st:aP (aR n m q)} {p i j:Nat} {evs' aU:List EvD} {e1:EvD} {rho:Nat->Nat} {s:MuS} {bQ:WD}
theorem pY {S:Sys} {st:aP S} (hthr:∀ c,c<calls.length->0<=(calls.getD c d0).thread/\(calls.getD c d0).thread<n) (hN:gU calls st.fin (p:Int)=some i):p<n:=by
 obtain⟨a,b,_⟩:=fQ hN
 have:=hthr i a
 omega
theorem lL (hm:1<=m) (hg:bH calls st) (h:MuInv n m q calls st rho) (hf:From calls st p i j s aU bQ) (hx:Next calls st p evs' j e1) (hr:e1.resp=0∨e1.resp=st.wd.now+1) (hw:¬ piW calls e1) :
  bY calls (aB aU j)=0/\mV n m q calls rho evs' st.wd.mem.ws (st.wd.now+1) st.obj p (aB aU j) s:=by
 rcases hf.or with⟨hh,hk,hc,hr0,rfl,rfl⟩|⟨hh,hs,rfl,rfl,rfl⟩
 ·obtain⟨a,b⟩:=h.hand p s j hh
  exact⟨a,b.keep hx hr (λhp=>absurd hp hw) (λ_ _ _=>rfl) (λ_ _ _ _ _=>rfl) rfl (λ_ _ _=>rfl)⟩
 ·rw [jO]
  obtain⟨h0,⟨k1,rfl⟩|⟨k0,k2,k3,rfl⟩⟩:=DF hs
  ·exact⟨h0,k1,rfl,rfl,KR hm⟩
  ·exact⟨h0,k0,rfl,rfl,k2,rfl,k3,rfl,.inl ⟨rfl,rfl,rfl,KR hm⟩⟩
theorem EA {S:Sys} {st:aP S} {s:S.σ} (hg:bH calls st) (hN:gU calls st.fin (p:Int)=some i) (hf:From calls st p i j s aU bQ):∀ x,x<st.evs.length->x≠j->tn calls (aB st.evs x)=p->(aB st.evs x).resp≠0->(aB st.evs x).resp<(aB aU j).inv:=by
 intro x hx hxj ht hr
 have htn:=hf.tn hN
 have hti:=(hg.ev.tick x hx).2.2.2
 rcases hf.or with⟨hh,hk,hc,hr0,rfl,rfl⟩|⟨hh,hs,rfl,rfl,rfl⟩
 ·rcases Nat.lt_trichotomy x j with h|h|h
  ·exact(hg.ev.same x j h hk (ht.trans htn.symm)).2.1
  ·exact absurd h hxj
  ·exact absurd hr0 (hg.ev.same j x h hx (htn.trans ht.symm)).1
 ·rw [jO]
  show _<st.wd.now+1
  omega
theorem uP (hx:Next calls st p evs' j e1) (hw:¬ piW calls e1) (h:MuInv n m q calls st rho):∀ x,x<evs'.length->piW calls (aB evs' x)->∃ r,r<List.getD (α:=Nat) st.obj (tn calls (aB evs' x)) 0/\rho x=bI m q (tn calls (aB evs' x)) r:=λx hxl hp=>by
 have hxj:x≠j:=λe=>by subst e;rw [hx.self] at hp;exact hw hp
 obtain⟨x1,x2⟩:=hx.other x hxl hxj
 rw [x2] at hp ⊢
 exact h.rcd x x1 hp
theorem xN (hx:Next calls st p evs' j e1) (hw:¬ piW calls e1) (h:MuInv n m q calls st rho):∀ x y,x<evs'.length->y<evs'.length->piW calls (aB evs' x)->piW calls (aB evs' y)->tn calls (aB evs' x)=tn calls (aB evs' y)->(aB evs' x).resp<(aB evs' y).resp->rho x<rho y:=λx y hxl hyl hp hp'=>by
 have hxj:x≠j:=λe=>by subst e;rw [hx.self] at hp;exact hw hp
 have hyj:y≠j:=λe=>by subst e;rw [hx.self] at hp';exact hw hp'
 obtain⟨x1,x2⟩:=hx.other x hxl hxj
 obtain⟨y1,y2⟩:=hx.other y hyl hyj
 rw [x2] at hp ⊢
 rw [y2] at hp' ⊢
 exact h.ord x y x1 y1 hp hp'
theorem MQ (hx:Next calls st p evs' j e1) (hw:¬ piW calls e1) (h:MuInv n m q calls st rho):∀ t,t<n->List.getD (α:=Nat) st.obj t 0=cnt (isU calls t) evs':=λt ht=>by
 rw [hx.cnt zV,h.uc t ht,show isU calls t e1=false from by unfold isU;rw [decide_eq_false hw];rfl]
 try rfl
theorem nN (hm:1<=m) (hn16:n<=16) (hthr:∀ c,c<calls.length->0<=(calls.getD c d0).thread/\(calls.getD c d0).thread<n) (hg:bH calls st) (h:MuInv n m q calls st rho) (hN:gU calls st.fin (p:Int)=some i) (hf:From calls st p i j s aU bQ) (hx:Next calls st p evs' j e1) (hr:e1.resp=0∨e1.resp=st.wd.now+1) (hw:¬ piW calls e1)
  {N:Nat} {sc:MuD} (hpc:aS sc=false) (hs:kS n m calls gV iZ rho evs' st.wd.mem.ws (st.wd.now+1) p (aB aU j).inv N sc) :
  eQ sc<st.wd.mem.ws.length/\kS n m calls gV iZ rho evs' st.wd.mem.ws (st.wd.now+1) p (aB aU j).inv (N+1) (bJ m q bQ sc)/\yD n m q calls gV iZ rho evs' st.wd.mem.ws st.wd.traces (st.wd.now+1):=by
 have hR:=h.rc.keep hg hx hr hw rfl (λ_ _=>rfl) (λ_ _ _ _ _=>rfl) (λ_ _ _=>rfl)
 have hrec:yD n m q calls gV iZ rho evs' st.wd.mem.ws st.wd.traces (st.wd.now+1):=by
  refine⟨hR,λx hxl hp=>?_,xN hx hw h,λx hxl=>?_⟩
  ·obtain⟨r,r1,r2⟩:=uP hx hw h x hxl hp
   have hxj:x≠j:=λe=>by subst e;rw [hx.self] at hp;exact hw hp
   obtain⟨x1,x2⟩:=hx.other x hxl hxj
   rw [r2,xL (Nat.lt_of_lt_of_le r1 (h.uk _))]
   refine⟨rfl,?_⟩
   rw [x2]
   have:=hthr _ (hg.ev.call x x1)
   unfold tn;omega
  ·by_cases hxj:x=j
   ·subst hxj;rw [hx.self];omega
   ·obtain⟨x1,x2⟩:=hx.other x hxl hxj
    rw [x2]
    have:=(hg.ev.tick x x1).2.2.2
    omega
 have hmine:∀ x,x<evs'.length->piW calls (aB evs' x)->tn calls (aB evs' x)=p->(aB evs' x).resp<(aB aU j).inv:=λx hxl hp ht=>by
  have hxj:x≠j:=λe=>by subst e;rw [hx.self] at hp;exact hw hp
  obtain⟨x1,x2⟩:=hx.other x hxl hxj
  rw [x2] at ht hp ⊢
  exact EA hg hN hf x x1 hxj ht hp.2.2.2
 have hab:=TG (wd:=bQ) hm hn16 (pY hthr hN) hf.now hf.trs (show bQ.mem.ws=st.wd.mem.ws by rw [hf.mem]) hrec hmine hs hpc
 exact⟨hab.1,hab.2,hrec⟩
theorem wX {wd':WD} {s':MuS} {ws':List Nat} (hm:1<=m) (hthr:∀ c,c<calls.length->0<=(calls.getD c d0).thread/\(calls.getD c d0).thread<n) (hg:bH calls st) (h:MuInv n m q calls st rho) (hq:p<16) (hN:gU calls st.fin (p:Int)=some i) (hf:From calls st p i j s aU bQ)
  (hst:(aR n m q).step st.obj bQ p s=(st.obj,wd',s',false)) (hmk:wd'.marks=bQ.marks) (hnow:wd'.now=bQ.now) (hcf:wd'.mem.c.fault=bQ.mem.c.fault) (hca:wd'.mem.c.all=bQ.mem.c.all+1) (htr:wd'.traces=bQ.traces) (hws:wd'.mem.ws=ws') (hwl:ws'.length=st.wd.mem.ws.length) (hcell:∀ a,a<m->ws'.getD a 0=st.wd.mem.ws.getD a 0)
  (hrec:∀ x,x<st.evs.length->piW calls (aB st.evs x)->∀ a,a<=m->ws'.getD (rho x+a) 0=st.wd.mem.ws.getD (rho x+a) 0)
  (hw:∀ p',p'≠p->p'<n->List.getD (α:=Nat) st.obj p' 0<q->∀ a,a<=m->ws'.getD (bI m q p' (List.getD (α:=Nat) st.obj p' 0)+a) 0=st.wd.mem.ws.getD (bI m q p' (List.getD (α:=Nat) st.obj p' 0)+a) 0)
  (hS:∀ evs',Next calls st p evs' j (aV (aB aU j))->mV n m q calls rho evs' ws' (st.wd.now+1) st.obj p (aV (aB aU j)) s'):MuInv n m q calls (jV st ((aR n m q).step st.obj bQ p s) p i j aU) rho:=by
 obtain⟨e0,he0⟩:∃ e0,e0=aB aU j:=⟨_,rfl⟩
 rw [<-he0] at hS
 have hopen:e0.resp=0:=by rw [he0];exact hf.open_
 have hnx:=hf.next hg hN (aV e0) (by rw [he0];rfl)
 have hto:jV st ((aR n m q).step st.obj bQ p s) p i j aU={ wd:=wd',obj:=st.obj,fin:=st.fin,hands:=st.hands.set p (some s',j),evs:=aU.set j (aV e0),idle:=st.idle }:=by rw [hst,he0];rfl
 have hpw:¬ piW calls (aV e0):=eH hopen
 obtain⟨g1,_⟩:=lL hm hg h hf hnx (.inl hopen) hpw
 rw [<-he0] at g1
 rw [hto]
 refine sF (rho':=rho) hg h hq hthr hnx rfl (.inl hopen) (hnow.trans hf.now) (hmk.trans (hf.mark0 h.marks)) (by show wd'.mem.c.fault=0;rw [hcf,hf.mem];exact h.cf) (by show wd'.mem.c.all<=_;rw [hca,hf.mem];exact Nat.le_refl _) (by show wd'.mem.ws.length=_;rw [hws,hwl];exact h.wl) h.u16 h.uk (MQ (st:=st) hnx hpw h) ?_ (uP (st:=st) hnx hpw h) (xN (st:=st) hnx hpw h) (λhp=>absurd hp hpw) (λ_ _ _=>rfl) (λx hx hp a ha=>by show wd'.mem.ws.getD _ 0=_;rw [hws];exact hrec x hx hp a ha) (λ_ _=>rfl) (λp' hp hpn hu a ha=>by show wd'.mem.ws.getD _ 0=_;rw [hws];exact hw p' hp hpn hu a ha) (λs i' hx=>?_) (λh0=>absurd hopen h0)
 ·show mE m calls gV iZ rho (aU.set j (aV e0)) wd'.mem.ws wd'.traces (st.wd.now+1)
  rw [hws]
  exact h.rc.keep hg hnx (.inl hopen) hpw hwl hcell hrec (λx _ _=>by rw [htr,hf.trs])
 ·cases hx
  refine⟨rfl,g1,?_⟩
  show mV n m q calls rho (aU.set j (aV e0)) wd'.mem.ws (st.wd.now+1) st.obj p (aV e0) s'
  rw [hws]
  exact hS _ hnx
theorem kS.over {N I:Nat} {sc:MuD} {ws:List Nat} {evs:List EvD} {T:Nat} (h:kS n m calls gV iZ rho evs ws T p I N sc) (ho:aS sc=true):sc.list.length=m/\N<=(n+1)*m+m/\∃ mm:Nat,sc.moment=(mm:Int)/\I<=mm/\mm<=T/\∀ i,i<m->ValAt calls gV iZ evs i mm (sc.list.getD i 0):=by
 unfold aS at ho
 rw [Bool.and_eq_true] at ho
 have hr:=of_decide_eq_true ho.2
 rcases h.body with⟨e,_⟩|⟨_,c⟩
 ·rw [e] at ho;cases ho.1
 ·have hl:=c.len
  rw [hr] at hl
  have hl:sc.list.length=m:=hl
  have hs:=c.steps
  rw [hl] at hs
  obtain⟨mm,m1,m2,m3,m4,_⟩:=c.mom
  exact⟨hl,hs,mm,m1,m2,m3,λi hi=>m4 i (by omega)⟩
theorem AU {sc:MuD} {key:List Int} (hm:1<=m) (hn16:n<=16) (hthr:∀ c,c<calls.length->0<=(calls.getD c d0).thread/\(calls.getD c d0).thread<n) (hg:bH calls st) (h:MuInv n m q calls st rho) (hq:p<16) (hN:gU calls st.fin (p:Int)=some i) (hf:From calls st p i j (.rd sc key) aU bQ) :
  MuInv n m q calls (jV st ((aR n m q).step st.obj bQ p (.rd sc key)) p i j aU) rho:=by
 obtain⟨e0,he0⟩:∃ e0,e0=aB aU j:=⟨_,rfl⟩
 have hopen:e0.resp=0:=by rw [he0];exact hf.open_
 have CQ:=hf.next hg hN (aV e0) (by rw [he0];rfl)
 obtain⟨g1,g2,g3,g4,g5⟩:=lL hm hg h hf CQ (.inl hopen) (eH hopen)
 obtain⟨hlt,g6,_⟩:=nN hm hn16 hthr hg h hN hf CQ (.inl hopen) (eH hopen) g4 g5
 obtain⟨r1,r2⟩:=xZ (wd:=bQ) (a:=eQ sc) (by rw [hf.mem];exact hlt)
 have hw':=wD bQ (eQ sc)
 by_cases h3:aS (bJ m q bQ sc)=true
 ·obtain⟨wd',hwd'⟩:∃ wd',wd'=jJ bQ sc:=⟨_,rfl⟩
  have hnow':wd'.now=st.wd.now+1:=by rw [hwd'];exact hf.now
  have hmk':wd'.marks=List.replicate 16 []:=by rw [hwd'];exact hf.mark0 h.marks
  have hws':wd'.mem.ws=st.wd.mem.ws:=by rw [hwd'];exact hw'.trans (by rw [hf.mem])
  have htr':wd'.traces=st.wd.traces:=by rw [hwd'];exact hf.trs
  have hst:(aR n m q).step st.obj bQ p (.rd sc key)=(st.obj,wd',.rd (bJ m q bQ sc) [2*(bJ m q bQ sc).moment,2*(bQ.now:Int)],true):=by
   rw [hwd']
   show(st.obj,jJ bQ sc,MuS.rd (bJ m q bQ sc) (if aS (bJ m q bQ sc)=true then _ else _),aS (bJ m q bQ sc))=_
   rw [if_pos h3,h3];rfl
  obtain⟨e1,he1⟩:∃ e1,e1=bL wd' p ⟨0,0,(bJ m q bQ sc).list⟩ [2*(bJ m q bQ sc).moment,2*(bQ.now:Int)] e0:=⟨_,rfl⟩
  have hto:jV st ((aR n m q).step st.obj bQ p (.rd sc key)) p i j aU={ wd:=wd',obj:=st.obj,fin:=st.fin.set i true,hands:=st.hands.set p (none,j),evs:=aU.set j e1,idle:=st.idle }:=by rw [hst,he1,he0];rfl
  have hnx:=hf.next hg hN e1 (by rw [he1,he0];rfl)
  have hresp:e1.resp=st.wd.now+1:=by rw [he1];exact hnow'
  have hkd:kindOf calls e1=1:=by rw [he1,he0];exact g2
  have hob:bY calls e1=0:=by rw [he1,he0];exact g1
  have hpw:¬ piW calls e1:=λhp=>by have:=hp.2.1;omega
  obtain⟨_,_,_,_,k5⟩:=lL hm hg h hf hnx (.inr hresp) hpw
  obtain⟨_,k6,k7⟩:=nN hm hn16 hthr hg h hN hf hnx (.inr hresp) hpw g4 k5
  obtain⟨c1,c2,mm,m1,m2,m3,m4⟩:=k6.over h3
  rw [hto]
  refine sF (rho':=rho) hg h hq hthr hnx rfl (.inr hresp) hnow' hmk' (by show wd'.mem.c.fault=0;rw [hwd'];exact r1.trans (by rw [hf.mem];exact h.cf)) (by show wd'.mem.c.all<=_;rw [hwd'];exact Nat.le_of_eq (r2.trans (by rw [hf.mem]))) (by show wd'.mem.ws.length=_;rw [hws'];exact h.wl) h.u16 h.uk (MQ (st:=st) hnx hpw h) (by show mE m calls gV iZ rho (aU.set j e1) wd'.mem.ws wd'.traces _;rw [hws',htr'];exact k7.ok) (uP (st:=st) hnx hpw h) (xN (st:=st) hnx hpw h) (λhp=>absurd hp hpw) (λ_ _ _=>rfl) (λx _ _ a _=>by show wd'.mem.ws.getD _ 0=_;rw [hws']) (λ_ _=>rfl) (λp' _ _ _ a _=>by show wd'.mem.ws.getD _ 0=_;rw [hws']) (λ_ _ hx=>by cases hx) (λ_=>⟨λ_ _=>⟨mm,?_⟩,λ_ h1=>by omega,λhne=>absurd ⟨hob,hkd⟩ hne,?_⟩)
  ·have ha:e1.ans=⟨0,0,(bJ m q bQ sc).list⟩:=by rw [he1];rfl
   have hi:e1.inv=(aB aU j).inv:=by rw [he1,he0];rfl
   rw [ha,hi]
   refine⟨rfl,rfl,c1,?_,m2,by rw [hresp];exact m3,m4⟩
   rw [hresp,he1]
   show keyOf wd' p [2*(bJ m q bQ sc).moment,2*(bQ.now:Int)]=_
   rw [oM hmk',if_neg (by simp),m1,hf.now]
  ·have hs:e1.steps=(aB aU j).steps+1:=by rw [he1,he0];rfl
   rw [hs]
   exact⟨by omega,λ_=>c2⟩
 ·have h3':aS (bJ m q bQ sc)=false:=by simpa using h3
  have hst:(aR n m q).step st.obj bQ p (.rd sc key)=(st.obj,jJ bQ sc,.rd (bJ m q bQ sc) key,false):=by
   show(st.obj,jJ bQ sc,MuS.rd (bJ m q bQ sc) (if aS (bJ m q bQ sc)=true then _ else _),aS (bJ m q bQ sc))=_
   rw [if_neg h3,h3'];rfl
  refine wX (ws':=st.wd.mem.ws) hm hthr hg h hq hN hf hst rfl rfl r1 r2 rfl (hw'.trans (by rw [hf.mem])) rfl (λ_ _=>rfl) (λ_ _ _ _ _=>rfl) (λ_ _ _ _ _ _=>rfl) (λevs' hx=>?_)
  rw [<-he0] at hx
  obtain⟨_,_,_,_,k5⟩:=lL hm hg h hf hx (.inl hopen) (eH hopen)
  obtain⟨_,k6,_⟩:=nN hm hn16 hthr hg h hN hf hx (.inl hopen) (eH hopen) g4 k5
  exact⟨g2,g3,h3',k6⟩
end
end Go.Proofs.Ytifhldnmcdbpfaa
