/- Layer 15: what every play of a snapshot keeps: what stays, whatever turn is made. -/
import Derived.Test.YtlepjmnhekeofaaS28
set_option maxRecDepth 100000
set_option linter.unusedVariables false
set_option linter.unusedSimpArgs false
set_option linter.unnecessarySimpa false
namespace Go.Proofs.Ytlepjmnhekeofaa
open Go.RowKit
section
variable {S:Sys} {calls:List CallD} {prt val:CallD->Nat} {rho rho':Nat->Nat} {st:PlayD S} {q j:Nat} {evs':List EvD} {e1:EvD}
theorem CellAt.keep {i T c:Nat} (h:CellAt calls prt rho st.evs i T c) (hx:Next calls st q evs' j e1) (hr:e1.resp=0∨e1.resp=st.wd.now+1) (hT:T<=st.wd.now) (hrho:∀ x,x<st.evs.length->piW calls (evAt st.evs x)->rho' x=rho x):CellAt calls prt rho' evs' i T c:=by
 obtain⟨oj,h1,h2⟩:=h
 refine⟨oj,h1.keep hx hr hT,h2.trans ?_⟩
 match oj,h1 with
 | none,_=>rfl
 | some y,h1=>exact(hrho y h1.1 h1.2.1).symm
theorem ValAt.keep {i T v:Nat} (h:ValAt calls prt val st.evs i T v) (hx:Next calls st q evs' j e1) (hr:e1.resp=0∨e1.resp=st.wd.now+1) (hT:T<=st.wd.now):ValAt calls prt val evs' i T v:=by
 obtain⟨oj,h1,h2⟩:=h
 refine⟨oj,h1.keep hx hr hT,h2.trans ?_⟩
 match oj,h1 with
 | none,_=>rfl
 | some y,h1=>
  show val (calls.getD (evAt st.evs y).call d0)=val (calls.getD (evAt evs' y).call d0)
  rw [h1.old hx]
theorem Next.piw {x:Nat} (hx:Next calls st q evs' j e1) (hx1:x<st.evs.length) (hw:piW calls (evAt st.evs x)):x<evs'.length/\x≠j/\evAt evs' x=evAt st.evs x:=by
 have hxj:x≠j:=λe=>hw.2.2.2 (hx.old (by omega) ▸ (by rw [e]))
 exact⟨Nat.lt_of_lt_of_le hx1 hx.size,hxj,(hx.other x (Nat.lt_of_lt_of_le hx1 hx.size) hxj).2⟩
theorem ScOk.keep {n p I N:Nat} {s:ScD} {traces traces':Int->List Int} (h:ScOk n calls prt val rho st.evs traces st.wd.now p I N s) (hx:Next calls st q evs' j e1) (hr:e1.resp=0∨e1.resp=st.wd.now+1) (hrho:∀ x,x<st.evs.length->piW calls (evAt st.evs x)->rho' x=rho x) (htr:∀ x,x<st.evs.length->piW calls (evAt st.evs x)->traces' (rho x:Int)=traces (rho x:Int)) :
  ScOk n calls prt val rho' evs' traces' (st.wd.now+1) p I N s:=by
 obtain⟨h1,h2,h3,hz,hit,hown,hdn,hb⟩:=h
 refine⟨h1,h2,h3,hz,by omega,hown,hdn,?_⟩
 rcases hb with⟨hpc,c⟩|⟨hpc,c⟩|⟨hpc,c⟩|⟨hpc,c⟩
 ·refine .inl ⟨hpc,⟨c.at_,c.nil,c.steps,c.few,λi hi=>?_,λhr1=>?_,λhr1 i hi=>?_,c.first⟩⟩
  ·obtain⟨a,a1,a2,a3,a4⟩:=c.cur i hi
   exact⟨a,a1,by omega,a3,a4.keep hx hr a2 hrho⟩
  ·have:=c.last hr1;omega
  ·obtain⟨a,a1,a2,a3,a4⟩:=c.prev hr1 i hi
   have:=(c.last hr1).2
   refine⟨a,a1,a2,a3.keep hx hr (by omega) hrho,λhd=>?_⟩
   obtain⟨jj,k1,k2⟩:=a4 hd
   exact⟨jj,k1.keep hx hr (by omega),by rw [k1.old hx];exact k2⟩
 ·obtain⟨m,m1,m2,m3,m4,m5⟩:=c.mom
  refine .inr (.inl ⟨hpc,⟨c.at_,c.pos,c.len,c.steps,m,m1,m2,by omega,λi hi=>?_,λi hi=>(m5 i hi).keep hx hr m3⟩⟩)
  obtain⟨oj,o1,o2⟩:=m4 i hi
  exact CellAt.keep (rho':=rho') ⟨oj,o1,o2⟩ hx hr m3 hrho
 ·obtain⟨m,m1,m2,m3,m5⟩:=c.mom
  obtain⟨jj,j1,j2,j3⟩:=c.ref
  obtain⟨p1,p2,p3⟩:=hx.piw j1 j2
  refine .inr (.inr (.inl ⟨hpc,⟨c.at_,c.len,c.steps,⟨jj,p1,by rw [p3];exact j2,by rw [hrho jj j1 j2];exact j3⟩,?_,m,m1,m2,by omega,λi hi=>(m5 i hi).keep hx hr m3⟩⟩))
  have:=c.tr
  rw [j3] at this ⊢
  rw [htr jj j1 j2];exact this
 ·obtain⟨m,m1,m2,m3,m5⟩:=c.mom
  exact .inr (.inr (.inr ⟨hpc,⟨c.len,c.steps,m,m1,m2,by omega,λi hi=>(m5 i hi).keep hx hr m3⟩⟩))
theorem RecOk.keep {n:Nat} {ws ws':List Nat} {traces traces':Int->List Int} (hg:StGood calls st) (h:RecOk n calls prt val rho st.evs ws traces st.wd.now) (hx:Next calls st q evs' j e1) (hr:e1.resp=0∨e1.resp=st.wd.now+1) (hw:¬ piW calls e1) (hl:ws'.length=ws.length) (hc:∀ i,i<n->ws'.getD i 0=ws.getD i 0)
  (hrec:∀ x,x<st.evs.length->piW calls (evAt st.evs x)->∀ a,a<=n->ws'.getD (rho x+a) 0=ws.getD (rho x+a) 0) (htr:∀ x,x<st.evs.length->piW calls (evAt st.evs x)->traces' (rho x:Int)=traces (rho x:Int)):RecOk n calls prt val rho evs' ws' traces' (st.wd.now+1):=by
 have old:∀ x,x<evs'.length->piW calls (evAt evs' x)->x<st.evs.length/\piW calls (evAt st.evs x)/\evAt evs' x=evAt st.evs x:=λx hxl hp=>by
  have hxj:x≠j:=λe=>by subst e;rw [hx.self] at hp;exact hw hp
  obtain⟨a,b⟩:=hx.other x hxl hxj
  exact⟨a,by rw [<-b];exact hp,b⟩
 refine⟨λi hi=>?_,by rw [hl];exact h.nw,λx hxl hp=>?_,λx y hxl hyl hp hp' e=>?_,λx hxl hp=>?_,λx hxl hp=>?_,λx y hxl hyl hp hp' ht hlt=>?_,hx.respApart hg h.apart hr⟩
 ·rw [hc i hi]
  obtain⟨oj,o1,o2⟩:=h.cell i hi
  exact⟨oj,o1.up hg hx (λhp=>absurd hp hw),o2⟩
 ·obtain⟨a,b,_⟩:=old x hxl hp
  rw [hl];exact h.pos x a b
 ·obtain⟨a,b,_⟩:=old x hxl hp
  obtain⟨a',b',_⟩:=old y hyl hp'
  exact h.inj x y a a' b b' e
 ·obtain⟨a,b,c⟩:=old x hxl hp
  have:=hrec x a b 0 (Nat.zero_le _)
  rw [Nat.add_zero] at this
  rw [this,c];exact h.value x a b
 ·obtain⟨a,b,c⟩:=old x hxl hp
  obtain⟨m,v1,v2,v3,v4⟩:=h.view x a b
  refine⟨m,by rw [htr x a b];exact v1,by rw [c];exact v2,by rw [c];exact v3,λi hi=>?_⟩
  have:=hrec x a b (1+i) (by omega)
  rw [<-Nat.add_assoc] at this
  rw [this]
  exact(v4 i hi).keep hx hr (by have:=(hg.ev.tick x a).2.2.2;omega)
 ·obtain⟨a,b,c⟩:=old x hxl hp
  obtain⟨a',b',c'⟩:=old y hyl hp'
  rw [c,c'] at ht hlt ⊢
  exact h.seq x y a a' b b' ht hlt
theorem RecOk.new {n r t m:Nat} {ws ws':List Nat} {traces:Int->List Int} (hg:StGood calls st) (h:RecOk n calls prt val rho st.evs ws traces st.wd.now) (hx:Next calls st q evs' j e1) (hw:piW calls e1) (hr:e1.resp=st.wd.now+1) (hp:prt (calls.getD e1.call d0)=t) (ht:t<n) (hws:ws'=ws.set t r) (hrl:r+n<ws.length) (hrn:n<=r) (hr0:0<r)
  (hfar:∀ x,x<st.evs.length->piW calls (evAt st.evs x)->rho x≠r) (hlow:∀ x,x<st.evs.length->piW calls (evAt st.evs x)->n<=rho x)
  (hv:ws.getD r 0=val (calls.getD e1.call d0)) (hm:e1.inv<=m) (hmT:m<=st.wd.now) (hview:∀ i,i<n->ValAt calls prt val st.evs i m (ws.getD (r+1+i) 0)) (hseq:∀ x,x<st.evs.length->piW calls (evAt st.evs x)->tn calls (evAt st.evs x)=tn calls e1->(evAt st.evs x).resp<e1.inv) :
  RecOk n calls prt val (λx=>if x=j then r else rho x) evs' ws' (updT traces (r:Int) [(m:Int)]) (st.wd.now+1):=by
 have hrr:e1.resp=0∨e1.resp=st.wd.now+1:=.inr hr
 have cas:∀ x,x<evs'.length->piW calls (evAt evs' x)->(x=j/\evAt evs' x=e1)∨(x≠j/\x<st.evs.length/\piW calls (evAt st.evs x)/\evAt evs' x=evAt st.evs x):=λx hxl hp=>by
  by_cases hxj:x=j
  ·exact .inl ⟨hxj,by rw [hxj];exact hx.self⟩
  ·obtain⟨a,b⟩:=hx.other x hxl hxj
   exact .inr ⟨hxj,a,by rw [<-b];exact hp,b⟩
 have hrho:∀ x,x<st.evs.length->piW calls (evAt st.evs x)->(if x=j then r else rho x)=rho x:=λx hx1 hp=>if_neg (hx.piw hx1 hp).2.1
 have htl:t<ws.length:=by omega
 have hset:∀ a,ws'.getD a 0=if a=t then r else ws.getD a 0:=λa=>by rw [hws];exact getD_set_if' _ _ _ _ htl
 refine⟨λi hi=>?_,by rw [hws,List.length_set];exact h.nw,λx hxl hpw=>?_,λx y hxl hyl hpx hpy e=>?_,λx hxl hpw=>?_,λx hxl hpw=>?_,λx y hxl hyl hpx hpy htt hlt=>?_,hx.respApart hg h.apart hrr⟩
 ·rw [hset]
  by_cases e:i=t
  ·rw [if_pos e]
   exact⟨some j,LastAt.new hg hx hw (by rw [e];exact hp) hr,(if_pos rfl:(if j=j then r else rho j)=r).symm⟩
  ·rw [if_neg e]
   obtain⟨oj,o1,o2⟩:=h.cell i hi
   refine⟨oj,o1.up hg hx (λ_ hp'=>e (hp'.symm.trans hp)),o2.trans ?_⟩
   match oj,o1 with
   | none,_=>rfl
   | some y,o1=>exact(hrho y o1.1 o1.2.1).symm
 ·have hl':ws'.length=ws.length:=by rw [hws,List.length_set]
  rw [hl']
  rcases cas x hxl hpw with⟨rfl,_⟩|⟨a,b,c,_⟩
  ·rw [if_pos rfl];exact⟨hr0,hrl⟩
  ·rw [if_neg a];exact h.pos x b c
 ·have e':(if x=j then r else rho x)=(if y=j then r else rho y):=e
  rcases cas x hxl hpx with⟨rfl,_⟩|⟨a,b,c,_⟩
  ·rcases cas y hyl hpy with⟨rfl,_⟩|⟨a',b',c',_⟩
   ·rfl
   ·rw [if_pos rfl,if_neg a'] at e'
    exact absurd e'.symm (hfar y b' c')
  ·rcases cas y hyl hpy with⟨rfl,_⟩|⟨a',b',c',_⟩
   ·rw [if_pos rfl,if_neg a] at e'
    exact absurd e' (hfar x b c)
   ·rw [if_neg a,if_neg a'] at e'
    exact h.inj x y b b' c c' e'
 ·rcases cas x hxl hpw with⟨rfl,d⟩|⟨a,b,c,d⟩
  ·rw [if_pos rfl,hset,if_neg (by omega),d];exact hv
  ·rw [if_neg a,hset,if_neg (by have:=hlow x b c;omega),d];exact h.value x b c
 ·rcases cas x hxl hpw with⟨rfl,d⟩|⟨a,b,c,d⟩
  ·rw [if_pos rfl]
   refine⟨m,by unfold updT;rw [if_pos rfl],by rw [d];exact hm,by rw [d,hr];omega,λi hi=>?_⟩
   rw [hset,if_neg (by omega)]
   exact(hview i hi).keep hx hrr hmT
  ·rw [if_neg a]
   obtain⟨m',v1,v2,v3,v4⟩:=h.view x b c
   have hne:¬ ((rho x:Nat):Int)=(r:Int):=λe=>hfar x b c (by omega)
   refine⟨m',by unfold updT;rw [if_neg hne];exact v1,by rw [d];exact v2,by rw [d];exact v3,λi hi=>?_⟩
   rw [hset,if_neg (by have:=hlow x b c;omega)]
   exact(v4 i hi).keep hx hrr (by have:=(hg.ev.tick x b).2.2.2;omega)
 ·rcases cas x hxl hpx with⟨rfl,d⟩|⟨a,b,c,d⟩
  ·rcases cas y hyl hpy with⟨rfl,d'⟩|⟨a',b',c',d'⟩
   ·rw [d] at hlt;omega
   ·rw [d,d',hr] at hlt
    have:=(hg.ev.tick y b').2.2.2
    omega
  ·rcases cas y hyl hpy with⟨rfl,d'⟩|⟨a',b',c',d'⟩
   ·rw [d,d'] at htt ⊢
    exact hseq x b c htt
   ·rw [d,d'] at htt hlt ⊢
    exact h.seq x y b b' c c' htt hlt
end
end Go.Proofs.Ytlepjmnhekeofaa
