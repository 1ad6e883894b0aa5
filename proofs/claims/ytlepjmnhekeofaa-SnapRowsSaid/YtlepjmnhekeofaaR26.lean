/- Layer 15: what every play of a snapshot keeps: what stays, whatever turn is made. -/
import Derived.Test.YtlepjmnhekeofaaR25
set_option maxRecDepth 100000
set_option linter.unusedVariables false
set_option linter.unusedSimpArgs false
set_option linter.unnecessarySimpa false
namespace Go.Proofs.Ytlepjmnhekeofaa
section
open Go.RowKit
section
variable {S:Sys} {calls:List CallD} {prt val:CallD->Nat} {rho rho':Nat->Nat} {st:PlayD S} {q j:Nat} {evs':List EvD} {e1:EvD}
theorem CellAt.keep {i T c:Nat} (h:CellAt calls prt rho st.evs i T c) (hx:Next calls st q evs' j e1) (hr:e1.resp=0∨e1.resp=st.wd.now+1) (hT:T<=st.wd.now) (hrho:∀ x,x<st.evs.length->piW calls (evAt st.evs x)->rho' x=rho x):CellAt calls prt rho' evs' i T c:=by
 obtain⟨oj,h1,h2⟩:=h
 refine⟨oj,h1.keep hx hr hT,h2.trans ?_⟩
 match oj,h1 with
 | none,_=>rfl
 | some y,h1=>exact(hrho y h1.1 h1.2.1).symm
theorem ValAt.keep {i T v:Nat} (h:ValAt calls prt val st.evs i T v) (hx:Next calls st q evs' j e1) (hr:e1.resp=0∨e1.resp=st.wd.now+1) (hT:T<=st.wd.now):ValAt calls prt val evs' i T v:=by
 obtain⟨oj,h1,h2⟩:=h
 refine⟨oj,h1.keep hx hr hT,h2.trans ?_⟩
 match oj,h1 with
 | none,_=>rfl
 | some y,h1=>
  show val (calls.getD (evAt st.evs y).call d0)=val (calls.getD (evAt evs' y).call d0)
  rw [h1.old hx]
theorem Next.piw {x:Nat} (hx:Next calls st q evs' j e1) (hx1:x<st.evs.length) (hw:piW calls (evAt st.evs x)):x<evs'.length/\x≠j/\evAt evs' x=evAt st.evs x:=by
 have hxj:x≠j:=λe=>hw.2.2.2 (hx.old (by omega) ▸ (by rw [e]))
 exact⟨Nat.lt_of_lt_of_le hx1 hx.size,hxj,(hx.other x (Nat.lt_of_lt_of_le hx1 hx.size) hxj).2⟩
theorem ScOk.keep {n p I N:Nat} {s:ScD} {traces traces':Int->List Int} (h:ScOk n calls prt val rho st.evs traces st.wd.now p I N s) (hx:Next calls st q evs' j e1) (hr:e1.resp=0∨e1.resp=st.wd.now+1) (hrho:∀ x,x<st.evs.length->piW calls (evAt st.evs x)->rho' x=rho x) (htr:∀ x,x<st.evs.length->piW calls (evAt st.evs x)->traces' (rho x:Int)=traces (rho x:Int)) :
  ScOk n calls prt val rho' evs' traces' (st.wd.now+1) p I N s:=by
 obtain⟨h1,h2,h3,hz,hit,hown,hdn,hb⟩:=h
 refine⟨h1,h2,h3,hz,by omega,hown,hdn,?_⟩
 rcases hb with⟨hpc,c⟩|⟨hpc,c⟩|⟨hpc,c⟩|⟨hpc,c⟩
 ·refine .inl ⟨hpc,⟨c.at_,c.nil,c.steps,c.few,λi hi=>?_,λhr1=>?_,λhr1 i hi=>?_,c.first⟩⟩
  ·obtain⟨a,a1,a2,a3,a4⟩:=c.cur i hi
   exact⟨a,a1,by omega,a3,a4.keep hx hr a2 hrho⟩
  ·have:=c.last hr1;omega
  ·obtain⟨a,a1,a2,a3,a4⟩:=c.prev hr1 i hi
   have:=(c.last hr1).2
   refine⟨a,a1,a2,a3.keep hx hr (by omega) hrho,λhd=>?_⟩
   obtain⟨jj,k1,k2⟩:=a4 hd
   exact⟨jj,k1.keep hx hr (by omega),by rw [k1.old hx];exact k2⟩
 ·obtain⟨m,m1,m2,m3,m4,m5⟩:=c.mom
  refine .inr (.inl ⟨hpc,⟨c.at_,c.pos,c.len,c.steps,m,m1,m2,by omega,λi hi=>?_,λi hi=>(m5 i hi).keep hx hr m3⟩⟩)
  obtain⟨oj,o1,o2⟩:=m4 i hi
  exact CellAt.keep (rho':=rho') ⟨oj,o1,o2⟩ hx hr m3 hrho
 ·obtain⟨m,m1,m2,m3,m5⟩:=c.mom
  obtain⟨jj,j1,j2,j3⟩:=c.ref
  obtain⟨p1,p2,p3⟩:=hx.piw j1 j2
  refine .inr (.inr (.inl ⟨hpc,⟨c.at_,c.len,c.steps,⟨jj,p1,by rw [p3];exact j2,by rw [hrho jj j1 j2];exact j3⟩,?_,m,m1,m2,by omega,λi hi=>(m5 i hi).keep hx hr m3⟩⟩))
  have:=c.tr
  rw [j3] at this ⊢
  rw [htr jj j1 j2];exact this
 ·obtain⟨m,m1,m2,m3,m5⟩:=c.mom
  exact .inr (.inr (.inr ⟨hpc,⟨c.len,c.steps,m,m1,m2,by omega,λi hi=>(m5 i hi).keep hx hr m3⟩⟩))
theorem RecOk.keep {n:Nat} {ws ws':List Nat} {traces traces':Int->List Int} (hg:StGood calls st) (h:RecOk n calls prt val rho st.evs ws traces st.wd.now) (hx:Next calls st q evs' j e1) (hr:e1.resp=0∨e1.resp=st.wd.now+1) (hw:¬ piW calls e1) (hl:ws'.length=ws.length) (hc:∀ i,i<n->ws'.getD i 0=ws.getD i 0)
  (hrec:∀ x,x<st.evs.length->piW calls (evAt st.evs x)->∀ a,a<=n->ws'.getD (rho x+a) 0=ws.getD (rho x+a) 0) (htr:∀ x,x<st.evs.length->piW calls (evAt st.evs x)->traces' (rho x:Int)=traces (rho x:Int)):RecOk n calls prt val rho evs' ws' traces' (st.wd.now+1):=by
 have old:∀ x,x<evs'.length->piW calls (evAt evs' x)->x<st.evs.length/\piW calls (evAt st.evs x)/\evAt evs' x=evAt st.evs x:=λx hxl hp=>by
  have hxj:x≠j:=λe=>by subst e;rw [hx.self] at hp;exact hw hp
  obtain⟨a,b⟩:=hx.other x hxl hxj
  exact⟨a,by rw [<-b];exact hp,b⟩
 refine⟨λi hi=>?_,by rw [hl];exact h.nw,λx hxl hp=>?_,λx y hxl hyl hp hp' e=>?_,λx hxl hp=>?_,λx hxl hp=>?_,λx y hxl hyl hp hp' ht hlt=>?_,hx.respApart hg h.apart hr⟩
 ·rw [hc i hi]
  obtain⟨oj,o1,o2⟩:=h.cell i hi
  exact⟨oj,o1.up hg hx (λhp=>absurd hp hw),o2⟩
 ·obtain⟨a,b,_⟩:=old x hxl hp
  rw [hl];exact h.pos x a b
 ·obtain⟨a,b,_⟩:=old x hxl hp
  obtain⟨a',b',_⟩:=old y hyl hp'
  exact h.inj x y a a' b b' e
 ·obtain⟨a,b,c⟩:=old x hxl hp
  have:=hrec x a b 0 (Nat.zero_le _)
  rw [Nat.add_zero] at this
  rw [this,c];exact h.value x a b
 ·obtain⟨a,b,c⟩:=old x hxl hp
  obtain⟨m,v1,v2,v3,v4⟩:=h.view x a b
  refine⟨m,by rw [htr x a b];exact v1,by rw [c];exact v2,by rw [c];exact v3,λi hi=>?_⟩
  have:=hrec x a b (1+i) (by omega)
  rw [<-Nat.add_assoc] at this
  rw [this]
  exact(v4 i hi).keep hx hr (by have:=(hg.ev.tick x a).2.2.2;omega)
 ·obtain⟨a,b,c⟩:=old x hxl hp
  obtain⟨a',b',c'⟩:=old y hyl hp'
  rw [c,c'] at ht hlt ⊢
  exact h.seq x y a a' b b' ht hlt
theorem RecOk.new {n r t m:Nat} {ws ws':List Nat} {traces:Int->List Int} (hg:StGood calls st) (h:RecOk n calls prt val rho st.evs ws traces st.wd.now) (hx:Next calls st q evs' j e1) (hw:piW calls e1) (hr:e1.resp=st.wd.now+1) (hp:prt (calls.getD e1.call d0)=t) (ht:t<n) (hws:ws'=ws.set t r) (hrl:r+n<ws.length) (hrn:n<=r) (hr0:0<r)
  (hfar:∀ x,x<st.evs.length->piW calls (evAt st.evs x)->rho x≠r) (hlow:∀ x,x<st.evs.length->piW calls (evAt st.evs x)->n<=rho x)
  (hv:ws.getD r 0=val (calls.getD e1.call d0)) (hm:e1.inv<=m) (hmT:m<=st.wd.now) (hview:∀ i,i<n->ValAt calls prt val st.evs i m (ws.getD (r+1+i) 0)) (hseq:∀ x,x<st.evs.length->piW calls (evAt st.evs x)->tn calls (evAt st.evs x)=tn calls e1->(evAt st.evs x).resp<e1.inv) :
  RecOk n calls prt val (λx=>if x=j then r else rho x) evs' ws' (updT traces (r:Int) [(m:Int)]) (st.wd.now+1):=by
 have hrr:e1.resp=0∨e1.resp=st.wd.now+1:=.inr hr
 have cas:∀ x,x<evs'.length->piW calls (evAt evs' x)->(x=j/\evAt evs' x=e1)∨(x≠j/\x<st.evs.length/\piW calls (evAt st.evs x)/\evAt evs' x=evAt st.evs x):=λx hxl hp=>by
  by_cases hxj:x=j
  ·exact .inl ⟨hxj,by rw [hxj];exact hx.self⟩
  ·obtain⟨a,b⟩:=hx.other x hxl hxj
   exact .inr ⟨hxj,a,by rw [<-b];exact hp,b⟩
 have hrho:∀ x,x<st.evs.length->piW calls (evAt st.evs x)->(if x=j then r else rho x)=rho x:=λx hx1 hp=>if_neg (hx.piw hx1 hp).2.1
 have htl:t<ws.length:=by omega
 have hset:∀ a,ws'.getD a 0=if a=t then r else ws.getD a 0:=λa=>by rw [hws];exact getD_set_if' _ _ _ _ htl
 refine⟨λi hi=>?_,by rw [hws,List.length_set];exact h.nw,λx hxl hpw=>?_,λx y hxl hyl hpx hpy e=>?_,λx hxl hpw=>?_,λx hxl hpw=>?_,λx y hxl hyl hpx hpy htt hlt=>?_,hx.respApart hg h.apart hrr⟩
 ·rw [hset]
  by_cases e:i=t
  ·rw [if_pos e]
   exact⟨some j,LastAt.new hg hx hw (by rw [e];exact hp) hr,(if_pos rfl:(if j=j then r else rho j)=r).symm⟩
  ·rw [if_neg e]
   obtain⟨oj,o1,o2⟩:=h.cell i hi
   refine⟨oj,o1.up hg hx (λ_ hp'=>e (hp'.symm.trans hp)),o2.trans ?_⟩
   match oj,o1 with
   | none,_=>rfl
   | some y,o1=>exact(hrho y o1.1 o1.2.1).symm
 ·have hl':ws'.length=ws.length:=by rw [hws,List.length_set]
  rw [hl']
  rcases cas x hxl hpw with⟨rfl,_⟩|⟨a,b,c,_⟩
  ·rw [if_pos rfl];exact⟨hr0,hrl⟩
  ·rw [if_neg a];exact h.pos x b c
 ·have e':(if x=j then r else rho x)=(if y=j then r else rho y):=e
  rcases cas x hxl hpx with⟨rfl,_⟩|⟨a,b,c,_⟩
  ·rcases cas y hyl hpy with⟨rfl,_⟩|⟨a',b',c',_⟩
   ·rfl
   ·rw [if_pos rfl,if_neg a'] at e'
    exact absurd e'.symm (hfar y b' c')
  ·rcases cas y hyl hpy with⟨rfl,_⟩|⟨a',b',c',_⟩
   ·rw [if_pos rfl,if_neg a] at e'
    exact absurd e' (hfar x b c)
   ·rw [if_neg a,if_neg a'] at e'
    exact h.inj x y b b' c c' e'
 ·rcases cas x hxl hpw with⟨rfl,d⟩|⟨a,b,c,d⟩
  ·rw [if_pos rfl,hset,if_neg (by omega),d];exact hv
  ·rw [if_neg a,hset,if_neg (by have:=hlow x b c;omega),d];exact h.value x b c
 ·rcases cas x hxl hpw with⟨rfl,d⟩|⟨a,b,c,d⟩
  ·rw [if_pos rfl]
   refine⟨m,by unfold updT;rw [if_pos rfl],by rw [d];exact hm,by rw [d,hr];omega,λi hi=>?_⟩
   rw [hset,if_neg (by omega)]
   exact(hview i hi).keep hx hrr hmT
  ·rw [if_neg a]
   obtain⟨m',v1,v2,v3,v4⟩:=h.view x b c
   have hne:¬ ((rho x:Nat):Int)=(r:Int):=λe=>hfar x b c (by omega)
   refine⟨m',by unfold updT;rw [if_neg hne];exact v1,by rw [d];exact v2,by rw [d];exact v3,λi hi=>?_⟩
   rw [hset,if_neg (by have:=hlow x b c;omega)]
   exact(v4 i hi).keep hx hrr (by have:=(hg.ev.tick x b).2.2.2;omega)
 ·rcases cas x hxl hpx with⟨rfl,d⟩|⟨a,b,c,d⟩
  ·rcases cas y hyl hpy with⟨rfl,d'⟩|⟨a',b',c',d'⟩
   ·rw [d] at hlt;omega
   ·rw [d,d',hr] at hlt
    have:=(hg.ev.tick y b').2.2.2
    omega
  ·rcases cas y hyl hpy with⟨rfl,d'⟩|⟨a',b',c',d'⟩
   ·rw [d,d'] at htt ⊢
    exact hseq x b c htt
   ·rw [d,d'] at htt hlt ⊢
    exact h.seq x y b b' c c' htt hlt
end
end
section

/- Layer 15: what every play of a snapshot keeps: its words, its hands, its answers. -/
open Go.RowKit
variable {n k:Nat} {calls:List CallD}
def prtT (c:CallD):Nat:=c.thread.toNat
def valA (c:CallD):Nat:=c.a
instance piW_dec (calls:List CallD) (e:EvD):Decidable (piW calls e):=by unfold piW;infer_instance
def isU (calls:List CallD) (t:Nat) (e:EvD):Bool:=decide (piW calls e) && decide (tn calls e=t)
def isUT (calls:List CallD) (t T:Nat) (e:EvD):Bool:=isU calls t e && decide (e.resp<T)
def snSz (n k:Nat):Nat:=n+n*k*(n+1)
theorem rec_at (n k t r:Nat):snRecord n k t r=n+(t*k+r)*(n+1):=rfl
theorem rec_hi {t r:Nat} (ht:t<n) (hr:r<k):snRecord n k t r+n<snSz n k:=by
  have h1:(t+1)*k<=n*k:=Nat.mul_le_mul_right k ht
  rw [Nat.succ_mul] at h1
  have h2:(t*k+r+1)*(n+1)<=n*k*(n+1):=Nat.mul_le_mul_right (n+1) (by omega)
  rw [Nat.succ_mul] at h2
  unfold snSz
  rw [rec_at]
  omega
theorem rec_inj {t r t' r' a a':Nat} (hr:r<k) (hr':r'<k) (ha:a<=n) (ha':a'<=n) (h:snRecord n k t r+a=snRecord n k t' r'+a'):t=t'/\r=r'/\a=a':=by
  rw [rec_at,rec_at] at h
  have h1:(t*k+r)*(n+1)+a=(t'*k+r')*(n+1)+a':=by omega
  have e1:((t*k+r)*(n+1)+a) / (n+1)=t*k+r:=by
    rw [Nat.mul_comm,Nat.mul_add_div (Nat.succ_pos n),Nat.div_eq_of_lt (by omega),Nat.add_zero]
  have e2:((t'*k+r')*(n+1)+a') / (n+1)=t'*k+r':=by
    rw [Nat.mul_comm,Nat.mul_add_div (Nat.succ_pos n),Nat.div_eq_of_lt (by omega),Nat.add_zero]
  have e3:t*k+r=t'*k+r':=by rw [<-e1,<-e2,h1]
  have hk:0<k:=by omega
  have f1:(t*k+r) / k=t:=by rw [Nat.mul_comm,Nat.mul_add_div hk,Nat.div_eq_of_lt hr,Nat.add_zero]
  have f2:(t'*k+r') / k=t':=by rw [Nat.mul_comm,Nat.mul_add_div hk,Nat.div_eq_of_lt hr',Nat.add_zero]
  have e4:t=t':=by rw [<-f1,<-f2,e3]
  subst e4
  have e5:r=r':=by omega
  subst e5
  exact⟨rfl,rfl,by omega⟩
def SnHand (n k:Nat) (calls:List CallD) (rho:Nat->Nat) (evs:List EvD) (ws:List Nat) (traces:Int->List Int) (T:Nat) (o:List Nat) (p:Nat) (e:EvD):SnS->Prop
  | .rd s key=>kindOf calls e=1/\key=[]/\s.pc≠3/\ScOk n calls prtT valA rho evs traces T p e.inv e.steps s
  | .up s p' r nx v sc=>kindOf calls e=0/\p'=p/\v=(calls.getD e.call d0).a/\o.getD p 0<k/\r=snRecord n k p (o.getD p 0)/\
    ((sc=false/\nx=0/\s.pc≠3/\ScOk n calls prtT valA rho evs traces T p e.inv e.steps s)∨
     (sc=true/\s.pc=3/\nx<=n+1/\(∃ N,ScOk n calls prtT valA rho evs traces T p e.inv N s/\e.steps=N+nx)/\(1<=nx->ws.getD r 0=v)/\∀ i,i+1<nx->ws.getD (r+1+i) 0=s.list.getD i 0))
structure SnTold (n k:Nat) (calls:List CallD) (evs:List EvD) (e:EvD):Prop where
  rd:objOf calls e=0->kindOf calls e=1->∃ m:Nat,e.ans.err=0/\e.ans.val=0/\e.ans.list.length=n/\e.key=[2*(m:Int),2*(e.resp:Int)]/\e.inv<=m/\m<=e.resp/\∀ i,i<n->ValAt calls prtT valA evs i m (e.ans.list.getD i 0)
  up:objOf calls e=0->kindOf calls e=0->(e.ans=⟨0,0,[]⟩/\cnt (isUT calls (tn calls e) e.resp) evs<k)∨(e.ans=⟨6,0,[]⟩/\k<=cnt (isUT calls (tn calls e) e.resp) evs)
  el:¬ (objOf calls e=0/\kindOf calls e=1)->e.key=[2*(e.resp:Int)]/\(¬ (objOf calls e=0/\kindOf calls e=0)->e.ans=(if objOf calls e≠0 then ⟨12,0,[]⟩ else ⟨9,0,[]⟩))
  st:e.steps<=(n+1)*n+n+n+2/\(kindOf calls e=1->e.steps<=(n+1)*n+n)
structure SnInv (n k:Nat) (calls:List CallD) (st:PlayD (snapS n k)) (rho:Nat->Nat):Prop where
  marks:st.wd.marks=List.replicate 16 []
  cf:st.wd.mem.c.fault=0
  ca:st.wd.mem.c.all<=st.wd.now
  wl:st.wd.mem.ws.length=snSz n k
  u16:List.length (α:=Nat) st.obj=16
  uk:∀ t,List.getD (α:=Nat) st.obj t 0<=k
  uc:∀ t,t<n->List.getD (α:=Nat) st.obj t 0=cnt (isU calls t) st.evs
  rc:RecOk n calls prtT valA rho st.evs st.wd.mem.ws st.wd.traces st.wd.now
  rcd:∀ x,x<st.evs.length->piW calls (evAt st.evs x)->∃ r,r<List.getD (α:=Nat) st.obj (tn calls (evAt st.evs x)) 0/\rho x=snRecord n k (tn calls (evAt st.evs x)) r
  hand:∀ p s j,st.hands.getD p (none,0)=(some s,j)->objOf calls (evAt st.evs j)=0/\SnHand n k calls rho st.evs st.wd.mem.ws st.wd.traces st.wd.now st.obj p (evAt st.evs j) s
  told:∀ j,j<st.evs.length->(evAt st.evs j).resp≠0->SnTold n k calls st.evs (evAt st.evs j)
section
variable {st st':PlayD (snapS n k)} {q j:Nat} {evs':List EvD} {e1 e:EvD} {rho rho':Nat->Nat}
theorem isUT_new {t T:Nat} (h:e1.resp=0∨e1.resp=st.wd.now+1) (hT:T<=st.wd.now+1):isUT calls t T e1=false:=by
  unfold isUT isU
  rcases h with h|h
  · have:¬ piW calls e1:=λhp=>hp.2.2.2 h
    rw [decide_eq_false this];rfl
  · rw [decide_eq_false (show ¬ e1.resp<T by omega),Bool.and_false]
theorem isUT_open {t T:Nat}:∀ e:EvD,e.resp=0->isUT calls t T e=false:=λe h=>by
  unfold isUT isU
  rw [decide_eq_false (show ¬ piW calls e from λhp=>hp.2.2.2 h)];rfl
theorem isU_open {t:Nat}:∀ e:EvD,e.resp=0->isU calls t e=false:=λe h=>by
  unfold isU
  rw [decide_eq_false (show ¬ piW calls e from λhp=>hp.2.2.2 h)];rfl
theorem cntU_keep {t T:Nat} (hx:Next calls st q evs' j e1) (hr:e1.resp=0∨e1.resp=st.wd.now+1) (hT:T<=st.wd.now+1):cnt (isUT calls t T) evs'=cnt (isUT calls t T) st.evs:=by
  rw [hx.cnt isUT_open,isUT_new hr hT];simp
theorem cntU_now {t:Nat} (hg:StGood calls st):cnt (isUT calls t (st.wd.now+1)) st.evs=cnt (isU calls t) st.evs:=cnt_congr λi hi=>by
  unfold isUT
  rw [decide_eq_true (show(evAt st.evs i).resp<st.wd.now+1 by have:=(hg.ev.tick i hi).2.2.2;omega),Bool.and_true]
theorem SnTold.keep (h:SnTold n k calls st.evs e) (hx:Next calls st q evs' j e1) (hr:e1.resp=0∨e1.resp=st.wd.now+1) (hT:e.resp<=st.wd.now):SnTold n k calls evs' e:=by
  refine⟨λh0 h1=>?_,λh0 h1=>?_,h.el,h.st⟩
  · obtain⟨m,a1,a2,a3,a4,a5,a6,a7⟩:=h.rd h0 h1
    exact⟨m,a1,a2,a3,a4,a5,a6,λi hi=>(a7 i hi).keep hx hr (by omega)⟩
  · rw [cntU_keep hx hr (by omega)];exact h.up h0 h1
theorem SnHand.keep {p:Nat} {ws ws':List Nat} {traces traces':Int->List Int} {o o':List Nat} {s:SnS} (h:SnHand n k calls rho st.evs ws traces st.wd.now o p e s) (hx:Next calls st q evs' j e1) (hr:e1.resp=0∨e1.resp=st.wd.now+1) (hrho:∀ x,x<st.evs.length->piW calls (evAt st.evs x)->rho' x=rho x) (htr:∀ x,x<st.evs.length->piW calls (evAt st.evs x)->traces' (rho x:Int)=traces (rho x:Int))
    (ho:o'.getD p 0=o.getD p 0) (hw:o.getD p 0<k->∀ a,a<=n->ws'.getD (snRecord n k p (o.getD p 0)+a) 0=ws.getD (snRecord n k p (o.getD p 0)+a) 0):SnHand n k calls rho' evs' ws' traces' (st.wd.now+1) o' p e s:=by
  match s,h with
  | .rd s key,⟨h1,h2,h3,h4⟩=>exact⟨h1,h2,h3,h4.keep hx hr hrho htr⟩
  | .up s p' r nx v sc,⟨h1,h2,h3,h4,h5,h6⟩=>
    refine⟨h1,h2,h3,by rw [ho];exact h4,by rw [ho];exact h5,?_⟩
    rcases h6 with⟨g1,g2,g3,g4⟩|⟨g1,g2,g3,⟨N,g4,g5⟩,g6,g7⟩
    · exact .inl ⟨g1,g2,g3,g4.keep hx hr hrho htr⟩
    · refine .inr ⟨g1,g2,g3,⟨N,g4.keep hx hr hrho htr,g5⟩,λh9=>?_,λi hi=>?_⟩
      · have:=hw h4 0 (Nat.zero_le _)
        rw [h5];rw [Nat.add_zero] at this;rw [this,<-h5];exact g6 h9
      · have:=hw h4 (1+i) (by omega)
        rw [<-Nat.add_assoc] at this
        rw [h5,this,<-h5];exact g7 i hi
theorem sn_rest {x:Option (snapS n k).σ×Nat} (hg:StGood calls st) (h:SnInv n k calls st rho) (hq:q<16) (hthr:∀ c,c<calls.length->0<=(calls.getD c d0).thread/\(calls.getD c d0).thread<n) (hx:Next calls st q st'.evs j e1) (hh:st'.hands=st.hands.set q x) (hr:e1.resp=0∨e1.resp=st.wd.now+1) (hnow:st'.wd.now=st.wd.now+1)
    (hm:st'.wd.marks=List.replicate 16 []) (hcf:st'.wd.mem.c.fault=0) (hca:st'.wd.mem.c.all<=st.wd.mem.c.all+1) (hwl:st'.wd.mem.ws.length=snSz n k) (hu:List.length (α:=Nat) st'.obj=16) (huk:∀ t,List.getD (α:=Nat) st'.obj t 0<=k) (huc:∀ t,t<n->List.getD (α:=Nat) st'.obj t 0=cnt (isU calls t) st'.evs)
    (hR:RecOk n calls prtT valA rho' st'.evs st'.wd.mem.ws st'.wd.traces (st.wd.now+1)) (hrec:∀ x,x<st'.evs.length->piW calls (evAt st'.evs x)->∃ r,r<List.getD (α:=Nat) st'.obj (tn calls (evAt st'.evs x)) 0/\rho' x=snRecord n k (tn calls (evAt st'.evs x)) r)
    (hrho:∀ x,x<st.evs.length->piW calls (evAt st.evs x)->rho' x=rho x) (htr:∀ x,x<st.evs.length->piW calls (evAt st.evs x)->st'.wd.traces (rho x:Int)=st.wd.traces (rho x:Int))
    (ho:∀ p,p≠q->List.getD (α:=Nat) st'.obj p 0=List.getD (α:=Nat) st.obj p 0) (hw:∀ p,p≠q->p<n->List.getD (α:=Nat) st.obj p 0<k->∀ a,a<=n->st'.wd.mem.ws.getD (snRecord n k p (List.getD (α:=Nat) st.obj p 0)+a) 0=st.wd.mem.ws.getD (snRecord n k p (List.getD (α:=Nat) st.obj p 0)+a) 0)
    (hS:∀ s i,x=(some s,i)->i=j/\objOf calls e1=0/\SnHand n k calls rho' st'.evs st'.wd.mem.ws st'.wd.traces (st.wd.now+1) st'.obj q e1 s)
    (hD:e1.resp≠0->SnTold n k calls st'.evs e1):SnInv n k calls st' rho':=by
  refine⟨hm,hcf,by rw [hnow];have:=h.ca;omega,hwl,hu,huk,huc,by rw [hnow];exact hR,hrec,λp s i hp=>?_,λi hi hri=>?_⟩
  · rw [hnow]
    rw [hh,hands_set hg.h16 hq] at hp
    split at hp
    · rename_i hpq
      obtain⟨g0,g1,g2⟩:=hS s i hp
      rw [g0,hx.self,hpq]
      exact⟨g1,g2⟩
    · rename_i hpq
      obtain⟨a1,a2⟩:=hx.apart p _ i hpq hp
      have e:=(hx.other i (Nat.lt_of_lt_of_le a2 hx.size) a1).2
      obtain⟨g1,g2⟩:=h.hand p s i hp
      obtain⟨b1,b2,b3,b4⟩:=hg.ev.hand p i (by unfold hndOf;rw [hp];rfl)
      have hpn:p<n:=by
        have h5:=hthr _ (hg.ev.call i b1)
        unfold tn at b2;omega
      rw [e]
      exact⟨g1,g2.keep hx hr hrho htr (ho p hpq) (λhu=>hw p hpq hpn hu)⟩
  · by_cases hij:i=j
    · subst hij
      rw [hx.self] at hri ⊢
      exact hD hri
    · obtain⟨a1,e⟩:=hx.other i hi hij
      rw [e] at hri ⊢
      exact(h.told i a1 hri).keep hx hr (hg.ev.tick i a1).2.2.2
end
end
end Go.Proofs.Ytlepjmnhekeofaa
