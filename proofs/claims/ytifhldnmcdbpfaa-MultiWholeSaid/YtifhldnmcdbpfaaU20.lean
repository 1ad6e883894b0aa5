/- Layer 15: what every play of a snapshot keeps: its words, its hands, its answers. -/
import Derived.Test.YtifhldnmcdbpfaaU18
import Derived.Test.YtifhldnmcdbpfaaU19
set_option maxRecDepth 100000
set_option linter.unusedVariables false
set_option linter.unusedSimpArgs false
set_option linter.unnecessarySimpa false
namespace Go.Proofs.Ytifhldnmcdbpfaa
section
open Go.RowKit
variable {n k:Nat} {calls:List aF}
def yP (c:aF):Nat:=c.thread.toNat
def gV (c:aF):Nat:=c.a
instance VH (calls:List aF) (e:EvD):Decidable (piW calls e):=by unfold piW;infer_instance
def isU (calls:List aF) (t:Nat) (e:EvD):Bool:=decide (piW calls e) && decide (tn calls e=t)
def kK (calls:List aF) (t T:Nat) (e:EvD):Bool:=isU calls t e && decide (e.resp<T)
def VM (n k:Nat):Nat:=n+n*k*(n+1)
theorem NJ (n k t r:Nat):jG n k t r=n+(t*k+r)*(n+1):=rfl
theorem NV {t r t' r' a a':Nat} (hr:r<k) (hr':r'<k) (ha:a<=n) (ha':a'<=n) (h:jG n k t r+a=jG n k t' r'+a'):t=t'/\r=r'/\a=a':=by
  rw [NJ,NJ] at h
  have h1:(t*k+r)*(n+1)+a=(t'*k+r')*(n+1)+a':=by omega
  have e1:((t*k+r)*(n+1)+a) / (n+1)=t*k+r:=by
    rw [Nat.mul_comm,Nat.mul_add_div (Nat.succ_pos n),Nat.div_eq_of_lt (by omega),Nat.add_zero]
  have e2:((t'*k+r')*(n+1)+a') / (n+1)=t'*k+r':=by
    rw [Nat.mul_comm,Nat.mul_add_div (Nat.succ_pos n),Nat.div_eq_of_lt (by omega),Nat.add_zero]
  have e3:t*k+r=t'*k+r':=by rw [<-e1,<-e2,h1]
  have hk:0<k:=by omega
  have f1:(t*k+r) / k=t:=by rw [Nat.mul_comm,Nat.mul_add_div hk,Nat.div_eq_of_lt hr,Nat.add_zero]
  have f2:(t'*k+r') / k=t':=by rw [Nat.mul_comm,Nat.mul_add_div hk,Nat.div_eq_of_lt hr',Nat.add_zero]
  have e4:t=t':=by rw [<-f1,<-f2,e3]
  subst e4
  have e5:r=r':=by omega
  subst e5
  exact⟨rfl,rfl,by omega⟩
def wO (n k:Nat) (calls:List aF) (rho:Nat->Nat) (evs:List EvD) (ws:List Nat) (traces:Int->List Int) (T:Nat) (o:List Nat) (p:Nat) (e:EvD):SnS->Prop
  | .rd s key=>kindOf calls e=1/\key=[]/\s.pc≠3/\yO n calls yP gV rho evs traces T p e.inv e.steps s
  | .up s p' r nx v sc=>kindOf calls e=0/\p'=p/\v=(calls.getD e.call d0).a/\o.getD p 0<k/\r=jG n k p (o.getD p 0)/\
    ((sc=false/\nx=0/\s.pc≠3/\yO n calls yP gV rho evs traces T p e.inv e.steps s)∨
     (sc=true/\s.pc=3/\nx<=n+1/\(∃ N,yO n calls yP gV rho evs traces T p e.inv N s/\e.steps=N+nx)/\(1<=nx->ws.getD r 0=v)/\∀ i,i+1<nx->ws.getD (r+1+i) 0=s.list.getD i 0))
structure wW (n k:Nat) (calls:List aF) (evs:List EvD) (e:EvD):Prop where
  rd:bY calls e=0->kindOf calls e=1->∃ m:Nat,e.ans.err=0/\e.ans.val=0/\e.ans.list.length=n/\e.key=[2*(m:Int),2*(e.resp:Int)]/\e.inv<=m/\m<=e.resp/\∀ i,i<n->ValAt calls yP gV evs i m (e.ans.list.getD i 0)
  up:bY calls e=0->kindOf calls e=0->(e.ans=⟨0,0,[]⟩/\cnt (kK calls (tn calls e) e.resp) evs<k)∨(e.ans=⟨6,0,[]⟩/\k<=cnt (kK calls (tn calls e) e.resp) evs)
  el:¬ (bY calls e=0/\kindOf calls e=1)->e.key=[2*(e.resp:Int)]/\(¬ (bY calls e=0/\kindOf calls e=0)->e.ans=(if bY calls e≠0 then ⟨12,0,[]⟩ else ⟨9,0,[]⟩))
  st:e.steps<=(n+1)*n+n+n+2/\(kindOf calls e=1->e.steps<=(n+1)*n+n)
structure XC (n k:Nat) (calls:List aF) (st:aP (EE n k)) (rho:Nat->Nat):Prop where
  marks:st.wd.marks=List.replicate 16 []
  cf:st.wd.mem.c.fault=0
  ca:st.wd.mem.c.all<=st.wd.now
  wl:st.wd.mem.ws.length=VM n k
  u16:List.length (α:=Nat) st.obj=16
  uk:∀ t,List.getD (α:=Nat) st.obj t 0<=k
  uc:∀ t,t<n->List.getD (α:=Nat) st.obj t 0=cnt (isU calls t) st.evs
  rc:mE n calls yP gV rho st.evs st.wd.mem.ws st.wd.traces st.wd.now
  rcd:∀ x,x<st.evs.length->piW calls (aB st.evs x)->∃ r,r<List.getD (α:=Nat) st.obj (tn calls (aB st.evs x)) 0/\rho x=jG n k (tn calls (aB st.evs x)) r
  hand:∀ p s j,st.hands.getD p (none,0)=(some s,j)->bY calls (aB st.evs j)=0/\wO n k calls rho st.evs st.wd.mem.ws st.wd.traces st.wd.now st.obj p (aB st.evs j) s
  told:∀ j,j<st.evs.length->(aB st.evs j).resp≠0->wW n k calls st.evs (aB st.evs j)
section
variable {st st':aP (EE n k)} {q j:Nat} {evs':List EvD} {e1 e:EvD} {rho rho':Nat->Nat}
theorem JY {t T:Nat} (h:e1.resp=0∨e1.resp=st.wd.now+1) (hT:T<=st.wd.now+1):kK calls t T e1=false:=by
  unfold kK isU
  rcases h with h|h
  · have:¬ piW calls e1:=λhp=>hp.2.2.2 h
    rw [decide_eq_false this];rfl
  · rw [decide_eq_false (show ¬ e1.resp<T by omega),Bool.and_false]
theorem wG {t T:Nat}:∀ e:EvD,e.resp=0->kK calls t T e=false:=λe h=>by
  unfold kK isU
  rw [decide_eq_false (show ¬ piW calls e from λhp=>hp.2.2.2 h)];rfl
theorem zV {t:Nat}:∀ e:EvD,e.resp=0->isU calls t e=false:=λe h=>by
  unfold isU
  rw [decide_eq_false (show ¬ piW calls e from λhp=>hp.2.2.2 h)];rfl
theorem IB {t T:Nat} (hx:Next calls st q evs' j e1) (hr:e1.resp=0∨e1.resp=st.wd.now+1) (hT:T<=st.wd.now+1):cnt (kK calls t T) evs'=cnt (kK calls t T) st.evs:=by
  rw [hx.cnt wG,JY hr hT];simp
theorem wW.keep (h:wW n k calls st.evs e) (hx:Next calls st q evs' j e1) (hr:e1.resp=0∨e1.resp=st.wd.now+1) (hT:e.resp<=st.wd.now):wW n k calls evs' e:=by
  refine⟨λh0 h1=>?_,λh0 h1=>?_,h.el,h.st⟩
  · obtain⟨m,a1,a2,a3,a4,a5,a6,a7⟩:=h.rd h0 h1
    exact⟨m,a1,a2,a3,a4,a5,a6,λi hi=>(a7 i hi).keep hx hr (by omega)⟩
  · rw [IB hx hr (by omega)];exact h.up h0 h1
theorem wO.keep {p:Nat} {ws ws':List Nat} {traces traces':Int->List Int} {o o':List Nat} {s:SnS} (h:wO n k calls rho st.evs ws traces st.wd.now o p e s) (hx:Next calls st q evs' j e1) (hr:e1.resp=0∨e1.resp=st.wd.now+1) (hrho:∀ x,x<st.evs.length->piW calls (aB st.evs x)->rho' x=rho x) (htr:∀ x,x<st.evs.length->piW calls (aB st.evs x)->traces' (rho x:Int)=traces (rho x:Int))
    (ho:o'.getD p 0=o.getD p 0) (hw:o.getD p 0<k->∀ a,a<=n->ws'.getD (jG n k p (o.getD p 0)+a) 0=ws.getD (jG n k p (o.getD p 0)+a) 0):wO n k calls rho' evs' ws' traces' (st.wd.now+1) o' p e s:=by
  match s,h with
  | .rd s key,⟨h1,h2,h3,h4⟩=>exact⟨h1,h2,h3,h4.keep hx hr hrho htr⟩
  | .up s p' r nx v sc,⟨h1,h2,h3,h4,h5,h6⟩=>
    refine⟨h1,h2,h3,by rw [ho];exact h4,by rw [ho];exact h5,?_⟩
    rcases h6 with⟨g1,g2,g3,g4⟩|⟨g1,g2,g3,⟨N,g4,g5⟩,g6,g7⟩
    · exact .inl ⟨g1,g2,g3,g4.keep hx hr hrho htr⟩
    · refine .inr ⟨g1,g2,g3,⟨N,g4.keep hx hr hrho htr,g5⟩,λh9=>?_,λi hi=>?_⟩
      · have:=hw h4 0 (Nat.zero_le _)
        rw [h5];rw [Nat.add_zero] at this;rw [this,<-h5];exact g6 h9
      · have:=hw h4 (1+i) (by omega)
        rw [<-Nat.add_assoc] at this
        rw [h5,this,<-h5];exact g7 i hi
end
end
section
open Go.RowKit
variable {n m q:Nat} {calls:List aF}
def iZ (c:aF):Nat:=c.b
def CY (n m q:Nat):Nat:=m+n*q*(m+1)
theorem iK (m q t r:Nat):bI m q t r=m+(t*q+r)*(m+1):=rfl
theorem uL {t r:Nat} (ht:t<n) (hr:r<q):bI m q t r+m<CY n m q:=by
  have h1:(t+1)*q<=n*q:=Nat.mul_le_mul_right q ht
  rw [Nat.succ_mul] at h1
  have h2:(t*q+r+1)*(m+1)<=n*q*(m+1):=Nat.mul_le_mul_right (m+1) (by omega)
  rw [Nat.succ_mul] at h2
  unfold CY
  rw [iK]
  omega
theorem qK {t r t' r' a a':Nat} (hr:r<q) (hr':r'<q) (ha:a<=m) (ha':a'<=m) (h:bI m q t r+a=bI m q t' r'+a'):t=t'/\r=r'/\a=a':=NV (n:=m) (k:=q) hr hr' ha ha' h
theorem xL {t r:Nat} (hr:r<q):aX m q (bI m q t r)=t:=by
  unfold aX
  rw [iK,Nat.add_sub_cancel_left,Nat.mul_comm (t*q+r) (m+1),Nat.mul_div_mul_left _ _ (Nat.succ_pos m),Nat.mul_comm t q,Nat.mul_add_div (by omega),Nat.div_eq_of_lt hr,Nat.add_zero]
theorem BA {t r r':Nat} (h:r<r'):bI m q t r<bI m q t r':=by
  rw [iK,iK]
  have:(t*q+r)*(m+1)<(t*q+r')*(m+1):=Nat.mul_lt_mul_of_pos_right (by omega) (Nat.succ_pos m)
  omega
def mV (n m q:Nat) (calls:List aF) (rho:Nat->Nat) (evs:List EvD) (ws:List Nat) (T:Nat) (o:List Nat) (p:Nat) (e:EvD):MuS->Prop
  | .rd s key=>kindOf calls e=1/\key=[]/\aS s=false/\kS n m calls gV iZ rho evs ws T p e.inv e.steps s
  | .up s p' a r i v wr=>kindOf calls e=0/\p'=p/\a=(calls.getD e.call d0).a/\a<m/\v=(calls.getD e.call d0).b/\o.getD p 0<q/\r=bI m q p (o.getD p 0)/\
    ((wr=false/\i=0/\aS s=false/\kS n m calls gV iZ rho evs ws T p e.inv e.steps s)∨
     (wr=true/\aS s=true/\i<=m+1/\(∃ N,kS n m calls gV iZ rho evs ws T p e.inv N s/\e.steps=N+i)/\(1<=i->ws.getD r 0=v)/\∀ b,b+1<i->ws.getD (r+1+b) 0=s.list.getD b 0))
structure uO (n m q:Nat) (calls:List aF) (evs:List EvD) (e:EvD):Prop where
  rd:bY calls e=0->kindOf calls e=1->∃ mm:Nat,e.ans.err=0/\e.ans.val=0/\e.ans.list.length=m/\e.key=[2*(mm:Int),2*(e.resp:Int)]/\e.inv<=mm/\mm<=e.resp/\∀ i,i<m->ValAt calls gV iZ evs i mm (e.ans.list.getD i 0)
  up:bY calls e=0->kindOf calls e=0->(e.ans=⟨0,0,[]⟩/\(calls.getD e.call d0).a<m/\cnt (kK calls (tn calls e) e.resp) evs<q)∨(e.ans=⟨10,0,[]⟩/\m<=(calls.getD e.call d0).a)∨(e.ans=⟨6,0,[]⟩/\(calls.getD e.call d0).a<m/\q<=cnt (kK calls (tn calls e) e.resp) evs)
  el:¬ (bY calls e=0/\kindOf calls e=1)->e.key=[2*(e.resp:Int)]/\(¬ (bY calls e=0/\kindOf calls e=0)->e.ans=(if bY calls e≠0 then ⟨12,0,[]⟩ else ⟨9,0,[]⟩))
  st:e.steps<=(n+1)*m+m+m+2/\(kindOf calls e=1->e.steps<=(n+1)*m+m)
structure MuInv (n m q:Nat) (calls:List aF) (st:aP (aR n m q)) (rho:Nat->Nat):Prop where
  marks:st.wd.marks=List.replicate 16 []
  cf:st.wd.mem.c.fault=0
  ca:st.wd.mem.c.all<=st.wd.now
  wl:st.wd.mem.ws.length=CY n m q
  u16:List.length (α:=Nat) st.obj=16
  uk:∀ t,List.getD (α:=Nat) st.obj t 0<=q
  uc:∀ t,t<n->List.getD (α:=Nat) st.obj t 0=cnt (isU calls t) st.evs
  rc:mE m calls gV iZ rho st.evs st.wd.mem.ws st.wd.traces st.wd.now
  rcd:∀ x,x<st.evs.length->piW calls (aB st.evs x)->∃ r,r<List.getD (α:=Nat) st.obj (tn calls (aB st.evs x)) 0/\rho x=bI m q (tn calls (aB st.evs x)) r
  ord:∀ x y,x<st.evs.length->y<st.evs.length->piW calls (aB st.evs x)->piW calls (aB st.evs y)->tn calls (aB st.evs x)=tn calls (aB st.evs y)->(aB st.evs x).resp<(aB st.evs y).resp->rho x<rho y
  hand:∀ p s j,st.hands.getD p (none,0)=(some s,j)->bY calls (aB st.evs j)=0/\mV n m q calls rho st.evs st.wd.mem.ws st.wd.now st.obj p (aB st.evs j) s
  told:∀ j,j<st.evs.length->(aB st.evs j).resp≠0->uO n m q calls st.evs (aB st.evs j)
section
variable {S:Sys} {st:aP S} {p j:Nat} {evs':List EvD} {e1 e:EvD} {rho rho':Nat->Nat}
theorem ER {t T:Nat} (h:e1.resp=0∨e1.resp=st.wd.now+1) (hT:T<=st.wd.now+1):kK calls t T e1=false:=by
  unfold kK isU
  rcases h with h|h
  · have:¬ piW calls e1:=λhp=>hp.2.2.2 h
    rw [decide_eq_false this];rfl
  · rw [decide_eq_false (show ¬ e1.resp<T by omega),Bool.and_false]
theorem oK {t T:Nat} (hx:Next calls st p evs' j e1) (hr:e1.resp=0∨e1.resp=st.wd.now+1) (hT:T<=st.wd.now+1):cnt (kK calls t T) evs'=cnt (kK calls t T) st.evs:=by
  rw [hx.cnt wG,ER hr hT];simp
theorem vT {t:Nat} (hg:bH calls st):cnt (kK calls t (st.wd.now+1)) st.evs=cnt (isU calls t) st.evs:=EU λi hi=>by
  unfold kK
  rw [decide_eq_true (show(aB st.evs i).resp<st.wd.now+1 by have:=(hg.ev.tick i hi).2.2.2;omega),Bool.and_true]
theorem uO.keep (h:uO n m q calls st.evs e) (hx:Next calls st p evs' j e1) (hr:e1.resp=0∨e1.resp=st.wd.now+1) (hT:e.resp<=st.wd.now):uO n m q calls evs' e:=by
  refine⟨λh0 h1=>?_,λh0 h1=>?_,h.el,h.st⟩
  · obtain⟨mm,a1,a2,a3,a4,a5,a6,a7⟩:=h.rd h0 h1
    exact⟨mm,a1,a2,a3,a4,a5,a6,λi hi=>(a7 i hi).keep hx hr (by omega)⟩
  · rw [oK hx hr (by omega)];exact h.up h0 h1
theorem mV.keep {p':Nat} {ws ws':List Nat} {o o':List Nat} {s:MuS} (h:mV n m q calls rho st.evs ws st.wd.now o p' e s) (hx:Next calls st p evs' j e1) (hr:e1.resp=0∨e1.resp=st.wd.now+1) (hnj:piW calls e1->0<rho' j/\∀ x,x<st.evs.length->piW calls (aB st.evs x)->rho x≠rho' j) (hrho:∀ x,x<st.evs.length->piW calls (aB st.evs x)->rho' x=rho x) (hws:∀ x,x<st.evs.length->piW calls (aB st.evs x)->∀ a,a<=m->ws'.getD (rho x+a) 0=ws.getD (rho x+a) 0)
    (ho:o'.getD p' 0=o.getD p' 0) (hw:o.getD p' 0<q->∀ a,a<=m->ws'.getD (bI m q p' (o.getD p' 0)+a) 0=ws.getD (bI m q p' (o.getD p' 0)+a) 0):mV n m q calls rho' evs' ws' (st.wd.now+1) o' p' e s:=by
  match s,h with
  | .rd s key,⟨h1,h2,h3,h4⟩=>exact⟨h1,h2,h3,h4.keep hnj hx hr hrho hws⟩
  | .up s p'' a r i v wr,⟨h1,h2,h3,h3a,h3b,h4,h5,h6⟩=>
    refine⟨h1,h2,h3,h3a,h3b,by rw [ho];exact h4,by rw [ho];exact h5,?_⟩
    rcases h6 with⟨g1,g2,g3,g4⟩|⟨g1,g2,g3,⟨N,g4,g5⟩,g6,g7⟩
    · exact .inl ⟨g1,g2,g3,g4.keep hnj hx hr hrho hws⟩
    · refine .inr ⟨g1,g2,g3,⟨N,g4.keep hnj hx hr hrho hws,g5⟩,λh9=>?_,λi hi=>?_⟩
      · have:=hw h4 0 (Nat.zero_le _)
        rw [h5];rw [Nat.add_zero] at this;rw [this,<-h5];exact g6 h9
      · have:=hw h4 (1+i) (by omega)
        rw [<-Nat.add_assoc] at this
        rw [h5,this,<-h5];exact g7 i hi
end
section
variable {st st':aP (aR n m q)} {p j:Nat} {evs':List EvD} {e1 e:EvD} {rho rho':Nat->Nat}
theorem sF {x:Option (aR n m q).σ×Nat} (hg:bH calls st) (h:MuInv n m q calls st rho) (hp:p<16) (hthr:∀ c,c<calls.length->0<=(calls.getD c d0).thread/\(calls.getD c d0).thread<n) (hx:Next calls st p st'.evs j e1) (hh:st'.hands=st.hands.set p x) (hr:e1.resp=0∨e1.resp=st.wd.now+1) (hnow:st'.wd.now=st.wd.now+1)
    (hm:st'.wd.marks=List.replicate 16 []) (hcf:st'.wd.mem.c.fault=0) (hca:st'.wd.mem.c.all<=st.wd.mem.c.all+1) (hwl:st'.wd.mem.ws.length=CY n m q) (hu:List.length (α:=Nat) st'.obj=16) (huk:∀ t,List.getD (α:=Nat) st'.obj t 0<=q) (huc:∀ t,t<n->List.getD (α:=Nat) st'.obj t 0=cnt (isU calls t) st'.evs)
    (hR:mE m calls gV iZ rho' st'.evs st'.wd.mem.ws st'.wd.traces (st.wd.now+1)) (hrec:∀ x,x<st'.evs.length->piW calls (aB st'.evs x)->∃ r,r<List.getD (α:=Nat) st'.obj (tn calls (aB st'.evs x)) 0/\rho' x=bI m q (tn calls (aB st'.evs x)) r)
    (hord:∀ x y,x<st'.evs.length->y<st'.evs.length->piW calls (aB st'.evs x)->piW calls (aB st'.evs y)->tn calls (aB st'.evs x)=tn calls (aB st'.evs y)->(aB st'.evs x).resp<(aB st'.evs y).resp->rho' x<rho' y)
    (hnj:piW calls e1->0<rho' j/\∀ x,x<st.evs.length->piW calls (aB st.evs x)->rho x≠rho' j)
    (hrho:∀ x,x<st.evs.length->piW calls (aB st.evs x)->rho' x=rho x) (hws:∀ x,x<st.evs.length->piW calls (aB st.evs x)->∀ a,a<=m->st'.wd.mem.ws.getD (rho x+a) 0=st.wd.mem.ws.getD (rho x+a) 0)
    (ho:∀ p',p'≠p->List.getD (α:=Nat) st'.obj p' 0=List.getD (α:=Nat) st.obj p' 0) (hw:∀ p',p'≠p->p'<n->List.getD (α:=Nat) st.obj p' 0<q->∀ a,a<=m->st'.wd.mem.ws.getD (bI m q p' (List.getD (α:=Nat) st.obj p' 0)+a) 0=st.wd.mem.ws.getD (bI m q p' (List.getD (α:=Nat) st.obj p' 0)+a) 0)
    (hS:∀ s i,x=(some s,i)->i=j/\bY calls e1=0/\mV n m q calls rho' st'.evs st'.wd.mem.ws (st.wd.now+1) st'.obj p e1 s)
    (hD:e1.resp≠0->uO n m q calls st'.evs e1):MuInv n m q calls st' rho':=by
  refine⟨hm,hcf,by rw [hnow];have:=h.ca;omega,hwl,hu,huk,huc,by rw [hnow];exact hR,hrec,hord,λp' s i hp'=>?_,λi hi hri=>?_⟩
  · rw [hnow]
    rw [hh,GJ hg.h16 hp] at hp'
    split at hp'
    · rename_i hpq
      obtain⟨g0,g1,g2⟩:=hS s i hp'
      rw [g0,hx.self,hpq]
      exact⟨g1,g2⟩
    · rename_i hpq
      obtain⟨a1,a2⟩:=hx.apart p' _ i hpq hp'
      have e:=(hx.other i (Nat.lt_of_lt_of_le a2 hx.size) a1).2
      obtain⟨g1,g2⟩:=h.hand p' s i hp'
      obtain⟨b1,b2,b3,b4⟩:=hg.ev.hand p' i (by unfold dU;rw [hp'];rfl)
      have hpn:p'<n:=by
        have h5:=hthr _ (hg.ev.call i b1)
        unfold tn at b2;omega
      rw [e]
      exact⟨g1,g2.keep hx hr hnj hrho hws (ho p' hpq) (λhu=>hw p' hpq hpn hu)⟩
  · by_cases hij:i=j
    · subst hij
      rw [hx.self] at hri ⊢
      exact hD hri
    · obtain⟨a1,e⟩:=hx.other i hi hij
      rw [e] at hri ⊢
      exact(h.told i a1 hri).keep hx hr (hg.ev.tick i a1).2.2.2
end
end
section
open Go.RowKit
variable {n k:Nat} {calls:List aF}
theorem From.trs {S:Sys} {st:aP S} {q i j:Nat} {s:S.σ} {aU:List EvD} {bQ:WD} (h:From calls st q i j s aU bQ):bQ.traces=st.wd.traces:=by
 cases h<;>rfl
section
variable {st:aP (EE n k)} {q i j:Nat} {evs' aU:List EvD} {e1:EvD} {rho:Nat->Nat} {s:SnS} {bQ:WD}
end
end
end Go.Proofs.Ytifhldnmcdbpfaa
