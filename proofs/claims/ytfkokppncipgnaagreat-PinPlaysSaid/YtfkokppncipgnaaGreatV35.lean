/- Layer 13: the pool: what every play of one keeps, in plain numbers. -/
import Derived.Test.YtfkokppncipgnaaGreatV34
import Derived.Test.YtfkokppncipgnaaGreatV20
import Derived.BigQuiet
import Derived.Laws.BitsAllLaws
import Derived.WalkMore
set_option maxRecDepth 100000
set_option linter.unusedVariables false
set_option linter.unusedSimpArgs false
set_option linter.unnecessarySimpa false
namespace Go.Proofs.YtfkokppncipgnaaGreat
section
open Go.RowKit
inductive PoS where
 | take (a e m:Nat) (free:Bool) (r:Int×Nat)
 | once (c:CallD) (r:Int×Nat)
def poRef (a v:Nat):Nat:=a+2+v*1024
def poolMem (c:CallD) (wd:WD):MemD×Bool:=memSwap wd.mem ((c.a % 1024 - 2:Nat):Int) (2*(c.a / 1024)+1) (2*(c.a / 1024))
def poolAct (c:CallD) (wd:WD):WD×(Int×Nat):=({ wd with mem:=(poolMem c wd).1 },(if (poolMem c wd).2 then 0 else 8,0))
def poBad (n k:Nat) (c:CallD):Bool:=decide (c.a % 1024<2) || decide (2+n*k<=c.a % 1024) || decide (1099511627776<=c.a / 1024)
def poolS (n k:Nat):Sys where
 σ:=PoS
 ω:=Unit
 start:=λ_ _ p c=>if c.kind=0 then .run (.take (p*k) (p*k+k) 0 false (0,0)) else if c.kind≠1 then .refuse 9 else if poBad n k c=true then .refuse 10 else .run (.once c (0,0))
 step:=λ_ wd _ s=>match s with
  | .take a e m true r=>((),doWrite wd a (m+3),.take a e m true (r.1,poRef a (m / 2+1)),true)
  | .take a e _ false r=>if taGot wd a % 2=0 then ((),taRead wd a,.take a e (taGot wd a) true r,false) else if a+1<e then ((),taRead wd a,.take (a+1) e (taGot wd a) false r,false) else ((),taRead wd a,.take (a+1) e (taGot wd a) false (6,r.2),true)
  | .once c _=>((),(poolAct c wd).1,.once c (poolAct c wd).2,true)
 answer:=λs=>match s with
  | .take _ _ _ _ r=>(⟨r.1,r.2,[]⟩,[])
  | .once _ r=>(⟨r.1,r.2,[]⟩,[])
 late:=λ_ _ _ _=>none
def argOf (calls:List CallD) (e:EvD):Nat:=(calls.getD e.call d0).a
def pIs (calls:List CallD) (kd:Int) (e:EvD):Bool:=isK calls kd e && decide (e.ans.err=0)
def pRT (calls:List CallD) (lo hi t:Nat) (e:EvD):Bool:=pIs calls 0 e && decide (lo+2<=e.ans.val % 1024/\e.ans.val % 1024<hi+2) && decide (e.resp<t)
def pRG (calls:List CallD) (lo hi t:Nat) (e:EvD):Bool:=pIs calls 1 e && decide (lo+2<=argOf calls e % 1024/\argOf calls e % 1024<hi+2) && decide (e.resp<t)
def poHand (k:Nat) (calls:List CallD) (ws:List Nat) (evs:List EvD) (p:Nat) (e:EvD):PoS->Prop
 | .take a f m free r=>f=p*k+k/\p*k<=a/\a<f/\r=(0,0)/\(free=true->ws.getD a 0=m/\m % 2=0)/\kindOf calls e=0/\cnt (pRT calls (p*k) a e.inv) evs=cnt (pRG calls (p*k) a e.inv) evs+(a - p*k)/\e.steps=a - p*k+(if free then 1 else 0)
 | .once _ _=>False
def poDone (k:Nat) (calls:List CallD) (evs:List EvD) (e:EvD):Prop:=
 e.steps<=k+1/\(e.ans.err=6->cnt (pRT calls (tn calls e*k) (tn calls e*k+k) e.inv) evs=cnt (pRG calls (tn calls e*k) (tn calls e*k+k) e.inv) evs+k)
def poTook (k:Nat) (calls:List CallD) (ws:List Nat) (evs:List EvD) (e:EvD) (a v:Nat):Prop:=
 tn calls e*k<=a/\a<tn calls e*k+k/\1<=v/\e.ans.val=poRef a v/\2*v<=ws.getD a 0/\(ws.getD a 0=2*v+1∨∃ j,j<evs.length/\pIs calls 1 (evAt evs j)=true/\argOf calls (evAt evs j)=e.ans.val)
def poGave (calls:List CallD) (ws:List Nat) (evs:List EvD) (e:EvD) (a v:Nat):Prop:=
 argOf calls e=poRef a v/\2*v<=ws.getD a 0/\ws.getD a 0≠2*v+1/\∃ j,j<evs.length/\pIs calls 0 (evAt evs j)=true/\(evAt evs j).resp<e.resp/\(evAt evs j).ans.val=argOf calls e
structure PoW (n k:Nat) (calls:List CallD) (now:Nat) (ws:List Nat) (evs:List EvD):Prop where
 wlen:ws.length=n*k
 top:∀ a,a<n*k->ws.getD a 0<=2*now+1
 takes:∀ i,i<evs.length->pIs calls 0 (evAt evs i)=true->∃ a v,a<n*k/\poTook k calls ws evs (evAt evs i) a v
 gives:∀ i,i<evs.length->pIs calls 1 (evAt evs i)=true->∃ a v,a<n*k/\poGave calls ws evs (evAt evs i) a v
 odd:∀ a,a<n*k->ws.getD a 0 % 2=1->∃ j,j<evs.length/\pIs calls 0 (evAt evs j)=true/\(evAt evs j).ans.val=poRef a (ws.getD a 0 / 2)
 tt:∀ i j,i<evs.length->j<evs.length->i≠j->pIs calls 0 (evAt evs i)=true->pIs calls 0 (evAt evs j)=true->(evAt evs i).ans.val % 1024=(evAt evs j).ans.val % 1024->
  (evAt evs j).ans.val≠(evAt evs i).ans.val/\((evAt evs i).resp<(evAt evs j).resp∨∃ m,m<evs.length/\pIs calls 1 (evAt evs m)=true/\argOf calls (evAt evs m)=(evAt evs j).ans.val/\(evAt evs m).resp<(evAt evs i).resp)
 gg:∀ i j,i<evs.length->j<evs.length->i≠j->pIs calls 1 (evAt evs i)=true->pIs calls 1 (evAt evs j)=true->argOf calls (evAt evs j)≠argOf calls (evAt evs i)
 cT:∀ a t,a<n*k->cnt (pRT calls a (a+1) t) evs<=cnt (pRG calls a (a+1) t) evs+1
 cN:∀ a,a<n*k->cnt (pRT calls a (a+1) (now+1)) evs=cnt (pRG calls a (a+1) (now+1)) evs+ws.getD a 0 % 2
structure PoInv (n k:Nat) (calls:List CallD) (st:PlayD (poolS n k)):Prop where
 w:PoW n k calls st.wd.now st.wd.mem.ws st.evs
 hand:∀ p s j,st.hands.getD p (none,0)=(some s,j)->objOf calls (evAt st.evs j)=0/\poHand k calls st.wd.mem.ws st.evs p (evAt st.evs j) s
 done:∀ i,i<st.evs.length->(evAt st.evs i).resp≠0->poDone k calls st.evs (evAt st.evs i)
 fresh:∀ i,i<st.evs.length->(evAt st.evs i).resp=0->(evAt st.evs i).ans.err=0
section
variable {S:Sys} {calls:List CallD} {st:PlayD S} {q k:Nat} {evs':List EvD} {e1:EvD}
theorem Next.kept (h:Next calls st q evs' k e1) {j:Nat} (hj:j<st.evs.length) (hr:(evAt st.evs j).resp≠0):j≠k/\j<evs'.length/\evAt evs' j=evAt st.evs j:=by
 have hjk:j≠k:=by rintro rfl;exact hr (h.old hj)
 have hl:=Nat.lt_of_lt_of_le hj h.size
 exact⟨hjk,hl,(h.other j hl hjk).2⟩
end
end
section

/- A pool in the reference's play: plain numbers. -/
open Go.RowKit
theorem from_mem {S:Sys} {calls:List CallD} {st:PlayD S} {q i k:Nat} {s:S.σ} {evs0:List EvD} {wd0:WD} (h:From calls st q i k s evs0 wd0):wd0.mem=st.wd.mem:=by
 cases h<;>rfl
end
section

/- Layer 14: the register of many words, in plain numbers. -/
open Go.RowKit
structure PinO where
 come:List Nat
 last:Nat
 now:Nat
inductive PiS where
 | wr (v q i ph:Nat)
 | rd (q k:Nat) (l:List Nat) (key:List Int)
def piLeft (q:Nat):Nat:=1+q
def piWord (n w q i:Nat):Nat:=n+2+q*w+i
def piNext (now q:Nat):Nat:=if q=now then q+1 else q
def piDiff (q now:Nat):Nat:=((q+18446744073709551616 - now) % 18446744073709551616)*4294967296 % 18446744073709551616
def piCome (o:PinO) (c:Nat):List Nat:=o.come.set o.now ((o.come.getD o.now 0+(c+18446744073709551616 - o.last) % 18446744073709551616) % 18446744073709551616)
def doAdd (wd:WD) (a d:Nat):WD:={ wd with mem:=(memAdd wd.mem (a:Int) d).1 }
def adGot (wd:WD) (a d:Nat):Nat:=(memAdd wd.mem (a:Int) d).2
def pinS (n w:Nat):Sys where
 σ:=PiS
 ω:=PinO
 start:=λo _ p c=>if c.kind=1 then .run (.rd 0 0 [] []) else if c.kind≠0 then .refuse 9 else if p≠0 then .refuse 11 else .run (.wr c.a (piNext o.now 0) 0 0)
 step:=λo wd _ s=>match s with
  | .wr v q i 0=>if taGot wd (piLeft q)=o.come.getD q 0 then (o,taRead wd (piLeft q),.wr v q i 1,false) else (o,taRead wd (piLeft q),.wr v (piNext o.now (q+1)) i 0,false)
  | .wr v q i 1=>(o,doWrite wd (piWord n w q i) ((v+i) % 18446744073709551616),.wr v q (i+1) (if i+1=w then 2 else 1),false)
  | .wr v q i (k+2)=>(⟨piCome o (adGot wd 0 (piDiff q o.now) % 4294967296),adGot wd 0 (piDiff q o.now) % 4294967296,q⟩,doAdd wd 0 (piDiff q o.now),.wr v q i (k+2),true)
  | .rd _ 0 l _=>(o,doAdd wd 0 1,.rd (adGot wd 0 1 / 4294967296) 1 l (tickKey wd),false)
  | .rd q (k+1) l key=>if k<w then (o,taRead wd (piWord n w q k),.rd q (k+2) (l++[taGot wd (piWord n w q k)]) key,false) else (o,doAdd wd (piLeft q) 1,.rd q (k+2) l key,true)
 answer:=λs=>match s with
  | .wr _ _ _ _=>(⟨0,0,[]⟩,[])
  | .rd _ _ l key=>(⟨0,0,l⟩,key)
 late:=λ_ _ _ _=>none
end
section

/- Layer 14: what every play of a register keeps, in plain numbers: who holds which buffer. -/
open Go.RowKit
def piAt (q:Nat):Option PiS->Bool
  | some (.rd q' j _ _)=>decide (q'=q) && decide (1<=j)
  | _=>false
def piFar (now q:Nat):Option PiS->Bool
  | some (.rd q' j _ _)=>decide (q<=q') && decide (q'≠now) && decide (1<=j)
  | _=>false
def piH (q:Nat) (hs:List (Option PiS×Nat)):Nat:=hs.countP (λh=>piAt q h.1)
def piN (now q:Nat) (hs:List (Option PiS×Nat)):Nat:=hs.countP (λh=>piFar now q h.1)
theorem cp_set {P:Option PiS->Bool} {hs:List (Option PiS×Nat)} {p:Nat} (hp:p<hs.length) (x:Option PiS×Nat) :
    (hs.set p x).countP (λh=>P h.1)+(if P (hs.getD p (none,0)).1 then 1 else 0)=hs.countP (λh=>P h.1)+(if P x.1 then 1 else 0):=by
  have e:hs.getD p (none,0)=hs[p]:=by rw [List.getD_eq_getElem?_getD,List.getElem?_eq_getElem hp];rfl
  rw [e,List.countP_set hp]
  have h2:(if P hs[p].1 then 1 else 0)<=hs.countP (λh=>P h.1):=by
    split
    · rename_i h
      exact List.countP_pos_iff.2 ⟨hs[p],List.getElem_mem hp,h⟩
    · exact Nat.zero_le _
  omega
theorem cp_mono {P Q:Option PiS->Bool} (h:∀ x,P x=true->Q x=true) (hs:List (Option PiS×Nat)):hs.countP (λh=>P h.1)<=hs.countP (λh=>Q h.1):=List.countP_mono_left (λx _ hx=>h x.1 hx)
theorem cp_less {P Q R:Option PiS->Bool} (h1:∀ x,P x=true->Q x=true) (h2:∀ x,R x=true->Q x=true/\P x=false) (hs:List (Option PiS×Nat)):hs.countP (λh=>P h.1)+hs.countP (λh=>R h.1)<=hs.countP (λh=>Q h.1):=by
  induction hs with
  | nil=>simp
  | cons x hs ih=>
    simp only [List.countP_cons]
    have a1:=h1 x.1;have a2:=h2 x.1
    cases hP:P x.1<;>cases hQ:Q x.1<;>cases hR:R x.1<;>simp_all<;>omega
theorem cp_bound {P:Option PiS->Bool} {hs:List (Option PiS×Nat)} {n:Nat} (hn:1<=n) (h0:P (hs.getD 0 (none,0)).1=false) (hN:∀ p,n<=p->P (hs.getD p (none,0)).1=false) (hnone:P none=false):hs.countP (λh=>P h.1)+1<=n:=by
  have e:=List.take_append_drop n hs
  have hd:(hs.drop n).countP (λh=>P h.1)=0:=by
    rw [List.countP_eq_zero]
    intro x hx
    obtain⟨i,hi,rfl⟩:=List.getElem_of_mem hx
    have h1:=hN (n+i) (by omega)
    rw [List.length_drop] at hi
    rw [List.getD_eq_getElem?_getD,List.getElem?_eq_getElem (by omega)] at h1
    rw [List.getElem_drop]
    simpa using h1
  have ht:(hs.take n).countP (λh=>P h.1)+1<=n:=by
    cases hs with
    | nil=>simp;omega
    | cons x hs=>
      obtain⟨m,rfl⟩:∃ m,n=m+1:=⟨n - 1,by omega⟩
      have h0':P x.1=false:=h0
      rw [List.take_succ_cons,List.countP_cons,h0',if_neg Bool.false_ne_true]
      have h3:=List.countP_le_length (p:=λh:Option PiS×Nat=>P h.1) (l:=hs.take m)
      have h4:(hs.take m).length<=m:=by rw [List.length_take];omega
      omega
  have:=List.countP_append (p:=λh:Option PiS×Nat=>P h.1) (l₁:=hs.take n) (l₂:=hs.drop n)
  rw [e] at this
  omega
theorem piFar_less {now q:Nat} (hq:q≠now) (hs:List (Option PiS×Nat)):piN now (q+1) hs+piH q hs<=piN now q hs:=by
  refine cp_less (P:=piFar now (q+1)) (Q:=piFar now q) (R:=piAt q) ?_ ?_ hs
  · intro x hx
    match x with
    | none=>cases hx
    | some (.wr _ _ _ _)=>cases hx
    | some (.rd q' j _ _)=>simp [piFar] at hx ⊢;omega
  · intro x hx
    match x with
    | none=>cases hx
    | some (.wr _ _ _ _)=>cases hx
    | some (.rd q' j _ _)=>simp [piFar,piAt] at hx ⊢;omega
theorem piFar_next {now q:Nat} (hs:List (Option PiS×Nat)):piN now (piNext now q) hs<=piN now q hs:=by
  refine cp_mono (λx hx=>?_) hs
  match x with
  | none=>cases hx
  | some (.wr _ _ _ _)=>cases hx
  | some (.rd q' j _ _)=>
    unfold piNext at hx
    simp [piFar] at hx ⊢
    split at hx<;>omega
structure PiW (n k t:Nat) (ws:List Nat) (o:PinO) (hs:List (Option PiS×Nat)):Prop where
  wl:ws.length=1+(n+1)*(k+1)
  cl:o.come.length=n+1
  nl:o.now<=n
  cell:∃ c,ws.getD 0 0=o.now*4294967296+c/\c<=t/\o.last<=c/\∀ q,q<=n->o.come.getD q 0+(if q=o.now then c - o.last else 0)=ws.getD (1+q) 0+piH q hs
  cm:∀ q,q<=n->o.come.getD q 0<=o.last
def piHand (n k:Nat) (calls:List CallD) (ws:List Nat) (o:PinO) (hs:List (Option PiS×Nat)) (p:Nat) (e:EvD):PiS->Prop
  | .wr v q i ph=>p=0/\kindOf calls e=0/\v=(calls.getD e.call d0).a/\q≠o.now/\
      ((ph=0/\i=0/\e.steps+(if o.now<q then 1 else 0)=q/\piN o.now q hs+e.steps+1<=n)∨
       (1<=ph/\ph<=2/\q<=n/\piH q hs=0/\e.steps<=n+i/\i<=k/\(ph=1->i<k)/\(ph=2->i=k)/\∀ a,a<i->ws.getD (piWord n k q a) 0=(v+a) % 18446744073709551616))
  | .rd q j l _=>kindOf calls e=1/\j<=k+1/\e.steps=j/\(j=0->l=[])/\(1<=j->q<=n/\l.length=j - 1/\∀ a,a<j - 1->l.getD a 0=ws.getD (piWord n k q a) 0)
def piGood (k:Nat) (calls:List CallD) (f:Nat->Nat):Prop:=
  (∀ a,a<k->f a=0)∨∃ c,c<calls.length/\(calls.getD c d0).thread=0/\(calls.getD c d0).obj=0/\(calls.getD c d0).kind=0/\∀ a,a<k->f a=((calls.getD c d0).a+a) % 18446744073709551616
def piDone (n k:Nat) (calls:List CallD) (e:EvD):Prop:=
  e.steps<=n+k+1/\(kindOf calls e=1->e.steps<=k+2)/\(objOf calls e=0->kindOf calls e=1->e.ans.list.length=k/\piGood k calls (λa=>e.ans.list.getD a 0))
structure PiInv (n k:Nat) (calls:List CallD) (st:PlayD (pinS n k)):Prop where
  w:PiW n k st.wd.now st.wd.mem.ws st.obj st.hands
  hand:∀ p s j,st.hands.getD p (none,0)=(some s,j)->objOf calls (evAt st.evs j)=0/\piHand n k calls st.wd.mem.ws st.obj st.hands p (evAt st.evs j) s
  cont:∀ q,q<=n->(∀ v i ph j,st.hands.getD 0 (none,0)=(some (.wr v q i ph),j)->ph=0)->piGood k calls (λa=>st.wd.mem.ws.getD (piWord n k q a) 0)
  done:∀ j,j<st.evs.length->(evAt st.evs j).resp≠0->piDone n k calls (evAt st.evs j)
theorem pi_look {n q now s N:Nat} (hq:q≠now) (h1:s+(if now<q then 1 else 0)=q) (h2:N+s+1<=n):q<=n:=by
  split at h1<;>omega
theorem piWord_lt {n k q a:Nat} (hq:q<=n) (ha:a<k):piWord n k q a<1+(n+1)*(k+1):=by
  unfold piWord
  have h1:(q+1)*k<=(n+1)*k:=Nat.mul_le_mul_right k (by omega)
  rw [Nat.succ_mul] at h1
  have h2:(n+1)*(k+1)=(n+1)*k+(n+1):=Nat.mul_succ _ _
  omega
theorem piWord_inj {n k q a q' a':Nat} (ha:a<k) (ha':a'<k) (h:piWord n k q a=piWord n k q' a'):q=q'/\a=a':=by
  unfold piWord at h
  have e:q*k+a=q'*k+a':=by omega
  have hk:0<k:=by omega
  have d1:(q*k+a) / k=q:=by rw [Nat.mul_comm,Nat.mul_add_div hk,Nat.div_eq_of_lt ha];omega
  have d2:(q'*k+a') / k=q':=by rw [Nat.mul_comm,Nat.mul_add_div hk,Nat.div_eq_of_lt ha'];omega
  have hqq:q=q':=by rw [<-d1,<-d2,e]
  subst hqq
  exact⟨rfl,by omega⟩
theorem piWord_far {n k q a q':Nat} (hq':q'<=n):piWord n k q a≠0/\piWord n k q a≠1+q':=by unfold piWord;omega
theorem piLeft_lt {n k q:Nat} (hq:q<=n):1+q<1+(n+1)*(k+1):=by
  have h2:(n+1)*(k+1)=(n+1)*k+(n+1):=Nat.mul_succ _ _
  have:=Nat.zero_le ((n+1)*k)
  omega
theorem piDiff_add {q now c n t:Nat} (hn:n<=16) (h1:q<=n) (h2:now<=n) (h3:c<=t) (ht:t<=1000000):(now*4294967296+c+piDiff q now) % 18446744073709551616=q*4294967296+c:=by
  unfold piDiff
  omega
end
section

/- Layer 14: the register's addresses; one that writes: to look, to fill. -/
open Go.RowKit
def pinCells (n w last now bC:Nat):Array Value:=#[.int .i64 0,.int .i64 (n:Int),.int .i64 (w:Int),.slice (some ⟨bC,0,none⟩) (n+1) (n+1),.int .u64 (last:Int),.int .i64 (now:Int)]
def piStep (b:Nat):Nat->Value
 | 0=>.func (.func 161) #[.pointer (some ⟨b,0,none⟩)] #[]
 | 1=>.func (.func 163) #[.pointer (some ⟨b,0,none⟩)] #[]
 | _=>.func (.func 169) #[.pointer (some ⟨b,0,none⟩)] #[]
def piWr (bP b v q i ph:Nat):Array Value:=#[.pointer (some ⟨bP,0,none⟩),.int .u64 (v:Int),.int .i64 (q:Int),.int .i64 (i:Int),piStep b ph]
theorem pin_left (bP bC n k last now q:Nat) (hq:q<=1000) (w:World) (hP:w.heap[bP]?=some (.cells (pinCells n k last now bC) 111 (0,0))) :
  Calls Tryz.prog 159 #[.pointer (some ⟨bP,0,none⟩),.int .i64 (q:Int)] w λe w'=>e=.returned (.int .i64 ((piLeft q:Nat):Int))/\Below w.heap.size w w':=by
 have c0:w.cell? ⟨bP,0,none⟩=some (.int .i64 0):=by rw [cell_blk hP];rfl
 have wq:IntKind.i64.wrap (1+(q:Int))=1+(q:Int):=by rw [IntKind.wrap_i64];omega
 have E:=Lib.hid (show((piLeft q:Nat):Int)=1+(q:Int) by unfold piLeft;omega)
 rw [E.out]
 clear hP hq
 go_enter Tryz.func159,Tryz.ntmps159
 go_wp2
 go_ret
 exact⟨rfl,Gr.refl _⟩
theorem pin_word (bP bC n k last now q i:Nat) (hn:n<=16) (hk:k<=8) (hq:q<=100) (hi:i<=100) (w:World) (hP:w.heap[bP]?=some (.cells (pinCells n k last now bC) 111 (0,0))) :
  Calls Tryz.prog 168 #[.pointer (some ⟨bP,0,none⟩),.int .i64 (q:Int),.int .i64 (i:Int)] w λe w'=>e=.returned (.int .i64 ((piWord n k q i:Nat):Int))/\Below w.heap.size w w':=by
 have c0:w.cell? ⟨bP,0,none⟩=some (.int .i64 0):=by rw [cell_blk hP];rfl
 have c1:w.cell? ⟨bP,1,none⟩=some (.int .i64 (n:Int)):=by rw [cell_blk hP];rfl
 have c2:w.cell? ⟨bP,2,none⟩=some (.int .i64 (k:Int)):=by rw [cell_blk hP];rfl
 obtain⟨m,hm⟩:∃ m:Nat,m=q*k:=⟨_,rfl⟩
 have hm1:m<=1000:=by rw [hm];have:=Nat.mul_le_mul hq hk;omega
 have em:(q:Int)*(k:Int)=(m:Int):=by rw [hm];simp
 have w1:IntKind.i64.wrap ((n:Int)+2)=(n:Int)+2:=by rw [IntKind.wrap_i64];omega
 have w2:IntKind.i64.wrap ((q:Int)*(k:Int))=(m:Int):=by rw [em,IntKind.wrap_i64];omega
 have w3:IntKind.i64.wrap ((n:Int)+2+(m:Int))=(n:Int)+2+(m:Int):=by rw [IntKind.wrap_i64];omega
 have w4:IntKind.i64.wrap ((n:Int)+2+(m:Int)+(i:Int))=(n:Int)+2+(m:Int)+(i:Int):=by rw [IntKind.wrap_i64];omega
 have w0:IntKind.i64.wrap (n:Int)=(n:Int):=by rw [IntKind.wrap_i64];omega
 have E:=Lib.hid (show((piWord n k q i:Nat):Int)=(n:Int)+2+(m:Int)+(i:Int) by unfold piWord;rw [<-hm];omega)
 rw [E.out]
 clear hP hq hi hm hm1 em hn hk
 go_enter Tryz.func168,Tryz.ntmps168
 go_wp2_with fail
 go_quiet (fail)
 go_wp2
 go_ret
 exact⟨rfl,below_drewN (Gr.refl w) nq⟩
theorem wr_next (bP bC n k last now b v q i:Nat) (f:Value) (hq:q<=1000) (w:World) (hP:w.heap[bP]?=some (.cells (pinCells n k last now bC) 111 (0,0))) (hb:w.heap[b]?=some (.cells #[.pointer (some ⟨bP,0,none⟩),.int .u64 (v:Int),.int .i64 (q:Int),.int .i64 (i:Int),f] 257 (0,0))) (hne:bP≠b) :
  Calls Tryz.prog 160 #[.pointer (some ⟨b,0,none⟩)] w λe w'=>e=.returned (.tuple #[])/\Chg (λk=>k=b) w w'/\w'.heap[b]?=some (.cells #[.pointer (some ⟨bP,0,none⟩),.int .u64 (v:Int),.int .i64 ((piNext now q:Nat):Int),.int .i64 (i:Int),f] 257 (0,0)):=by
 have c5:w.cell? ⟨bP,5,none⟩=some (.int .i64 (now:Int)):=by rw [cell_blk hP];rfl
 have d0:w.cell? ⟨b,0,none⟩=some (.pointer (some ⟨bP,0,none⟩)):=by rw [cell_blk hb];rfl
 have d2:w.cell? ⟨b,2,none⟩=some (.int .i64 (q:Int)):=by rw [cell_blk hb];rfl
 have f2:w.frozen? ⟨b,2,none⟩=false:=frozen_blk hb 2
 have hqi:(q:Int)<=1000:=by omega
 have wq:IntKind.i64.wrap ((q:Int)+1)=(q:Int)+1:=by rw [IntKind.wrap_i64];omega
 have Hb:=Lib.hid hb
 clear hP hb hq
 by_cases hqn:q=now
 ·have e1:(q:Int)=(now:Int):=by omega
  have E:=Lib.hid (show piNext now q=q+1 by unfold piNext;rw [if_pos hqn])
  rw [E.out]
  subst hqn
  clear e1
  go_enter Tryz.func160,Tryz.ntmps160
  go_wp2_with fail
  go_quiet (fail)
  have d2':(w.drewN nq).cell? ⟨b,2,none⟩=some (.int .i64 (q:Int)):=d2
  have f2':(w.drewN nq).frozen? ⟨b,2,none⟩=false:=f2
  go_wp2
  go_end0
  refine⟨rfl,((Chg.refl (λk=>k=b) w).drewN nq).setCell (by exact .inl rfl) _,?_⟩
  rw [blk_set (w:=w.drewN nq) Hb.out]
  rw [show((q+1:Nat):Int)=(q:Int)+1 by omega];rfl
 ·have e1:¬ (q:Int)=(now:Int):=by omega
  have E:=Lib.hid (show piNext now q=q by unfold piNext;rw [if_neg hqn])
  rw [E.out]
  clear hqn
  go_enter Tryz.func160,Tryz.ntmps160
  go_wp2_with fail
  go_quiet (fail)
  go_wp2
  go_end0
  exact⟨rfl,(Chg.refl (λk=>k=b) w).drewN nq,Hb.out⟩
end
section

/- Layer 14: one that writes: to look whether all have left a buffer, and to fill it. -/
open Go.RowKit
structure PinAt (w:World) (bP bC n k:Nat) (o:PinO):Prop where
 blk:w.heap[bP]?=some (.cells (pinCells n k o.last o.now bC) 111 (0,0))
 come:w.heap[bC]?=some (.cells (o.come.map u64V).toArray 46 (0,0))
 len:o.come.length=n+1
 small:∀ x∈o.come,x<18446744073709551616
 lsm:o.last<18446744073709551616
 nle:o.now<=n
theorem PinAt.chg {w w':World} {bP bC n k:Nat} {o:PinO} {S:Nat->Prop} (h:PinAt w bP bC n k o) (hc:Chg S w w') (h1:¬ S bP) (h2:¬ S bC):PinAt w' bP bC n k o:=
 ⟨(hc.block _ (blk_lt h.blk) h1).trans h.blk,(hc.block _ (blk_lt h.come) h2).trans h.come,h.len,h.small,h.lsm,h.nle⟩
theorem PinAt.cellq {w:World} {bP bC n k:Nat} {o:PinO} (h:PinAt w bP bC n k o) {q:Nat} (hq:q<=n):w.cell? ⟨bC,q,none⟩=some (.int .u64 ((o.come.getD q 0:Nat):Int)):=by
 rw [cell_blk h.come]
 have:=h.len
 simp [u64V,List.getD_eq_getElem?_getD,show q<o.come.length by omega]
theorem PinAt.slice {w:World} {bP bC n k:Nat} {o:PinO} (h:PinAt w bP bC n k o):w.cell? ⟨bP,3,none⟩=some (.slice (some ⟨bC,0,none⟩) (n+1) (n+1)):=by rw [cell_blk h.blk];rfl
set_option maxHeartbeats 4000000 in
theorem wr_look (w:World) (Mut B:Nat->Prop) (I:WIds) (N:Nat) (wd:WD) (n k bP bC b v q i:Nat) (o:PinO) (hw:WorldAt w Mut I N wd) (hP:PinAt w bP bC n k o) (hbk:w.heap[b]?=some (.cells (piWr bP b v q i 0) 257 (0,0))) (hb:B b) (hB:∀ b,B b->Mut b/\¬ WSet I b) (hcn:wd.mem.c.all+1<1000000000000)
  (hq:q<=n) (hn:n<=16) (hne:bP≠b/\bC≠b) (hWP:¬ WSet I bP/\¬ WSet I bC) :
  Calls Tryz.prog 161 #[.pointer (some ⟨b,0,none⟩),.pointer (some ⟨I.bW,0,none⟩)] w λe w'=>OwnTo w w' Mut B I N (taRead wd (piLeft q)) b (if taGot wd (piLeft q)=o.come.getD q 0 then piWr bP b v q i 1 else piWr bP b v (piNext o.now (q+1)) i 0) 257 false e:=by
 obtain⟨s1,s2,s3⟩:=memSet_sub hw
 obtain⟨mks,hwb,_,_⟩:=hw.blk
 have x0:w.cell? ⟨I.bW,0,none⟩=some (.pointer (some ⟨I.bm,0,none⟩)):=by rw [cell_blk hwb];exact world_mem
 have y0:w.cell? ⟨b,0,none⟩=some (.pointer (some ⟨bP,0,none⟩)):=by rw [cell_blk hbk];rfl
 have y2:w.cell? ⟨b,2,none⟩=some (.int .i64 (q:Int)):=by rw [cell_blk hbk];rfl
 have y3:=hP.slice
 have y4:=hP.cellq hq
 obtain⟨cq,hcq⟩:∃ cq,cq=o.come.getD q 0:=⟨_,rfl⟩
 rw [<-hcq] at y4 ⊢
 have hblt:=blk_lt hbk
 have nb:¬ MemSet I.bm I.bw b:=λh=>(hB b hb).2 (s3 b h).1
 have nP:¬ MemSet I.bm I.bw bP:=λh=>hWP.1 (s3 bP h).1
 have nC:¬ MemSet I.bm I.bw bC:=λh=>hWP.2 (s3 bC h).1
 have Rd:=Lib.hid (λ(u:World) (h:Chg noB w u)=>read_any I.bm I.bw wd.mem ((piLeft q:Nat):Int) u (hw.mem.chg h (λh=>h) (λ_ _ h=>h)) hcn)
 have LF:=Lib.hid (λ(u:World) (h:Chg noB w u)=>pin_left bP bC n k o.last o.now q (by omega) u (hP.chg h (λh=>h) (λh=>h)).blk)
 obtain⟨r,hr⟩:∃ r,r=taGot wd (piLeft q):=⟨_,rfl⟩
 rw [show(memRead wd.mem ((piLeft q:Nat):Int)).2=r from hr.symm] at Rd
 rw [<-hr]
 obtain⟨lq,hlq⟩:∃ lq,lq=piLeft q:=⟨_,rfl⟩
 rw [<-hlq] at Rd LF ⊢
 obtain⟨R,hR⟩:∃ R,R=(if r=cq then piWr bP b v q i 1 else piWr bP b v (piNext o.now (q+1)) i 0):=⟨_,rfl⟩
 rw [<-hR]
 have HR:=Lib.hid hR
 have Hw:=Lib.hid hw;have Hbk:=Lib.hid hbk;have Nb:=Lib.hid nb;have HB:=Lib.hid hB;have Hb:=Lib.hid hb;have S2:=Lib.hid s2;have Hr:=Lib.hid hr;have NP:=Lib.hid nP;have NC:=Lib.hid nC;have HP:=Lib.hid hP;have Hne:=Lib.hid hne;have Hlq:=Lib.hid hlq
 have hqi:(q:Int)<((n+1:Nat):Int):=by omega
 have hq16:(q:Int)<=16:=by omega
 have wq1:IntKind.i64.wrap ((q:Int)+1)=(q:Int)+1:=by rw [IntKind.wrap_i64];omega
 have Hcq:=Lib.hid hcq
 clear hw hbk hwb s1 s2 s3 nb hB hb hr hq hn nP nC hP hne hWP hlq hcq hR
 obtain⟨n1,hn1⟩:∃ n1,n1=n+1:=⟨_,rfl⟩
 rw [<-hn1] at hqi y3
 have Hn1:=Lib.hid hn1
 clear hn1
 go_enter Tryz.func161,Tryz.ntmps161
 go_wp2_with fail
 go_region_held3 (λu=>u.cell? ⟨I.bW,0,none⟩=some (.pointer (some ⟨I.bm,0,none⟩))/\u.cell? ⟨b,0,none⟩=some (.pointer (some ⟨bP,0,none⟩))/\u.cell? ⟨b,2,none⟩=some (.int .i64 (q:Int))/\u.cell? ⟨bP,3,none⟩=some (.slice (some ⟨bC,0,none⟩) n1 n1)/\u.cell? ⟨bC,q,none⟩=some (.int .u64 (cq:Int)))
  (first|exact⟨x0,y0,y2,y3,y4⟩|exact⟨v0,u0,u2,u3,u4⟩|exact⟨z0,zw,z2,z3,z4⟩)
  (first|(go_at_call 159;refine(LF.out _ ?_).mono ?_;(exact(Chg.refl _ _).drew);rintro e w5 ⟨rfl,hb5⟩;have hc5:Chg noB w w5:=((Chg.refl _ w).drew).trans (Chg.of_below hb5);have v0:=box_keep hc5 (λh=>h) x0;have u0:=box_keep hc5 (λh=>h) y0;have u2:=box_keep hc5 (λh=>h) y2;have u3:=box_keep hc5 (λh=>h) y3;have u4:=box_keep hc5 (λh=>h) y4)|(go_at_call 162;refine(Rd.out _ hc5).mono ?_;rintro e w1 ⟨rfl,hm1,hc1⟩;have hc1':Chg (MemSet I.bm I.bw) w w1:=(hc5.mono (λ_ _ h=>h.elim)).trans hc1;have z0:=box_keep hc1' S2.out x0;have hbk1:=(hc1'.block b hblt Nb.out).trans Hbk.out;have zw:=box_keep hc1' Nb.out y0;have z2:=box_keep hc1' Nb.out y2;have z3:=box_keep hc1' NP.out y3;have z4:=box_keep hc1' NC.out y4;have zf2:=frozen_blk hbk1 2;have zf4:=frozen_blk hbk1 4))
 obtain⟨hw1,hch1⟩:=Hw.out.mems hc1' hm1
 have hP1:=HP.out.chg hc1' NP.out NC.out
 have fin:∀(u:World) (cs:Array Value),Chg (λk=>k=b) w1 u->u.heap[b]?=some (.cells cs 257 (0,0))->cs=R->OwnTo w u Mut B I N (taRead wd lq) b R 257 false (.returned (.bool false)):=by
  rintro u cs hu hbu rfl
  exact own_fin hw1 hch1 Hb.out HB.out hu hbu
 have Fin:=Lib.hid fin
 have z5:w1.cell? ⟨b,4,none⟩=some (.func (.func 161) #[.pointer (some ⟨b,0,none⟩)] #[]):=by rw [cell_blk hbk1];rfl
 have HP1:=Lib.hid hP1;have Hbk1:=Lib.hid hbk1
 clear fin hw1 hch1 hc1 hc1' hm1 hc5 hP1 hbk1 x0 y0 y2 y3 y4 v0 u0 u2 u3 u4 z0 zw z3 z4 hb5
 by_cases hrc:r=cq
 ·have e1:(r:Int)=(cq:Int):=by omega
  have F:=Lib.hid (Fin.out (w1.setCell ⟨b,4,none⟩ (piStep b 1)) (piWr bP b v q i 1) ((Chg.refl (λk=>k=b) w1).setCell (by exact .inl rfl) _) (by rw [blk_set Hbk1.out];rfl) (by rw [HR.out,if_pos hrc]))
  unfold piStep at F
  clear hrc
  go_wp2
  go_ret
  exact F.out
 ·have e1:¬ (r:Int)=(cq:Int):=by omega
  have hbk2:(w1.setCell ⟨b,2,none⟩ (.int .i64 ((q:Int)+1))).heap[b]?=some (.cells (piWr bP b v (q+1) i 0) 257 (0,0)):=by
   rw [blk_set Hbk1.out];unfold piWr;rw [show((q+1:Nat):Int)=(q:Int)+1 by omega];rfl
  have hc2:Chg (λk=>k=b) w1 (w1.setCell ⟨b,2,none⟩ (.int .i64 ((q:Int)+1))):=(Chg.refl (λk=>k=b) w1).setCell (by exact .inl rfl) _
  obtain⟨w2,hw2⟩:∃ w2,w2=w1.setCell ⟨b,2,none⟩ (.int .i64 ((q:Int)+1)):=⟨_,rfl⟩
  rw [<-hw2] at hbk2 hc2
  have NX:=Lib.hid (wr_next bP bC n k o.last o.now b v (q+1) i (piStep b 0) (by omega) w2 (HP1.out.chg hc2 Hne.out.1 Hne.out.2).blk hbk2 Hne.out.1)
  have Hif:=Lib.hid (show piWr bP b v (piNext o.now (q+1)) i 0=R by rw [HR.out,if_neg hrc])
  have Hc2:=Lib.hid hc2;have Hw2:=Lib.hid hw2
  clear hrc hbk2 hc2 hw2
  go_upto_region 5 with fail
  rw [<-Hw2.out]
  go_wp2_with fail
  refine NX.out.mono ?_
  rintro e w3 ⟨rfl,hc3,hbk3⟩
  have F:=Lib.hid (Fin.out w3 _ (Hc2.out.trans hc3) hbk3 Hif.out)
  clear hc3 hbk3
  go_wp2
  go_ret
  exact F.out
end
section

/- Layer 14: one that writes: to fill a buffer, word by word; its step. -/
open Go.RowKit
set_option maxHeartbeats 4000000 in
theorem wr_fill (w:World) (Mut B:Nat->Prop) (I:WIds) (N:Nat) (wd:WD) (n k bP bC b v q i:Nat) (o:PinO) (hw:WorldAt w Mut I N wd) (hP:PinAt w bP bC n k o) (hbk:w.heap[b]?=some (.cells (piWr bP b v q i 1) 257 (0,0))) (hb:B b) (hB:∀ b,B b->Mut b/\¬ WSet I b) (hcn:wd.mem.c.all+1<1000000000000)
  (hq:q<=n) (hn:n<=16) (hk:k<=8) (hi:i<k) (hne:bP≠b/\bC≠b) (hWP:¬ WSet I bP/\¬ WSet I bC) :
  Calls Tryz.prog 163 #[.pointer (some ⟨b,0,none⟩),.pointer (some ⟨I.bW,0,none⟩)] w λe w'=>OwnTo w w' Mut B I N (doWrite wd (piWord n k q i) ((v+i) % 18446744073709551616)) b (piWr bP b v q (i+1) (if i+1=k then 2 else 1)) 257 false e:=by
 obtain⟨s1,s2,s3⟩:=memSet_sub hw
 obtain⟨mks,hwb,_,_⟩:=hw.blk
 have x0:w.cell? ⟨I.bW,0,none⟩=some (.pointer (some ⟨I.bm,0,none⟩)):=by rw [cell_blk hwb];exact world_mem
 have y0:w.cell? ⟨b,0,none⟩=some (.pointer (some ⟨bP,0,none⟩)):=by rw [cell_blk hbk];rfl
 have y1:w.cell? ⟨b,1,none⟩=some (.int .u64 (v:Int)):=by rw [cell_blk hbk];rfl
 have y2:w.cell? ⟨b,2,none⟩=some (.int .i64 (q:Int)):=by rw [cell_blk hbk];rfl
 have y3:w.cell? ⟨b,3,none⟩=some (.int .i64 (i:Int)):=by rw [cell_blk hbk];rfl
 have y4:w.cell? ⟨bP,2,none⟩=some (.int .i64 (k:Int)):=by rw [cell_blk hP.blk];rfl
 have hblt:=blk_lt hbk
 have nb:¬ MemSet I.bm I.bw b:=λh=>(hB b hb).2 (s3 b h).1
 have nP:¬ MemSet I.bm I.bw bP:=λh=>hWP.1 (s3 bP h).1
 obtain⟨x,hx⟩:∃ x,x=(v+i) % 18446744073709551616:=⟨_,rfl⟩
 have wi:IntKind.u64.wrap (i:Int)=(i:Int):=by rw [IntKind.wrap_u64];omega
 have wx:IntKind.u64.wrap ((v:Int)+(i:Int))=(x:Int):=by rw [hx,IntKind.wrap_u64];omega
 have Wr:=Lib.hid (λ(u:World) (h:Chg noB w u)=>write_any I.bm I.bw wd.mem ((piWord n k q i:Nat):Int) x u (hw.mem.chg h (λh=>h) (λ_ _ h=>h)) (by omega) hcn)
 have WF:=Lib.hid (λ(u:World) (h:Chg noB w u)=>pin_word bP bC n k o.last o.now q i hn hk (by omega) (by omega) u (hP.chg h (λh=>h) (λh=>h)).blk)
 rw [<-hx]
 obtain⟨lq,hlq⟩:∃ lq,lq=piWord n k q i:=⟨_,rfl⟩
 rw [<-hlq] at Wr WF ⊢
 obtain⟨R,hR⟩:∃ R,R=piWr bP b v q (i+1) (if i+1=k then 2 else 1):=⟨_,rfl⟩
 rw [<-hR]
 have HR:=Lib.hid hR;have HP:=Lib.hid hP;have Hne:=Lib.hid hne
 have Hw:=Lib.hid hw;have Hbk:=Lib.hid hbk;have Nb:=Lib.hid nb;have HB:=Lib.hid hB;have Hb:=Lib.hid hb;have S2:=Lib.hid s2;have NP:=Lib.hid nP;have Hx:=Lib.hid hx;have Hlq:=Lib.hid hlq
 have hi8:(i:Int)<=8:=by omega
 have wi1:IntKind.i64.wrap ((i:Int)+1)=(i:Int)+1:=by rw [IntKind.wrap_i64];omega
 clear hw hbk hwb s1 s2 s3 nb hB hb hq hn nP hP hne hWP hlq hx hk hi hR
 go_enter Tryz.func163,Tryz.ntmps163
 go_wp2_with fail
 go_region_held3 (λu=>u.cell? ⟨I.bW,0,none⟩=some (.pointer (some ⟨I.bm,0,none⟩))/\u.cell? ⟨b,0,none⟩=some (.pointer (some ⟨bP,0,none⟩))/\u.cell? ⟨b,1,none⟩=some (.int .u64 (v:Int))/\u.cell? ⟨b,2,none⟩=some (.int .i64 (q:Int))/\u.cell? ⟨b,3,none⟩=some (.int .i64 (i:Int)))
  (first|exact⟨x0,y0,y1,y2,y3⟩|exact⟨v0,u0,u1,u2,u3⟩|exact⟨z0,zw,z1,z2,z3⟩)
  (first|(go_at_call 168;refine(WF.out _ ?_).mono ?_;(exact(Chg.refl _ _).drew);rintro e w5 ⟨rfl,hb5⟩;have hc5:Chg noB w w5:=((Chg.refl _ w).drew).trans (Chg.of_below hb5);have v0:=box_keep hc5 (λh=>h) x0;have u0:=box_keep hc5 (λh=>h) y0;have u1:=box_keep hc5 (λh=>h) y1;have u2:=box_keep hc5 (λh=>h) y2;have u3:=box_keep hc5 (λh=>h) y3)|(go_at_call 167;refine(Wr.out _ hc5).mono ?_;rintro e w1 ⟨rfl,hm1,hc1⟩;have hc1':Chg (MemSet I.bm I.bw) w w1:=(hc5.mono (λ_ _ h=>h.elim)).trans hc1;have z0:=box_keep hc1' S2.out x0;have hbk1:=(hc1'.block b hblt Nb.out).trans Hbk.out;have zw:=box_keep hc1' Nb.out y0;have z1:=box_keep hc1' Nb.out y1;have z2:=box_keep hc1' Nb.out y2;have z3:=box_keep hc1' Nb.out y3;have z4:=box_keep hc1' NP.out y4))
 obtain⟨hw1,hch1⟩:=Hw.out.mems hc1' hm1
 have fin:∀(u:World) (cs:Array Value),Chg (λk=>k=b) w1 u->u.heap[b]?=some (.cells cs 257 (0,0))->cs=R->OwnTo w u Mut B I N (doWrite wd lq x) b R 257 false (.returned (.bool false)):=by
  rintro u cs hu hbu rfl
  exact own_fin hw1 hch1 Hb.out HB.out hu hbu
 have Fin:=Lib.hid fin
 obtain⟨w2,hw2⟩:∃ w2,w2=w1.setCell ⟨b,3,none⟩ (.int .i64 ((i:Int)+1)):=⟨_,rfl⟩
 have hc2:Chg (λk=>k=b) w1 w2:=by rw [hw2];exact(Chg.refl (λk=>k=b) w1).setCell (by exact .inl rfl) _
 have zf:=frozen_blk hbk1 3
 have hbk2:w2.heap[b]?=some (.cells (piWr bP b v q (i+1) 1) 257 (0,0)):=by
  rw [hw2,blk_set hbk1];unfold piWr;rw [show((i+1:Nat):Int)=(i:Int)+1 by omega];rfl
 have Hbk2:=Lib.hid hbk2;have Hc2:=Lib.hid hc2;have Hw2:=Lib.hid hw2
 have q0:w2.cell? ⟨b,0,none⟩=some (.pointer (some ⟨bP,0,none⟩)):=by rw [cell_blk hbk2];rfl
 have q3:w2.cell? ⟨b,3,none⟩=some (.int .i64 ((i:Int)+1)):=by rw [cell_blk hbk2];unfold piWr;rw [show((i+1:Nat):Int)=(i:Int)+1 by omega];rfl
 have q4:w2.cell? ⟨bP,2,none⟩=some (.int .i64 (k:Int)):=box_keep hc2 (λe=>Hne.out.1 e) z4
 clear fin hw1 hch1 hc1 hc1' hm1 hc5 x0 y0 y1 y2 y3 y4 v0 u0 u1 u2 u3 z0 zw z1 z2 hb5 hbk1 hbk2 hc2 hw2 z4
 go_upto_region 3 with fail
 rw [<-Hw2.out]
 clear z3 zf
 by_cases hik:i+1=k
 ·have e1:(i:Int)+1=(k:Int):=by omega
  have hRR:R=piWr bP b v q (i+1) 2:=by rw [HR.out,if_pos hik]
  have F:=Lib.hid (λnq:Nat=>Fin.out ((w2.drewN nq).setCell ⟨b,4,none⟩ (piStep b 2)) R ((Hc2.out.drewN nq).setCell (by exact .inl rfl) _) (by rw [blk_set (w:=w2.drewN nq) Hbk2.out,hRR];rfl) rfl)
  unfold piStep at F
  clear hik hRR
  go_quiet (fail)
  have qf:(w2.drewN nq).frozen? ⟨b,4,none⟩=false:=frozen_blk (w:=w2.drewN nq) Hbk2.out 4
  have q5:(w2.drewN nq).cell? ⟨b,4,none⟩=some (.func (.func 163) #[.pointer (some ⟨b,0,none⟩)] #[]):=by rw [cell_blk (w:=w2.drewN nq) Hbk2.out];rfl
  go_wp2
  go_ret
  exact F.out nq
 ·have e1:¬ (i:Int)+1=(k:Int):=by omega
  have hRR:R=piWr bP b v q (i+1) 1:=by rw [HR.out,if_neg hik]
  have F:=Lib.hid (λnq:Nat=>Fin.out (w2.drewN nq) R (Hc2.out.drewN nq) (by rw [hRR];exact Hbk2.out) rfl)
  clear hik hRR
  go_quiet (fail)
  go_wp2
  go_ret
  exact F.out nq
theorem wr_step (b K:Nat) (pw:Value) (w:World) (Q:Bool->World->Prop) (h4:w.cell? ⟨b,4,none⟩=some (.func (.func K) #[.pointer (some ⟨b,0,none⟩)] #[])) (hK:∀(args:Array Value) (u:World),(callFunc K args).run Tryz.prog u=.ok (.enter K args) u)
  (hC:Calls Tryz.prog K #[.pointer (some ⟨b,0,none⟩),pw] w λe w'=>∃ d,e=.returned (.bool d)/\Q d w') :
  Calls Tryz.prog 213 #[.pointer (some ⟨b,0,none⟩),pw] w λe w'=>∃ d,e=.returned (.bool d)/\Q d w':=by
 have HC:=Lib.hid hC
 clear hC
 go_enter Tryz.func213,Tryz.ntmps213
 go_wp2_with fail
 refine HC.out.mono ?_
 rintro e w1 ⟨d,rfl,hq⟩
 have Hq:=Lib.hid hq
 clear hq
 go_wp2
 go_ret
 exact⟨d,rfl,Hq.out⟩
end
end Go.Proofs.YtfkokppncipgnaaGreat
