/- Layer 14: the register of many words, in plain numbers. -/
import Derived.Test.YtlepjmnhekeofaaP23
import Derived.Test.YtlepjmnhekeofaaP21
import Derived.BigQuiet
import Derived.Laws.BitsAllLaws
import Derived.WalkMore
set_option maxRecDepth 100000
set_option linter.unusedVariables false
set_option linter.unusedSimpArgs false
set_option linter.unnecessarySimpa false
namespace Go.Proofs.Ytlepjmnhekeofaa
section
open Go.RowKit
structure PinO where
 come:List Nat
 last:Nat
 now:Nat
inductive PiS where
 | wr (v q i ph:Nat)
 | rd (q k:Nat) (l:List Nat) (key:List Int)
def piLeft (q:Nat):Nat:=1+q
def piWord (n w q i:Nat):Nat:=n+2+q*w+i
def piNext (now q:Nat):Nat:=if q=now then q+1 else q
def piDiff (q now:Nat):Nat:=((q+18446744073709551616 - now) % 18446744073709551616)*4294967296 % 18446744073709551616
def piCome (o:PinO) (c:Nat):List Nat:=o.come.set o.now ((o.come.getD o.now 0+(c+18446744073709551616 - o.last) % 18446744073709551616) % 18446744073709551616)
def doAdd (wd:WD) (a d:Nat):WD:={ wd with mem:=(memAdd wd.mem (a:Int) d).1 }
def adGot (wd:WD) (a d:Nat):Nat:=(memAdd wd.mem (a:Int) d).2
def pinS (n w:Nat):Sys where
 σ:=PiS
 ω:=PinO
 start:=λo _ p c=>if c.kind=1 then .run (.rd 0 0 [] []) else if c.kind≠0 then .refuse 9 else if p≠0 then .refuse 11 else .run (.wr c.a (piNext o.now 0) 0 0)
 step:=λo wd _ s=>match s with
  | .wr v q i 0=>if taGot wd (piLeft q)=o.come.getD q 0 then (o,taRead wd (piLeft q),.wr v q i 1,false) else (o,taRead wd (piLeft q),.wr v (piNext o.now (q+1)) i 0,false)
  | .wr v q i 1=>(o,doWrite wd (piWord n w q i) ((v+i) % 18446744073709551616),.wr v q (i+1) (if i+1=w then 2 else 1),false)
  | .wr v q i (k+2)=>(⟨piCome o (adGot wd 0 (piDiff q o.now) % 4294967296),adGot wd 0 (piDiff q o.now) % 4294967296,q⟩,doAdd wd 0 (piDiff q o.now),.wr v q i (k+2),true)
  | .rd _ 0 l _=>(o,doAdd wd 0 1,.rd (adGot wd 0 1 / 4294967296) 1 l (tickKey wd),false)
  | .rd q (k+1) l key=>if k<w then (o,taRead wd (piWord n w q k),.rd q (k+2) (l++[taGot wd (piWord n w q k)]) key,false) else (o,doAdd wd (piLeft q) 1,.rd q (k+2) l key,true)
 answer:=λs=>match s with
  | .wr _ _ _ _=>(⟨0,0,[]⟩,[])
  | .rd _ _ l key=>(⟨0,0,l⟩,key)
 late:=λ_ _ _ _=>none
end
section

/- Layer 14: what every play of a register keeps, in plain numbers: who holds which buffer. -/
open Go.RowKit
def piAt (q:Nat):Option PiS->Bool
  | some (.rd q' j _ _)=>decide (q'=q) && decide (1<=j)
  | _=>false
def piFar (now q:Nat):Option PiS->Bool
  | some (.rd q' j _ _)=>decide (q<=q') && decide (q'≠now) && decide (1<=j)
  | _=>false
def piH (q:Nat) (hs:List (Option PiS×Nat)):Nat:=hs.countP (λh=>piAt q h.1)
def piN (now q:Nat) (hs:List (Option PiS×Nat)):Nat:=hs.countP (λh=>piFar now q h.1)
theorem cp_set {P:Option PiS->Bool} {hs:List (Option PiS×Nat)} {p:Nat} (hp:p<hs.length) (x:Option PiS×Nat) :
    (hs.set p x).countP (λh=>P h.1)+(if P (hs.getD p (none,0)).1 then 1 else 0)=hs.countP (λh=>P h.1)+(if P x.1 then 1 else 0):=by
  have e:hs.getD p (none,0)=hs[p]:=by rw [List.getD_eq_getElem?_getD,List.getElem?_eq_getElem hp];rfl
  rw [e,List.countP_set hp]
  have h2:(if P hs[p].1 then 1 else 0)<=hs.countP (λh=>P h.1):=by
    split
    · rename_i h
      exact List.countP_pos_iff.2 ⟨hs[p],List.getElem_mem hp,h⟩
    · exact Nat.zero_le _
  omega
theorem cp_mono {P Q:Option PiS->Bool} (h:∀ x,P x=true->Q x=true) (hs:List (Option PiS×Nat)):hs.countP (λh=>P h.1)<=hs.countP (λh=>Q h.1):=List.countP_mono_left (λx _ hx=>h x.1 hx)
theorem cp_less {P Q R:Option PiS->Bool} (h1:∀ x,P x=true->Q x=true) (h2:∀ x,R x=true->Q x=true/\P x=false) (hs:List (Option PiS×Nat)):hs.countP (λh=>P h.1)+hs.countP (λh=>R h.1)<=hs.countP (λh=>Q h.1):=by
  induction hs with
  | nil=>simp
  | cons x hs ih=>
    simp only [List.countP_cons]
    have a1:=h1 x.1;have a2:=h2 x.1
    cases hP:P x.1<;>cases hQ:Q x.1<;>cases hR:R x.1<;>simp_all<;>omega
theorem cp_bound {P:Option PiS->Bool} {hs:List (Option PiS×Nat)} {n:Nat} (hn:1<=n) (h0:P (hs.getD 0 (none,0)).1=false) (hN:∀ p,n<=p->P (hs.getD p (none,0)).1=false) (hnone:P none=false):hs.countP (λh=>P h.1)+1<=n:=by
  have e:=List.take_append_drop n hs
  have hd:(hs.drop n).countP (λh=>P h.1)=0:=by
    rw [List.countP_eq_zero]
    intro x hx
    obtain⟨i,hi,rfl⟩:=List.getElem_of_mem hx
    have h1:=hN (n+i) (by omega)
    rw [List.length_drop] at hi
    rw [List.getD_eq_getElem?_getD,List.getElem?_eq_getElem (by omega)] at h1
    rw [List.getElem_drop]
    simpa using h1
  have ht:(hs.take n).countP (λh=>P h.1)+1<=n:=by
    cases hs with
    | nil=>simp;omega
    | cons x hs=>
      obtain⟨m,rfl⟩:∃ m,n=m+1:=⟨n - 1,by omega⟩
      have h0':P x.1=false:=h0
      rw [List.take_succ_cons,List.countP_cons,h0',if_neg Bool.false_ne_true]
      have h3:=List.countP_le_length (p:=λh:Option PiS×Nat=>P h.1) (l:=hs.take m)
      have h4:(hs.take m).length<=m:=by rw [List.length_take];omega
      omega
  have:=List.countP_append (p:=λh:Option PiS×Nat=>P h.1) (l₁:=hs.take n) (l₂:=hs.drop n)
  rw [e] at this
  omega
theorem piFar_less {now q:Nat} (hq:q≠now) (hs:List (Option PiS×Nat)):piN now (q+1) hs+piH q hs<=piN now q hs:=by
  refine cp_less (P:=piFar now (q+1)) (Q:=piFar now q) (R:=piAt q) ?_ ?_ hs
  · intro x hx
    match x with
    | none=>cases hx
    | some (.wr _ _ _ _)=>cases hx
    | some (.rd q' j _ _)=>simp [piFar] at hx ⊢;omega
  · intro x hx
    match x with
    | none=>cases hx
    | some (.wr _ _ _ _)=>cases hx
    | some (.rd q' j _ _)=>simp [piFar,piAt] at hx ⊢;omega
theorem piFar_next {now q:Nat} (hs:List (Option PiS×Nat)):piN now (piNext now q) hs<=piN now q hs:=by
  refine cp_mono (λx hx=>?_) hs
  match x with
  | none=>cases hx
  | some (.wr _ _ _ _)=>cases hx
  | some (.rd q' j _ _)=>
    unfold piNext at hx
    simp [piFar] at hx ⊢
    split at hx<;>omega
structure PiW (n k t:Nat) (ws:List Nat) (o:PinO) (hs:List (Option PiS×Nat)):Prop where
  wl:ws.length=1+(n+1)*(k+1)
  cl:o.come.length=n+1
  nl:o.now<=n
  cell:∃ c,ws.getD 0 0=o.now*4294967296+c/\c<=t/\o.last<=c/\∀ q,q<=n->o.come.getD q 0+(if q=o.now then c - o.last else 0)=ws.getD (1+q) 0+piH q hs
  cm:∀ q,q<=n->o.come.getD q 0<=o.last
def piHand (n k:Nat) (calls:List CallD) (ws:List Nat) (o:PinO) (hs:List (Option PiS×Nat)) (p:Nat) (e:EvD):PiS->Prop
  | .wr v q i ph=>p=0/\kindOf calls e=0/\v=(calls.getD e.call d0).a/\q≠o.now/\
      ((ph=0/\i=0/\e.steps+(if o.now<q then 1 else 0)=q/\piN o.now q hs+e.steps+1<=n)∨
       (1<=ph/\ph<=2/\q<=n/\piH q hs=0/\e.steps<=n+i/\i<=k/\(ph=1->i<k)/\(ph=2->i=k)/\∀ a,a<i->ws.getD (piWord n k q a) 0=(v+a) % 18446744073709551616))
  | .rd q j l _=>kindOf calls e=1/\j<=k+1/\e.steps=j/\(j=0->l=[])/\(1<=j->q<=n/\l.length=j - 1/\∀ a,a<j - 1->l.getD a 0=ws.getD (piWord n k q a) 0)
def piGood (k:Nat) (calls:List CallD) (f:Nat->Nat):Prop:=
  (∀ a,a<k->f a=0)∨∃ c,c<calls.length/\(calls.getD c d0).thread=0/\(calls.getD c d0).obj=0/\(calls.getD c d0).kind=0/\∀ a,a<k->f a=((calls.getD c d0).a+a) % 18446744073709551616
def piDone (n k:Nat) (calls:List CallD) (e:EvD):Prop:=
  e.steps<=n+k+1/\(kindOf calls e=1->e.steps<=k+2)/\(objOf calls e=0->kindOf calls e=1->e.ans.list.length=k/\piGood k calls (λa=>e.ans.list.getD a 0))
structure PiInv (n k:Nat) (calls:List CallD) (st:PlayD (pinS n k)):Prop where
  w:PiW n k st.wd.now st.wd.mem.ws st.obj st.hands
  hand:∀ p s j,st.hands.getD p (none,0)=(some s,j)->objOf calls (evAt st.evs j)=0/\piHand n k calls st.wd.mem.ws st.obj st.hands p (evAt st.evs j) s
  cont:∀ q,q<=n->(∀ v i ph j,st.hands.getD 0 (none,0)=(some (.wr v q i ph),j)->ph=0)->piGood k calls (λa=>st.wd.mem.ws.getD (piWord n k q a) 0)
  done:∀ j,j<st.evs.length->(evAt st.evs j).resp≠0->piDone n k calls (evAt st.evs j)
theorem pi_look {n q now s N:Nat} (hq:q≠now) (h1:s+(if now<q then 1 else 0)=q) (h2:N+s+1<=n):q<=n:=by
  split at h1<;>omega
theorem piWord_lt {n k q a:Nat} (hq:q<=n) (ha:a<k):piWord n k q a<1+(n+1)*(k+1):=by
  unfold piWord
  have h1:(q+1)*k<=(n+1)*k:=Nat.mul_le_mul_right k (by omega)
  rw [Nat.succ_mul] at h1
  have h2:(n+1)*(k+1)=(n+1)*k+(n+1):=Nat.mul_succ _ _
  omega
theorem piWord_inj {n k q a q' a':Nat} (ha:a<k) (ha':a'<k) (h:piWord n k q a=piWord n k q' a'):q=q'/\a=a':=by
  unfold piWord at h
  have e:q*k+a=q'*k+a':=by omega
  have hk:0<k:=by omega
  have d1:(q*k+a) / k=q:=by rw [Nat.mul_comm,Nat.mul_add_div hk,Nat.div_eq_of_lt ha];omega
  have d2:(q'*k+a') / k=q':=by rw [Nat.mul_comm,Nat.mul_add_div hk,Nat.div_eq_of_lt ha'];omega
  have hqq:q=q':=by rw [<-d1,<-d2,e]
  subst hqq
  exact⟨rfl,by omega⟩
theorem piWord_far {n k q a q':Nat} (hq':q'<=n):piWord n k q a≠0/\piWord n k q a≠1+q':=by unfold piWord;omega
theorem piLeft_lt {n k q:Nat} (hq:q<=n):1+q<1+(n+1)*(k+1):=by
  have h2:(n+1)*(k+1)=(n+1)*k+(n+1):=Nat.mul_succ _ _
  have:=Nat.zero_le ((n+1)*k)
  omega
theorem piDiff_add {q now c n t:Nat} (hn:n<=16) (h1:q<=n) (h2:now<=n) (h3:c<=t) (ht:t<=1000000):(now*4294967296+c+piDiff q now) % 18446744073709551616=q*4294967296+c:=by
  unfold piDiff
  omega
end
section

/- Layer 14: the register's addresses; one that writes: to look, to fill. -/
open Go.RowKit
def pinCells (n w last now bC:Nat):Array Value:=#[.int .i64 0,.int .i64 (n:Int),.int .i64 (w:Int),.slice (some ⟨bC,0,none⟩) (n+1) (n+1),.int .u64 (last:Int),.int .i64 (now:Int)]
def piStep (b:Nat):Nat->Value
 | 0=>.func (.func 114) #[.pointer (some ⟨b,0,none⟩)] #[]
 | 1=>.func (.func 116) #[.pointer (some ⟨b,0,none⟩)] #[]
 | _=>.func (.func 122) #[.pointer (some ⟨b,0,none⟩)] #[]
def piWr (bP b v q i ph:Nat):Array Value:=#[.pointer (some ⟨bP,0,none⟩),.int .u64 (v:Int),.int .i64 (q:Int),.int .i64 (i:Int),piStep b ph]
theorem pin_left (bP bC n k last now q:Nat) (hq:q<=1000) (w:World) (hP:w.heap[bP]?=some (.cells (pinCells n k last now bC) 86 (0,0))) :
  Calls Try.prog 112 #[.pointer (some ⟨bP,0,none⟩),.int .i64 (q:Int)] w λe w'=>e=.returned (.int .i64 ((piLeft q:Nat):Int))/\Below w.heap.size w w':=by
 have c0:w.cell? ⟨bP,0,none⟩=some (.int .i64 0):=by rw [cell_blk hP];rfl
 have wq:IntKind.i64.wrap (1+(q:Int))=1+(q:Int):=by rw [IntKind.wrap_i64];omega
 have E:=Lib.hid (show((piLeft q:Nat):Int)=1+(q:Int) by unfold piLeft;omega)
 rw [E.out]
 clear hP hq
 go_enter Try.func112,Try.ntmps112
 go_wp2
 go_ret
 exact⟨rfl,Gr.refl _⟩
theorem pin_word (bP bC n k last now q i:Nat) (hn:n<=16) (hk:k<=8) (hq:q<=100) (hi:i<=100) (w:World) (hP:w.heap[bP]?=some (.cells (pinCells n k last now bC) 86 (0,0))) :
  Calls Try.prog 121 #[.pointer (some ⟨bP,0,none⟩),.int .i64 (q:Int),.int .i64 (i:Int)] w λe w'=>e=.returned (.int .i64 ((piWord n k q i:Nat):Int))/\Below w.heap.size w w':=by
 have c0:w.cell? ⟨bP,0,none⟩=some (.int .i64 0):=by rw [cell_blk hP];rfl
 have c1:w.cell? ⟨bP,1,none⟩=some (.int .i64 (n:Int)):=by rw [cell_blk hP];rfl
 have c2:w.cell? ⟨bP,2,none⟩=some (.int .i64 (k:Int)):=by rw [cell_blk hP];rfl
 obtain⟨m,hm⟩:∃ m:Nat,m=q*k:=⟨_,rfl⟩
 have hm1:m<=1000:=by rw [hm];have:=Nat.mul_le_mul hq hk;omega
 have em:(q:Int)*(k:Int)=(m:Int):=by rw [hm];simp
 have w1:IntKind.i64.wrap ((n:Int)+2)=(n:Int)+2:=by rw [IntKind.wrap_i64];omega
 have w2:IntKind.i64.wrap ((q:Int)*(k:Int))=(m:Int):=by rw [em,IntKind.wrap_i64];omega
 have w3:IntKind.i64.wrap ((n:Int)+2+(m:Int))=(n:Int)+2+(m:Int):=by rw [IntKind.wrap_i64];omega
 have w4:IntKind.i64.wrap ((n:Int)+2+(m:Int)+(i:Int))=(n:Int)+2+(m:Int)+(i:Int):=by rw [IntKind.wrap_i64];omega
 have w0:IntKind.i64.wrap (n:Int)=(n:Int):=by rw [IntKind.wrap_i64];omega
 have E:=Lib.hid (show((piWord n k q i:Nat):Int)=(n:Int)+2+(m:Int)+(i:Int) by unfold piWord;rw [<-hm];omega)
 rw [E.out]
 clear hP hq hi hm hm1 em hn hk
 go_enter Try.func121,Try.ntmps121
 go_wp2_with fail
 go_quiet (fail)
 go_wp2
 go_ret
 exact⟨rfl,below_drewN (Gr.refl w) nq⟩
theorem wr_next (bP bC n k last now b v q i:Nat) (f:Value) (hq:q<=1000) (w:World) (hP:w.heap[bP]?=some (.cells (pinCells n k last now bC) 86 (0,0))) (hb:w.heap[b]?=some (.cells #[.pointer (some ⟨bP,0,none⟩),.int .u64 (v:Int),.int .i64 (q:Int),.int .i64 (i:Int),f] 207 (0,0))) (hne:bP≠b) :
  Calls Try.prog 113 #[.pointer (some ⟨b,0,none⟩)] w λe w'=>e=.returned (.tuple #[])/\Chg (λk=>k=b) w w'/\w'.heap[b]?=some (.cells #[.pointer (some ⟨bP,0,none⟩),.int .u64 (v:Int),.int .i64 ((piNext now q:Nat):Int),.int .i64 (i:Int),f] 207 (0,0)):=by
 have c5:w.cell? ⟨bP,5,none⟩=some (.int .i64 (now:Int)):=by rw [cell_blk hP];rfl
 have d0:w.cell? ⟨b,0,none⟩=some (.pointer (some ⟨bP,0,none⟩)):=by rw [cell_blk hb];rfl
 have d2:w.cell? ⟨b,2,none⟩=some (.int .i64 (q:Int)):=by rw [cell_blk hb];rfl
 have f2:w.frozen? ⟨b,2,none⟩=false:=frozen_blk hb 2
 have hqi:(q:Int)<=1000:=by omega
 have wq:IntKind.i64.wrap ((q:Int)+1)=(q:Int)+1:=by rw [IntKind.wrap_i64];omega
 have Hb:=Lib.hid hb
 clear hP hb hq
 by_cases hqn:q=now
 ·have e1:(q:Int)=(now:Int):=by omega
  have E:=Lib.hid (show piNext now q=q+1 by unfold piNext;rw [if_pos hqn])
  rw [E.out]
  subst hqn
  clear e1
  go_enter Try.func113,Try.ntmps113
  go_wp2_with fail
  go_quiet (fail)
  have d2':(w.drewN nq).cell? ⟨b,2,none⟩=some (.int .i64 (q:Int)):=d2
  have f2':(w.drewN nq).frozen? ⟨b,2,none⟩=false:=f2
  go_wp2
  go_end0
  refine⟨rfl,((Chg.refl (λk=>k=b) w).drewN nq).setCell (by exact .inl rfl) _,?_⟩
  rw [blk_set (w:=w.drewN nq) Hb.out]
  rw [show((q+1:Nat):Int)=(q:Int)+1 by omega];rfl
 ·have e1:¬ (q:Int)=(now:Int):=by omega
  have E:=Lib.hid (show piNext now q=q by unfold piNext;rw [if_neg hqn])
  rw [E.out]
  clear hqn
  go_enter Try.func113,Try.ntmps113
  go_wp2_with fail
  go_quiet (fail)
  go_wp2
  go_end0
  exact⟨rfl,(Chg.refl (λk=>k=b) w).drewN nq,Hb.out⟩
end
end Go.Proofs.Ytlepjmnhekeofaa
