/- Layer 16: the snapshot of many writers, in plain numbers. -/
import Derived.Test.YtifhldnmcdbpfaaU16
import Derived.Test.YtifhldnmcdbpfaaU14
import Derived.BigQuiet
import Derived.Laws.BitsAllLaws
import Derived.WalkMore
import Derived.Deep.AppendLies
set_option maxRecDepth 100000
set_option linter.unusedVariables false
set_option linter.unusedSimpArgs false
set_option linter.unnecessarySimpa false
namespace Go.Proofs.Ytifhldnmcdbpfaa
section
open Go.RowKit
structure MuD where
 old:List Nat
 now:List Nat
 last:Nat
 noted:List Nat
 reads:List Nat
 chosen:Bool
 list:List Nat
 moment:Int
inductive MuS where
 | rd (s:MuD) (key:List Int)
 | up (s:MuD) (p part record at_ v:Nat) (wr:Bool)
def xV:MuD:=⟨[],[],0,List.replicate 16 0,[],false,[],0⟩
def bI (m q t r:Nat):Nat:=m+(t*q+r)*(m+1)
def aX (m q a:Nat):Nat:=(a - m) / ((m+1)*q)
def fU (m q:Nat) (old now:List Nat):Nat->Nat->List Nat->List Nat×Option Nat
 | 0,_,d=>(d,none)
 | f+1,k,d=>if old.getD k 0=now.getD k 0 then fU m q old now f (k+1) d
  else if d.getD (aX m q (now.getD k 0)) 0≠0 then (d,some (max (now.getD k 0) (d.getD (aX m q (now.getD k 0)) 0)))
  else fU m q old now f (k+1) (d.set (aX m q (now.getD k 0)) (now.getD k 0))
def eF:List Nat->List Nat->List Nat×List Nat
 | 0::r,l=>eF r (l++[0])
 | r,l=>(r,l)
def gH (s:MuD):MuD:={ s with reads:=(eF s.reads s.list).1,list:=(eF s.reads s.list).2 }
def cB (m a:Nat):List Nat:=(List.range m).map λk=>a+1+k
def dH (m q:Nat) (wd:WD) (s:MuD):MuD:=
 if s.old=[] then { s with old:=s.now,last:=wd.now,now:=[] }
 else if s.old=s.now then gH { s with chosen:=true,moment:=s.last,reads:=s.reads++s.now }
 else match fU m q s.old s.now m 0 s.noted with
  | (d,some a)=>{ s with noted:=d,chosen:=true,moment:=(wd.traces a).headD 0,reads:=s.reads++cB m a }
  | (d,none)=>{ s with noted:=d,old:=s.now,last:=wd.now,now:=[] }
def eQ (s:MuD):Nat:=if s.chosen=true then s.reads.getD 0 0 else s.now.length
def qN (m q:Nat) (wd:WD) (g:Nat) (s:MuD):MuD:=
 if s.chosen=true then gH { s with list:=s.list++[g],reads:=s.reads.tail }
 else if s.now.length+1=m then dH m q wd { s with now:=s.now++[g] } else { s with now:=s.now++[g] }
def jJ (wd:WD) (s:MuD):WD:=dM wd (eQ s)
def bJ (m q:Nat) (wd:WD) (s:MuD):MuD:=qN m q wd (dP wd (eQ s)) s
def aS (s:MuD):Bool:=s.chosen && decide (s.reads=[])
def aR (n m q:Nat):Sys where
 σ:=MuS
 ω:=List Nat
 start:=λo _ p c=>if c.kind=1 then .run (.rd xV []) else if c.kind≠0 then .refuse 9 else if m<=c.a then .refuse 10 else if q<=o.getD p 0 then .refuse 6 else .run (.up xV p c.a (bI m q p (o.getD p 0)) 0 c.b false)
 step:=λo wd _ s=>match s with
  | .rd s key=>(o,jJ wd s,.rd (bJ m q wd s) (if aS (bJ m q wd s)=true then [2*(bJ m q wd s).moment,2*(wd.now:Int)] else key),aS (bJ m q wd s))
  | .up s p a r i v false=>(o,jJ wd s,.up (bJ m q wd s) p a r i v (aS (bJ m q wd s)),false)
  | .up s p a r i v true=>if i<=m then (o,dK wd (r+i) ((v::s.list).getD i 0),.up s p a r (i+1) v true,false)
   else (o.set p (o.getD p 0+1),dK (nH wd r s.moment) a r,.up s p a r i v true,true)
 answer:=λs=>match s with
  | .rd s key=>(⟨0,0,s.list⟩,key)
  | .up _ _ _ _ _ _ _=>(⟨0,0,[]⟩,[])
 late:=λ_ _ _ _=>none
end
section
open Go.RowKit
def VT (q:Nat):Option PiS->Bool
  | some (.rd q' j _ _)=>decide (q'=q) && decide (1<=j)
  | _=>false
def UL (now q:Nat):Option PiS->Bool
  | some (.rd q' j _ _)=>decide (q<=q') && decide (q'≠now) && decide (1<=j)
  | _=>false
def piH (q:Nat) (hs:List (Option PiS×Nat)):Nat:=hs.countP (λh=>VT q h.1)
def piN (now q:Nat) (hs:List (Option PiS×Nat)):Nat:=hs.countP (λh=>UL now q h.1)
structure PiW (n k t:Nat) (ws:List Nat) (o:LH) (hs:List (Option PiS×Nat)):Prop where
  wl:ws.length=1+(n+1)*(k+1)
  cl:o.come.length=n+1
  nl:o.now<=n
  cell:∃ c,ws.getD 0 0=o.now*4294967296+c/\c<=t/\o.last<=c/\∀ q,q<=n->o.come.getD q 0+(if q=o.now then c - o.last else 0)=ws.getD (1+q) 0+piH q hs
  cm:∀ q,q<=n->o.come.getD q 0<=o.last
def RI (n k:Nat) (calls:List aF) (ws:List Nat) (o:LH) (hs:List (Option PiS×Nat)) (p:Nat) (e:EvD):PiS->Prop
  | .wr v q i ph=>p=0/\kindOf calls e=0/\v=(calls.getD e.call d0).a/\q≠o.now/\
      ((ph=0/\i=0/\e.steps+(if o.now<q then 1 else 0)=q/\piN o.now q hs+e.steps+1<=n)∨
       (1<=ph/\ph<=2/\q<=n/\piH q hs=0/\e.steps<=n+i/\i<=k/\(ph=1->i<k)/\(ph=2->i=k)/\∀ a,a<i->ws.getD (mM n k q a) 0=(v+a) % 18446744073709551616))
  | .rd q j l _=>kindOf calls e=1/\j<=k+1/\e.steps=j/\(j=0->l=[])/\(1<=j->q<=n/\l.length=j - 1/\∀ a,a<j - 1->l.getD a 0=ws.getD (mM n k q a) 0)
def AO (k:Nat) (calls:List aF) (f:Nat->Nat):Prop:=
  (∀ a,a<k->f a=0)∨∃ c,c<calls.length/\(calls.getD c d0).thread=0/\(calls.getD c d0).obj=0/\(calls.getD c d0).kind=0/\∀ a,a<k->f a=((calls.getD c d0).a+a) % 18446744073709551616
def SH (n k:Nat) (calls:List aF) (e:EvD):Prop:=
  e.steps<=n+k+1/\(kindOf calls e=1->e.steps<=k+2)/\(bY calls e=0->kindOf calls e=1->e.ans.list.length=k/\AO k calls (λa=>e.ans.list.getD a 0))
structure WY (n k:Nat) (calls:List aF) (st:aP (OD n k)):Prop where
  w:PiW n k st.wd.now st.wd.mem.ws st.obj st.hands
  hand:∀ p s j,st.hands.getD p (none,0)=(some s,j)->bY calls (aB st.evs j)=0/\RI n k calls st.wd.mem.ws st.obj st.hands p (aB st.evs j) s
  cont:∀ q,q<=n->(∀ v i ph j,st.hands.getD 0 (none,0)=(some (.wr v q i ph),j)->ph=0)->AO k calls (λa=>st.wd.mem.ws.getD (mM n k q a) 0)
  done:∀ j,j<st.evs.length->(aB st.evs j).resp≠0->SH n k calls (aB st.evs j)
end
section
open Go.RowKit
end
section
open Go.RowKit
end
section
open Go.RowKit
end
section
open Go.RowKit
end
section
open Go.RowKit
theorem jT {w w':World} {Mut:Nat->Prop} {I:eO} {N:Nat} {wd:WD} {S:Nat->Prop} (h:aT w Mut I N wd) (hc:Chg S w w') (h1:∀ b,S b->Mut b/\¬ bC I b):aT w' Mut I N wd:=
 h.keep hc (λb hb=>(h1 b hb).1) (λb hb=>(h1 b hb).2) (bE.refl _ _) (λb hb=>Nat.lt_of_lt_of_le (h.low b hb) hc.size) h.muts
end
section
open Go.RowKit
end
section
open Go.RowKit
theorem IM (w:World) (th ob kd ca cb cc:Int):∃ wa,wa=w.alloc (.cells #[.int .i64 th,.int .i64 ob,.int .i64 kd,.int .u64 ca,.int .u64 cb,.int .u64 cc] 46)/\Below w.heap.size w wa/\wa.heap.size=w.heap.size+1/\
  wa.heap[w.heap.size]?=some (.cells #[.int .i64 th,.int .i64 ob,.int .i64 kd,.int .u64 ca,.int .u64 cb,.int .u64 cc] 46 (0,0)):=
 ⟨_,rfl,Gr.new _ _,by simp,heap_alloc_new _ _⟩
end
section
open Go.RowKit
variable {n k:Nat} {calls:List aF}
end
section
open Go.RowKit
variable {n k:Nat} {calls:List aF}
theorem PiW.same {t t':Nat} {ws:List Nat} {o:LH} {hs hs':List (Option PiS×Nat)} (h:PiW n k t ws o hs) (ht:t<=t') (hH:∀ y,piH y hs'=piH y hs):PiW n k t' ws o hs':=by
 obtain⟨c,c1,c2,c3,c4⟩:=h.cell
 exact⟨h.wl,h.cl,h.nl,⟨c,c1,by omega,c3,λq hq=>by rw [hH];exact c4 q hq⟩,h.cm⟩
theorem uM {wd:WD} {a:Nat} (h:a<wd.mem.ws.length):dP wd a=wd.mem.ws.getD a 0:=by
 have ho:eT wd.mem (a:Int)=false:=by unfold eT;simp;omega
 unfold dP dI
 rw [if_neg (by rw [ho];simp)];simp
theorem wD (wd:WD) (a:Nat):(dM wd a).mem.ws=wd.mem.ws:=by
 unfold dM dI
 split<;>rfl
theorem tY {wd:WD} {a:Nat} (h:a<wd.mem.ws.length) (v:Nat):(dK wd a v).mem.ws=wd.mem.ws.set a v:=by
 have ho:eT wd.mem (a:Int)=false:=by unfold eT;simp;omega
 unfold dK iP
 simp only
 rw [if_neg (by rw [ho];simp)];simp
theorem gJ (l:List Nat) (p v i:Nat) (h:p<l.length):(l.set p v).getD i 0=if i=p then v else l.getD i 0:=by
 by_cases hi:i=p
 ·subst hi;rw [if_pos rfl];exact aK h
 ·rw [if_neg hi];exact aO (Ne.symm hi)
end
section
open Go.RowKit
variable {n k:Nat} {calls:List aF}
end
section
open Go.RowKit
variable {n k:Nat} {calls:List aF}
end
section
open Go.RowKit
variable {n k:Nat} {calls:List aF}
end
section
open Go.RowKit
end
section
open Go.RowKit
end
section
open Go.RowKit
theorem sK (size:Nat) (v:Int) (hv:v=(size:Int)) (h64:size<=1000000) (u:World):(Instr.makeSlice 28 (.int .i64 v) (.int .i64 v)).run Try.prog u=.ok (.slice (some ⟨u.heap.size,0,none⟩) size size) (u.alloc (.cells (madeCells #[.int .u64 0] size) 40)):=by
 subst hv
 obtain⟨i0,hi,hz0,hz1,hz2⟩:=info_parts nI
 have h:=run_make (P:=Try.prog) u 28 40 i0 (.int .u64 0) Try.underlying28 hi hz0 .i64 .i64 (size:Int) (size:Int) (by omega) (Int.le_refl _) (by rw [hz2];omega) (by omega)
 simpa [hz1,Value.cells] using h
theorem vQ {u:World} {b size:Nat} (h:u.heap[b]?=some (.cells (madeCells #[.int .u64 0] size) 40 (0,0))) (h64:size<=1000000):aW u (some ⟨b,0,none⟩) (List.replicate size 0).length 1 (dY (List.replicate size 0)):=by
 refine⟨by rw [List.length_replicate];unfold maxLen;omega,λj hj=>⟨b,0,rfl,aH h,λf hf=>?_⟩⟩
 obtain rfl:f=0:=by omega
 rw [List.length_replicate] at hj
 rw [aA h,nZ]
 simp [dY,cZ,List.getD_eq_getElem?_getD,List.getElem?_replicate,hj]
theorem sG.ret {O X X':Nat->Prop} {w0 w w':World} {er:Int} {r:gT} {e:Ending} (h:sG O X w w' er r e) (hb:Below w0.heap.size w0 w) (hO:∀ b,O b->w0.heap.size<=b) (hX:∀ b,X' b->X b):oW X' w0 w' er r e:=by
 obtain⟨hc,h2⟩:=h
 have hb2:Below w0.heap.size w0 w':=(((Chg.of_below hb).trans (hc.mono (λb _ h=>hO b h)):Chg (λb=>w0.heap.size<=b) w0 w')).below (λb h=>h) (Nat.le_refl _)
 rcases h2 with⟨h0,rfl⟩|⟨h0,ea,ec,va,vc,ers,rfl,hr⟩
 ·exact⟨none,0,0,none,0,0,_,rfl,hb2,.inl ⟨h0,rfl,rfl,rfl,rfl,rfl,rfl,rfl⟩⟩
 ·exact⟨ea,_,ec,va,_,vc,r,by rw [h0],hb2,.inr ⟨h0,rfl,rfl,rfl,ers,hr.low hb.size hX⟩⟩
end
section
open Go.RowKit
variable {n k:Nat} {calls:List aF}
end
section
open Go.RowKit
variable {S:Sys} {calls:List aF}
def kQ (st:aP S):Prop:=∀ i j,i<st.evs.length->j<st.evs.length->i≠j->(aB st.evs i).resp≠0->(aB st.evs i).resp≠(aB st.evs j).inv
theorem Next.tickApart {st:aP S} {q k:Nat} {evs':List EvD} {e1:EvD} (hg:bH calls st) (hT:kQ st) (h:Next calls st q evs' k e1) (hr:e1.resp=0∨e1.resp=st.wd.now+1) (hi:st.evs.length<=k->e1.inv=st.wd.now+1) (hi2:k<st.evs.length->e1.inv=(aB st.evs k).inv) :
  ∀ i j,i<evs'.length->j<evs'.length->i≠j->(aB evs' i).resp≠0->(aB evs' i).resp≠(aB evs' j).inv:=by
 intro i j hil hjl hij hri
 by_cases hik:i=k
 ·subst hik
  obtain⟨j1,j2⟩:=h.other j hjl (Ne.symm hij)
  have hti:=hg.ev.tick j j1
  rw [j2]
  rw [h.self] at hri ⊢
  omega
 ·obtain⟨i1,i2⟩:=h.other i hil hik
  have hti:=hg.ev.tick i i1
  rw [i2] at hri ⊢
  by_cases hjk:j=k
  ·subst hjk
   rw [h.self]
   by_cases hjn:j<st.evs.length
   ·rw [hi2 hjn]
    exact hT i j i1 hjn hij hri
   ·have:=hi (by omega);omega
  ·obtain⟨j1,j2⟩:=h.other j hjl hjk
   rw [j2]
   exact hT i j i1 j1 hij hri
theorem CK (y:S.ω×WD×S.σ×Bool) (q:Nat) (e:EvD):(MX S y q e).call=e.call/\(MX S y q e).inv=e.inv/\(MX S y q e).steps=e.steps+1/\(y.2.2.2=true->(MX S y q e).resp=y.2.1.now/\(MX S y q e).ans=(S.answer y.2.2.1).1/\(MX S y q e).key=keyOf y.2.1 q (S.answer y.2.2.1).2)/\(y.2.2.2=false->(MX S y q e).resp=e.resp):=by
 unfold MX
 cases hb:y.2.2.2 with
 | true=>exact⟨rfl,rfl,rfl,λ_=>⟨rfl,rfl,rfl⟩,λh=>Bool.noConfusion h⟩
 | false=>exact⟨rfl,rfl,rfl,λh=>Bool.noConfusion h,λ_=>rfl⟩
theorem yL {wd:WD} (h:wd.marks=List.replicate 16 []) (p:Nat):wd.marks.getD p []=[]:=by
 rw [h,List.getD_eq_getElem?_getD,List.getElem?_replicate]
 split<;>rfl
theorem oM {wd:WD} (h:wd.marks=List.replicate 16 []) (p:Nat) (k:List Int):keyOf wd p k=if k=[] then iW wd else k:=by
 unfold keyOf
 rw [yL h p,if_pos rfl]
theorem From.invs {st:aP S} {q i k:Nat} {s:S.σ} {aU:List EvD} {bQ:WD} (h:From calls st q i k s aU bQ):(st.evs.length<=k->(aB aU k).inv=st.wd.now+1)/\(k<st.evs.length->(aB aU k).inv=(aB st.evs k).inv):=by
 cases h with
 | old k s hh hk hc hr=>exact⟨λh=>by omega,λ_=>rfl⟩
 | new s hh hs=>exact⟨λ_=>by rw [jO];rfl,λh=>absurd h (Nat.lt_irrefl _)⟩
theorem From.mark0 {st:aP S} {q i k:Nat} {s:S.σ} {aU:List EvD} {bQ:WD} (h:From calls st q i k s aU bQ) (hm:st.wd.marks=List.replicate 16 []):bQ.marks=List.replicate 16 []:=by
 cases h with
 | old k s hh hk hc hr=>exact hm
 | new s hh hs=>exact mJ hm
theorem CX (hnow:∀ o wd p s,(S.step o wd p s).2.1.now=wd.now) {st st':aP S} (hg:bH calls st) (hT:kQ st) (ht:wZ calls st st'):kQ st':=by
 cases ht with
 | idle=>exact hT
 | refuse q i er hq hN hh hs=>
  exact(qW hg hN (bL (st.wd.tick.begin q) q ⟨er,0,[]⟩ [] (eB i (st.wd.tick.begin q))) rfl).tickApart hg hT (.inr rfl) (λ_=>rfl) (λh=>absurd h (Nat.lt_irrefl _))
 | step q i k s aU bQ hq hN hf=>
  obtain⟨f1,f2,f3,f4,f5⟩:=CK (S.step st.obj bQ q s) q (aB aU k)
  have hn:=hnow st.obj bQ q s
  have hn0:=hf.now
  refine(hf.next hg hN (MX S (S.step st.obj bQ q s) q (aB aU k)) f1).tickApart hg hT ?_ (λh=>f2.trans (hf.invs.1 h)) (λh=>f2.trans (hf.invs.2 h))
  cases hb:(S.step st.obj bQ q s).2.2.2 with
  | true=>right;rw [(f4 hb).1];omega
  | false=>left;rw [f5 hb];exact hf.open_
end
section
open Go.RowKit
variable {n k:Nat} {calls:List aF}
def piW (calls:List aF) (e:EvD):Prop:=bY calls e=0/\kindOf calls e=0/\e.ans.err=0/\e.resp≠0
def jD (k:Nat) (calls:List aF) (evs:List EvD) (T:Nat) (f:Nat->Nat):Prop:=
 ((∀ j,j<evs.length->piW calls (aB evs j)->T<=(aB evs j).resp)/\∀ a,a<k->f a=0)∨
 ∃ j,j<evs.length/\piW calls (aB evs j)/\(aB evs j).resp<T/\(∀ i,i<evs.length->piW calls (aB evs i)->(aB evs i).resp<T->(aB evs i).resp<=(aB evs j).resp)/\∀ a,a<k->f a=((calls.getD (aB evs j).call d0).a+a) % 18446744073709551616
theorem jD.congr {evs:List EvD} {T:Nat} {f g:Nat->Nat} (h:jD k calls evs T f) (e:∀ a,a<k->g a=f a):jD k calls evs T g:=by
 rcases h with⟨h1,h2⟩|⟨j,h1,h2,h3,h4,h5⟩
 ·exact .inl ⟨h1,λa ha=>(e a ha).trans (h2 a ha)⟩
 ·exact .inr ⟨j,h1,h2,h3,h4,λa ha=>(e a ha).trans (h5 a ha)⟩
section
variable {st:aP (OD n k)} {q j:Nat} {evs':List EvD} {e1:EvD}
theorem jD.move {T T':Nat} {f:Nat->Nat} (h:jD k calls st.evs T f) (hx:Next calls st q evs' j e1) (h1:∀ i,i<st.evs.length->piW calls (aB st.evs i)->((aB st.evs i).resp<T↔(aB st.evs i).resp<T')) (hw:piW calls e1->T'<=e1.resp):jD k calls evs' T' f:=by
 have old:∀ i,i<evs'.length->piW calls (aB evs' i)->(aB evs' i).resp<T'->i<st.evs.length/\aB evs' i=aB st.evs i:=λi hi hp hlt=>by
  by_cases hij:i=j
  ·subst hij
   rw [hx.self] at hp hlt
   have:=hw hp;omega
  ·exact hx.other i hi hij
 rcases h with⟨a1,a2⟩|⟨i,b1,b2,b3,b4,b5⟩
 ·refine .inl ⟨λi hi hp=>Nat.le_of_not_lt λhlt=>?_,a2⟩
  obtain⟨i1,i2⟩:=old i hi hp hlt
  rw [i2] at hp hlt
  have:=a1 i i1 hp
  have:=(h1 i i1 hp).2 hlt
  omega
 ·have hij:i≠j:=λe=>b2.2.2.2 (hx.old (by omega) ▸ (by rw [e]))
  have e:aB evs' i=aB st.evs i:=(hx.other i (Nat.lt_of_lt_of_le b1 hx.size) hij).2
  refine .inr ⟨i,Nat.lt_of_lt_of_le b1 hx.size,by rw [e];exact b2,by rw [e];exact(h1 i b1 b2).1 b3,λi' hi' hp hlt=>?_,λa ha=>by rw [e];exact b5 a ha⟩
  obtain⟨i1,i2⟩:=old i' hi' hp hlt
  rw [i2] at hp hlt ⊢
  rw [e]
  exact b4 i' i1 hp ((h1 i' i1 hp).2 hlt)
theorem jD.keep {T:Nat} {f:Nat->Nat} (h:jD k calls st.evs T f) (hx:Next calls st q evs' j e1) (hr:e1.resp=0∨e1.resp=st.wd.now+1) (hT:T<=st.wd.now+1):jD k calls evs' T f:=
 h.move hx (λ_ _ _=>Iff.rfl) (λhp=>by rcases hr with h0|h0;exact absurd h0 hp.2.2.2;omega)
theorem jD.up {f:Nat->Nat} (hg:bH calls st) (h:jD k calls st.evs (st.wd.now+1) f) (hx:Next calls st q evs' j e1) (hw:¬ piW calls e1):jD k calls evs' (st.wd.now+2) f:=
 h.move hx (λi hi _=>by have:=(hg.ev.tick i hi).2.2.2;omega) (λhp=>absurd hp hw)
theorem jD.new {f:Nat->Nat} (hg:bH calls st) (hx:Next calls st q evs' j e1) (hw:piW calls e1) (hr:e1.resp=st.wd.now+1) (hf:∀ a,a<k->f a=((calls.getD e1.call d0).a+a) % 18446744073709551616):jD k calls evs' (st.wd.now+2) f:=by
 refine .inr ⟨j,hx.lt,by rw [hx.self];exact hw,by rw [hx.self];omega,λi hi hp hlt=>?_,λa ha=>by rw [hx.self];exact hf a ha⟩
 rw [hx.self,hr];omega
end
structure xR (k:Nat) (calls:List aF) (evs:List EvD) (e:EvD):Prop where
 rd:bY calls e=0->kindOf calls e=1->jD k calls evs e.inv (λa=>e.ans.list.getD a 0)/\e.ans.err=0/\e.ans.val=0/\e.key=[2*(e.inv:Int)]
 el:¬ (bY calls e=0/\kindOf calls e=1)->e.key=[2*(e.resp:Int)]/\e.ans=(if bY calls e≠0 then ⟨12,0,[]⟩ else if kindOf calls e≠0 then ⟨9,0,[]⟩ else if tn calls e≠0 then ⟨11,0,[]⟩ else ⟨0,0,[]⟩)
structure WK (n k:Nat) (calls:List aF) (st:aP (OD n k)):Prop where
 marks:st.wd.marks=List.replicate 16 []
 cf:st.wd.mem.c.fault=0
 ca:st.wd.mem.c.all<=st.wd.now
 cell:jD k calls st.evs (st.wd.now+1) (λa=>st.wd.mem.ws.getD (mM n k st.obj.now a) 0)
 hand:∀ p q j l key i,st.hands.getD p (none,0)=(some (.rd q j l key),i)->1<=j->jD k calls st.evs (aB st.evs i).inv (λa=>st.wd.mem.ws.getD (mM n k q a) 0)/\key=[2*((aB st.evs i).inv:Int)]
 told:∀ j,j<st.evs.length->(aB st.evs j).resp≠0->xR k calls st.evs (aB st.evs j)
theorem xR.keep {st:aP (OD n k)} {q j:Nat} {evs':List EvD} {e1 e:EvD} (h:xR k calls st.evs e) (hx:Next calls st q evs' j e1) (hr:e1.resp=0∨e1.resp=st.wd.now+1) (hT:e.inv<=st.wd.now+1):xR k calls evs' e:=
 ⟨λh0 h1=>⟨(h.rd h0 h1).1.keep hx hr hT,(h.rd h0 h1).2⟩,h.el⟩
end
end Go.Proofs.Ytifhldnmcdbpfaa
