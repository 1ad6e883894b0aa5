/- Layer 8: the tally as the loom's object: the walks of its machines. -/
import Derived.Test.YtifhldnmcdbpfaaV12
import Derived.Test.YtifhldnmcdbpfaaV16
import Derived.Laws.CopyOwn
import Derived.Test.YtifhldnmcdbpfaaV04
import Derived.Deep.DeepCutAuto
set_option maxRecDepth 100000
set_option linter.unusedVariables false
set_option linter.unusedSimpArgs false
set_option linter.unnecessarySimpa false
namespace Go.Proofs.Ytifhldnmcdbpfaa
section
open Go.RowKit
inductive TaS where
 | count (seen:Bool) (v:Nat)
 | read (at_ sum:Nat) (key:List Int)
def NL (ticks:List Int) (inv s:Nat):Int:=if 0<s/\s<=ticks.length then max (inv:Int) (ticks.getD (s - 1) 0) else (inv:Int)
def dI (wd:WD) (a:Nat):WD:={ wd with mem:=(cZ wd.mem (a:Int)).1 }
def LW (wd:WD) (p v:Nat):WD:={ wd with mem:=bS wd.mem (p:Int) (v+1),traces:=rJ wd.traces 0 (wd.traces 0++[(wd.now:Int)]) }
def gD (wd:WD) (a:Nat):Nat:=(cZ wd.mem (a:Int)).2
def QZ (wd:WD) (p s:Nat):List Int:=[2*NL (wd.traces 0) (wd.inv.getD p 0) s,2*(wd.now:Int)]
def GU (n:Nat):Sys where
 σ:=TaS
 ω:=Unit
 start:=λ_ _ _ c=>if c.kind=0 then .run (.count false 0) else if c.kind=1 then .run (.read 0 0 []) else .refuse 9
 step:=λ_ wd p s=>match s with
  | .count false _=>((),dI wd p,.count true (gD wd p),false)
  | .count true v=>((),LW wd p v,.count true v,true)
  | .read a s k=>if a+1<n then ((),dI wd a,.read (a+1) (s+gD wd a) k,false) else ((),dI wd a,.read (a+1) (s+gD wd a) (QZ wd p (s+gD wd a)),true)
 answer:=λs=>match s with
  | .count _ _=>(⟨0,0,[]⟩,[])
  | .read _ s k=>(⟨0,s,[]⟩,k)
 late:=λ_ _ _ _=>none
def JE (w w':World) (Mut B:Nat->Prop) (I:dG) (N:Nat) (wd:WD) (b:Nat) (cells:Array Value) (T:TypeId) (done:Bool) (e:Ending):Prop:=
 e=.returned (.bool done)/\Chg (λk=>aW I k∨B k) w w'/\aM w' (aT Mut B (λk=>k=b)) I N wd/\w'.heap[b]?=some (.cells cells T (0,0))
theorem JE.drewN {w w':World} {Mut B:Nat->Prop} {I:dG} {N:Nat} {wd:WD} {b:Nat} {cells:Array Value} {T:TypeId} {done:Bool} {e:Ending} (h:JE w w' Mut B I N wd b cells T done e) (n:Nat):JE w (w'.drewN n) Mut B I N wd b cells T done e:=
 ⟨h.1,h.2.1.drewN n,h.2.2.1.keep (S:=noB) ((Chg.refl _ _).drewN n) (λ_ h=>h.elim) (λ_ h=>h.elim) (aV.refl _ _) (λk hk=>h.2.2.1.low k hk) h.2.2.1.muts,h.2.2.2⟩
end
section
open Go.RowKit
structure dP where
 k:Nat
 left:Nat
 turns:List (Nat×Bool)
 last:Nat
def eQ (m:Nat):dP:=⟨1,m,[],0⟩
def dP.turn (y:dP) (r:Bool):dP:=⟨2*y.k+r.toNat,y.left - 1,y.turns++[(y.k,r)],y.last⟩
def jN (tr:Int->List Int) (b k:Nat):Int:=(tr ((b+k - 1:Nat):Int)).headD 0
def fA (S:Nat->Int) (t:Nat×Bool) (key:List Int):List Int:=
 if S t.1=0 then key
 else if t.2=false/\2*S t.1<key.headD 0 then (2*S t.1 - 1)::key
 else if t.2=true/\key.headD 0<=2*S t.1 then (2*S t.1)::key
 else key
def iN (S:Nat->Int) (turns:List (Nat×Bool)) (last:Int):List Int:=turns.foldr (fA S) [2*last]
def nI (wd:WD) (p:Nat) (y:dP):Int:=if y.last=0 then ((wd.inv.getD p 0:Nat):Int) else (y.last:Int)
def mP (b p:Nat) (wd:WD) (y:dP):List Int:=iN (jN wd.traces b) y.turns (nI wd p y)
structure RdD where
 y:dP
 val:Nat
 ky:List Int
structure WrD where
 y:dP
 v:Nat
 up:Bool
 nx:Nat
 ky:List Int
def bN (ts:List (Nat×Bool)):Nat->Nat
 | 0=>0
 | n+1=>if (ts.getD n (0,false)).2=true then n+1 else bN ts n
def WrD.fin (x:WrD):WrD:={ x with up:=true,nx:=bN x.y.turns x.y.turns.length }
def downN (v:Nat):Nat->dP->dP
 | 0,y=>y
 | n+1,y=>if v / 2^n % 2=1 then downN v n (y.turn true) else y
def WrD.down (x:WrD):WrD:=if (downN x.v x.y.left x.y).left=0 then ({ x with y:=downN x.v x.y.left x.y }:WrD).fin else { x with y:=downN x.v x.y.left x.y }
def dB (m v:Nat):WrD:=(⟨eQ m,v,false,1,[]⟩:WrD).down
def dZ (wd:WD) (b:Nat) (y:dP):Bool:=decide (gD wd (b+y.k - 1)=1)
def dP.look (y:dP) (wd:WD):dP:={ y with last:=wd.now }
def rdStep (b p:Nat) (wd:WD) (x:RdD):WD×RdD×Bool:=
 if 0<((x.y.look wd).turn (dZ wd b x.y)).left then (dI wd (b+x.y.k - 1),⟨(x.y.look wd).turn (dZ wd b x.y),2*x.val+(dZ wd b x.y).toNat,x.ky⟩,false)
 else (dI wd (b+x.y.k - 1),⟨(x.y.look wd).turn (dZ wd b x.y),2*x.val+(dZ wd b x.y).toNat,mP b p (dI wd (b+x.y.k - 1)) ((x.y.look wd).turn (dZ wd b x.y))⟩,true)
def qG (b k:Nat) (wd:WD):WD:={ wd with mem:=bS wd.mem ((b+k - 1:Nat):Int) 1,traces:=if jN wd.traces b k=0 then rJ wd.traces ((b+k - 1:Nat):Int) [(wd.now:Int)] else wd.traces }
def wrK (x:WrD):Nat:=(x.y.turns.getD (x.nx - 1) (0,false)).1
def dD (b:Nat) (wd:WD) (x:WrD):WD×WrD:=
 if x.up=true then (qG b (wrK x) wd,{ x with nx:=bN x.y.turns (x.nx - 1) })
 else if gD wd (b+x.y.k - 1)=1 then (dI wd (b+x.y.k - 1),({ x with y:=x.y.look wd }:WrD).fin)
 else (dI wd (b+x.y.k - 1),({ x with y:=(x.y.look wd).turn false }:WrD).down)
def WrD.done (x:WrD):Bool:=x.up && decide (x.nx=0)
def aO (b p:Nat) (wd:WD) (x:WrD):WD×WrD×Bool:=
 if (dD b wd x).2.done=true then ((dD b wd x).1,{ (dD b wd x).2 with ky:=mP b p (dD b wd x).1 (dD b wd x).2.y },true) else ((dD b wd x).1,(dD b wd x).2,false)
def NS (b p:Nat) (wd:WD) (x:WrD):List Int:=if x.up=false then [] else if (x.y.turns.any λt=>t.2 && decide (jN wd.traces b t.1=0))=true then [] else mP b p wd x.y
inductive MxS where
 | rd (x:RdD)
 | wr (x:WrD)
def maxS (m:Nat):Sys where
 σ:=MxS
 ω:=Unit
 start:=λ_ _ _ c=>if c.kind=1 then .run (.rd ⟨eQ m,0,[]⟩) else if c.kind≠0 then .refuse 9 else if c.a / 2^m≠0 then .refuse 10 else .run (.wr (dB m c.a))
 step:=λ_ wd p s=>match s with
  | .rd x=>((),(rdStep 0 p wd x).1,.rd (rdStep 0 p wd x).2.1,(rdStep 0 p wd x).2.2)
  | .wr x=>((),(aO 0 p wd x).1,.wr (aO 0 p wd x).2.1,(aO 0 p wd x).2.2)
 answer:=λs=>match s with
  | .rd x=>(⟨0,x.val,[]⟩,x.ky)
  | .wr x=>(⟨0,0,[]⟩,x.ky)
 late:=λ_ wd p s=>match s with
  | .rd _=>none
  | .wr x=>some (NS 0 p wd x)
structure fB (m:Nat) (y:dP):Prop where
 len:y.turns.length+y.left=m
 k1:1<=y.k
 k2:y.k<2^(y.turns.length+1)
 tk:∀ t,t∈y.turns->1<=t.1/\t.1<2^m
theorem fB.init (m:Nat):fB m (eQ m):=⟨by simp [eQ],Nat.le_refl _,by simp [eQ],λt h=>by cases h⟩
theorem fB.turn {m:Nat} {y:dP} (h:fB m y) (hl:0<y.left) (r:Bool):fB m (y.turn r):=by
 have h1:=h.len;have h2:=h.k1;have h3:=h.k2
 refine⟨by simp [dP.turn];omega,by show 1<=2*y.k+r.toNat;omega,?_,λt ht=>?_⟩
 ·show 2*y.k+r.toNat<2^((y.turns++[(y.k,r)]).length+1)
  rw [List.length_append,List.length_singleton,Nat.pow_succ]
  have:r.toNat<=1:=by cases r<;>decide
  omega
 ·have ht':t∈y.turns++[(y.k,r)]:=ht
  rcases List.mem_append.1 ht' with h9|h9
  ·exact h.tk t h9
  ·rw [List.mem_singleton.1 h9]
   refine⟨h2,Nat.lt_of_lt_of_le h3 (Nat.pow_le_pow_right (by decide) (by omega))⟩
theorem fB.look {m:Nat} {y:dP} (h:fB m y) (wd:WD):fB m (y.look wd):=⟨h.len,h.k1,h.k2,h.tk⟩
theorem fB.klt {m:Nat} {y:dP} (h:fB m y) (hl:0<y.left):y.k<2^m:=Nat.lt_of_lt_of_le h.k2 (Nat.pow_le_pow_right (by decide) (by have:=h.len;omega))
theorem fB.downN {m:Nat} (v:Nat):∀(n:Nat) {y:dP},fB m y->y.left=n->fB m (downN v n y)
 | 0,y,h,_=>h
 | n+1,y,h,hl=>by
  unfold Go.Proofs.Ytifhldnmcdbpfaa.downN
  split
  ·exact fB.downN v n (h.turn (by omega) true) (by show y.left - 1=n;omega)
  ·exact h
theorem lU (ts:List (Nat×Bool)):∀ n,bN ts n<=n
 | 0=>Nat.le_refl _
 | n+1=>by
  unfold bN
  split
  ·exact Nat.le_refl _
  ·exact Nat.le_succ_of_le (lU ts n)
theorem kD (ts:List (Nat×Bool)):∀ n,0<bN ts n->(ts.getD (bN ts n - 1) (0,false)).2=true
 | 0,h=>absurd h (Nat.lt_irrefl 0)
 | n+1,h=>by
  unfold bN at h ⊢
  split
  ·rename_i h1;rw [Nat.add_sub_cancel];exact h1
  ·rename_i h1;rw [if_neg h1] at h;exact kD ts n h
structure fZ (m:Nat) (x:WrD):Prop where
 way:fB m x.y
 nx:x.nx<=x.y.turns.length+1
 up:x.up=true->x.nx<=x.y.turns.length
 v:x.v<2^m
theorem fZ.fin {m:Nat} {x:WrD} (h:fZ m x):fZ m x.fin:=⟨h.way,Nat.le_succ_of_le (lU _ _),λ_=>lU _ _,h.v⟩
theorem fZ.way' {m:Nat} {x:WrD} (h:fZ m x) (hu:x.up=false) {y:dP} (hy:fB m y) (hl:x.y.turns.length<=y.turns.length):fZ m { x with y:=y }:=⟨hy,by have:=h.nx;show x.nx<=y.turns.length+1;omega,(λe=>by have e':x.up=true:=e;rw [hu] at e';cases e'),h.v⟩
theorem uO (v:Nat):∀(n:Nat) (y:dP),y.turns.length<=(downN v n y).turns.length
 | 0,y=>Nat.le_refl _
 | n+1,y=>by
  unfold downN
  split
  ·exact Nat.le_trans (by simp [dP.turn]) (uO v n (y.turn true))
  ·exact Nat.le_refl _
theorem fZ.down {m:Nat} {x:WrD} (h:fZ m x) (hu:x.up=false):fZ m x.down:=by
 have h1:=h.way' hu (fB.downN x.v _ h.way rfl) (uO _ _ _)
 unfold WrD.down
 split
 ·exact h1.fin
 ·exact h1
theorem fZ.init {m v:Nat} (hv:v<2^m):fZ m (dB m v):=fZ.down (x:=⟨eQ m,v,false,1,[]⟩) ⟨fB.init m,by simp [eQ],(λe=>by cases e),hv⟩ rfl
theorem fZ.go {m:Nat} {x:WrD} (h:fZ m x) (b:Nat) (wd:WD) (hl:x.up=false->0<x.y.left):fZ m (dD b wd x).2:=by
 unfold dD
 split
 ·rename_i hu
  have h1:=h.up hu
  have h2:=lU x.y.turns (x.nx - 1)
  exact⟨h.way,by show bN x.y.turns (x.nx - 1)<=x.y.turns.length+1;omega,λ_=>by show bN x.y.turns (x.nx - 1)<=x.y.turns.length;omega,h.v⟩
 ·rename_i hu
  have hu':x.up=false:=by simpa using hu
  split
  ·exact(h.way' hu' (h.way.look wd) (Nat.le_refl _)).fin
  ·exact(h.way' hu' ((h.way.look wd).turn (hl hu') false) (by simp [dP.turn,dP.look])).down hu'
theorem fZ.step {m:Nat} {x:WrD} (h:fZ m x) (b p:Nat) (wd:WD) (hl:x.up=false->0<x.y.left):fZ m (aO b p wd x).2.1:=by
 have h1:=h.go b wd hl
 unfold aO
 split
 ·exact⟨h1.way,h1.nx,h1.up,h1.v⟩
 ·exact h1
def iT (wd:WD):Prop:=(∀ a x,x∈wd.traces a->0<=x/\x<=1000000)/\∀ p,wd.inv.getD p 0<=1000000
theorem iT.set {wd:WD} (h:iT wd) (b k:Nat):0<=jN wd.traces b k/\jN wd.traces b k<=1000000:=by
 unfold jN
 cases hx:wd.traces ((b+k - 1:Nat):Int) with
 | nil=>exact⟨Int.le_refl _,by decide⟩
 | cons a l=>exact h.1 _ a (by rw [hx];exact List.mem_cons_self ..)
theorem iT.read {wd:WD} (h:iT wd) (a:Nat):iT (dI wd a):=h
theorem iT.put {wd:WD} (h:iT wd) (hn:wd.now<=1000000) (b k:Nat):iT (qG b k wd):=by
 refine⟨λa x hx=>?_,h.2⟩
 have hx':x∈(if jN wd.traces b k=0 then rJ wd.traces ((b+k - 1:Nat):Int) [(wd.now:Int)] else wd.traces) a:=hx
 split at hx'
 ·unfold rJ at hx'
  split at hx'
  ·rw [List.mem_singleton.1 hx'];omega
  ·exact h.1 a x hx'
 ·exact h.1 a x hx'
theorem qM {S:Nat->Int} (hS:∀ k,0<=S k/\S k<=1000000) (t:Nat×Bool) {key:List Int} (hk:∀ x,x∈key->-1<=x/\x<=2000000):∀ x,x∈fA S t key->-1<=x/\x<=2000000:=by
 have h1:=hS t.1
 intro x hx
 unfold fA at hx
 split at hx
 ·exact hk x hx
 ·split at hx
  ·rcases List.mem_cons.1 hx with rfl|hx
   ·omega
   ·exact hk x hx
  ·split at hx
   ·rcases List.mem_cons.1 hx with rfl|hx
    ·omega
    ·exact hk x hx
   ·exact hk x hx
theorem qH {S:Nat->Int} (hS:∀ k,0<=S k/\S k<=1000000) {last:Int} (hl:0<=last/\last<=1000000):∀(ts:List (Nat×Bool)) (x:Int),x∈iN S ts last->-1<=x/\x<=2000000
 | [],x,hx=>by rw [List.mem_singleton.1 hx];omega
 | t::ts,x,hx=>qM hS t (qH hS hl ts) x hx
theorem tY (S:Nat->Int) (t:Nat×Bool) (key:List Int):key.length<=(fA S t key).length/\(fA S t key).length<=key.length+1:=by
 unfold fA
 split
 ·exact⟨Nat.le_refl _,Nat.le_succ _⟩
 ·split
  ·exact⟨Nat.le_succ _,Nat.le_refl _⟩
  ·split
   ·exact⟨Nat.le_succ _,Nat.le_refl _⟩
   ·exact⟨Nat.le_refl _,Nat.le_succ _⟩
theorem vF (S:Nat->Int) (last:Int):∀ ts:List (Nat×Bool),1<=(iN S ts last).length/\(iN S ts last).length<=ts.length+1
 | []=>⟨Nat.le_refl _,Nat.le_refl _⟩
 | t::ts=>by
  have h1:=tY S t (iN S ts last)
  have h2:=vF S last ts
  have e:iN S (t::ts) last=fA S t (iN S ts last):=rfl
  rw [e,List.length_cons]
  omega
end
section
open Go.RowKit
end
section
open Go.RowKit
end
section
open Go.RowKit
end
section
open Go.RowKit
def cnt (P:EvD->Bool) (l:List EvD):Nat:=(l.map λe=>if P e then 1 else 0).sum
theorem vS (P:EvD->Bool):cnt P []=0:=rfl
theorem dR (P:EvD->Bool) (e:EvD) (l:List EvD):cnt P (e::l)=(if P e then 1 else 0)+cnt P l:=rfl
theorem mW (P:EvD->Bool) (l m:List EvD):cnt P (l++m)=cnt P l+cnt P m:=by unfold cnt;rw [List.map_append,List.sum_append]
theorem MN (P:EvD->Bool) (l:List EvD) (k:Nat) (e:EvD) (hk:k<l.length):cnt P (l.set k e)+(if P (aD l k) then 1 else 0)=cnt P l+(if P e then 1 else 0):=jH _ l k e hk
theorem BG (P:EvD->Bool):∀ l:List EvD,cnt P l<=l.length
 | []=>Nat.le_refl _
 | e::l=>by rw [dR,List.length_cons];have:=BG P l;split<;>omega
theorem cnt_mono {P Q:EvD->Bool}:∀ {l:List EvD},(∀ i,i<l.length->P (aD l i)=true->Q (aD l i)=true)->cnt P l<=cnt Q l
 | [],_=>Nat.le_refl _
 | e::l,h=>by
  rw [dR,dR]
  have h1:=cnt_mono (P:=P) (Q:=Q) (l:=l) (λi hi hp=>h (i+1) (by simp;omega) hp)
  have h2:=h 0 (by simp)
  have h3:aD (e::l) 0=e:=rfl
  rw [h3] at h2
  cases hp:P e with
  | true=>rw [h2 hp];simp;omega
  | false=>simp;omega
variable {S:Sys}
theorem From.cnt {calls:List aF} {st:aQ S} {q i k:Nat} {s:S.σ} {bJ:List EvD} {dK:WD} (h:From calls st q i k s bJ dK) {P:EvD->Bool} (hP:∀ e,e.resp=0->P e=false) (e:EvD):cnt P (bJ.set k e)=cnt P st.evs+(if P e then 1 else 0):=by
 have h1:=MN P bJ k e h.len
 rw [hP _ h.open_] at h1
 have h2:Go.Proofs.Ytifhldnmcdbpfaa.cnt P bJ=Go.Proofs.Ytifhldnmcdbpfaa.cnt P st.evs:=by
  cases h with
  | old k s hh hk hc hr=>rfl
  | new s hh hs=>rw [mW,dR,hP _ rfl,vS];simp
 rw [h2] at h1
 simpa using h1
end
section
open Go.RowKit
section
variable (w:World) (Mut:Nat->Prop) (I:dG) (N:Nat) (wd:WD) (b bc ba:Nat) (c:aF)
end
end
section
open Go.RowKit
end
section
open Go.RowKit
end
section
open Go.RowKit
end
section
open Go.RowKit
variable {S:Sys}
structure EK (st st':aQ S):Prop where
 len:st.evs.length<=st'.evs.length
 now:st.wd.now<=st'.wd.now
 idle:st.idle<=st'.idle
 inv:∀ i,i<st.evs.length->(aD st'.evs i).inv=(aD st.evs i).inv
 ev:∀ i,i<st.evs.length->(aD st.evs i).resp≠0->aD st'.evs i=aD st.evs i
theorem EK.refl (st:aQ S):EK st st:=⟨Nat.le_refl _,Nat.le_refl _,Nat.le_refl _,λ_ _=>rfl,λ_ _ _=>rfl⟩
theorem EK.trans {a b c:aQ S} (h:EK a b) (k:EK b c):EK a c:=
 ⟨Nat.le_trans h.len k.len,Nat.le_trans h.now k.now,Nat.le_trans h.idle k.idle,λi hi=>(k.inv i (Nat.lt_of_lt_of_le hi h.len)).trans (h.inv i hi),λi hi hr=>(k.ev i (Nat.lt_of_lt_of_le hi h.len) (by rw [h.ev i hi hr];exact hr)).trans (h.ev i hi hr)⟩
end
section
open Go.RowKit
def JN (l p:Nat):Bool:=decide ((60<l/\l<=1000)∨(600<p/\p<=65536)∨1100<l)
theorem FX (ca pa:Option Addr) (l p cc pc:Nat) (w:World) (hl:l<=maxLen) (hp:p<=maxLen) :
    Calls Try.prog 10 #[.slice ca l cc,.slice pa p pc] w λe w'=>e=.returned (.bool (JN l p))/\w=w':=by
  unfold maxLen at hl hp
  obtain⟨b,hb⟩:∃ b,b=JN l p:=⟨_,rfl⟩
  rw [<-hb]
  by_cases h1:(60:Int)<(l:Int)<;>by_cases h2:(l:Int)<=1000<;>by_cases h3:(600:Int)<(p:Int)<;>by_cases h4:(p:Int)<=65536<;>by_cases h5:(1100:Int)<(l:Int)
  all_goals first|(exfalso;omega)|skip
  all_goals
    have hv:b=decide ((60<l/\l<=1000)∨(600<p/\p<=65536)∨1100<l):=hb
    first
      | (have hb2:b=true:=by rw [hv];simp;omega
         subst hb2;clear hb hv
         go_enter Try.func10,Try.ntmps10
         go_wp2
         go_ret
         exact⟨rfl,rfl⟩)
      | (have hb2:b=false:=by rw [hv];simp;omega
         subst hb2;clear hb hv
         go_enter Try.func10,Try.ntmps10
         go_wp2
         go_ret
         exact⟨rfl,rfl⟩)
theorem JA (w:World):Calls Try.prog 30 #[.slice none 0 0,.slice none 0 0] w λe w'=>e=.returned (.bool true)/\w=w':=by
  go_enter Try.func30,Try.ntmps30
  go_wp2
  go_loopw [13] (λi wr=>i=.int .i64 0/\wr=w) (λ_ _=>0)
  case atStart=>exact⟨rfl,rfl⟩
  case round=>
    obtain⟨rfl,rfl⟩:=hrel
    go_wp2
    go_ret
    exact⟨rfl,rfl⟩
theorem yB (w:World):Calls Try.prog 29 #[.agg #[.slice none 0 0,.slice none 0 0,.int .i64 0,.int .i64 0,.int .i64 0,.int .i64 0,.int .i64 0,.int .i64 0,.int .i64 0],.agg #[.slice none 0 0,.slice none 0 0,.int .i64 0,.int .i64 0,.int .i64 0,.int .i64 0,.int .i64 0,.int .i64 0,.int .i64 0]] w λe w'=>e=.returned (.bool true)/\Below w.heap.size w w':=by
  have Sm:=Lib.hid JA
  go_enter Try.func29,Try.ntmps29
  go_wp2_with (go_at_call 30;refine(Sm.out _).mono ?_;rintro e w' ⟨rfl,rfl⟩)
  obtain⟨w2,hw2⟩:∃ w2,w2=(w.alloc (.cells #[.slice none 0 0,.slice none 0 0,.int .i64 0,.int .i64 0,.int .i64 0,.int .i64 0,.int .i64 0,.int .i64 0,.int .i64 0] 32)).alloc (.cells #[.slice none 0 0,.slice none 0 0,.int .i64 0,.int .i64 0,.int .i64 0,.int .i64 0,.int .i64 0,.int .i64 0,.int .i64 0] 32):=⟨_,rfl⟩
  rw [<-hw2]
  have hb:Below w.heap.size w w2:=by rw [hw2];exact Gr.alloc (Gr.new _ _) _
  have Hb:=Lib.hid hb
  clear hb hw2
  go_loopw [45] (λi wr=>i=.int .i64 0/\wr=w2) (λ_ _=>0)
  case atStart=>exact⟨rfl,rfl⟩
  case round=>
    obtain⟨rfl,rfl⟩:=hrel
    go_wp2
    go_ret
    exact⟨rfl,Hb.out⟩
theorem none_true (w:World):Calls Try.prog 13 #[.agg #[.slice none 0 0,.slice none 0 0,.int .i64 0,.int .i64 0,.int .i64 0,.int .i64 0,.int .i64 0,.int .i64 0,.int .i64 0]] w λe w'=>e=.returned (.bool true)/\Below w.heap.size w w':=by
  have Sm:=Lib.hid yB
  go_enter Try.func13,Try.ntmps13
  go_wp2_with (go_at_call 29;refine(Sm.out _).mono ?_;rintro e w' ⟨rfl,hb⟩)
  go_ret
  exact⟨rfl,Gr.trans (Gr.new _ _) hb⟩
end
section
open Go.RowKit
theorem BC {n:Int} {calls:List aF} {np:Nat} (hck:checkN n calls np=0):∀ c,c<calls.length->0<=(calls.getD c d0).thread/\(calls.getD c d0).thread<n:=by
 obtain⟨hw0,_⟩:=gM hck
 obtain⟨z1,z2,z3,z4⟩:=iO hw0
 intro c hcl
 unfold iQ at z4
 rw [List.any_eq_false] at z4
 have e:calls.getD c d0=calls[c]:=by simp [List.getD_eq_getElem?_getD,hcl]
 have h9:pG n calls[c]=false:=by simpa using z4 calls[c] (List.getElem_mem hcl)
 rw [e]
 obtain⟨y,hy⟩:∃ y,y=calls[c]:=⟨_,rfl⟩
 rw [<-hy] at h9 ⊢
 unfold pG at h9
 simp at h9
 omega
theorem OQ {n:Int} {calls:List aF} {np:Nat} (hck:checkN n calls np=0):∀ c,c<calls.length->0<=(calls.getD c d0).thread/\(calls.getD c d0).thread<16:=by
 obtain⟨hw0,_⟩:=gM hck
 obtain⟨z1,z2,z3,z4⟩:=iO hw0
 intro c hc
 have:=BC hck c hc
 omega
theorem bQ.take {w:World} {a:Option Addr} {l:List Int} (h:bQ w a l.length 1 (gQ l)) (k:Nat) (hk:k<=l.length):bQ w a (l.take k).length 1 (gQ (l.take k)):=by
 have e:(l.take k).length=k:=by simp;omega
 rw [e]
 refine⟨Nat.le_trans hk h.1,λj hj=>?_⟩
 obtain⟨b,off,h1,h2,h3⟩:=h.2 j (by omega)
 refine⟨b,off,h1,h2,λf hf=>?_⟩
 rw [h3 f hf]
 unfold gQ
 congr 2
 simp [List.getD_eq_getElem?_getD,List.getElem?_take,hj]
structure uT (w u:World) (b:Nat) (ea:Option Addr) (en ec:Nat) (va:Option Addr) (vn vc:Nat) (rp:iU):Prop where
 ge:w.heap.size<=b
 blk:u.heap[b]?=some (.cells #[.slice ea en ec,.slice va vn vc,.int .i64 (rp.c.read:Int),.int .i64 (rp.c.write:Int),.int .i64 (rp.c.swap:Int),.int .i64 (rp.c.add:Int),.int .i64 (rp.c.fault:Int),.int .i64 (rp.ticks:Int),.int .i64 (rp.idle:Int)] 32 (0,0))
theorem uT.grown {w u u':World} {b:Nat} {ea:Option Addr} {en ec:Nat} {va:Option Addr} {vn vc:Nat} {rp:iU} (h:uT w u b ea en ec va vn vc rp) (hb:Below u.heap.size u u'):uT w u' b ea en ec va vn vc rp:=⟨h.ge,(hb.block b (aC h.blk)).trans h.blk⟩
theorem uT.cell {w u:World} {b:Nat} {ea:Option Addr} {en ec:Nat} {va:Option Addr} {vn vc:Nat} {rp:iU} (h:uT w u b ea en ec va vn vc rp) (j:Nat):u.cell? ⟨b,j,none⟩=(#[.slice ea en ec,.slice va vn vc,.int .i64 (rp.c.read:Int),.int .i64 (rp.c.write:Int),.int .i64 (rp.c.swap:Int),.int .i64 (rp.c.add:Int),.int .i64 (rp.c.fault:Int),.int .i64 (rp.ticks:Int),.int .i64 (rp.idle:Int)]:Array Value)[j]?:=aA h.blk j
end
end Go.Proofs.Ytifhldnmcdbpfaa
