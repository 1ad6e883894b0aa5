/- Layer 10: a max register's machines, in plain numbers. -/
import Derived.Test.YtifhldnmcdbpfaaW18
import Derived.Test.YtifhldnmcdbpfaaW13
import Derived.Test.YtifhldnmcdbpfaaW17
import Derived.Test.YtifhldnmcdbpfaaW04
import Derived.Deep.DeepCutAuto
set_option maxRecDepth 100000
set_option linter.unusedVariables false
set_option linter.unusedSimpArgs false
set_option linter.unnecessarySimpa false
namespace Go.Proofs.Ytifhldnmcdbpfaa
section
open Go.RowKit
structure dQ where
 k:Nat
 left:Nat
 turns:List (Nat×Bool)
 last:Nat
def eP (m:Nat):dQ:=⟨1,m,[],0⟩
def dQ.turn (y:dQ) (r:Bool):dQ:=⟨2*y.k+r.toNat,y.left - 1,y.turns++[(y.k,r)],y.last⟩
def jW (tr:Int->List Int) (b k:Nat):Int:=(tr ((b+k - 1:Nat):Int)).headD 0
def eZ (S:Nat->Int) (t:Nat×Bool) (key:List Int):List Int:=
 if S t.1=0 then key
 else if t.2=false/\2*S t.1<key.headD 0 then (2*S t.1 - 1)::key
 else if t.2=true/\key.headD 0<=2*S t.1 then (2*S t.1)::key
 else key
def iN (S:Nat->Int) (turns:List (Nat×Bool)) (last:Int):List Int:=turns.foldr (eZ S) [2*last]
def nX (wd:WD) (p:Nat) (y:dQ):Int:=if y.last=0 then ((wd.inv.getD p 0:Nat):Int) else (y.last:Int)
def mV (b p:Nat) (wd:WD) (y:dQ):List Int:=iN (jW wd.traces b) y.turns (nX wd p y)
structure RdD where
 y:dQ
 val:Nat
 ky:List Int
structure WrD where
 y:dQ
 v:Nat
 up:Bool
 nx:Nat
 ky:List Int
def bN (ts:List (Nat×Bool)):Nat->Nat
 | 0=>0
 | n+1=>if (ts.getD n (0,false)).2=true then n+1 else bN ts n
def WrD.fin (x:WrD):WrD:={ x with up:=true,nx:=bN x.y.turns x.y.turns.length }
def downN (v:Nat):Nat->dQ->dQ
 | 0,y=>y
 | n+1,y=>if v / 2^n % 2=1 then downN v n (y.turn true) else y
def WrD.down (x:WrD):WrD:=if (downN x.v x.y.left x.y).left=0 then ({ x with y:=downN x.v x.y.left x.y }:WrD).fin else { x with y:=downN x.v x.y.left x.y }
def dB (m v:Nat):WrD:=(⟨eP m,v,false,1,[]⟩:WrD).down
def eF (wd:WD) (b:Nat) (y:dQ):Bool:=decide (gF wd (b+y.k - 1)=1)
def dQ.look (y:dQ) (wd:WD):dQ:={ y with last:=wd.now }
def rdStep (b p:Nat) (wd:WD) (x:RdD):WD×RdD×Bool:=
 if 0<((x.y.look wd).turn (eF wd b x.y)).left then (dJ wd (b+x.y.k - 1),⟨(x.y.look wd).turn (eF wd b x.y),2*x.val+(eF wd b x.y).toNat,x.ky⟩,false)
 else (dJ wd (b+x.y.k - 1),⟨(x.y.look wd).turn (eF wd b x.y),2*x.val+(eF wd b x.y).toNat,mV b p (dJ wd (b+x.y.k - 1)) ((x.y.look wd).turn (eF wd b x.y))⟩,true)
def qG (b k:Nat) (wd:WD):WD:={ wd with mem:=bR wd.mem ((b+k - 1:Nat):Int) 1,traces:=if jW wd.traces b k=0 then tV wd.traces ((b+k - 1:Nat):Int) [(wd.now:Int)] else wd.traces }
def wrK (x:WrD):Nat:=(x.y.turns.getD (x.nx - 1) (0,false)).1
def dE (b:Nat) (wd:WD) (x:WrD):WD×WrD:=
 if x.up=true then (qG b (wrK x) wd,{ x with nx:=bN x.y.turns (x.nx - 1) })
 else if gF wd (b+x.y.k - 1)=1 then (dJ wd (b+x.y.k - 1),({ x with y:=x.y.look wd }:WrD).fin)
 else (dJ wd (b+x.y.k - 1),({ x with y:=(x.y.look wd).turn false }:WrD).down)
def WrD.done (x:WrD):Bool:=x.up && decide (x.nx=0)
def aO (b p:Nat) (wd:WD) (x:WrD):WD×WrD×Bool:=
 if (dE b wd x).2.done=true then ((dE b wd x).1,{ (dE b wd x).2 with ky:=mV b p (dE b wd x).1 (dE b wd x).2.y },true) else ((dE b wd x).1,(dE b wd x).2,false)
def OP (b p:Nat) (wd:WD) (x:WrD):List Int:=if x.up=false then [] else if (x.y.turns.any λt=>t.2 && decide (jW wd.traces b t.1=0))=true then [] else mV b p wd x.y
inductive MxS where
 | rd (x:RdD)
 | wr (x:WrD)
def maxS (m:Nat):Sys where
 σ:=MxS
 ω:=Unit
 start:=λ_ _ _ c=>if c.kind=1 then .run (.rd ⟨eP m,0,[]⟩) else if c.kind≠0 then .refuse 9 else if c.a / 2^m≠0 then .refuse 10 else .run (.wr (dB m c.a))
 step:=λ_ wd p s=>match s with
  | .rd x=>((),(rdStep 0 p wd x).1,.rd (rdStep 0 p wd x).2.1,(rdStep 0 p wd x).2.2)
  | .wr x=>((),(aO 0 p wd x).1,.wr (aO 0 p wd x).2.1,(aO 0 p wd x).2.2)
 answer:=λs=>match s with
  | .rd x=>(⟨0,x.val,[]⟩,x.ky)
  | .wr x=>(⟨0,0,[]⟩,x.ky)
 late:=λ_ wd p s=>match s with
  | .rd _=>none
  | .wr x=>some (OP 0 p wd x)
structure fB (m:Nat) (y:dQ):Prop where
 len:y.turns.length+y.left=m
 k1:1<=y.k
 k2:y.k<2^(y.turns.length+1)
 tk:∀ t,t∈y.turns->1<=t.1/\t.1<2^m
theorem fB.init (m:Nat):fB m (eP m):=⟨by simp [eP],Nat.le_refl _,by simp [eP],λt h=>by cases h⟩
theorem fB.turn {m:Nat} {y:dQ} (h:fB m y) (hl:0<y.left) (r:Bool):fB m (y.turn r):=by
 have h1:=h.len;have h2:=h.k1;have h3:=h.k2
 refine⟨by simp [dQ.turn];omega,by show 1<=2*y.k+r.toNat;omega,?_,λt ht=>?_⟩
 ·show 2*y.k+r.toNat<2^((y.turns++[(y.k,r)]).length+1)
  rw [List.length_append,List.length_singleton,Nat.pow_succ]
  have:r.toNat<=1:=by cases r<;>decide
  omega
 ·have ht':t∈y.turns++[(y.k,r)]:=ht
  rcases List.mem_append.1 ht' with h9|h9
  ·exact h.tk t h9
  ·rw [List.mem_singleton.1 h9]
   refine⟨h2,Nat.lt_of_lt_of_le h3 (Nat.pow_le_pow_right (by decide) (by omega))⟩
theorem fB.look {m:Nat} {y:dQ} (h:fB m y) (wd:WD):fB m (y.look wd):=⟨h.len,h.k1,h.k2,h.tk⟩
theorem fB.klt {m:Nat} {y:dQ} (h:fB m y) (hl:0<y.left):y.k<2^m:=Nat.lt_of_lt_of_le h.k2 (Nat.pow_le_pow_right (by decide) (by have:=h.len;omega))
theorem fB.downN {m:Nat} (v:Nat):∀(n:Nat) {y:dQ},fB m y->y.left=n->fB m (downN v n y)
 | 0,y,h,_=>h
 | n+1,y,h,hl=>by
  unfold Go.Proofs.Ytifhldnmcdbpfaa.downN
  split
  ·exact fB.downN v n (h.turn (by omega) true) (by show y.left - 1=n;omega)
  ·exact h
theorem lN (ts:List (Nat×Bool)):∀ n,bN ts n<=n
 | 0=>Nat.le_refl _
 | n+1=>by
  unfold bN
  split
  ·exact Nat.le_refl _
  ·exact Nat.le_succ_of_le (lN ts n)
theorem kK (ts:List (Nat×Bool)):∀ n,0<bN ts n->(ts.getD (bN ts n - 1) (0,false)).2=true
 | 0,h=>absurd h (Nat.lt_irrefl 0)
 | n+1,h=>by
  unfold bN at h ⊢
  split
  ·rename_i h1;rw [Nat.add_sub_cancel];exact h1
  ·rename_i h1;rw [if_neg h1] at h;exact kK ts n h
structure fZ (m:Nat) (x:WrD):Prop where
 way:fB m x.y
 nx:x.nx<=x.y.turns.length+1
 up:x.up=true->x.nx<=x.y.turns.length
 v:x.v<2^m
theorem fZ.fin {m:Nat} {x:WrD} (h:fZ m x):fZ m x.fin:=⟨h.way,Nat.le_succ_of_le (lN _ _),λ_=>lN _ _,h.v⟩
theorem fZ.way' {m:Nat} {x:WrD} (h:fZ m x) (hu:x.up=false) {y:dQ} (hy:fB m y) (hl:x.y.turns.length<=y.turns.length):fZ m { x with y:=y }:=⟨hy,by have:=h.nx;show x.nx<=y.turns.length+1;omega,(λe=>by have e':x.up=true:=e;rw [hu] at e';cases e'),h.v⟩
theorem uU (v:Nat):∀(n:Nat) (y:dQ),y.turns.length<=(downN v n y).turns.length
 | 0,y=>Nat.le_refl _
 | n+1,y=>by
  unfold downN
  split
  ·exact Nat.le_trans (by simp [dQ.turn]) (uU v n (y.turn true))
  ·exact Nat.le_refl _
theorem fZ.down {m:Nat} {x:WrD} (h:fZ m x) (hu:x.up=false):fZ m x.down:=by
 have h1:=h.way' hu (fB.downN x.v _ h.way rfl) (uU _ _ _)
 unfold WrD.down
 split
 ·exact h1.fin
 ·exact h1
theorem fZ.init {m v:Nat} (hv:v<2^m):fZ m (dB m v):=fZ.down (x:=⟨eP m,v,false,1,[]⟩) ⟨fB.init m,by simp [eP],(λe=>by cases e),hv⟩ rfl
theorem fZ.go {m:Nat} {x:WrD} (h:fZ m x) (b:Nat) (wd:WD) (hl:x.up=false->0<x.y.left):fZ m (dE b wd x).2:=by
 unfold dE
 split
 ·rename_i hu
  have h1:=h.up hu
  have h2:=lN x.y.turns (x.nx - 1)
  exact⟨h.way,by show bN x.y.turns (x.nx - 1)<=x.y.turns.length+1;omega,λ_=>by show bN x.y.turns (x.nx - 1)<=x.y.turns.length;omega,h.v⟩
 ·rename_i hu
  have hu':x.up=false:=by simpa using hu
  split
  ·exact(h.way' hu' (h.way.look wd) (Nat.le_refl _)).fin
  ·exact(h.way' hu' ((h.way.look wd).turn (hl hu') false) (by simp [dQ.turn,dQ.look])).down hu'
theorem fZ.step {m:Nat} {x:WrD} (h:fZ m x) (b p:Nat) (wd:WD) (hl:x.up=false->0<x.y.left):fZ m (aO b p wd x).2.1:=by
 have h1:=h.go b wd hl
 unfold aO
 split
 ·exact⟨h1.way,h1.nx,h1.up,h1.v⟩
 ·exact h1
def iT (wd:WD):Prop:=(∀ a x,x∈wd.traces a->0<=x/\x<=1000000)/\∀ p,wd.inv.getD p 0<=1000000
theorem iT.set {wd:WD} (h:iT wd) (b k:Nat):0<=jW wd.traces b k/\jW wd.traces b k<=1000000:=by
 unfold jW
 cases hx:wd.traces ((b+k - 1:Nat):Int) with
 | nil=>exact⟨Int.le_refl _,by decide⟩
 | cons a l=>exact h.1 _ a (by rw [hx];exact List.mem_cons_self ..)
theorem iT.read {wd:WD} (h:iT wd) (a:Nat):iT (dJ wd a):=h
theorem iT.put {wd:WD} (h:iT wd) (hn:wd.now<=1000000) (b k:Nat):iT (qG b k wd):=by
 refine⟨λa x hx=>?_,h.2⟩
 have hx':x∈(if jW wd.traces b k=0 then tV wd.traces ((b+k - 1:Nat):Int) [(wd.now:Int)] else wd.traces) a:=hx
 split at hx'
 ·unfold tV at hx'
  split at hx'
  ·rw [List.mem_singleton.1 hx'];omega
  ·exact h.1 a x hx'
 ·exact h.1 a x hx'
theorem qL {S:Nat->Int} (hS:∀ k,0<=S k/\S k<=1000000) (t:Nat×Bool) {key:List Int} (hk:∀ x,x∈key->-1<=x/\x<=2000000):∀ x,x∈eZ S t key->-1<=x/\x<=2000000:=by
 have h1:=hS t.1
 intro x hx
 unfold eZ at hx
 split at hx
 ·exact hk x hx
 ·split at hx
  ·rcases List.mem_cons.1 hx with rfl|hx
   ·omega
   ·exact hk x hx
  ·split at hx
   ·rcases List.mem_cons.1 hx with rfl|hx
    ·omega
    ·exact hk x hx
   ·exact hk x hx
theorem qE {S:Nat->Int} (hS:∀ k,0<=S k/\S k<=1000000) {last:Int} (hl:0<=last/\last<=1000000):∀(ts:List (Nat×Bool)) (x:Int),x∈iN S ts last->-1<=x/\x<=2000000
 | [],x,hx=>by rw [List.mem_singleton.1 hx];omega
 | t::ts,x,hx=>qL hS t (qE hS hl ts) x hx
theorem uC (S:Nat->Int) (t:Nat×Bool) (key:List Int):key.length<=(eZ S t key).length/\(eZ S t key).length<=key.length+1:=by
 unfold eZ
 split
 ·exact⟨Nat.le_refl _,Nat.le_succ _⟩
 ·split
  ·exact⟨Nat.le_succ _,Nat.le_refl _⟩
  ·split
   ·exact⟨Nat.le_succ _,Nat.le_refl _⟩
   ·exact⟨Nat.le_refl _,Nat.le_succ _⟩
theorem vC (S:Nat->Int) (last:Int):∀ ts:List (Nat×Bool),1<=(iN S ts last).length/\(iN S ts last).length<=ts.length+1
 | []=>⟨Nat.le_refl _,Nat.le_refl _⟩
 | t::ts=>by
  have h1:=uC S t (iN S ts last)
  have h2:=vC S last ts
  have e:iN S (t::ts) last=eZ S t (iN S ts last):=rfl
  rw [e,List.length_cons]
  omega
end
section
open Go.RowKit
end
section
open Go.RowKit
end
section
open Go.RowKit
end
section
open Go.RowKit
def cnt (P:EvD->Bool) (l:List EvD):Nat:=(l.map λe=>if P e then 1 else 0).sum
theorem CO (P:EvD->Bool):cnt P []=0:=rfl
theorem eQ (P:EvD->Bool) (e:EvD) (l:List EvD):cnt P (e::l)=(if P e then 1 else 0)+cnt P l:=rfl
theorem tX (P:EvD->Bool) (l m:List EvD):cnt P (l++m)=cnt P l+cnt P m:=by unfold cnt;rw [List.map_append,List.sum_append]
theorem KH (P:EvD->Bool) (l:List EvD) (k:Nat) (e:EvD) (hk:k<l.length):cnt P (l.set k e)+(if P (aD l k) then 1 else 0)=cnt P l+(if P e then 1 else 0):=jG _ l k e hk
theorem cnt_mono {P Q:EvD->Bool}:∀ {l:List EvD},(∀ i,i<l.length->P (aD l i)=true->Q (aD l i)=true)->cnt P l<=cnt Q l
 | [],_=>Nat.le_refl _
 | e::l,h=>by
  rw [eQ,eQ]
  have h1:=cnt_mono (P:=P) (Q:=Q) (l:=l) (λi hi hp=>h (i+1) (by simp;omega) hp)
  have h2:=h 0 (by simp)
  have h3:aD (e::l) 0=e:=rfl
  rw [h3] at h2
  cases hp:P e with
  | true=>rw [h2 hp];simp;omega
  | false=>simp;omega
variable {S:Sys}
theorem From.cnt {calls:List aF} {st:aQ S} {q i k:Nat} {s:S.σ} {bJ:List EvD} {dK:WD} (h:From calls st q i k s bJ dK) {P:EvD->Bool} (hP:∀ e,e.resp=0->P e=false) (e:EvD):cnt P (bJ.set k e)=cnt P st.evs+(if P e then 1 else 0):=by
 have h1:=KH P bJ k e h.len
 rw [hP _ h.open_] at h1
 have h2:Go.Proofs.Ytifhldnmcdbpfaa.cnt P bJ=Go.Proofs.Ytifhldnmcdbpfaa.cnt P st.evs:=by
  cases h with
  | old k s hh hk hc hr=>rfl
  | new s hh hs=>rw [tX,eQ,hP _ rfl,CO];simp
 rw [h2] at h1
 simpa using h1
end
section
open Go.RowKit
section
variable (w:World) (Mut:Nat->Prop) (I:dG) (N:Nat) (wd:WD) (b bc ba:Nat) (c:aF)
end
end
section
open Go.RowKit
end
section
open Go.RowKit
end
section
open Go.RowKit
end
section
open Go.RowKit
variable {S:Sys}
structure DK (st st':aQ S):Prop where
 len:st.evs.length<=st'.evs.length
 now:st.wd.now<=st'.wd.now
 idle:st.idle<=st'.idle
 inv:∀ i,i<st.evs.length->(aD st'.evs i).inv=(aD st.evs i).inv
 ev:∀ i,i<st.evs.length->(aD st.evs i).resp≠0->aD st'.evs i=aD st.evs i
theorem DK.refl (st:aQ S):DK st st:=⟨Nat.le_refl _,Nat.le_refl _,Nat.le_refl _,λ_ _=>rfl,λ_ _ _=>rfl⟩
theorem DK.trans {a b c:aQ S} (h:DK a b) (k:DK b c):DK a c:=
 ⟨Nat.le_trans h.len k.len,Nat.le_trans h.now k.now,Nat.le_trans h.idle k.idle,λi hi=>(k.inv i (Nat.lt_of_lt_of_le hi h.len)).trans (h.inv i hi),λi hi hr=>(k.ev i (Nat.lt_of_lt_of_le hi h.len) (by rw [h.ev i hi hr];exact hr)).trans (h.ev i hi hr)⟩
end
section
open Go.RowKit
def FL (l p:Nat):Bool:=decide ((60<l/\l<=1000)∨(600<p/\p<=65536)∨1100<l)
theorem GQ (ca pa:Option Addr) (l p cc pc:Nat) (w:World) (hl:l<=maxLen) (hp:p<=maxLen) :
    Calls Try.prog 10 #[.slice ca l cc,.slice pa p pc] w λe w'=>e=.returned (.bool (FL l p))/\w=w':=by
  unfold maxLen at hl hp
  obtain⟨b,hb⟩:∃ b,b=FL l p:=⟨_,rfl⟩
  rw [<-hb]
  by_cases h1:(60:Int)<(l:Int)<;>by_cases h2:(l:Int)<=1000<;>by_cases h3:(600:Int)<(p:Int)<;>by_cases h4:(p:Int)<=65536<;>by_cases h5:(1100:Int)<(l:Int)
  all_goals first|(exfalso;omega)|skip
  all_goals
    have hv:b=decide ((60<l/\l<=1000)∨(600<p/\p<=65536)∨1100<l):=hb
    first
      | (have hb2:b=true:=by rw [hv];simp;omega
         subst hb2;clear hb hv
         go_enter Try.func10,Try.ntmps10
         go_wp2
         go_ret
         exact⟨rfl,rfl⟩)
      | (have hb2:b=false:=by rw [hv];simp;omega
         subst hb2;clear hb hv
         go_enter Try.func10,Try.ntmps10
         go_wp2
         go_ret
         exact⟨rfl,rfl⟩)
theorem GM (w:World):Calls Try.prog 30 #[.slice none 0 0,.slice none 0 0] w λe w'=>e=.returned (.bool true)/\w=w':=by
  go_enter Try.func30,Try.ntmps30
  go_wp2
  go_loopw [13] (λi wr=>i=.int .i64 0/\wr=w) (λ_ _=>0)
  case atStart=>exact⟨rfl,rfl⟩
  case round=>
    obtain⟨rfl,rfl⟩:=hrel
    go_wp2
    go_ret
    exact⟨rfl,rfl⟩
theorem yX (w:World):Calls Try.prog 29 #[.agg #[.slice none 0 0,.slice none 0 0,.int .i64 0,.int .i64 0,.int .i64 0,.int .i64 0,.int .i64 0,.int .i64 0,.int .i64 0],.agg #[.slice none 0 0,.slice none 0 0,.int .i64 0,.int .i64 0,.int .i64 0,.int .i64 0,.int .i64 0,.int .i64 0,.int .i64 0]] w λe w'=>e=.returned (.bool true)/\Below w.heap.size w w':=by
  have Sm:=Lib.hid GM
  go_enter Try.func29,Try.ntmps29
  go_wp2_with (go_at_call 30;refine(Sm.out _).mono ?_;rintro e w' ⟨rfl,rfl⟩)
  obtain⟨w2,hw2⟩:∃ w2,w2=(w.alloc (.cells #[.slice none 0 0,.slice none 0 0,.int .i64 0,.int .i64 0,.int .i64 0,.int .i64 0,.int .i64 0,.int .i64 0,.int .i64 0] 32)).alloc (.cells #[.slice none 0 0,.slice none 0 0,.int .i64 0,.int .i64 0,.int .i64 0,.int .i64 0,.int .i64 0,.int .i64 0,.int .i64 0] 32):=⟨_,rfl⟩
  rw [<-hw2]
  have hb:Below w.heap.size w w2:=by rw [hw2];exact Gr.alloc (Gr.new _ _) _
  have Hb:=Lib.hid hb
  clear hb hw2
  go_loopw [45] (λi wr=>i=.int .i64 0/\wr=w2) (λ_ _=>0)
  case atStart=>exact⟨rfl,rfl⟩
  case round=>
    obtain⟨rfl,rfl⟩:=hrel
    go_wp2
    go_ret
    exact⟨rfl,Hb.out⟩
theorem none_true (w:World):Calls Try.prog 13 #[.agg #[.slice none 0 0,.slice none 0 0,.int .i64 0,.int .i64 0,.int .i64 0,.int .i64 0,.int .i64 0,.int .i64 0,.int .i64 0]] w λe w'=>e=.returned (.bool true)/\Below w.heap.size w w':=by
  have Sm:=Lib.hid yX
  go_enter Try.func13,Try.ntmps13
  go_wp2_with (go_at_call 29;refine(Sm.out _).mono ?_;rintro e w' ⟨rfl,hb⟩)
  go_ret
  exact⟨rfl,Gr.trans (Gr.new _ _) hb⟩
end
section
open Go.RowKit
theorem zQ {n:Int} {calls:List aF} {np:Nat} (hck:checkN n calls np=0):∀ c,c<calls.length->0<=(calls.getD c d0).thread/\(calls.getD c d0).thread<n:=by
 obtain⟨hw0,_⟩:=gM hck
 obtain⟨z1,z2,z3,z4⟩:=iL hw0
 intro c hcl
 unfold iQ at z4
 rw [List.any_eq_false] at z4
 have e:calls.getD c d0=calls[c]:=by simp [List.getD_eq_getElem?_getD,hcl]
 have h9:pE n calls[c]=false:=by simpa using z4 calls[c] (List.getElem_mem hcl)
 rw [e]
 obtain⟨y,hy⟩:∃ y,y=calls[c]:=⟨_,rfl⟩
 rw [<-hy] at h9 ⊢
 unfold pE at h9
 simp at h9
 omega
theorem OQ {n:Int} {calls:List aF} {np:Nat} (hck:checkN n calls np=0):∀ c,c<calls.length->0<=(calls.getD c d0).thread/\(calls.getD c d0).thread<16:=by
 obtain⟨hw0,_⟩:=gM hck
 obtain⟨z1,z2,z3,z4⟩:=iL hw0
 intro c hc
 have:=zQ hck c hc
 omega
theorem bS.take {w:World} {a:Option Addr} {l:List Int} (h:bS w a l.length 1 (gQ l)) (k:Nat) (hk:k<=l.length):bS w a (l.take k).length 1 (gQ (l.take k)):=by
 have e:(l.take k).length=k:=by simp;omega
 rw [e]
 refine⟨Nat.le_trans hk h.1,λj hj=>?_⟩
 obtain⟨b,off,h1,h2,h3⟩:=h.2 j (by omega)
 refine⟨b,off,h1,h2,λf hf=>?_⟩
 rw [h3 f hf]
 unfold gQ
 congr 2
 simp [List.getD_eq_getElem?_getD,List.getElem?_take,hj]
structure uW (w u:World) (b:Nat) (ea:Option Addr) (en ec:Nat) (va:Option Addr) (vn vc:Nat) (rp:jC):Prop where
 ge:w.heap.size<=b
 blk:u.heap[b]?=some (.cells #[.slice ea en ec,.slice va vn vc,.int .i64 (rp.c.read:Int),.int .i64 (rp.c.write:Int),.int .i64 (rp.c.swap:Int),.int .i64 (rp.c.add:Int),.int .i64 (rp.c.fault:Int),.int .i64 (rp.ticks:Int),.int .i64 (rp.idle:Int)] 32 (0,0))
theorem uW.grown {w u u':World} {b:Nat} {ea:Option Addr} {en ec:Nat} {va:Option Addr} {vn vc:Nat} {rp:jC} (h:uW w u b ea en ec va vn vc rp) (hb:Below u.heap.size u u'):uW w u' b ea en ec va vn vc rp:=⟨h.ge,(hb.block b (aC h.blk)).trans h.blk⟩
theorem uW.cell {w u:World} {b:Nat} {ea:Option Addr} {en ec:Nat} {va:Option Addr} {vn vc:Nat} {rp:jC} (h:uW w u b ea en ec va vn vc rp) (j:Nat):u.cell? ⟨b,j,none⟩=(#[.slice ea en ec,.slice va vn vc,.int .i64 (rp.c.read:Int),.int .i64 (rp.c.write:Int),.int .i64 (rp.c.swap:Int),.int .i64 (rp.c.add:Int),.int .i64 (rp.c.fault:Int),.int .i64 (rp.ticks:Int),.int .i64 (rp.idle:Int)]:Array Value)[j]?:=aA h.blk j
end
end Go.Proofs.Ytifhldnmcdbpfaa
