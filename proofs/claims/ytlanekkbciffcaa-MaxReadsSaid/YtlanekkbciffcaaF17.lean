/- Layer 6: the order of keys: the walks of ahead, Order. -/
import Derived.Test.YtlanekkbciffcaaF16
import Derived.Test.YtlanekkbciffcaaF12
import Derived.Laws.CopyOwn
set_option maxRecDepth 100000
set_option linter.unusedVariables false
set_option linter.unusedSimpArgs false
set_option linter.unnecessarySimpa false
namespace Go.Proofs.Ytlanekkbciffcaa
section
open Go.RowKit
theorem nameW {F:World->Prop} {W:World} (h:∀ w',w'=W->F w'):F W:=h W rfl
theorem keyLt_drop {xs ys:List Int} {k:Nat} (h1:k<xs.length) (h2:k<ys.length):keyLt (xs.drop k) (ys.drop k)=if xs.getD k 0=ys.getD k 0 then keyLt (xs.drop (k+1)) (ys.drop (k+1)) else decide (xs.getD k 0<ys.getD k 0):=by
 rw [List.drop_eq_getElem_cons h1,List.drop_eq_getElem_cons h2]
 simp only [keyLt,List.getD_eq_getElem?_getD,List.getElem?_eq_getElem h1,List.getElem?_eq_getElem h2,Option.getD_some]
theorem keyLt_end {xs ys:List Int} {k:Nat} (h1:k<=xs.length) (h2:k<=ys.length) (h:¬ (k<xs.length/\k<ys.length)):keyLt (xs.drop k) (ys.drop k)=decide (xs.length<ys.length):=by
 by_cases h3:k<xs.length
 ·have h4:ys.drop k=[]:=List.drop_eq_nil_of_le (by omega)
  rw [h4,List.drop_eq_getElem_cons h3]
  simp only [keyLt]
  symm;apply decide_eq_false;omega
 ·have h4:xs.drop k=[]:=List.drop_eq_nil_of_le (by omega)
  rw [h4]
  by_cases h5:k<ys.length
  ·rw [List.drop_eq_getElem_cons h5]
   simp only [keyLt]
   symm;apply decide_eq_true;omega
  ·rw [List.drop_eq_nil_of_le (by omega)]
   simp only [keyLt]
   symm;apply decide_eq_false;omega
set_option maxHeartbeats 4000000 in
theorem ahead_any (xs ys:List Int) (a a2:Option Addr) (c c2:Nat) (w:World) (hs:SlAt w a xs.length 1 (intG xs)) (hs2:SlAt w a2 ys.length 1 (intG ys)) :
  Calls Try.prog 82 #[.slice a xs.length c,.slice a2 ys.length c2] w λe w'=>e=.returned (.bool (keyLt xs ys))/\Below w.heap.size w w':=by
 have hm:=hs.1;have hm2:=hs2.1
 unfold maxLen at hm hm2
 obtain⟨r,hr⟩:∃ r,r=keyLt xs ys:=⟨_,rfl⟩
 rw [<-hr]
 obtain⟨n,hn⟩:∃ n,n=xs.length:=⟨_,rfl⟩
 obtain⟨m,hmm⟩:∃ m,m=ys.length:=⟨_,rfl⟩
 rw [<-hn] at hs hm ⊢
 rw [<-hmm] at hs2 hm2 ⊢
 have Hs:=Lib.hid hs;have Hs2:=Lib.hid hs2;have Hr:=Lib.hid hr;have Hn:=Lib.hid hn;have Hm:=Lib.hid hmm
 clear hs hs2 hr hn hmm
 go_enter Try.func82,Try.ntmps82
 go_wp2
 go_loopw [5] (λi wr=>∃ k:Nat,k<=n/\k<=m/\i=.int .i64 k/\Below w.heap.size w wr/\keyLt (xs.drop k) (ys.drop k)=r) (λi _=>n - (intOf i).toNat)
 case atStart=>exact⟨0,Nat.zero_le _,Nat.zero_le _,rfl,Gr.refl _,by rw [List.drop_zero,List.drop_zero];exact Hr.out.symm⟩
 case round=>
  obtain⟨k,hk,hk2,rfl,hb,hkey⟩:=hrel
  by_cases hlt:k<n
  ·by_cases hlt2:k<m
   ·obtain⟨b,o,rfl,h4⟩:=Hs.out.elem hb hlt
    obtain⟨b2,o2,rfl,h5⟩:=Hs2.out.elem hb hlt2
    obtain⟨x,hx⟩:∃ x,x=xs.getD k 0:=⟨_,rfl⟩
    obtain⟨y,hy⟩:∃ y,y=ys.getD k 0:=⟨_,rfl⟩
    have e4:wr.cell? ⟨b,o+k,none⟩=some (.int .i64 x):=by have h0:=h4 0 (by omega);rw [Nat.mul_one,Nat.add_zero] at h0;rw [h0,hx];rfl
    have e5:wr.cell? ⟨b2,o2+k,none⟩=some (.int .i64 y):=by have h0:=h5 0 (by omega);rw [Nat.mul_one,Nat.add_zero] at h0;rw [h0,hy];rfl
    have hstep:=keyLt_drop (xs:=xs) (ys:=ys) (k:=k) (by rw [<-Hn.out];exact hlt) (by rw [<-Hm.out];exact hlt2)
    rw [<-hx,<-hy,hkey] at hstep
    have l1:(k:Int)<n:=by omega
    have l2:(k:Int)<m:=by omega
    have Hb:=Lib.hid hb
    by_cases hxy:x=y
    ·rw [if_pos hxy] at hstep
     subst hxy
     have Hst:=Lib.hid hstep
     clear h4 h5 hb hx hy hstep hkey
     go_wp2_with fail
     go_quiet (fail)
     go_wp2
     go_roundw
     case rel=>exact⟨k+1,by omega,by omega,by go_num,below_drewN Hb.out nq,Hst.out.symm⟩
     case measure=>simp [intOf]<;>omega
    ·rw [if_neg hxy] at hstep
     subst hstep
     clear h4 h5 hb hx hy hkey
     go_wp2_with fail
     go_quiet (fail)
     revert nq;intro n1
     go_wp2_with fail
     go_quiet (fail)
     go_wp2
     go_ret
     first
     | exact⟨rfl,below_drewN Hb.out _⟩
     | exact⟨rfl,below_drewN (below_drewN Hb.out _) _⟩
   ·have hstep:=keyLt_end (xs:=xs) (ys:=ys) (k:=k) (by rw [<-Hn.out];exact hk) (by rw [<-Hm.out];exact hk2) (by rw [<-Hn.out,<-Hm.out];omega)
    rw [hkey,<-Hn.out,<-Hm.out] at hstep
    have hr1:r=false:=by rw [hstep];apply decide_eq_false;omega
    subst hr1
    have l1:(k:Int)<n:=by omega
    have l2:¬ (k:Int)<m:=by omega
    have l3:¬ (n:Int)<m:=by omega
    have Hb:=Lib.hid hb
    clear hb hstep hkey
    go_wp2
    go_ret
    exact⟨rfl,Hb.out⟩
  ·have hstep:=keyLt_end (xs:=xs) (ys:=ys) (k:=k) (by rw [<-Hn.out];exact hk) (by rw [<-Hm.out];exact hk2) (by rw [<-Hn.out,<-Hm.out];omega)
   rw [hkey,<-Hn.out,<-Hm.out] at hstep
   have l1:¬ (k:Int)<n:=by omega
   have Hb:=Lib.hid hb
   by_cases l3:(n:Int)<m
   ·have hr1:r=true:=by rw [hstep];apply decide_eq_true;omega
    subst hr1
    clear hb hstep hkey
    go_wp2
    go_ret
    exact⟨rfl,Hb.out⟩
   ·have hr1:r=false:=by rw [hstep];apply decide_eq_false;omega
    subst hr1
    clear hb hstep hkey
    go_wp2
    go_ret
    exact⟨rfl,Hb.out⟩
set_option maxHeartbeats 4000000 in
theorem ahead4_any (xs ys:List Int) (a a2:Option Addr) (c c2:Nat) (w:World) (hs:SlAt w a xs.length 1 (intG xs)) (hs2:SlAt w a2 ys.length 1 (intG ys)) :
  Calls Try.prog 69 #[.slice a xs.length c,.slice a2 ys.length c2] w λe w'=>e=.returned (.bool (keyLt xs ys))/\Below w.heap.size w w':=by
 have hm:=hs.1;have hm2:=hs2.1
 unfold maxLen at hm hm2
 obtain⟨r,hr⟩:∃ r,r=keyLt xs ys:=⟨_,rfl⟩
 rw [<-hr]
 obtain⟨n,hn⟩:∃ n,n=xs.length:=⟨_,rfl⟩
 obtain⟨m,hmm⟩:∃ m,m=ys.length:=⟨_,rfl⟩
 rw [<-hn] at hs hm ⊢
 rw [<-hmm] at hs2 hm2 ⊢
 have Hs:=Lib.hid hs;have Hs2:=Lib.hid hs2;have Hr:=Lib.hid hr;have Hn:=Lib.hid hn;have Hm:=Lib.hid hmm
 clear hs hs2 hr hn hmm
 go_enter Try.func69,Try.ntmps69
 go_wp2
 go_loopw [5] (λi wr=>∃ k:Nat,k<=n/\k<=m/\i=.int .i64 k/\Below w.heap.size w wr/\keyLt (xs.drop k) (ys.drop k)=r) (λi _=>n - (intOf i).toNat)
 case atStart=>exact⟨0,Nat.zero_le _,Nat.zero_le _,rfl,Gr.refl _,by rw [List.drop_zero,List.drop_zero];exact Hr.out.symm⟩
 case round=>
  obtain⟨k,hk,hk2,rfl,hb,hkey⟩:=hrel
  by_cases hlt:k<n
  ·by_cases hlt2:k<m
   ·obtain⟨b,o,rfl,h4⟩:=Hs.out.elem hb hlt
    obtain⟨b2,o2,rfl,h5⟩:=Hs2.out.elem hb hlt2
    obtain⟨x,hx⟩:∃ x,x=xs.getD k 0:=⟨_,rfl⟩
    obtain⟨y,hy⟩:∃ y,y=ys.getD k 0:=⟨_,rfl⟩
    have e4:wr.cell? ⟨b,o+k,none⟩=some (.int .i64 x):=by have h0:=h4 0 (by omega);rw [Nat.mul_one,Nat.add_zero] at h0;rw [h0,hx];rfl
    have e5:wr.cell? ⟨b2,o2+k,none⟩=some (.int .i64 y):=by have h0:=h5 0 (by omega);rw [Nat.mul_one,Nat.add_zero] at h0;rw [h0,hy];rfl
    have hstep:=keyLt_drop (xs:=xs) (ys:=ys) (k:=k) (by rw [<-Hn.out];exact hlt) (by rw [<-Hm.out];exact hlt2)
    rw [<-hx,<-hy,hkey] at hstep
    have l1:(k:Int)<n:=by omega
    have l2:(k:Int)<m:=by omega
    have Hb:=Lib.hid hb
    by_cases hxy:x=y
    ·rw [if_pos hxy] at hstep
     subst hxy
     have Hst:=Lib.hid hstep
     clear h4 h5 hb hx hy hstep hkey
     go_wp2_with fail
     go_quiet (fail)
     go_wp2
     go_roundw
     case rel=>exact⟨k+1,by omega,by omega,by go_num,below_drewN Hb.out nq,Hst.out.symm⟩
     case measure=>simp [intOf]<;>omega
    ·rw [if_neg hxy] at hstep
     subst hstep
     clear h4 h5 hb hx hy hkey
     go_wp2_with fail
     go_quiet (fail)
     revert nq;intro n1
     go_wp2_with fail
     go_quiet (fail)
     go_wp2
     go_ret
     first
     | exact⟨rfl,below_drewN Hb.out _⟩
     | exact⟨rfl,below_drewN (below_drewN Hb.out _) _⟩
   ·have hstep:=keyLt_end (xs:=xs) (ys:=ys) (k:=k) (by rw [<-Hn.out];exact hk) (by rw [<-Hm.out];exact hk2) (by rw [<-Hn.out,<-Hm.out];omega)
    rw [hkey,<-Hn.out,<-Hm.out] at hstep
    have hr1:r=false:=by rw [hstep];apply decide_eq_false;omega
    subst hr1
    have l1:(k:Int)<n:=by omega
    have l2:¬ (k:Int)<m:=by omega
    have l3:¬ (n:Int)<m:=by omega
    have Hb:=Lib.hid hb
    clear hb hstep hkey
    go_wp2
    go_ret
    exact⟨rfl,Hb.out⟩
  ·have hstep:=keyLt_end (xs:=xs) (ys:=ys) (k:=k) (by rw [<-Hn.out];exact hk) (by rw [<-Hm.out];exact hk2) (by rw [<-Hn.out,<-Hm.out];omega)
   rw [hkey,<-Hn.out,<-Hm.out] at hstep
   have l1:¬ (k:Int)<n:=by omega
   have Hb:=Lib.hid hb
   by_cases l3:(n:Int)<m
   ·have hr1:r=true:=by rw [hstep];apply decide_eq_true;omega
    subst hr1
    clear hb hstep hkey
    go_wp2
    go_ret
    exact⟨rfl,Hb.out⟩
   ·have hr1:r=false:=by rw [hstep];apply decide_eq_false;omega
    subst hr1
    clear hb hstep hkey
    go_wp2
    go_ret
    exact⟨rfl,Hb.out⟩
end
section

/- Layer 8: the tally as the loom's object: the walks of its machines. -/
open Go.RowKit
inductive TaS where
 | count (seen:Bool) (v:Nat)
 | read (at_ sum:Nat) (key:List Int)
def taWhen (ticks:List Int) (inv s:Nat):Int:=if 0<s/\s<=ticks.length then max (inv:Int) (ticks.getD (s - 1) 0) else (inv:Int)
def taRead (wd:WD) (a:Nat):WD:={ wd with mem:=(memRead wd.mem (a:Int)).1 }
def taWrite (wd:WD) (p v:Nat):WD:={ wd with mem:=memWrite wd.mem (p:Int) (v+1),traces:=updT wd.traces 0 (wd.traces 0++[(wd.now:Int)]) }
def taGot (wd:WD) (a:Nat):Nat:=(memRead wd.mem (a:Int)).2
def taKey (wd:WD) (p s:Nat):List Int:=[2*taWhen (wd.traces 0) (wd.inv.getD p 0) s,2*(wd.now:Int)]
def tallyS (n:Nat):Sys where
 σ:=TaS
 ω:=Unit
 start:=λ_ _ _ c=>if c.kind=0 then .run (.count false 0) else if c.kind=1 then .run (.read 0 0 []) else .refuse 9
 step:=λ_ wd p s=>match s with
  | .count false _=>((),taRead wd p,.count true (taGot wd p),false)
  | .count true v=>((),taWrite wd p v,.count true v,true)
  | .read a s k=>if a+1<n then ((),taRead wd a,.read (a+1) (s+taGot wd a) k,false) else ((),taRead wd a,.read (a+1) (s+taGot wd a) (taKey wd p (s+taGot wd a)),true)
 answer:=λs=>match s with
  | .count _ _=>(⟨0,0,[]⟩,[])
  | .read _ s k=>(⟨0,s,[]⟩,k)
 late:=λ_ _ _ _=>none
def OwnTo (w w':World) (Mut B:Nat->Prop) (I:WIds) (N:Nat) (wd:WD) (b:Nat) (cells:Array Value) (T:TypeId) (done:Bool) (e:Ending):Prop:=
 e=.returned (.bool done)/\Chg (λk=>WSet I k∨B k) w w'/\WorldAt w' (mutTo Mut B (λk=>k=b)) I N wd/\w'.heap[b]?=some (.cells cells T (0,0))
theorem OwnTo.drewN {w w':World} {Mut B:Nat->Prop} {I:WIds} {N:Nat} {wd:WD} {b:Nat} {cells:Array Value} {T:TypeId} {done:Bool} {e:Ending} (h:OwnTo w w' Mut B I N wd b cells T done e) (n:Nat):OwnTo w (w'.drewN n) Mut B I N wd b cells T done e:=
 ⟨h.1,h.2.1.drewN n,h.2.2.1.keep (S:=noB) ((Chg.refl _ _).drewN n) (λ_ h=>h.elim) (λ_ h=>h.elim) (MutUp.refl _ _) (λk hk=>h.2.2.1.low k hk) h.2.2.1.muts,h.2.2.2⟩
end
section

/- Layer 10: a max register's machines, in plain numbers. -/
open Go.RowKit
structure WayD where
 k:Nat
 left:Nat
 turns:List (Nat×Bool)
 last:Nat
def way0 (m:Nat):WayD:=⟨1,m,[],0⟩
def WayD.turn (y:WayD) (r:Bool):WayD:=⟨2*y.k+r.toNat,y.left - 1,y.turns++[(y.k,r)],y.last⟩
def mxSet (tr:Int->List Int) (b k:Nat):Int:=(tr ((b+k - 1:Nat):Int)).headD 0
def mxKeyStep (S:Nat->Int) (t:Nat×Bool) (key:List Int):List Int:=
 if S t.1=0 then key
 else if t.2=false/\2*S t.1<key.headD 0 then (2*S t.1 - 1)::key
 else if t.2=true/\key.headD 0<=2*S t.1 then (2*S t.1)::key
 else key
def mxKey (S:Nat->Int) (turns:List (Nat×Bool)) (last:Int):List Int:=turns.foldr (mxKeyStep S) [2*last]
def wayLast (wd:WD) (p:Nat) (y:WayD):Int:=if y.last=0 then ((wd.inv.getD p 0:Nat):Int) else (y.last:Int)
def wayKey (b p:Nat) (wd:WD) (y:WayD):List Int:=mxKey (mxSet wd.traces b) y.turns (wayLast wd p y)
structure RdD where
 y:WayD
 val:Nat
 ky:List Int
structure WrD where
 y:WayD
 v:Nat
 up:Bool
 nx:Nat
 ky:List Int
def mxSkip (ts:List (Nat×Bool)):Nat->Nat
 | 0=>0
 | n+1=>if (ts.getD n (0,false)).2=true then n+1 else mxSkip ts n
def WrD.fin (x:WrD):WrD:={ x with up:=true,nx:=mxSkip x.y.turns x.y.turns.length }
def downN (v:Nat):Nat->WayD->WayD
 | 0,y=>y
 | n+1,y=>if v / 2^n % 2=1 then downN v n (y.turn true) else y
def WrD.down (x:WrD):WrD:=if (downN x.v x.y.left x.y).left=0 then ({ x with y:=downN x.v x.y.left x.y }:WrD).fin else { x with y:=downN x.v x.y.left x.y }
def newWr (m v:Nat):WrD:=(⟨way0 m,v,false,1,[]⟩:WrD).down
def rdTurn (wd:WD) (b:Nat) (y:WayD):Bool:=decide (taGot wd (b+y.k - 1)=1)
def WayD.look (y:WayD) (wd:WD):WayD:={ y with last:=wd.now }
def rdStep (b p:Nat) (wd:WD) (x:RdD):WD×RdD×Bool:=
 if 0<((x.y.look wd).turn (rdTurn wd b x.y)).left then (taRead wd (b+x.y.k - 1),⟨(x.y.look wd).turn (rdTurn wd b x.y),2*x.val+(rdTurn wd b x.y).toNat,x.ky⟩,false)
 else (taRead wd (b+x.y.k - 1),⟨(x.y.look wd).turn (rdTurn wd b x.y),2*x.val+(rdTurn wd b x.y).toNat,wayKey b p (taRead wd (b+x.y.k - 1)) ((x.y.look wd).turn (rdTurn wd b x.y))⟩,true)
def mxPut (b k:Nat) (wd:WD):WD:={ wd with mem:=memWrite wd.mem ((b+k - 1:Nat):Int) 1,traces:=if mxSet wd.traces b k=0 then updT wd.traces ((b+k - 1:Nat):Int) [(wd.now:Int)] else wd.traces }
def wrK (x:WrD):Nat:=(x.y.turns.getD (x.nx - 1) (0,false)).1
def wrGo (b:Nat) (wd:WD) (x:WrD):WD×WrD:=
 if x.up=true then (mxPut b (wrK x) wd,{ x with nx:=mxSkip x.y.turns (x.nx - 1) })
 else if taGot wd (b+x.y.k - 1)=1 then (taRead wd (b+x.y.k - 1),({ x with y:=x.y.look wd }:WrD).fin)
 else (taRead wd (b+x.y.k - 1),({ x with y:=(x.y.look wd).turn false }:WrD).down)
def WrD.done (x:WrD):Bool:=x.up && decide (x.nx=0)
def wrStep (b p:Nat) (wd:WD) (x:WrD):WD×WrD×Bool:=
 if (wrGo b wd x).2.done=true then ((wrGo b wd x).1,{ (wrGo b wd x).2 with ky:=wayKey b p (wrGo b wd x).1 (wrGo b wd x).2.y },true) else ((wrGo b wd x).1,(wrGo b wd x).2,false)
def wrLate (b p:Nat) (wd:WD) (x:WrD):List Int:=if x.up=false then [] else if (x.y.turns.any λt=>t.2 && decide (mxSet wd.traces b t.1=0))=true then [] else wayKey b p wd x.y
inductive MxS where
 | rd (x:RdD)
 | wr (x:WrD)
def maxS (m:Nat):Sys where
 σ:=MxS
 ω:=Unit
 start:=λ_ _ _ c=>if c.kind=1 then .run (.rd ⟨way0 m,0,[]⟩) else if c.kind≠0 then .refuse 9 else if c.a / 2^m≠0 then .refuse 10 else .run (.wr (newWr m c.a))
 step:=λ_ wd p s=>match s with
  | .rd x=>((),(rdStep 0 p wd x).1,.rd (rdStep 0 p wd x).2.1,(rdStep 0 p wd x).2.2)
  | .wr x=>((),(wrStep 0 p wd x).1,.wr (wrStep 0 p wd x).2.1,(wrStep 0 p wd x).2.2)
 answer:=λs=>match s with
  | .rd x=>(⟨0,x.val,[]⟩,x.ky)
  | .wr x=>(⟨0,0,[]⟩,x.ky)
 late:=λ_ wd p s=>match s with
  | .rd _=>none
  | .wr x=>some (wrLate 0 p wd x)
structure WayOk (m:Nat) (y:WayD):Prop where
 len:y.turns.length+y.left=m
 k1:1<=y.k
 k2:y.k<2^(y.turns.length+1)
 tk:∀ t,t∈y.turns->1<=t.1/\t.1<2^m
theorem WayOk.init (m:Nat):WayOk m (way0 m):=⟨by simp [way0],Nat.le_refl _,by simp [way0],λt h=>by cases h⟩
theorem WayOk.turn {m:Nat} {y:WayD} (h:WayOk m y) (hl:0<y.left) (r:Bool):WayOk m (y.turn r):=by
 have h1:=h.len;have h2:=h.k1;have h3:=h.k2
 refine⟨by simp [WayD.turn];omega,by show 1<=2*y.k+r.toNat;omega,?_,λt ht=>?_⟩
 ·show 2*y.k+r.toNat<2^((y.turns++[(y.k,r)]).length+1)
  rw [List.length_append,List.length_singleton,Nat.pow_succ]
  have:r.toNat<=1:=by cases r<;>decide
  omega
 ·have ht':t∈y.turns++[(y.k,r)]:=ht
  rcases List.mem_append.1 ht' with h9|h9
  ·exact h.tk t h9
  ·rw [List.mem_singleton.1 h9]
   refine⟨h2,Nat.lt_of_lt_of_le h3 (Nat.pow_le_pow_right (by decide) (by omega))⟩
theorem WayOk.look {m:Nat} {y:WayD} (h:WayOk m y) (wd:WD):WayOk m (y.look wd):=⟨h.len,h.k1,h.k2,h.tk⟩
theorem WayOk.klt {m:Nat} {y:WayD} (h:WayOk m y) (hl:0<y.left):y.k<2^m:=Nat.lt_of_lt_of_le h.k2 (Nat.pow_le_pow_right (by decide) (by have:=h.len;omega))
theorem WayOk.downN {m:Nat} (v:Nat):∀(n:Nat) {y:WayD},WayOk m y->y.left=n->WayOk m (downN v n y)
 | 0,y,h,_=>h
 | n+1,y,h,hl=>by
  unfold Go.Proofs.Ytlanekkbciffcaa.downN
  split
  ·exact WayOk.downN v n (h.turn (by omega) true) (by show y.left - 1=n;omega)
  ·exact h
theorem mxSkip_le (ts:List (Nat×Bool)):∀ n,mxSkip ts n<=n
 | 0=>Nat.le_refl _
 | n+1=>by
  unfold mxSkip
  split
  ·exact Nat.le_refl _
  ·exact Nat.le_succ_of_le (mxSkip_le ts n)
theorem mxSkip_right (ts:List (Nat×Bool)):∀ n,0<mxSkip ts n->(ts.getD (mxSkip ts n - 1) (0,false)).2=true
 | 0,h=>absurd h (Nat.lt_irrefl 0)
 | n+1,h=>by
  unfold mxSkip at h ⊢
  split
  ·rename_i h1;rw [Nat.add_sub_cancel];exact h1
  ·rename_i h1;rw [if_neg h1] at h;exact mxSkip_right ts n h
structure WrOk (m:Nat) (x:WrD):Prop where
 way:WayOk m x.y
 nx:x.nx<=x.y.turns.length+1
 up:x.up=true->x.nx<=x.y.turns.length
 v:x.v<2^m
theorem WrOk.fin {m:Nat} {x:WrD} (h:WrOk m x):WrOk m x.fin:=⟨h.way,Nat.le_succ_of_le (mxSkip_le _ _),λ_=>mxSkip_le _ _,h.v⟩
theorem WrOk.way' {m:Nat} {x:WrD} (h:WrOk m x) (hu:x.up=false) {y:WayD} (hy:WayOk m y) (hl:x.y.turns.length<=y.turns.length):WrOk m { x with y:=y }:=⟨hy,by have:=h.nx;show x.nx<=y.turns.length+1;omega,(λe=>by have e':x.up=true:=e;rw [hu] at e';cases e'),h.v⟩
theorem downN_len (v:Nat):∀(n:Nat) (y:WayD),y.turns.length<=(downN v n y).turns.length
 | 0,y=>Nat.le_refl _
 | n+1,y=>by
  unfold downN
  split
  ·exact Nat.le_trans (by simp [WayD.turn]) (downN_len v n (y.turn true))
  ·exact Nat.le_refl _
theorem WrOk.down {m:Nat} {x:WrD} (h:WrOk m x) (hu:x.up=false):WrOk m x.down:=by
 have h1:=h.way' hu (WayOk.downN x.v _ h.way rfl) (downN_len _ _ _)
 unfold WrD.down
 split
 ·exact h1.fin
 ·exact h1
theorem WrOk.init {m v:Nat} (hv:v<2^m):WrOk m (newWr m v):=WrOk.down (x:=⟨way0 m,v,false,1,[]⟩) ⟨WayOk.init m,by simp [way0],(λe=>by cases e),hv⟩ rfl
theorem WrOk.go {m:Nat} {x:WrD} (h:WrOk m x) (b:Nat) (wd:WD) (hl:x.up=false->0<x.y.left):WrOk m (wrGo b wd x).2:=by
 unfold wrGo
 split
 ·rename_i hu
  have h1:=h.up hu
  have h2:=mxSkip_le x.y.turns (x.nx - 1)
  exact⟨h.way,by show mxSkip x.y.turns (x.nx - 1)<=x.y.turns.length+1;omega,λ_=>by show mxSkip x.y.turns (x.nx - 1)<=x.y.turns.length;omega,h.v⟩
 ·rename_i hu
  have hu':x.up=false:=by simpa using hu
  split
  ·exact(h.way' hu' (h.way.look wd) (Nat.le_refl _)).fin
  ·exact(h.way' hu' ((h.way.look wd).turn (hl hu') false) (by simp [WayD.turn,WayD.look])).down hu'
theorem WrOk.step {m:Nat} {x:WrD} (h:WrOk m x) (b p:Nat) (wd:WD) (hl:x.up=false->0<x.y.left):WrOk m (wrStep b p wd x).2.1:=by
 have h1:=h.go b wd hl
 unfold wrStep
 split
 ·exact⟨h1.way,h1.nx,h1.up,h1.v⟩
 ·exact h1
def TrOk (wd:WD):Prop:=(∀ a x,x∈wd.traces a->0<=x/\x<=1000000)/\∀ p,wd.inv.getD p 0<=1000000
theorem TrOk.set {wd:WD} (h:TrOk wd) (b k:Nat):0<=mxSet wd.traces b k/\mxSet wd.traces b k<=1000000:=by
 unfold mxSet
 cases hx:wd.traces ((b+k - 1:Nat):Int) with
 | nil=>exact⟨Int.le_refl _,by decide⟩
 | cons a l=>exact h.1 _ a (by rw [hx];exact List.mem_cons_self ..)
theorem TrOk.read {wd:WD} (h:TrOk wd) (a:Nat):TrOk (taRead wd a):=h
theorem TrOk.put {wd:WD} (h:TrOk wd) (hn:wd.now<=1000000) (b k:Nat):TrOk (mxPut b k wd):=by
 refine⟨λa x hx=>?_,h.2⟩
 have hx':x∈(if mxSet wd.traces b k=0 then updT wd.traces ((b+k - 1:Nat):Int) [(wd.now:Int)] else wd.traces) a:=hx
 split at hx'
 ·unfold updT at hx'
  split at hx'
  ·rw [List.mem_singleton.1 hx'];omega
  ·exact h.1 a x hx'
 ·exact h.1 a x hx'
theorem mxKeyStep_small {S:Nat->Int} (hS:∀ k,0<=S k/\S k<=1000000) (t:Nat×Bool) {key:List Int} (hk:∀ x,x∈key->-1<=x/\x<=2000000):∀ x,x∈mxKeyStep S t key->-1<=x/\x<=2000000:=by
 have h1:=hS t.1
 intro x hx
 unfold mxKeyStep at hx
 split at hx
 ·exact hk x hx
 ·split at hx
  ·rcases List.mem_cons.1 hx with rfl|hx
   ·omega
   ·exact hk x hx
  ·split at hx
   ·rcases List.mem_cons.1 hx with rfl|hx
    ·omega
    ·exact hk x hx
   ·exact hk x hx
theorem mxKey_small {S:Nat->Int} (hS:∀ k,0<=S k/\S k<=1000000) {last:Int} (hl:0<=last/\last<=1000000):∀(ts:List (Nat×Bool)) (x:Int),x∈mxKey S ts last->-1<=x/\x<=2000000
 | [],x,hx=>by rw [List.mem_singleton.1 hx];omega
 | t::ts,x,hx=>mxKeyStep_small hS t (mxKey_small hS hl ts) x hx
theorem mxKeyStep_len (S:Nat->Int) (t:Nat×Bool) (key:List Int):key.length<=(mxKeyStep S t key).length/\(mxKeyStep S t key).length<=key.length+1:=by
 unfold mxKeyStep
 split
 ·exact⟨Nat.le_refl _,Nat.le_succ _⟩
 ·split
  ·exact⟨Nat.le_succ _,Nat.le_refl _⟩
  ·split
   ·exact⟨Nat.le_succ _,Nat.le_refl _⟩
   ·exact⟨Nat.le_refl _,Nat.le_succ _⟩
theorem mxKey_len (S:Nat->Int) (last:Int):∀ ts:List (Nat×Bool),1<=(mxKey S ts last).length/\(mxKey S ts last).length<=ts.length+1
 | []=>⟨Nat.le_refl _,Nat.le_refl _⟩
 | t::ts=>by
  have h1:=mxKeyStep_len S t (mxKey S ts last)
  have h2:=mxKey_len S last ts
  have e:mxKey S (t::ts) last=mxKeyStep S t (mxKey S ts last):=rfl
  rw [e,List.length_cons]
  omega
end
end Go.Proofs.Ytlanekkbciffcaa
