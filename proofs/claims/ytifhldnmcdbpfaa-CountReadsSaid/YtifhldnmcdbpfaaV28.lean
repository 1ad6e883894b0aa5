/- Layer 11: the steps of one that looks at a node, and of one that writes at a node, in plain numbers. -/
import Derived.Test.YtifhldnmcdbpfaaV27
import Derived.Test.YtifhldnmcdbpfaaV11
import Derived.Test.YtifhldnmcdbpfaaV13
import Derived.Test.YtifhldnmcdbpfaaV15
import Derived.Test.YtifhldnmcdbpfaaV18
import Derived.Test.YtifhldnmcdbpfaaV17
import Derived.Test.YtifhldnmcdbpfaaV25
set_option maxRecDepth 100000
set_option linter.unusedVariables false
set_option linter.unusedSimpArgs false
set_option linter.unnecessarySimpa false
namespace Go.Proofs.Ytifhldnmcdbpfaa
section
open Go.RowKit
def ghA (n:Nat) (ws:List Nat) (t:Nat):Nat:=if t<n then ws.getD t 0 else 0
def ghS (n m:Nat) (ws:List Nat) (v k:Nat):Bool:=decide (1<=v/\v<aK n/\1<=k/\k<2^m/\ws.getD (aG n m v+k - 1) 0=1)
def dU (n m:Nat) (ws:List Nat) (w M rk:Nat->Nat):Gh:=⟨ghA n ws,w,M,rk,ghS n m ws⟩
theorem kK {n m:Nat} {ws:List Nat} {v k:Nat}:ghS n m ws v k=true↔(1<=v/\v<aK n/\1<=k/\k<2^m/\ws.getD (aG n m v+k - 1) 0=1):=decide_eq_true_iff
theorem BJ {n m v k:Nat} (h1:1<=v) (h2:v<aK n) (h3:1<=k) (h4:k<2^m):n<=aG n m v+k - 1/\aG n m v+k - 1<n+(aK n - 1)*(2^m - 1):=by
 have h5:(v - 1)*(2^m - 1)+(2^m - 1)<=(aK n - 1)*(2^m - 1):=by
  have h6:=Nat.mul_le_mul_right (2^m - 1) (show v - 1+1<=aK n - 1 by omega)
  rw [Nat.add_mul,Nat.one_mul] at h6;exact h6
 unfold aG
 omega
theorem OW {n m v k v' k':Nat} (h1:1<=v) (h3:1<=k) (h4:k<2^m) (h1':1<=v') (h3':1<=k') (h4':k'<2^m) (h:aG n m v+k - 1=aG n m v'+k' - 1):v=v'/\k=k':=by
 unfold aG at h
 rcases Nat.lt_trichotomy v v' with h9|h9|h9
 ·have h6:=Nat.mul_le_mul_right (2^m - 1) (show v - 1+1<=v' - 1 by omega)
  rw [Nat.add_mul,Nat.one_mul] at h6
  omega
 ·subst h9;exact⟨rfl,by omega⟩
 ·have h6:=Nat.mul_le_mul_right (2^m - 1) (show v' - 1+1<=v - 1 by omega)
  rw [Nat.add_mul,Nat.one_mul] at h6
  omega
structure Gh.Le (g g':Gh):Prop where
 a:∀ t,g.a t<=g'.a t
 s:∀ v k,g.s v k=true->g'.s v k=true
theorem Gh.Le.refl (g:Gh):g.Le g:=⟨λ_=>Nat.le_refl _,λ_ _ h=>h⟩
theorem Gh.Le.S {g g':Gh} (h:g.Le g') (n L u:Nat):g.S n L u<=g'.S n L u:=zX λt _ _=>h.a t
def qQ (n m:Nat) (g:Gh) (lo:Nat) (l:LkD):Prop:=
 (l.kind=0/\1<=l.v/\l.v<aK n/\tV (g.s l.v) m lo (g.S n (aK n) l.v) l.x/\nH m l.x/\0<l.x.y.left)∨
 (l.kind=1/\aK n<=l.v/\l.v - aK n<n/\lo<=g.a (l.v - aK n))∨(l.kind=2/\lo=0/\l.val=0)
theorem qQ.mono {n m lo:Nat} {g g':Gh} {l:LkD} (h:qQ n m g lo l) (hg:g.Le g'):qQ n m g' lo l:=by
 rcases h with⟨a,b,c,d,e⟩|⟨a,b,c,d⟩|h
 ·exact .inl ⟨a,b,c,d.mono (hg.s _) (hg.S ..),e⟩
 ·exact .inr (.inl ⟨a,b,c,Nat.le_trans d (hg.a _)⟩)
 ·exact .inr (.inr h)
theorem rM {n m:Nat} (hm:0<m) {g:Gh} (hn:n<=16) (h:GInv n m g) {v lo:Nat} (h1:1<=v) (hlo:lo<=g.cur n (aK n) v):qQ n m g lo (dS n m v):=by
 unfold Gh.cur at hlo
 by_cases hv:v<aK n
 ·rw [if_pos hv] at hlo
  have hM:=h.top v h1 hv
  have hS:=h.lt hn v
  refine .inl ⟨if_pos hv,h1,hv,tV.init (by omega) ((h.ge v h1 hv).le hlo (by omega)),nH.init m,hm⟩
 ·rw [if_neg hv] at hlo
  by_cases hq:v - aK n<n
  ·rw [if_pos hq] at hlo
   exact .inr (.inl ⟨(if_neg hv).trans (if_pos hq),by show aK n<=v;omega,hq,hlo⟩)
  ·rw [if_neg hq] at hlo
   exact .inr (.inr ⟨(if_neg hv).trans (if_neg hq),by omega,rfl⟩)
theorem AA (b p:Nat) (wd:WD) (x:RdD):∃ ky,(rdStep b p wd x).2.1=⟨(x.y.look wd).turn (dZ wd b x.y),2*x.val+(dZ wd b x.y).toNat,ky⟩/\((rdStep b p wd x).2.2=true↔¬ 0<((x.y.look wd).turn (dZ wd b x.y)).left):=by
 unfold rdStep
 split
 ·rename_i h;exact⟨_,rfl,by simp [h]⟩
 ·rename_i h;exact⟨_,rfl,by simp [h]⟩
def PW (n m:Nat) (g:Gh) (lo:Nat) (l:LkD):Prop:=
 lo<=l.val/\l.val<=g.S n (aK n) l.v/\(1<=l.v->l.v<aK n->GE (g.s l.v) m 1 l.val)
theorem wY {n m p lo:Nat} {wd:WD} {w M rk:Nat->Nat} {l:LkD} (hn:n<=16) (hlen:wd.mem.ws.length=n+(aK n - 1)*(2^m - 1)) (h:GInv n m (dU n m wd.mem.ws w M rk)) (hl:qQ n m (dU n m wd.mem.ws w M rk) lo l) (hk:l.kind≠2) :
  (aI n m p wd l).1.mem.ws=wd.mem.ws/\(aI n m p wd l).2.1.v=l.v/\((aI n m p wd l).2.2=false->qQ n m (dU n m wd.mem.ws w M rk) lo (aI n m p wd l).2.1/\(aI n m p wd l).2.1.kind=l.kind)/\((aI n m p wd l).2.2=true->PW n m (dU n m wd.mem.ws w M rk) lo (aI n m p wd l).2.1):=by
 obtain⟨g,hg⟩:∃ g,g=dU n m wd.mem.ws w M rk:=⟨_,rfl⟩
 rw [<-hg] at h hl ⊢
 rcases hl with⟨a,b,c,d,e,f⟩|⟨a,b,c,d⟩|⟨a,_⟩
 ·have ha:l.kind≠1:=by omega
  have hk1:=e.way.k1
  have hk2:=e.way.klt f
  obtain⟨c1,c2⟩:=BJ (n:=n) b c hk1 hk2
  have hr:=NV (m:=wd.mem) (a:=aG n m l.v+l.x.y.k - 1) (by rw [hlen];exact c2)
  have hturn:dZ wd (aG n m l.v) l.x.y=g.s l.v l.x.y.k:=by
   have e1:gD wd (aG n m l.v+l.x.y.k - 1)=wd.mem.ws.getD (aG n m l.v+l.x.y.k - 1) 0:=hr.2.1
   unfold dZ
   rw [e1,hg]
   show _=ghS n m wd.mem.ws l.v l.x.y.k
   unfold ghS
   exact decide_eq_decide.2 ⟨λh9=>⟨b,c,hk1,hk2,h9⟩,λh9=>h9.2.2.2.2⟩
  obtain⟨ky,hs,hdn⟩:=AA (aG n m l.v) p wd l.x
  have RA:∀ r,(rdStep (aG n m l.v) p wd l.x).2.2=r->aI n m p wd l=if r=true then ((rdStep (aG n m l.v) p wd l.x).1,{ l with x:=(rdStep (aG n m l.v) p wd l.x).2.1,val:=(rdStep (aG n m l.v) p wd l.x).2.1.val },true) else ((rdStep (aG n m l.v) p wd l.x).1,{ l with x:=(rdStep (aG n m l.v) p wd l.x).2.1 },false):=λr hr=>by
   unfold aI
   rw [if_neg ha,hr]
  have hws:(rdStep (aG n m l.v) p wd l.x).1.mem.ws=wd.mem.ws:=by rw [gI];exact hr.1
  rw [hturn] at hs hdn
  have hin:tV (g.s l.v) m lo (g.S n (aK n) l.v) (rdStep (aG n m l.v) p wd l.x).2.1:=by
   rw [hs]
   exact d.turn e f (h.up l.v b c) _ _ rfl rfl
  have hok:nH m (rdStep (aG n m l.v) p wd l.x).2.1:=e.step _ _ _ f
  have hlf:(rdStep (aG n m l.v) p wd l.x).2.1.y.left=((l.x.y.look wd).turn (g.s l.v l.x.y.k)).left:=by rw [hs]
  cases hr2:(rdStep (aG n m l.v) p wd l.x).2.2 with
  | true=>
   rw [RA _ hr2,if_pos rfl]
   refine⟨hws,rfl,(λh=>by cases h),λ_=>?_⟩
   have h0:(rdStep (aG n m l.v) p wd l.x).2.1.y.left=0:=by
    have:=hdn.1 hr2;omega
   have hge:=hin.ge;have hup:=hin.up;have hpa:=hin.path
   rw [h0] at hge hup hpa
   refine⟨?_,?_,λ_ _=>hpa _ (λ_ h=>h) _ (by rw [Nat.pow_zero,Nat.div_one]) trivial⟩
   ·show lo<=(rdStep (aG n m l.v) p wd l.x).2.1.val
    rw [Nat.pow_zero,Nat.div_one] at hge
    rcases hge with h9|⟨h9,_⟩<;>omega
   ·show(rdStep (aG n m l.v) p wd l.x).2.1.val<=_
    rw [Nat.pow_zero,Nat.mul_one] at hup;exact hup
  | false=>
   rw [RA _ hr2,if_neg Bool.false_ne_true]
   refine⟨hws,rfl,λ_=>⟨.inl ⟨a,b,c,hin,hok,?_⟩,rfl⟩,λh=>by cases h⟩
   show 0<(rdStep (aG n m l.v) p wd l.x).2.1.y.left
   rw [hlf]
   rcases Nat.eq_zero_or_pos ((l.x.y.look wd).turn (g.s l.v l.x.y.k)).left with h9|h9
   ·have:=hdn.2 (by omega)
    rw [hr2] at this;cases this
   ·exact h9
 ·have hq:l.v - aK n<wd.mem.ws.length:=by rw [hlen];omega
  have hr:=NV hq
  have e1:gD wd (l.v - aK n)=wd.mem.ws.getD (l.v - aK n) 0:=hr.2.1
  have e2:g.a (l.v - aK n)=wd.mem.ws.getD (l.v - aK n) 0:=by rw [hg];exact if_pos c
  have hst:aI n m p wd l=(dI wd (l.v - aK n),{ l with val:=gD wd (l.v - aK n) },true):=if_pos a
  rw [hst]
  refine⟨hr.1,rfl,(λh=>by cases h),λ_=>⟨by show lo<=gD _ _;rw [e1,<-e2];exact d,?_,λ_ h9=>absurd h9 (by show ¬ l.v<_;omega)⟩⟩
  show gD _ _<=g.S n (aK n) l.v
  have hS:=(h.leaf hn c).2
  rw [show aK n+(l.v - aK n)=l.v by omega] at hS
  rw [hS,e1,<-e2];exact Nat.le_refl _
 ·exact absurd a hk
def xA (m now:Nat) (s:Nat->Bool) (x:WrD):Prop:=iF s m x/\fZ m x/\(if x.up=true then 1<=x.nx else 0<x.y.left)/\x.y.last<=now
theorem xA.mono {m now now':Nat} {s s':Nat->Bool} {x:WrD} (h:xA m now s x) (hs:∀ k,s k=true->s' k=true) (hn:now<=now'):xA m now' s' x:=⟨h.1.mono hs,h.2.1,h.2.2.1,Nat.le_trans h.2.2.2 hn⟩
theorem FN {m now v:Nat} (hm:0<m) (hv:v<2^m) (s:Nat->Bool):xA m now s (dB m v):=
 ⟨iF.init hv,fZ.init hv,AJ hm,by
  have e1:(dB m v).y.last=0:=(WrD.down_last _).trans rfl
  rw [e1];exact Nat.zero_le _⟩
theorem NK (b:Nat) (wd:WD) (x:WrD):(dD b wd x).2.v=x.v:=by
 have hd:∀ x:WrD,x.down.v=x.v:=λx=>by unfold WrD.down;split<;>rfl
 unfold dD
 split
 ·rfl
 ·split
  ·rfl
  ·exact hd _
theorem FY (b p:Nat) (wd:WD) (x:WrD):∃ ky,(aO b p wd x).2.1={ (dD b wd x).2 with ky:=ky }/\(aO b p wd x).2.2=(dD b wd x).2.done:=by
 unfold aO
 split
 ·rename_i h;exact⟨_,rfl,h.symm⟩
 ·rename_i h;exact⟨_,rfl,by simpa using h⟩
theorem xA.ky {m now:Nat} {s:Nat->Bool} {x:WrD} (ky:List Int) (h:iF s m x):iF s m { x with ky:=ky }:=⟨h.tk,h.ky,h.dn,h.up⟩
theorem QD {n m p:Nat} {v:Nat} {wd:WD} {w M rk:Nat->Nat} {x:WrD} (h1:1<=v) (h2:v<aK n) (hlen:wd.mem.ws.length=n+(aK n - 1)*(2^m - 1)) (h:GInv n m (dU n m wd.mem.ws w M rk)) (hx:xA m wd.now (ghS n m wd.mem.ws v) x) (hv:x.v<=(dU n m wd.mem.ws w M rk).S n (aK n) v) :
  (aO (aG n m v) p wd x).1.mem.ws.length=wd.mem.ws.length/\(∀ t,t<n->(aO (aG n m v) p wd x).1.mem.ws.getD t 0=wd.mem.ws.getD t 0)/\
  (dU n m wd.mem.ws w M rk).Le (dU n m (aO (aG n m v) p wd x).1.mem.ws w M rk)/\GInv n m (dU n m (aO (aG n m v) p wd x).1.mem.ws w M rk)/\(aO (aG n m v) p wd x).2.1.v=x.v/\
  ((aO (aG n m v) p wd x).2.2=false->xA m wd.now (ghS n m (aO (aG n m v) p wd x).1.mem.ws v) (aO (aG n m v) p wd x).2.1)/\
  ((aO (aG n m v) p wd x).2.2=true->GE (ghS n m (aO (aG n m v) p wd x).1.mem.ws v) m 1 x.v):=by
 obtain⟨i1,i2,i3,i4⟩:=hx
 have hgl:x.up=false->0<x.y.left:=λhu=>by rw [hu,if_neg Bool.false_ne_true] at i3;exact i3
 have hok:=i2.go (aG n m v) wd hgl
 have hlast:=EQ (b:=aG n m v) (x:=x) i4
 have hwv:=NK (aG n m v) wd x
 have key:(dD (aG n m v) wd x).1.mem.ws.length=wd.mem.ws.length/\(∀ t,t<n->(dD (aG n m v) wd x).1.mem.ws.getD t 0=wd.mem.ws.getD t 0)/\(∀ u k,ghS n m wd.mem.ws u k=true->ghS n m (dD (aG n m v) wd x).1.mem.ws u k=true)/\(∀ u,1<=u->u<aK n->tL (ghS n m (dD (aG n m v) wd x).1.mem.ws u) m ((dU n m wd.mem.ws w M rk).S n (aK n) u))/\iF (ghS n m (dD (aG n m v) wd x).1.mem.ws v) m (dD (aG n m v) wd x).2:=by
  by_cases hu:x.up=true
  ·rw [if_pos hu] at i3
   obtain⟨k1,k2,k3⟩:=i1.bound i2 hu i3
   obtain⟨c1,c2⟩:=BJ (n:=n) h1 h2 k1 k2
   have e:dD (aG n m v) wd x=(qG (aG n m v) (wrK x) wd,{ x with nx:=bN x.y.turns (x.nx - 1) }):=if_pos hu
   rw [e]
   obtain⟨A,hA⟩:∃ A,A=aG n m v+wrK x - 1:=⟨_,rfl⟩
   have hAl:A<wd.mem.ws.length:=by rw [hlen,hA];exact c2
   have hws:(qG (aG n m v) (wrK x) wd).mem.ws=wd.mem.ws.set A 1:=by
    rw [hA];exact(QL 1 (by rw [<-hA];exact hAl)).1
   have hget:∀ i,(wd.mem.ws.set A 1).getD i 0=if i=A then 1 else wd.mem.ws.getD i 0:=λi=>by
    by_cases e9:i=A
    ·rw [if_pos e9,e9,aL hAl]
    ·rw [if_neg e9,aR (Ne.symm e9)]
   have hS:∀ u k,ghS n m wd.mem.ws u k=true->ghS n m (wd.mem.ws.set A 1) u k=true:=λu k h9=>by
    obtain⟨a,b,c,d,f⟩:=kK.1 h9
    refine kK.2 ⟨a,b,c,d,?_⟩
    rw [hget]
    split
    ·rfl
    ·exact f
   refine⟨by rw [hws,List.length_set],λt ht=>by rw [hws,hget,if_neg (by omega)],λu k h9=>by rw [hws];exact hS u k h9,λu a b k d j hd e1 e2 hset=>?_,?_⟩
   ·rw [hws] at hset
    obtain⟨a1,b1,c1',d1,f1⟩:=kK.1 hset
    rw [hget] at f1
    split at f1
    ·rename_i hAe
     obtain⟨rfl,rfl⟩:=OW a1 c1' d1 h1 k1 k2 (hAe.trans hA)
     exact Nat.le_trans (k3 d j hd e1 e2) hv
    ·exact h.up u a b k d j hd e1 e2 (kK.2 ⟨a1,b1,c1',d1,f1⟩)
   ·refine i1.put i2 hu i3 (λk h9=>by rw [hws];exact hS v k h9) ?_
    rw [hws]
    exact kK.2 ⟨h1,h2,k1,k2,by rw [hget,if_pos hA.symm]⟩
  ·have hu':x.up=false:=by simpa using hu
   have hlf:=hgl hu'
   have hk1:=i2.way.k1
   have hk2:=i2.way.klt hlf
   obtain⟨c1,c2⟩:=BJ (n:=n) h1 h2 hk1 hk2
   have hr:=NV (m:=wd.mem) (a:=aG n m v+x.y.k - 1) (by rw [hlen];exact c2)
   have hws:(dI wd (aG n m v+x.y.k - 1)).mem.ws=wd.mem.ws:=hr.1
   have hgot:gD wd (aG n m v+x.y.k - 1)=1↔ghS n m wd.mem.ws v x.y.k=true:=by
    have e1:gD wd (aG n m v+x.y.k - 1)=wd.mem.ws.getD (aG n m v+x.y.k - 1) 0:=hr.2.1
    rw [e1,kK]
    exact⟨λh9=>⟨h1,h2,hk1,hk2,h9⟩,λh9=>h9.2.2.2.2⟩
   obtain⟨WO,XH⟩:=i1.look (wd:=wd) i2 hu'
   by_cases hb:gD wd (aG n m v+x.y.k - 1)=1
   ·have e:dD (aG n m v) wd x=(dI wd (aG n m v+x.y.k - 1),({ x with y:=x.y.look wd }:WrD).fin):=(if_neg hu).trans (if_pos hb)
    rw [e]
    simp only [hws]
    exact⟨trivial,λ_ _=>trivial,λ_ _ h=>h,h.up,WO (hgot.1 hb)⟩
   ·have e:dD (aG n m v) wd x=(dI wd (aG n m v+x.y.k - 1),({ x with y:=(x.y.look wd).turn false }:WrD).down):=(if_neg hu).trans (if_neg hb)
    rw [e]
    simp only [hws]
    exact⟨trivial,λ_ _=>trivial,λ_ _ h=>h,h.up,XH (by cases h9:ghS n m wd.mem.ws v x.y.k with|false=>rfl|true=>exact absurd (hgot.2 h9) hb)⟩
 obtain⟨q1,q2,q3,q4,q5⟩:=key
 obtain⟨ky,hs1,hs2⟩:=FY (aG n m v) p wd x
 rw [kI,hs1,hs2]
 have ha:ghA n (dD (aG n m v) wd x).1.mem.ws=ghA n wd.mem.ws:=by
  funext t
  unfold ghA
  split
  ·rename_i ht;exact q2 t ht
  ·rfl
 have hG:dU n m (dD (aG n m v) wd x).1.mem.ws w M rk={ dU n m wd.mem.ws w M rk with s:=ghS n m (dD (aG n m v) wd x).1.mem.ws }:=by
  unfold dU
  rw [ha]
 refine⟨q1,q2,⟨λt=>by rw [hG];exact Nat.le_refl _,λu k h9=>q3 u k h9⟩,?_,hwv,λhd=>?_,λhd=>?_⟩
 ·rw [hG];exact h.sw _ q3 q4
 ·exact⟨⟨q5.tk,q5.ky,q5.dn,q5.up⟩,⟨hok.way,hok.nx,hok.up,hok.v⟩,FC hd hgl,hlast⟩
 ·unfold WrD.done at hd
  rw [Bool.and_eq_true,decide_eq_true_eq] at hd
  obtain⟨g1,_⟩:=q5.up hd.1
  rw [hd.2,hwv] at g1
  have e:ndK x.v m 0=1:=by
   unfold ndK
   rw [Nat.sub_zero,Nat.div_eq_of_lt i2.v]
  rw [e] at g1
  exact g1
end
section
open Go.RowKit
variable {S:Sys} {R:Real S}
def OP (R:Real S) (o:S.ω) (wd:WD) (p:Nat) (s:S.σ):Prop:=
 (S.late o wd p s=none/\∀ w Mut B T x,R.MRep w Mut B T x p s->∀(v:Value) (u:World),(Instr.typeAssert (.iface T v) 123 158 true).run Try.prog u=.ok (.tuple #[.nilIface,.bool false]) u)∨
 (∃ l,S.late o wd p s=some l/\∀ w Mut B I N T x,aM w Mut I N wd->R.MRep w Mut B T x p s->(∀(v:Value) (u:World),(Instr.typeAssert (.iface T v) 123 158 true).run Try.prog u=.ok (.tuple #[.iface T v,.bool true]) u)/\
  ∃ K recv, lL T x "Late" K recv ∧ Calls Try.prog K #[recv, .pointer (some ⟨I.bW, 0, none⟩)] w (fun e w' => (∃ va vn vc, e = .returned (.slice va vn vc) ∧ Lst w' Mut (.slice va vn vc) l) ∧ Below w.heap.size w w'))
theorem pI.at (nl:pI R) (o:S.ω) (wd:WD) (p:Nat) (s:S.σ):OP R o wd p s:=.inl ⟨nl.late _ _ _ _,λw Mut B T x h=>nl.kind w Mut B T x p s h⟩
end
section
open Go.RowKit
variable {S:Sys} {R:Real S}
variable {bW bl:Nat} {ov cv:Value} {turn:Int} {hs:List (Value×Nat)} {ev:Value} {idle:Nat}
variable {calls:List aF} {w w':World} {J:jD} {ov cv:Value} {B0:Nat} {G:PG} {wd:WD} {o:S.ω} {fin:List Bool} {hands:List (Option (Mh S.σ)×Nat)} {evs:List EvD} {idle:Nat}
end
section
open Go.RowKit
variable {S:Sys} {R:Real S}
end
section
open Go.RowKit
end
section
open Go.RowKit
theorem sI (m:Nat) (hm:m<=12) (w:World):Calls Try.prog 44 #[.int .i64 (m:Int)] w λe w'=>e=.returned (.int .i64 ((2^m - 1:Nat):Int))/\w=w':=by
 have h1:=Nat.two_pow_pos m
 have hp:2^m<=4096:=Nat.pow_le_pow_right (n:=2) (by decide) hm
 have e0:((2^m - 1:Nat):Int)=(2:Int)^m - 1:=by
  rw [Int.ofNat_sub h1];simp
 have e1:((2^m:Nat):Int)=(2:Int)^m:=by simp
 have w1:IntKind.i64.wrap ((2:Int)^m)=(2:Int)^m:=by rw [<-e1,IntKind.wrap_i64];omega
 have w2:IntKind.i64.wrap ((2:Int)^m - 1)=(2:Int)^m - 1:=by rw [<-e1,IntKind.wrap_i64];omega
 have hmi:(m:Int)<=12:=by omega
 rw [e0]
 clear e0 e1 h1 hp
 go_enter Try.func44,Try.ntmps44
 go_wp2
 go_ret
 exact⟨rfl,rfl⟩
theorem sV (size:Nat) (v:Int) (hv:v=(size:Int)) (h64:size<=1000000) (u:World):(Instr.makeSlice 28 (.int .i64 v) (.int .i64 v)).run Try.prog u=.ok (.slice (some ⟨u.heap.size,0,none⟩) size size) (u.alloc (.cells (madeCells #[.int .u64 0] size) 40)):=by
 subst hv
 obtain⟨i0,hi,hz0,hz1,hz2⟩:=info_parts DU
 have h:=run_make (P:=Try.prog) u 28 40 i0 (.int .u64 0) Try.underlying28 hi hz0 .i64 .i64 (size:Int) (size:Int) (by omega) (Int.le_refl _) (by rw [hz2];omega) (by omega)
 simpa [hz1,Value.cells] using h
theorem EF {u:World} {b size:Nat} (h:u.heap[b]?=some (.cells (madeCells #[.int .u64 0] size) 40 (0,0))) (h64:size<=1000000):bQ u (some ⟨b,0,none⟩) (List.replicate size 0).length 1 (pR (List.replicate size 0)):=by
 refine⟨by rw [List.length_replicate];unfold maxLen;omega,λj hj=>⟨b,0,rfl,aC h,λf hf=>?_⟩⟩
 obtain rfl:f=0:=by omega
 rw [List.length_replicate] at hj
 rw [aA h,mK]
 simp [pR,lG,List.getD_eq_getElem?_getD,List.getElem?_replicate,hj]
end
section
open Go.RowKit
def ctL (n m L:Nat) (ov:Value):Array Value:=#[.int .i64 0,.int .i64 (n:Int),.int .i64 (m:Int),.int .i64 (L:Int),ov]
theorem JQ (b m:Int) (w:World):Calls Try.prog 126 #[.int .i64 b,.int .i64 m] w λe w'=>e=.returned (.agg #[.int .i64 b,.int .i64 m])/\Below w.heap.size w w':=by
 go_enter Try.func126,Try.ntmps126
 go_wp2
 exact bodyPost_ret (v:=.agg #[.int .i64 b,.int .i64 m]) (by simp [results,Try.results126 ,go_sem]) rfl ⟨rfl,Gr.new _ _⟩
theorem oU {n m v:Nat} (hn:n<=16) (hm:m<=8) (hv:v<=32):aG n m v<=9000/\aG n m v+2^m<=1000000:=by
 have hp:2^m<=256:=Nat.pow_le_pow_right (n:=2) (by decide) hm
 have h1:(v - 1)*(2^m - 1)<=32*255:=Nat.mul_le_mul (by omega) (by omega)
 unfold aG
 omega
set_option maxHeartbeats 2000000 in
theorem BV (bP n m L v:Nat) (ov:Value) (hn:n<=16) (hm:m<=8) (hv1:1<=v) (hv:v<=32) (w:World) (hP:w.heap[bP]?=some (.cells (ctL n m L ov) 80 (0,0))) :
  Calls Try.prog 125 #[.pointer (some ⟨bP,0,none⟩),.int .i64 (v:Int)] w λe w'=>e=.returned (.agg #[.int .i64 ((aG n m v:Nat):Int),.int .i64 (m:Int)])/\Below w.heap.size w w':=by
 have hlt:=aC hP
 have SZ:=Lib.hid (λu=>sI m (by omega) u)
 have hp:2^m<=256:=Nat.pow_le_pow_right (n:=2) (by decide) hm
 have hb:=oU (v:=v) hn hm hv
 obtain⟨S,hS⟩:∃ S,S=2^m - 1:=⟨_,rfl⟩
 rw [<-hS] at SZ
 obtain⟨q,hq⟩:∃ q:Nat,q=(v - 1)*S:=⟨_,rfl⟩
 have hb':aG n m v=n+q:=by unfold aG;rw [<-hS,hq]
 have hq1:q<=9000:=by omega
 have eq:((v:Int) - 1)*(S:Int)=(q:Int):=by
  rw [hq]
  have:((v - 1:Nat):Int)=(v:Int) - 1:=by omega
  rw [<-this];simp
 rw [hb']
 have d0:w.cell? ⟨bP,0,none⟩=some (.int .i64 0):=by rw [aA hP];rfl
 have d1:w.cell? ⟨bP,1,none⟩=some (.int .i64 (n:Int)):=by rw [aA hP];rfl
 have d2:w.cell? ⟨bP,2,none⟩=some (.int .i64 (m:Int)):=by rw [aA hP];rfl
 obtain⟨wa,hwa⟩:∃ wa,wa=w.alloc (.cells #[.int .i64 0,.int .i64 0] 209):=⟨_,rfl⟩
 have hga:Below w.heap.size w wa:=by rw [hwa];exact Gr.new _ _
 have c0:wa.cell? ⟨bP,0,none⟩=some (.int .i64 0):=(hga.cell (p:=⟨bP,0,none⟩) hlt).trans d0
 have c1:wa.cell? ⟨bP,1,none⟩=some (.int .i64 (n:Int)):=(hga.cell (p:=⟨bP,1,none⟩) hlt).trans d1
 have c2:wa.cell? ⟨bP,2,none⟩=some (.int .i64 (m:Int)):=(hga.cell (p:=⟨bP,2,none⟩) hlt).trans d2
 have hra:wa.heap[w.heap.size]?=some (.cells #[.int .i64 0,.int .i64 0] 209 (0,0)):=by rw [hwa];exact heap_alloc_new _ _
 have w1:IntKind.i64.wrap (0+(n:Int))=(n:Int):=by rw [IntKind.wrap_i64];omega
 have w5:IntKind.i64.wrap (n:Int)=(n:Int):=by rw [IntKind.wrap_i64];omega
 have w2:IntKind.i64.wrap ((v:Int) - 1)=(v:Int) - 1:=by rw [IntKind.wrap_i64];omega
 have w3:IntKind.i64.wrap (((v:Int) - 1)*(S:Int))=(q:Int):=by rw [eq,IntKind.wrap_i64];omega
 have w4:IntKind.i64.wrap ((n:Int)+(q:Int))=(n:Int)+(q:Int):=by rw [IntKind.wrap_i64];omega
 have Hwa:=Lib.hid hwa;have Hga:=Lib.hid hga;have Hra:=Lib.hid hra;have Hlt:=Lib.hid hlt
 have NW:=Lib.hid (λ(u:World)=>JQ ((n:Int)+(q:Int)) (m:Int) u)
 have ne:bP≠w.heap.size:=by omega
 clear hP hp hb hS hq hb' hq1 eq hn hm hv1 hv hwa hga hra d0 d1 d2 hlt
 go_enter Try.func125,Try.ntmps125
 go_upto_region 1 with fail
 rw [<-Hwa.out]
 go_region_held3 (λu=>u.cell? ⟨bP,0,none⟩=some (.int .i64 0)/\u.cell? ⟨bP,1,none⟩=some (.int .i64 (n:Int))/\u.cell? ⟨bP,2,none⟩=some (.int .i64 (m:Int)))
  (first|exact⟨c0,c1,c2⟩|exact⟨z0,z1,z2⟩|exact⟨aY (((Chg.refl (λk=>k=w.heap.size) w4).setCell (p:=⟨w.heap.size,0,none⟩) (.inl rfl) _).setCell (p:=⟨w.heap.size,1,none⟩) (.inl rfl) _) ne z0,aY (((Chg.refl (λk=>k=w.heap.size) w4).setCell (p:=⟨w.heap.size,0,none⟩) (.inl rfl) _).setCell (p:=⟨w.heap.size,1,none⟩) (.inl rfl) _) ne z1,aY (((Chg.refl (λk=>k=w.heap.size) w4).setCell (p:=⟨w.heap.size,0,none⟩) (.inl rfl) _).setCell (p:=⟨w.heap.size,1,none⟩) (.inl rfl) _) ne z2⟩)
  (first|(go_at_call 44;refine(SZ.out _).mono ?_;rintro e w3 ⟨rfl,rfl⟩)|(go_at_call 126;refine(NW.out _).mono ?_;rintro e w4 ⟨rfl,hb4⟩;have z0:=(hb4.cell (p:=⟨bP,0,none⟩) (World.block_lt_of_cell? _ _ c0)).trans c0;have z1:=(hb4.cell (p:=⟨bP,1,none⟩) (World.block_lt_of_cell? _ _ c1)).trans c1;have z2:=(hb4.cell (p:=⟨bP,2,none⟩) (World.block_lt_of_cell? _ _ c2)).trans c2;have hr4:=(hb4.block _ (aC Hra.out)).trans Hra.out;have f0:=aB hr4 0;have f1:=aB hr4 1;have hl4:=aC hr4;have r0:w4.cell? ⟨w.heap.size,0,none⟩=some (.int .i64 0):=(by rw [aA hr4];rfl);have r1:w4.cell? ⟨w.heap.size,1,none⟩=some (.int .i64 0):=(by rw [aA hr4];rfl)))
 obtain⟨w5,vM⟩:∃ w5,w5=(w4.setCell ⟨w.heap.size,0,none⟩ (.int .i64 ((n:Int)+(q:Int)))).setCell ⟨w.heap.size,1,none⟩ (.int .i64 (m:Int)):=⟨_,rfl⟩
 have PL:w5.heap[w.heap.size]?=some (.cells #[.int .i64 ((n:Int)+(q:Int)),.int .i64 (m:Int)] 209 (0,0)):=by rw [vM,aH (aH hr4 _ _) _ _];rfl
 have mD:Chg (λk=>k=w.heap.size) w4 w5:=by rw [vM];exact((Chg.refl (λk=>k=w.heap.size) w4).setCell (p:=⟨w.heap.size,0,none⟩) (.inl rfl) _).setCell (p:=⟨w.heap.size,1,none⟩) (.inl rfl) _
 rw [<-vM]
 have k0:w5.cell? ⟨w.heap.size,0,none⟩=some (.int .i64 ((n:Int)+(q:Int))):=by rw [aA PL];rfl
 have k1:w5.cell? ⟨w.heap.size,1,none⟩=some (.int .i64 (m:Int)):=by rw [aA PL];rfl
 have g4:Below w.heap.size w w4:=Gr.trans Hga.out (Gr.trans (Gr.refl wa).drew hb4)
 have F:=Lib.hid (show Below w.heap.size w w5 from g4.trans (mD.below (λk h=>by have h:k=w.heap.size:=h;omega) g4.size))
 clear vM PL mD z0 z1 z2 hr4 f0 f1 r0 r1 g4
 go_wp2
 exact bodyPost_ret (v:=.agg #[.int .i64 ((n:Int)+(q:Int)),.int .i64 (m:Int)]) (by simp [results,Try.results125 ,go_sem,k0,k1]) rfl ⟨rfl,F.out⟩
end
end Go.Proofs.Ytifhldnmcdbpfaa
