/- Layer 11: the steps of one that looks at a node, and of one that writes at a node, in plain numbers. -/
import Derived.Test.YtifhldnmcdbpfaaW29
import Derived.Test.YtifhldnmcdbpfaaW13
import Derived.Test.YtifhldnmcdbpfaaW14
import Derived.Test.YtifhldnmcdbpfaaW17
import Derived.Test.YtifhldnmcdbpfaaW20
import Derived.Test.YtifhldnmcdbpfaaW19
import Derived.Test.YtifhldnmcdbpfaaW27
set_option maxRecDepth 100000
set_option linter.unusedVariables false
set_option linter.unusedSimpArgs false
set_option linter.unnecessarySimpa false
namespace Go.Proofs.Ytifhldnmcdbpfaa
section
open Go.RowKit
def ghA (n:Nat) (ws:List Nat) (t:Nat):Nat:=if t<n then ws.getD t 0 else 0
def ghS (n m:Nat) (ws:List Nat) (v k:Nat):Bool:=decide (1<=v/\v<aJ n/\1<=k/\k<2^m/\ws.getD (aG n m v+k - 1) 0=1)
def dS (n m:Nat) (ws:List Nat) (w M rk:Nat->Nat):Gh:=⟨ghA n ws,w,M,rk,ghS n m ws⟩
theorem kC {n m:Nat} {ws:List Nat} {v k:Nat}:ghS n m ws v k=true↔(1<=v/\v<aJ n/\1<=k/\k<2^m/\ws.getD (aG n m v+k - 1) 0=1):=decide_eq_true_iff
theorem CE {n m v k:Nat} (h1:1<=v) (h2:v<aJ n) (h3:1<=k) (h4:k<2^m):n<=aG n m v+k - 1/\aG n m v+k - 1<n+(aJ n - 1)*(2^m - 1):=by
 have h5:(v - 1)*(2^m - 1)+(2^m - 1)<=(aJ n - 1)*(2^m - 1):=by
  have h6:=Nat.mul_le_mul_right (2^m - 1) (show v - 1+1<=aJ n - 1 by omega)
  rw [Nat.add_mul,Nat.one_mul] at h6;exact h6
 unfold aG
 omega
theorem OE {n m v k v' k':Nat} (h1:1<=v) (h3:1<=k) (h4:k<2^m) (h1':1<=v') (h3':1<=k') (h4':k'<2^m) (h:aG n m v+k - 1=aG n m v'+k' - 1):v=v'/\k=k':=by
 unfold aG at h
 rcases Nat.lt_trichotomy v v' with h9|h9|h9
 ·have h6:=Nat.mul_le_mul_right (2^m - 1) (show v - 1+1<=v' - 1 by omega)
  rw [Nat.add_mul,Nat.one_mul] at h6
  omega
 ·subst h9;exact⟨rfl,by omega⟩
 ·have h6:=Nat.mul_le_mul_right (2^m - 1) (show v' - 1+1<=v - 1 by omega)
  rw [Nat.add_mul,Nat.one_mul] at h6
  omega
structure Gh.Le (g g':Gh):Prop where
 a:∀ t,g.a t<=g'.a t
 s:∀ v k,g.s v k=true->g'.s v k=true
theorem Gh.Le.refl (g:Gh):g.Le g:=⟨λ_=>Nat.le_refl _,λ_ _ h=>h⟩
theorem Gh.Le.S {g g':Gh} (h:g.Le g') (n L u:Nat):g.S n L u<=g'.S n L u:=zN λt _ _=>h.a t
def qK (n m:Nat) (g:Gh) (lo:Nat) (l:LkD):Prop:=
 (l.kind=0/\1<=l.v/\l.v<aJ n/\rT (g.s l.v) m lo (g.S n (aJ n) l.v) l.x/\nZ m l.x/\0<l.x.y.left)∨
 (l.kind=1/\aJ n<=l.v/\l.v - aJ n<n/\lo<=g.a (l.v - aJ n))∨(l.kind=2/\lo=0/\l.val=0)
theorem qK.mono {n m lo:Nat} {g g':Gh} {l:LkD} (h:qK n m g lo l) (hg:g.Le g'):qK n m g' lo l:=by
 rcases h with⟨a,b,c,d,e⟩|⟨a,b,c,d⟩|h
 ·exact .inl ⟨a,b,c,d.mono (hg.s _) (hg.S ..),e⟩
 ·exact .inr (.inl ⟨a,b,c,Nat.le_trans d (hg.a _)⟩)
 ·exact .inr (.inr h)
theorem sG {n m:Nat} (hm:0<m) {g:Gh} (hn:n<=16) (h:GInv n m g) {v lo:Nat} (h1:1<=v) (hlo:lo<=g.cur n (aJ n) v):qK n m g lo (dR n m v):=by
 unfold Gh.cur at hlo
 by_cases hv:v<aJ n
 ·rw [if_pos hv] at hlo
  have hM:=h.top v h1 hv
  have hS:=h.lt hn v
  refine .inl ⟨if_pos hv,h1,hv,rT.init (by omega) ((h.ge v h1 hv).le hlo (by omega)),nZ.init m,hm⟩
 ·rw [if_neg hv] at hlo
  by_cases hq:v - aJ n<n
  ·rw [if_pos hq] at hlo
   exact .inr (.inl ⟨(if_neg hv).trans (if_pos hq),by show aJ n<=v;omega,hq,hlo⟩)
  ·rw [if_neg hq] at hlo
   exact .inr (.inr ⟨(if_neg hv).trans (if_neg hq),by omega,rfl⟩)
theorem zO (b p:Nat) (wd:WD) (x:RdD):∃ ky,(rdStep b p wd x).2.1=⟨(x.y.look wd).turn (eF wd b x.y),2*x.val+(eF wd b x.y).toNat,ky⟩/\((rdStep b p wd x).2.2=true↔¬ 0<((x.y.look wd).turn (eF wd b x.y)).left):=by
 unfold rdStep
 split
 ·rename_i h;exact⟨_,rfl,by simp [h]⟩
 ·rename_i h;exact⟨_,rfl,by simp [h]⟩
def QD (n m:Nat) (g:Gh) (lo:Nat) (l:LkD):Prop:=
 lo<=l.val/\l.val<=g.S n (aJ n) l.v/\(1<=l.v->l.v<aJ n->GE (g.s l.v) m 1 l.val)
theorem xK {n m p lo:Nat} {wd:WD} {w M rk:Nat->Nat} {l:LkD} (hn:n<=16) (hlen:wd.mem.ws.length=n+(aJ n - 1)*(2^m - 1)) (h:GInv n m (dS n m wd.mem.ws w M rk)) (hl:qK n m (dS n m wd.mem.ws w M rk) lo l) (hk:l.kind≠2) :
  (aI n m p wd l).1.mem.ws=wd.mem.ws/\(aI n m p wd l).2.1.v=l.v/\((aI n m p wd l).2.2=false->qK n m (dS n m wd.mem.ws w M rk) lo (aI n m p wd l).2.1/\(aI n m p wd l).2.1.kind=l.kind)/\((aI n m p wd l).2.2=true->QD n m (dS n m wd.mem.ws w M rk) lo (aI n m p wd l).2.1):=by
 obtain⟨g,hg⟩:∃ g,g=dS n m wd.mem.ws w M rk:=⟨_,rfl⟩
 rw [<-hg] at h hl ⊢
 rcases hl with⟨a,b,c,d,e,f⟩|⟨a,b,c,d⟩|⟨a,_⟩
 ·have ha:l.kind≠1:=by omega
  have hk1:=e.way.k1
  have hk2:=e.way.klt f
  obtain⟨c1,c2⟩:=CE (n:=n) b c hk1 hk2
  have hr:=PI (m:=wd.mem) (a:=aG n m l.v+l.x.y.k - 1) (by rw [hlen];exact c2)
  have hturn:eF wd (aG n m l.v) l.x.y=g.s l.v l.x.y.k:=by
   have e1:gF wd (aG n m l.v+l.x.y.k - 1)=wd.mem.ws.getD (aG n m l.v+l.x.y.k - 1) 0:=hr.2.1
   unfold eF
   rw [e1,hg]
   show _=ghS n m wd.mem.ws l.v l.x.y.k
   unfold ghS
   exact decide_eq_decide.2 ⟨λh9=>⟨b,c,hk1,hk2,h9⟩,λh9=>h9.2.2.2.2⟩
  obtain⟨ky,hs,hdn⟩:=zO (aG n m l.v) p wd l.x
  have PZ:∀ r,(rdStep (aG n m l.v) p wd l.x).2.2=r->aI n m p wd l=if r=true then ((rdStep (aG n m l.v) p wd l.x).1,{ l with x:=(rdStep (aG n m l.v) p wd l.x).2.1,val:=(rdStep (aG n m l.v) p wd l.x).2.1.val },true) else ((rdStep (aG n m l.v) p wd l.x).1,{ l with x:=(rdStep (aG n m l.v) p wd l.x).2.1 },false):=λr hr=>by
   unfold aI
   rw [if_neg ha,hr]
  have hws:(rdStep (aG n m l.v) p wd l.x).1.mem.ws=wd.mem.ws:=by rw [gI];exact hr.1
  rw [hturn] at hs hdn
  have hin:rT (g.s l.v) m lo (g.S n (aJ n) l.v) (rdStep (aG n m l.v) p wd l.x).2.1:=by
   rw [hs]
   exact d.turn e f (h.up l.v b c) _ _ rfl rfl
  have hok:nZ m (rdStep (aG n m l.v) p wd l.x).2.1:=e.step _ _ _ f
  have hlf:(rdStep (aG n m l.v) p wd l.x).2.1.y.left=((l.x.y.look wd).turn (g.s l.v l.x.y.k)).left:=by rw [hs]
  cases hr2:(rdStep (aG n m l.v) p wd l.x).2.2 with
  | true=>
   rw [PZ _ hr2,if_pos rfl]
   refine⟨hws,rfl,(λh=>by cases h),λ_=>?_⟩
   have h0:(rdStep (aG n m l.v) p wd l.x).2.1.y.left=0:=by
    have:=hdn.1 hr2;omega
   have hge:=hin.ge;have hup:=hin.up;have hpa:=hin.path
   rw [h0] at hge hup hpa
   refine⟨?_,?_,λ_ _=>hpa _ (λ_ h=>h) _ (by rw [Nat.pow_zero,Nat.div_one]) trivial⟩
   ·show lo<=(rdStep (aG n m l.v) p wd l.x).2.1.val
    rw [Nat.pow_zero,Nat.div_one] at hge
    rcases hge with h9|⟨h9,_⟩<;>omega
   ·show(rdStep (aG n m l.v) p wd l.x).2.1.val<=_
    rw [Nat.pow_zero,Nat.mul_one] at hup;exact hup
  | false=>
   rw [PZ _ hr2,if_neg Bool.false_ne_true]
   refine⟨hws,rfl,λ_=>⟨.inl ⟨a,b,c,hin,hok,?_⟩,rfl⟩,λh=>by cases h⟩
   show 0<(rdStep (aG n m l.v) p wd l.x).2.1.y.left
   rw [hlf]
   rcases Nat.eq_zero_or_pos ((l.x.y.look wd).turn (g.s l.v l.x.y.k)).left with h9|h9
   ·have:=hdn.2 (by omega)
    rw [hr2] at this;cases this
   ·exact h9
 ·have hq:l.v - aJ n<wd.mem.ws.length:=by rw [hlen];omega
  have hr:=PI hq
  have e1:gF wd (l.v - aJ n)=wd.mem.ws.getD (l.v - aJ n) 0:=hr.2.1
  have e2:g.a (l.v - aJ n)=wd.mem.ws.getD (l.v - aJ n) 0:=by rw [hg];exact if_pos c
  have hst:aI n m p wd l=(dJ wd (l.v - aJ n),{ l with val:=gF wd (l.v - aJ n) },true):=if_pos a
  rw [hst]
  refine⟨hr.1,rfl,(λh=>by cases h),λ_=>⟨by show lo<=gF _ _;rw [e1,<-e2];exact d,?_,λ_ h9=>absurd h9 (by show ¬ l.v<_;omega)⟩⟩
  show gF _ _<=g.S n (aJ n) l.v
  have hS:=(h.leaf hn c).2
  rw [show aJ n+(l.v - aJ n)=l.v by omega] at hS
  rw [hS,e1,<-e2];exact Nat.le_refl _
 ·exact absurd a hk
def xV (m now:Nat) (s:Nat->Bool) (x:WrD):Prop:=iH s m x/\fZ m x/\(if x.up=true then 1<=x.nx else 0<x.y.left)/\x.y.last<=now
theorem xV.mono {m now now':Nat} {s s':Nat->Bool} {x:WrD} (h:xV m now s x) (hs:∀ k,s k=true->s' k=true) (hn:now<=now'):xV m now' s' x:=⟨h.1.mono hs,h.2.1,h.2.2.1,Nat.le_trans h.2.2.2 hn⟩
theorem JS {m now v:Nat} (hm:0<m) (hv:v<2^m) (s:Nat->Bool):xV m now s (dB m v):=
 ⟨iH.init hv,fZ.init hv,zV hm,by
  have e1:(dB m v).y.last=0:=(WrD.down_last _).trans rfl
  rw [e1];exact Nat.zero_le _⟩
theorem OV (b:Nat) (wd:WD) (x:WrD):(dE b wd x).2.v=x.v:=by
 have hd:∀ x:WrD,x.down.v=x.v:=λx=>by unfold WrD.down;split<;>rfl
 unfold dE
 split
 ·rfl
 ·split
  ·rfl
  ·exact hd _
theorem JE (b p:Nat) (wd:WD) (x:WrD):∃ ky,(aO b p wd x).2.1={ (dE b wd x).2 with ky:=ky }/\(aO b p wd x).2.2=(dE b wd x).2.done:=by
 unfold aO
 split
 ·rename_i h;exact⟨_,rfl,h.symm⟩
 ·rename_i h;exact⟨_,rfl,by simpa using h⟩
theorem xV.ky {m now:Nat} {s:Nat->Bool} {x:WrD} (ky:List Int) (h:iH s m x):iH s m { x with ky:=ky }:=⟨h.tk,h.ky,h.dn,h.up⟩
theorem RG {n m p:Nat} {v:Nat} {wd:WD} {w M rk:Nat->Nat} {x:WrD} (h1:1<=v) (h2:v<aJ n) (hlen:wd.mem.ws.length=n+(aJ n - 1)*(2^m - 1)) (h:GInv n m (dS n m wd.mem.ws w M rk)) (hx:xV m wd.now (ghS n m wd.mem.ws v) x) (hv:x.v<=(dS n m wd.mem.ws w M rk).S n (aJ n) v) :
  (aO (aG n m v) p wd x).1.mem.ws.length=wd.mem.ws.length/\(∀ t,t<n->(aO (aG n m v) p wd x).1.mem.ws.getD t 0=wd.mem.ws.getD t 0)/\
  (dS n m wd.mem.ws w M rk).Le (dS n m (aO (aG n m v) p wd x).1.mem.ws w M rk)/\GInv n m (dS n m (aO (aG n m v) p wd x).1.mem.ws w M rk)/\(aO (aG n m v) p wd x).2.1.v=x.v/\
  ((aO (aG n m v) p wd x).2.2=false->xV m wd.now (ghS n m (aO (aG n m v) p wd x).1.mem.ws v) (aO (aG n m v) p wd x).2.1)/\
  ((aO (aG n m v) p wd x).2.2=true->GE (ghS n m (aO (aG n m v) p wd x).1.mem.ws v) m 1 x.v):=by
 obtain⟨i1,i2,i3,i4⟩:=hx
 have hgl:x.up=false->0<x.y.left:=λhu=>by rw [hu,if_neg Bool.false_ne_true] at i3;exact i3
 have hok:=i2.go (aG n m v) wd hgl
 have hlast:=FB (b:=aG n m v) (x:=x) i4
 have hwv:=OV (aG n m v) wd x
 have key:(dE (aG n m v) wd x).1.mem.ws.length=wd.mem.ws.length/\(∀ t,t<n->(dE (aG n m v) wd x).1.mem.ws.getD t 0=wd.mem.ws.getD t 0)/\(∀ u k,ghS n m wd.mem.ws u k=true->ghS n m (dE (aG n m v) wd x).1.mem.ws u k=true)/\(∀ u,1<=u->u<aJ n->tT (ghS n m (dE (aG n m v) wd x).1.mem.ws u) m ((dS n m wd.mem.ws w M rk).S n (aJ n) u))/\iH (ghS n m (dE (aG n m v) wd x).1.mem.ws v) m (dE (aG n m v) wd x).2:=by
  by_cases hu:x.up=true
  ·rw [if_pos hu] at i3
   obtain⟨k1,k2,k3⟩:=i1.bound i2 hu i3
   obtain⟨c1,c2⟩:=CE (n:=n) h1 h2 k1 k2
   have e:dE (aG n m v) wd x=(qG (aG n m v) (wrK x) wd,{ x with nx:=bN x.y.turns (x.nx - 1) }):=if_pos hu
   rw [e]
   obtain⟨A,hA⟩:∃ A,A=aG n m v+wrK x - 1:=⟨_,rfl⟩
   have hAl:A<wd.mem.ws.length:=by rw [hlen,hA];exact c2
   have hws:(qG (aG n m v) (wrK x) wd).mem.ws=wd.mem.ws.set A 1:=by
    rw [hA];exact(QU 1 (by rw [<-hA];exact hAl)).1
   have hget:∀ i,(wd.mem.ws.set A 1).getD i 0=if i=A then 1 else wd.mem.ws.getD i 0:=λi=>by
    by_cases e9:i=A
    ·rw [if_pos e9,e9,aL hAl]
    ·rw [if_neg e9,aR (Ne.symm e9)]
   have hS:∀ u k,ghS n m wd.mem.ws u k=true->ghS n m (wd.mem.ws.set A 1) u k=true:=λu k h9=>by
    obtain⟨a,b,c,d,f⟩:=kC.1 h9
    refine kC.2 ⟨a,b,c,d,?_⟩
    rw [hget]
    split
    ·rfl
    ·exact f
   refine⟨by rw [hws,List.length_set],λt ht=>by rw [hws,hget,if_neg (by omega)],λu k h9=>by rw [hws];exact hS u k h9,λu a b k d j hd e1 e2 hset=>?_,?_⟩
   ·rw [hws] at hset
    obtain⟨a1,b1,c1',d1,f1⟩:=kC.1 hset
    rw [hget] at f1
    split at f1
    ·rename_i hAe
     obtain⟨rfl,rfl⟩:=OE a1 c1' d1 h1 k1 k2 (hAe.trans hA)
     exact Nat.le_trans (k3 d j hd e1 e2) hv
    ·exact h.up u a b k d j hd e1 e2 (kC.2 ⟨a1,b1,c1',d1,f1⟩)
   ·refine i1.put i2 hu i3 (λk h9=>by rw [hws];exact hS v k h9) ?_
    rw [hws]
    exact kC.2 ⟨h1,h2,k1,k2,by rw [hget,if_pos hA.symm]⟩
  ·have hu':x.up=false:=by simpa using hu
   have hlf:=hgl hu'
   have hk1:=i2.way.k1
   have hk2:=i2.way.klt hlf
   obtain⟨c1,c2⟩:=CE (n:=n) h1 h2 hk1 hk2
   have hr:=PI (m:=wd.mem) (a:=aG n m v+x.y.k - 1) (by rw [hlen];exact c2)
   have hws:(dJ wd (aG n m v+x.y.k - 1)).mem.ws=wd.mem.ws:=hr.1
   have hgot:gF wd (aG n m v+x.y.k - 1)=1↔ghS n m wd.mem.ws v x.y.k=true:=by
    have e1:gF wd (aG n m v+x.y.k - 1)=wd.mem.ws.getD (aG n m v+x.y.k - 1) 0:=hr.2.1
    rw [e1,kC]
    exact⟨λh9=>⟨h1,h2,hk1,hk2,h9⟩,λh9=>h9.2.2.2.2⟩
   obtain⟨VL,WP⟩:=i1.look (wd:=wd) i2 hu'
   by_cases hb:gF wd (aG n m v+x.y.k - 1)=1
   ·have e:dE (aG n m v) wd x=(dJ wd (aG n m v+x.y.k - 1),({ x with y:=x.y.look wd }:WrD).fin):=(if_neg hu).trans (if_pos hb)
    rw [e]
    simp only [hws]
    exact⟨trivial,λ_ _=>trivial,λ_ _ h=>h,h.up,VL (hgot.1 hb)⟩
   ·have e:dE (aG n m v) wd x=(dJ wd (aG n m v+x.y.k - 1),({ x with y:=(x.y.look wd).turn false }:WrD).down):=(if_neg hu).trans (if_neg hb)
    rw [e]
    simp only [hws]
    exact⟨trivial,λ_ _=>trivial,λ_ _ h=>h,h.up,WP (by cases h9:ghS n m wd.mem.ws v x.y.k with|false=>rfl|true=>exact absurd (hgot.2 h9) hb)⟩
 obtain⟨q1,q2,q3,q4,q5⟩:=key
 obtain⟨ky,hs1,hs2⟩:=JE (aG n m v) p wd x
 rw [kE,hs1,hs2]
 have ha:ghA n (dE (aG n m v) wd x).1.mem.ws=ghA n wd.mem.ws:=by
  funext t
  unfold ghA
  split
  ·rename_i ht;exact q2 t ht
  ·rfl
 have hG:dS n m (dE (aG n m v) wd x).1.mem.ws w M rk={ dS n m wd.mem.ws w M rk with s:=ghS n m (dE (aG n m v) wd x).1.mem.ws }:=by
  unfold dS
  rw [ha]
 refine⟨q1,q2,⟨λt=>by rw [hG];exact Nat.le_refl _,λu k h9=>q3 u k h9⟩,?_,hwv,λhd=>?_,λhd=>?_⟩
 ·rw [hG];exact h.sw _ q3 q4
 ·exact⟨⟨q5.tk,q5.ky,q5.dn,q5.up⟩,⟨hok.way,hok.nx,hok.up,hok.v⟩,DD hd hgl,hlast⟩
 ·unfold WrD.done at hd
  rw [Bool.and_eq_true,decide_eq_true_eq] at hd
  obtain⟨g1,_⟩:=q5.up hd.1
  rw [hd.2,hwv] at g1
  have e:ndK x.v m 0=1:=by
   unfold ndK
   rw [Nat.sub_zero,Nat.div_eq_of_lt i2.v]
  rw [e] at g1
  exact g1
end
section
open Go.RowKit
variable {S:Sys} {R:Real S}
def OH (R:Real S) (o:S.ω) (wd:WD) (p:Nat) (s:S.σ):Prop:=
 (S.late o wd p s=none/\∀ w Mut B T x,R.MRep w Mut B T x p s->∀(v:Value) (u:World),(Instr.typeAssert (.iface T v) 123 158 true).run Try.prog u=.ok (.tuple #[.nilIface,.bool false]) u)∨
 (∃ l,S.late o wd p s=some l/\∀ w Mut B I N T x,aM w Mut I N wd->R.MRep w Mut B T x p s->(∀(v:Value) (u:World),(Instr.typeAssert (.iface T v) 123 158 true).run Try.prog u=.ok (.tuple #[.iface T v,.bool true]) u)/\
  ∃ K recv, lK T x "Late" K recv ∧ Calls Try.prog K #[recv, .pointer (some ⟨I.bW, 0, none⟩)] w (fun e w' => (∃ va vn vc, e = .returned (.slice va vn vc) ∧ Lst w' Mut (.slice va vn vc) l) ∧ Below w.heap.size w w'))
theorem pQ.at (nl:pQ R) (o:S.ω) (wd:WD) (p:Nat) (s:S.σ):OH R o wd p s:=.inl ⟨nl.late _ _ _ _,λw Mut B T x h=>nl.kind w Mut B T x p s h⟩
end
section
open Go.RowKit
variable {S:Sys} {R:Real S}
variable {bW bl:Nat} {ov cv:Value} {turn:Int} {hs:List (Value×Nat)} {ev:Value} {idle:Nat}
variable {calls:List aF} {w w':World} {J:iZ} {ov cv:Value} {B0:Nat} {G:PG} {wd:WD} {o:S.ω} {fin:List Bool} {hands:List (Option (Mh S.σ)×Nat)} {evs:List EvD} {idle:Nat}
end
section
open Go.RowKit
variable {S:Sys} {R:Real S}
end
section
open Go.RowKit
end
section
open Go.RowKit
theorem rG (m:Nat) (hm:m<=12) (w:World):Calls Try.prog 44 #[.int .i64 (m:Int)] w λe w'=>e=.returned (.int .i64 ((2^m - 1:Nat):Int))/\w=w':=by
 have h1:=Nat.two_pow_pos m
 have hp:2^m<=4096:=Nat.pow_le_pow_right (n:=2) (by decide) hm
 have e0:((2^m - 1:Nat):Int)=(2:Int)^m - 1:=by
  rw [Int.ofNat_sub h1];simp
 have e1:((2^m:Nat):Int)=(2:Int)^m:=by simp
 have w1:IntKind.i64.wrap ((2:Int)^m)=(2:Int)^m:=by rw [<-e1,IntKind.wrap_i64];omega
 have w2:IntKind.i64.wrap ((2:Int)^m - 1)=(2:Int)^m - 1:=by rw [<-e1,IntKind.wrap_i64];omega
 have hmi:(m:Int)<=12:=by omega
 rw [e0]
 clear e0 e1 h1 hp
 go_enter Try.func44,Try.ntmps44
 go_wp2
 go_ret
 exact⟨rfl,rfl⟩
theorem sZ (size:Nat) (v:Int) (hv:v=(size:Int)) (h64:size<=1000000) (u:World):(Instr.makeSlice 28 (.int .i64 v) (.int .i64 v)).run Try.prog u=.ok (.slice (some ⟨u.heap.size,0,none⟩) size size) (u.alloc (.cells (madeCells #[.int .u64 0] size) 40)):=by
 subst hv
 obtain⟨i0,hi,hz0,hz1,hz2⟩:=info_parts EG
 have h:=run_make (P:=Try.prog) u 28 40 i0 (.int .u64 0) Try.underlying28 hi hz0 .i64 .i64 (size:Int) (size:Int) (by omega) (Int.le_refl _) (by rw [hz2];omega) (by omega)
 simpa [hz1,Value.cells] using h
theorem DY {u:World} {b size:Nat} (h:u.heap[b]?=some (.cells (madeCells #[.int .u64 0] size) 40 (0,0))) (h64:size<=1000000):bS u (some ⟨b,0,none⟩) (List.replicate size 0).length 1 (oV (List.replicate size 0)):=by
 refine⟨by rw [List.length_replicate];unfold maxLen;omega,λj hj=>⟨b,0,rfl,aC h,λf hf=>?_⟩⟩
 obtain rfl:f=0:=by omega
 rw [List.length_replicate] at hj
 rw [aA h,mI]
 simp [oV,kS,List.getD_eq_getElem?_getD,List.getElem?_replicate,hj]
end
end Go.Proofs.Ytifhldnmcdbpfaa
