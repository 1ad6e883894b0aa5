/- Layer 11: what the nodes of a counter's tree hold, in plain numbers. -/
import Derived.Test.YtifhldnmcdbpfaaW28
set_option maxRecDepth 100000
set_option linter.unusedVariables false
set_option linter.unusedSimpArgs false
set_option linter.unnecessarySimpa false
namespace Go.Proofs.Ytifhldnmcdbpfaa
open Go.RowKit
def fD:Nat->(Nat->Nat)->Nat
 | 0,_=>0
 | n+1,f=>fD n f+f n
theorem fK {f g:Nat->Nat}:∀ {n:Nat},(∀ t,t<n->f t=g t)->fD n f=fD n g
 | 0,_=>rfl
 | n+1,h=>by
  show fD n f+f n=fD n g+g n
  rw [fK (n:=n) (λt ht=>h t (by omega)),h n (by omega)]
theorem nK {f g:Nat->Nat}:∀ {n:Nat},(∀ t,t<n->f t<=g t)->fD n f<=fD n g
 | 0,_=>Nat.le_refl _
 | n+1,h=>by
  show fD n f+f n<=fD n g+g n
  have h1:=nK (n:=n) (λt ht=>h t (by omega))
  have h2:=h n (by omega)
  omega
theorem oF (f g:Nat->Nat):∀ n:Nat,fD n (λt=>f t+g t)=fD n f+fD n g
 | 0=>rfl
 | n+1=>by
  show fD n (λt=>f t+g t)+(f n+g n)=fD n f+f n+(fD n g+g n)
  rw [oF f g n];omega
theorem sP {f g:Nat->Nat} {q:Nat}:∀ {n:Nat},q<n->(∀ t,t<n->t≠q->f t=g t)->f q=g q+1->fD n f=fD n g+1
 | 0,hq,_,_=>absurd hq (Nat.not_lt_zero _)
 | n+1,hq,h,h1=>by
  show fD n f+f n=fD n g+g n+1
  by_cases e:q=n
  ·subst e
   rw [fK (n:=q) (λt ht=>h t (by omega) (by omega)),h1];omega
  ·rw [sP (n:=n) (by omega) (λt ht=>h t (by omega)) h1,h n (by omega) (by omega)];omega
theorem iY {f:Nat->Nat}:∀ {n:Nat},(∀ t,t<n->f t=0)->fD n f=0
 | 0,_=>rfl
 | n+1,h=>by
  show fD n f+f n=0
  rw [iY (n:=n) (λt ht=>h t (by omega)),h n (by omega)]
theorem jH {f:Nat->Nat} {q:Nat}:∀ {n:Nat},q<n->(∀ t,t<n->t≠q->f t=0)->fD n f=f q
 | 0,hq,_=>absurd hq (Nat.not_lt_zero _)
 | n+1,hq,h=>by
  show fD n f+f n=f q
  by_cases e:q=n
  ·subst e
   rw [iY (n:=q) (λt ht=>h t (by omega) (by omega)),Nat.zero_add]
  ·rw [jH (n:=n) (by omega) (λt ht=>h t (by omega)),h n (by omega) (by omega),Nat.add_zero]
theorem wR {f:Nat->Nat} {c:Nat}:∀ {n:Nat},(∀ t,t<n->f t<=c)->fD n f<=n*c
 | 0,_=>Nat.zero_le _
 | n+1,h=>by
  show fD n f+f n<=(n+1)*c
  have h1:=wR (n:=n) (λt ht=>h t (by omega))
  have h2:=h n (by omega)
  rw [Nat.add_mul,Nat.one_mul];omega
theorem qJ {n:Nat} (rk:Nat->Nat) (M:Nat):∀(d:Nat) (P:Nat->Bool),(∀ r,M<r->r<=M+d->∃ t,t<n/\P t=true/\rk t=r)->d<=fD n (λt=>if P t=true then 1 else 0)
 | 0,_,_=>Nat.zero_le _
 | d+1,P,h=>by
  obtain⟨q,hq,hp,hr⟩:=h (M+d+1) (by omega) (by omega)
  have ih:=qJ rk M d (λt=>P t && decide (rk t≠M+d+1)) (λr h1 h2=>by
   obtain⟨t,a,b,c⟩:=h r h1 (by omega)
   exact⟨t,a,by rw [b,Bool.true_and];exact decide_eq_true (by omega),c⟩)
  have h3:fD n (λt=>if (P t && decide (rk t≠M+d+1))=true then 1 else 0)+1<=fD n (λt=>if P t=true then 1 else 0):=by
   rw [<-sP (f:=λt=>if t=q then 1 else (if (P t && decide (rk t≠M+d+1))=true then 1 else 0)) (q:=q) hq (λt _ ht=>if_neg ht) (by rw [if_pos rfl,if_neg (by rw [hr];simp)])]
   refine nK λt ht=>?_
   by_cases e:t=q
   ·rw [if_pos e,e,if_pos hp];exact Nat.le_refl _
   ·rw [if_neg e]
    by_cases hP:P t=true
    ·rw [if_pos hP];split<;>omega
    ·rw [if_neg hP,if_neg (by simp [hP])];exact Nat.le_refl _
  omega
def un (L u t:Nat):Bool:=decide (L+t=u∨(L+t) / 2=u∨(L+t) / 4=u∨(L+t) / 8=u∨(L+t) / 16=u)
theorem iP {L u t:Nat}:un L u t=true↔(L+t=u∨(L+t) / 2=u∨(L+t) / 4=u∨(L+t) / 8=u∨(L+t) / 16=u):=decide_eq_true_iff
theorem nY {n:Nat} (hn:n<=16):aJ n=1∨aJ n=2∨aJ n=4∨aJ n=8∨aJ n=16:=by
 have:∀ k,k<17->aJ k=1∨aJ k=2∨aJ k=4∨aJ k=8∨aJ k=16:=by decide
 exact this n (by omega)
theorem GL {L v t:Nat} (hL:L+t<32) (h1:1<=v) (h2:v<L):un L v t=true↔(un L (2*v) t=true∨un L (2*v+1) t=true):=by
 rw [iP,iP,iP];omega
theorem MG {L v t:Nat} (hL:L+t<2*L) (h1:1<=v):¬ (un L (2*v) t=true/\un L (2*v+1) t=true):=by
 rw [iP,iP];omega
theorem oG {L t t':Nat} (ht:t<L):un L (L+t') t=true↔t=t':=by
 rw [iP];omega
theorem zX {L t:Nat} (hL:L=1∨L=2∨L=4∨L=8∨L=16) (ht:t<L):un L 1 t=true:=by
 rw [iP];omega
theorem MN {L v t:Nat} (hL:L+t<32) (h2:2<=v) (h:un L v t=true):un L (v / 2) t=true:=by
 rw [iP] at h ⊢;omega
theorem sI {L t:Nat}:un L ((L+t) / 2) t=true:=by rw [iP];omega
theorem FQ {L u v t:Nat} (hu:un L u t=true) (hv:un L v t=true):u<v↔u<=v / 2/\1<=v:=by
 rw [iP] at hu hv;omega
theorem GK {L c w t:Nat} (hc:un L c t=true) (hw:un L w t=true) (h1:2<=c):c<=w↔c / 2<w:=by
 rw [iP] at hc hw;omega
def und (n L:Nat) (f:Nat->Nat) (u:Nat):Nat:=fD n λt=>if un L u t=true then f t else 0
theorem zN {n L:Nat} {f g:Nat->Nat} {u:Nat} (h:∀ t,t<n->un L u t=true->f t<=g t):und n L f u<=und n L g u:=nK λt ht=>by
 split
 ·rename_i hu;exact h t ht hu
 ·exact Nat.le_refl _
theorem pI {n L:Nat} {f g:Nat->Nat} {u:Nat} (h:∀ t,t<n->un L u t=true->f t=g t):und n L f u=und n L g u:=fK λt ht=>by
 split
 ·rename_i hu;exact h t ht hu
 ·rfl
theorem BP {n L:Nat} {f g:Nat->Nat} {u q:Nat} (hq:q<n) (hu:un L u q=true) (h:∀ t,t<n->t≠q->f t=g t) (h1:f q=g q+1):und n L f u=und n L g u+1:=by
 refine sP hq (λt ht htq=>?_) ?_
 ·split
  ·exact h t ht htq
  ·rfl
 ·rw [if_pos hu,if_pos hu];exact h1
structure Gh where
 a:Nat->Nat
 w:Nat->Nat
 M:Nat->Nat
 rk:Nat->Nat
 s:Nat->Nat->Bool
def Gh.F (n L:Nat) (g:Gh) (u:Nat):Nat:=und n L (λt=>g.a t - (if u<=g.w t then 1 else 0)) u
def Gh.A (n L:Nat) (g:Gh) (v:Nat):Nat:=und n L (λt=>g.a t - (if v<g.w t then 1 else 0)) v
def Gh.S (n L:Nat) (g:Gh) (u:Nat):Nat:=und n L g.a u
def Gh.cur (n L:Nat) (g:Gh) (v:Nat):Nat:=if v<L then g.M v else if v - L<n then g.a (v - L) else 0
structure GInv (n m:Nat) (g:Gh):Prop where
 path:∀ t,t<n->g.w t≠0->g.w t<aJ n/\un (aJ n) (g.w t) t=true/\1<=g.a t
 ge:∀ v,1<=v->v<aJ n->GE (g.s v) m 1 (g.M v)
 rank:∀ v,1<=v->v<aJ n->∀ r,g.M v<r->r<=g.A n (aJ n) v->∃ t,t<n/\g.w t=v/\g.rk t=r
 up:∀ v,1<=v->v<aJ n->tT (g.s v) m (g.S n (aJ n) v)
 top:∀ v,1<=v->v<aJ n->g.M v<=g.S n (aJ n) v
 small:g.S n (aJ n) 1<2^m
theorem Gh.A_le (n L:Nat) (g:Gh) (u:Nat):g.A n L u<=g.S n L u:=zN λt _ _=>Nat.sub_le _ _
theorem Gh.S_top {n:Nat} (hn:n<=16) (g:Gh) (u:Nat):g.S n (aJ n) u<=g.S n (aJ n) 1:=nK λt ht=>by
 have h:=(bL hn).1
 rw [if_pos (zX (nY hn) (by omega))]
 split
 ·exact Nat.le_refl _
 ·exact Nat.zero_le _
theorem GInv.lt {n m:Nat} {g:Gh} (hn:n<=16) (h:GInv n m g) (u:Nat):g.S n (aJ n) u<2^m:=Nat.lt_of_le_of_lt (g.S_top hn u) h.small
theorem Gh.split {n:Nat} (hn:n<=16) (f:Nat->Nat) {v:Nat} (h1:1<=v) (h2:v<aJ n):und n (aJ n) f v=und n (aJ n) f (2*v)+und n (aJ n) f (2*v+1):=by
 obtain⟨a,b,c⟩:=bL hn
 unfold und
 rw [<-oF]
 refine fK λt ht=>?_
 have hs:=GL (L:=aJ n) (v:=v) (t:=t) (by omega) h1 h2
 have ho:=MG (L:=aJ n) (v:=v) (t:=t) (by omega) h1
 by_cases ha:un (aJ n) (2*v) t=true
 ·rw [if_pos (hs.2 (.inl ha)),if_pos ha,if_neg (λh=>ho ⟨ha,h⟩),Nat.add_zero]
 ·by_cases hb:un (aJ n) (2*v+1) t=true
  ·rw [if_pos (hs.2 (.inr hb)),if_neg ha,if_pos hb,Nat.zero_add]
  ·rw [if_neg (λh=>(hs.1 h).elim ha hb),if_neg ha,if_neg hb]
theorem Gh.S_split {n:Nat} (hn:n<=16) (g:Gh) {v:Nat} (h1:1<=v) (h2:v<aJ n):g.S n (aJ n) v=g.S n (aJ n) (2*v)+g.S n (aJ n) (2*v+1):=Gh.split hn _ h1 h2
theorem GInv.A_split {n m:Nat} {g:Gh} (hn:n<=16) (h:GInv n m g) {v:Nat} (h1:1<=v) (h2:v<aJ n):g.A n (aJ n) v=g.F n (aJ n) (2*v)+g.F n (aJ n) (2*v+1):=by
 show und n (aJ n) _ v=_
 rw [Gh.split hn _ h1 h2]
 have hc:∀ c,2<=c->c / 2=v->und n (aJ n) (λt=>g.a t - (if v<g.w t then 1 else 0)) c=g.F n (aJ n) c:=λc hc hv=>pI λt ht hu=>by
  by_cases hw:g.w t=0
  ·rw [hw,if_neg (by omega),if_neg (by omega)]
  ·have:=GK hu (h.path t ht hw).2.1 hc
   by_cases h9:c<=g.w t
   ·rw [if_pos h9,if_pos (by omega)]
   ·rw [if_neg h9,if_neg (by omega)]
 rw [hc (2*v) (by omega) (by omega),hc (2*v+1) (by omega) (by omega)]
theorem GInv.F_A {n m:Nat} {g:Gh} (h:GInv n m g) {v:Nat} (h1:1<=v):g.F n (aJ n) v+fD n (λt=>if decide (g.w t=v)=true then 1 else 0)=g.A n (aJ n) v:=by
 unfold Gh.F Gh.A und
 rw [<-oF]
 refine fK λt ht=>?_
 dsimp only
 by_cases hw:g.w t=v
 ·obtain⟨p1,p2,p3⟩:=h.path t ht (by omega)
  rw [hw] at p2
  rw [if_pos p2,if_pos p2,if_pos (by omega),if_pos (decide_eq_true hw),if_neg (by omega)];omega
 ·rw [if_neg (show ¬ decide (g.w t=v)=true by simpa using hw),Nat.add_zero]
  split
  ·by_cases h9:v<=g.w t
   ·rw [if_pos h9,if_pos (by omega)]
   ·rw [if_neg h9,if_neg (by omega)]
  ·rfl
theorem GInv.low {n m:Nat} {g:Gh} (hn:n<=16) (h:GInv n m g) {v:Nat} (h1:1<=v) (h2:v<2*aJ n):g.F n (aJ n) v<=g.cur n (aJ n) v:=by
 obtain⟨l1,l2,l3⟩:=bL hn
 unfold Gh.cur
 split
 ·rename_i hv
  have hF:=h.F_A h1
  have hp:=qJ (n:=n) g.rk (g.M v) (g.A n (aJ n) v - g.M v) (λt=>decide (g.w t=v)) (λr a b=>by
   obtain⟨t,x,y,z⟩:=h.rank v h1 hv r a (by omega)
   exact⟨t,x,decide_eq_true y,z⟩)
  omega
 ·rename_i hv
  obtain⟨q,rfl⟩:∃ q,v=aJ n+q:=⟨v - aJ n,by omega⟩
  rw [Nat.add_sub_cancel_left]
  split
  ·rename_i hq
   unfold Gh.F und
   rw [jH hq (λt ht htq=>if_neg (λhu=>htq ((oG (by omega)).1 hu))),if_pos ((oG (by omega)).2 rfl)]
   exact Nat.sub_le _ _
  ·rename_i hq
   refine Nat.le_of_eq (iY λt ht=>if_neg (λhu=>?_))
   have:=(oG (L:=aJ n) (t:=t) (t':=q) (by omega)).1 hu
   omega
theorem GInv.leaf {n m:Nat} {g:Gh} (hn:n<=16) (h:GInv n m g) {q:Nat} (hq:q<n):g.F n (aJ n) (aJ n+q)=g.a q/\g.S n (aJ n) (aJ n+q)=g.a q:=by
 obtain⟨l1,l2,l3⟩:=bL hn
 have hz:∀ f:Nat->Nat,und n (aJ n) f (aJ n+q)=f q:=λf=>by
  unfold und
  rw [jH hq (λt ht htq=>if_neg (λhu=>htq ((oG (by omega)).1 hu))),if_pos ((oG (by omega)).2 rfl)]
 refine⟨?_,hz _⟩
 unfold Gh.F
 rw [hz]
 by_cases hw:g.w q=0
 ·rw [hw,if_neg (by omega)];omega
 ·have:=(h.path q hq hw).1
  rw [if_neg (by omega)];omega
def bQ (f:Nat->Nat) (q x:Nat):Nat->Nat:=λt=>if t=q then x else f t
theorem bG (f:Nat->Nat) (q x:Nat):bQ f q x q=x:=if_pos rfl
theorem dD {f:Nat->Nat} {q x t:Nat} (h:t≠q):bQ f q x t=f t:=if_neg h
theorem GInv.sw {n m:Nat} {g:Gh} (h:GInv n m g) (s':Nat->Nat->Bool) (hs:∀ v k,g.s v k=true->s' v k=true) (hup:∀ v,1<=v->v<aJ n->tT (s' v) m (g.S n (aJ n) v)):GInv n m { g with s:=s' }:=
 ⟨h.path,λv a b=>(h.ge v a b).mono (hs v) _ _ _,h.rank,hup,h.top,h.small⟩
theorem GInv.raise {n m:Nat} {g:Gh} (h:GInv n m g) (v y:Nat) (h1:1<=v->v<aJ n->GE (g.s v) m 1 y/\y<=g.S n (aJ n) v):GInv n m { g with M:=bQ g.M v (max (g.M v) y) }:=by
 refine⟨h.path,λu a b=>?_,λu a b r hr=>?_,h.up,λu a b=>?_,h.small⟩
 ·show GE (g.s u) m 1 (bQ g.M v _ u)
  by_cases e:u=v
  ·subst e
   rw [bG]
   rcases Nat.le_total (g.M u) y with h9|h9
   ·rw [Nat.max_eq_right h9];exact(h1 a b).1
   ·rw [Nat.max_eq_left h9];exact h.ge u a b
  ·rw [dD e];exact h.ge u a b
 ·refine h.rank u a b r (Nat.lt_of_le_of_lt ?_ hr)
  show g.M u<=bQ g.M v _ u
  by_cases e:u=v
  ·subst e;rw [bG];exact Nat.le_max_left _ _
  ·rw [dD e];exact Nat.le_refl _
 ·show bQ g.M v _ u<=_
  by_cases e:u=v
  ·subst e
   rw [bG]
   exact Nat.max_le.2 ⟨h.top u a b,(h1 a b).2⟩
  ·rw [dD e];exact h.top u a b
theorem GInv.begin {n m:Nat} {g:Gh} (hn:n<=16) (h:GInv n m g) {q:Nat} (hq:q<n) (hw:g.w q=0) (a' w':Nat->Nat) (ha:a'=bQ g.a q (g.a q+1)) (hw':w'=bQ g.w q ((aJ n+q) / 2)) (r':Nat) (hr:r'=Gh.A n (aJ n) ⟨a',w',g.M,g.rk,g.s⟩ ((aJ n+q) / 2)) (hsm:und n (aJ n) a' 1<2^m):GInv n m ⟨a',w',g.M,bQ g.rk q r',g.s⟩:=by
 obtain⟨l1,l2,l3⟩:=bL hn
 have hle:∀ t,g.a t<=a' t:=λt=>by
  rw [ha]
  by_cases e:t=q
  ·rw [e,bG];omega
  ·rw [dD e];exact Nat.le_refl _
 have hA:∀ v,1<=v->v<aJ n->und n (aJ n) (λt=>a' t - (if v<w' t then 1 else 0)) v=g.A n (aJ n) v+(if v=(aJ n+q) / 2 then 1 else 0):=λv h1 h2=>by
  split
  ·rename_i e
   refine BP hq (by rw [e];exact sI) (λt _ htq=>?_) ?_
   ·simp only [ha,hw',dD htq]
   ·simp only [ha,hw',bG,hw]
    rw [if_neg (by omega),if_neg (by omega)];rfl
  ·rename_i e
   refine pI λt _ hu=>?_
   by_cases htq:t=q
   ·subst htq
    simp only [ha,hw',bG,hw]
    have:=FQ hu (sI (L:=aJ n) (t:=t))
    have h3:v<(aJ n+t) / 2:=by rw [iP] at hu;omega
    rw [if_pos h3,if_neg (by omega)];omega
   ·simp only [ha,hw',dD htq]
 have hS:∀ u,g.S n (aJ n) u<=und n (aJ n) a' u:=λu=>zN λt _ _=>hle t
 refine⟨λt ht hne0=>?_,h.ge,λv h1 h2 r hr1 hr2=>?_,λv h1 h2=>(h.up v h1 h2).mono (hS v),λv h1 h2=>Nat.le_trans (h.top v h1 h2) (hS v),hsm⟩
 ·show w' t<_/\un _ (w' t) t=true/\1<=a' t
  have hne:w' t≠0:=hne0
  clear hne0
  by_cases e:t=q
  ·subst e
   rw [hw',bG] at hne ⊢
   rw [ha,bG]
   exact⟨by omega,sI,by omega⟩
  ·rw [hw',dD e] at hne ⊢
   rw [ha,dD e]
   exact h.path t ht hne
 ·have hr2:r<=und n (aJ n) (λt=>a' t - (if v<w' t then 1 else 0)) v:=hr2
  have hr1:g.M v<r:=hr1
  have hold:r<=g.A n (aJ n) v->∃ t,t<n/\w' t=v/\bQ g.rk q r' t=r:=λh9=>by
   obtain⟨t,x,y,z⟩:=h.rank v h1 h2 r hr1 h9
   have e:t≠q:=λe=>by subst e;omega
   exact⟨t,x,by rw [hw',dD e];exact y,by rw [dD e];exact z⟩
  rw [hA v h1 h2] at hr2
  by_cases e:v=(aJ n+q) / 2
  ·rw [if_pos e] at hr2
   by_cases h9:r<=g.A n (aJ n) v
   ·exact hold h9
   ·show ∃ t,t<n/\w' t=_/\bQ g.rk q r' t=r
    refine⟨q,hq,by rw [hw',bG,e],?_⟩
    rw [bG,hr,<-e]
    show und n (aJ n) (λt=>a' t - (if v<w' t then 1 else 0)) v=r
    rw [hA v h1 h2,if_pos e];omega
  ·rw [if_neg e] at hr2
   exact hold hr2
theorem GInv.climb {n m:Nat} {g:Gh} (hn:n<=16) (h:GInv n m g) {q v:Nat} (hq:q<n) (hw:g.w q=v) (hv:1<=v) (hrk:g.rk q<=g.M v) (w':Nat->Nat) (hw':w'=bQ g.w q (v / 2)) (r':Nat) (hr:r'=Gh.A n (aJ n) ⟨g.a,w',g.M,g.rk,g.s⟩ (v / 2)):GInv n m ⟨g.a,w',g.M,bQ g.rk q r',g.s⟩:=by
 obtain⟨l1,l2,l3⟩:=bL hn
 obtain⟨p1,p2,p3⟩:=h.path q hq (by omega)
 rw [hw] at p1 p2
 have hA:∀ u,1<=u->u<aJ n->und n (aJ n) (λt=>g.a t - (if u<w' t then 1 else 0)) u=g.A n (aJ n) u+(if u=v / 2 then 1 else 0):=λu h1 h2=>by
  split
  ·rename_i e
   have hv2:2<=v:=by omega
   refine BP hq (by rw [e];exact MN (by omega) hv2 p2) (λt _ htq=>?_) ?_
   ·simp only [hw',dD htq]
   ·simp only [hw',bG,hw]
    rw [if_neg (by omega),if_pos (by omega)];omega
  ·rename_i e
   refine pI λt _ hu=>?_
   by_cases htq:t=q
   ·subst htq
    simp only [hw',bG,hw]
    have:=FQ hu p2
    by_cases h9:u<v
    ·rw [if_pos h9,if_pos (by omega)]
    ·rw [if_neg h9,if_neg (by omega)]
   ·simp only [hw',dD htq]
 refine⟨λt ht hne0=>?_,h.ge,λu h1 h2 r hr1 hr2=>?_,h.up,h.top,h.small⟩
 ·show w' t<_/\un _ (w' t) t=true/\1<=g.a t
  have hne:w' t≠0:=hne0
  clear hne0
  by_cases e:t=q
  ·subst e
   rw [hw',bG] at hne ⊢
   exact⟨by omega,MN (by omega) (by omega) p2,p3⟩
  ·rw [hw',dD e] at hne ⊢
   exact h.path t ht hne
 ·have hr2:r<=und n (aJ n) (λt=>g.a t - (if u<w' t then 1 else 0)) u:=hr2
  have hr1:g.M u<r:=hr1
  have hold:r<=g.A n (aJ n) u->∃ t,t<n/\w' t=u/\bQ g.rk q r' t=r:=λh9=>by
   obtain⟨t,x,y,z⟩:=h.rank u h1 h2 r hr1 h9
   have e:t≠q:=λe=>by
    subst e
    rw [hw] at y
    subst y;omega
   exact⟨t,x,by rw [hw',dD e];exact y,by rw [dD e];exact z⟩
  rw [hA u h1 h2] at hr2
  by_cases e:u=v / 2
  ·rw [if_pos e] at hr2
   by_cases h9:r<=g.A n (aJ n) u
   ·exact hold h9
   ·show ∃ t,t<n/\w' t=_/\bQ g.rk q r' t=r
    refine⟨q,hq,by rw [hw',bG,e],?_⟩
    rw [bG,hr,<-e]
    show und n (aJ n) (λt=>g.a t - (if u<w' t then 1 else 0)) u=r
    rw [hA u h1 h2,if_pos e];omega
  ·rw [if_neg e] at hr2
   exact hold hr2
end Go.Proofs.Ytifhldnmcdbpfaa
