/- Layer 11: what a node's switches tell, in plain numbers: a number is at least there; who reads, and who writes. -/
import Derived.Test.YtifhldnmcdbpfaaW20
import Derived.Test.YtifhldnmcdbpfaaW27
set_option maxRecDepth 100000
set_option linter.unusedVariables false
set_option linter.unusedSimpArgs false
set_option linter.unnecessarySimpa false
namespace Go.Proofs.Ytifhldnmcdbpfaa
open Go.RowKit
def GE (s:Nat->Bool):Nat->Nat->Nat->Prop
 | 0,_,_=>True
 | m+1,k,x=>if x / 2^m % 2=1 then s k=true/\GE s m (2*k+1) x else s k=true∨GE s m (2*k) x
theorem GE.mono {s s':Nat->Bool} (h:∀ k,s k=true->s' k=true):∀(m k x:Nat),GE s m k x->GE s' m k x
 | 0,_,_,_=>trivial
 | m+1,k,x,hx=>by
  unfold GE at hx ⊢
  split
  ·rename_i hb
   rw [if_pos hb] at hx
   exact⟨h k hx.1,GE.mono h m _ x hx.2⟩
  ·rename_i hb
   rw [if_neg hb] at hx
   exact hx.imp (h k) (GE.mono h m _ x)
theorem GE.down {s:Nat->Bool}:∀(m k x y:Nat),x % 2^m<=y % 2^m->GE s m k y->GE s m k x
 | 0,_,_,_,_,_=>trivial
 | m+1,k,x,y,h,hy=>by
  rw [Nat.mod_pow_succ,Nat.mod_pow_succ] at h
  have hx1:x % 2^m<2^m:=Nat.mod_lt _ (Nat.two_pow_pos m)
  have hy1:y % 2^m<2^m:=Nat.mod_lt _ (Nat.two_pow_pos m)
  have hbx:x / 2^m % 2=0∨x / 2^m % 2=1:=by omega
  have hby:y / 2^m % 2=0∨y / 2^m % 2=1:=by omega
  unfold GE at hy ⊢
  rcases hby with hby|hby
  ·rw [if_neg (by omega)] at hy
   rcases hbx with hbx|hbx
   ·rw [if_neg (by omega)]
    rw [hbx,hby,Nat.mul_zero,Nat.add_zero,Nat.add_zero] at h
    exact hy.imp_right (GE.down m _ x y h)
   ·rw [hbx,hby] at h;omega
  ·rw [if_pos hby] at hy
   rcases hbx with hbx|hbx
   ·rw [if_neg (by omega)];exact .inl hy.1
   ·rw [if_pos hbx]
    rw [hbx,hby] at h
    exact⟨hy.1,GE.down m _ x y (by omega) hy.2⟩
theorem GE.le {s:Nat->Bool} {m k x y:Nat} (h:x<=y) (hy:y<2^m) (hg:GE s m k y):GE s m k x:=
 GE.down m k x y (by rw [Nat.mod_eq_of_lt hy,Nat.mod_eq_of_lt (by omega)];exact h) hg
theorem GE.zero (s:Nat->Bool):∀(m k:Nat),GE s m k 0
 | 0,_=>trivial
 | m+1,k=>by
  unfold GE
  rw [Nat.zero_div,if_neg (by decide)]
  exact .inr (GE.zero s m _)
theorem half (v j:Nat):v / 2^j=2*(v / 2^(j+1))+v / 2^j % 2:=by
 rw [Nat.pow_succ,<-Nat.div_div_eq_div_mul]
 omega
def tT (s:Nat->Bool) (m B:Nat):Prop:=∀ k d j,d+j+1=m->2^d<=k->k<2^(d+1)->s k=true->(2*(k - 2^d)+1)*2^j<=B
theorem tT.mono {s:Nat->Bool} {m B B':Nat} (h:tT s m B) (hB:B<=B'):tT s m B':=λk d j a b c e=>Nat.le_trans (h k d j a b c e) hB
structure rT (s:Nat->Bool) (m lo hi:Nat) (x:RdD):Prop where
 pos:∀ d,d+x.y.left=m->x.y.k=2^d+x.val
 ge:lo / 2^x.y.left<x.val∨(lo / 2^x.y.left=x.val/\GE s x.y.left x.y.k lo)
 up:x.val*2^x.y.left<=hi
 path:∀ s':Nat->Bool,(∀ k,s k=true->s' k=true)->∀ R,R / 2^x.y.left=x.val->GE s' x.y.left x.y.k R->GE s' m 1 R
theorem rT.init {s:Nat->Bool} {m lo hi:Nat} (hlo:lo<2^m) (hg:GE s m 1 lo):rT s m lo hi ⟨eP m,0,[]⟩:=by
 refine⟨λd hd=>?_,.inr ⟨Nat.div_eq_of_lt hlo,hg⟩,by show 0*_<=_;omega,λs' _ R _ h=>h⟩
 have hd:d+m=m:=hd
 have:d=0:=by omega
 rw [this];rfl
theorem rT.mono {s s':Nat->Bool} {m lo hi hi':Nat} {x:RdD} (h:rT s m lo hi x) (hs:∀ k,s k=true->s' k=true) (hh:hi<=hi'):rT s' m lo hi' x:=
 ⟨h.pos,h.ge.imp_right (λ⟨a,b⟩=>⟨a,b.mono hs _ _ _⟩),Nat.le_trans h.up hh,λs2 h2=>h.path s2 (λk hk=>h2 k (hs k hk))⟩
theorem rT.turn {s:Nat->Bool} {m lo hi:Nat} {x:RdD} (h:rT s m lo hi x) (hok:nZ m x) (hl:0<x.y.left) (hup:tT s m hi) (y':dQ) (ky:List Int) (hk:y'.k=2*x.y.k+(s x.y.k).toNat) (hl':y'.left=x.y.left - 1):rT s m lo hi ⟨y',2*x.val+(s x.y.k).toNat,ky⟩:=by
 obtain⟨j,hj⟩:∃ j,x.y.left=j+1:=⟨x.y.left - 1,by omega⟩
 have hlen:=hok.way.len
 have hjy:y'.left=j:=by omega
 have hd:x.y.turns.length+(j+1)=m:=by omega
 have hkk:=h.pos x.y.turns.length (by omega)
 have hval:=hok.val
 have hh:=half lo j
 have hbit:lo / 2^j % 2=0∨lo / 2^j % 2=1:=by omega
 have hge:=h.ge
 rw [hj] at hge
 have hu:=h.up
 rw [hj] at hu
 have hp:=h.path
 rw [hj] at hp
 refine⟨λd hd'=>?_,?_,?_,λs' hs R hR hg=>?_⟩
 ·have hd':d+y'.left=m:=hd'
  show y'.k=2^d+(2*x.val+_)
  have:d=x.y.turns.length+1:=by omega
  rw [hk,hkk,this,Nat.pow_succ];omega
 ·show lo / 2^y'.left<2*x.val+_∨(lo / 2^y'.left=2*x.val+_/\GE s y'.left y'.k lo)
  rw [hjy,hk]
  rcases hge with h1|⟨h1,h2⟩
  ·left;omega
  ·unfold GE at h2
   cases hs:s x.y.k with
   | true=>
    show _<2*x.val+1∨(_=2*x.val+1/\GE s j (2*x.y.k+1) lo)
    rcases hbit with hb|hb
    ·left;omega
    ·rw [if_pos hb] at h2
     exact .inr ⟨by omega,h2.2⟩
   | false=>
    show _<2*x.val+0∨(_=2*x.val+0/\GE s j (2*x.y.k+0) lo)
    rcases hbit with hb|hb
    ·rw [if_neg (by omega)] at h2
     refine .inr ⟨by omega,?_⟩
     rcases h2 with h2|h2
     ·rw [hs] at h2;cases h2
     ·exact h2
    ·rw [if_pos hb] at h2
     rw [hs] at h2;cases h2.1
 ·show(2*x.val+_)*2^y'.left<=hi
  rw [hjy]
  cases hs:s x.y.k with
  | true=>
   have h9:=hup x.y.k x.y.turns.length j (by omega) (by omega) (by rw [hkk,Nat.pow_succ];omega) hs
   rw [hkk,Nat.add_sub_cancel_left] at h9
   exact h9
  | false=>
   show(2*x.val+0)*2^j<=hi
   rw [Nat.add_zero,Nat.mul_comm 2 x.val,Nat.mul_assoc]
   rw [Nat.pow_succ,Nat.mul_comm (2^j) 2] at hu
   exact hu
 ·have hR:R / 2^y'.left=2*x.val+(s x.y.k).toNat:=hR
  have hg:GE s' y'.left y'.k R:=hg
  rw [hjy] at hR hg
  rw [hk] at hg
  have VD:=half R j
  refine hp s' hs R ?_ ?_
  ·cases hs2:s x.y.k<;>rw [hs2] at hR<;>simp at hR<;>omega
  ·unfold GE
   cases hs2:s x.y.k with
   | true=>
    rw [hs2] at hR hg
    simp at hR
    rw [if_pos (by omega)]
    exact⟨hs _ hs2,hg⟩
   | false=>
    rw [hs2] at hR hg
    simp at hR
    rw [if_neg (by omega)]
    exact .inr hg
def ndK (v m i:Nat):Nat:=2^i+v / 2^(m - i)
def ndB (v m i:Nat):Bool:=decide (v / 2^(m - i - 1) % 2=1)
theorem sJ {v m i:Nat} (h:i<m):ndK v m (i+1)=2*ndK v m i+(ndB v m i).toNat:=by
 unfold ndK ndB
 have hh:=half v (m - i - 1)
 rw [show m - i - 1+1=m - i by omega] at hh
 rw [show m - (i+1)=m - i - 1 by omega,Nat.pow_succ]
 by_cases hb:v / 2^(m - i - 1) % 2=1
 ·rw [decide_eq_true hb];show _=2*_+1;omega
 ·rw [decide_eq_false hb];show _=2*_+0;omega
structure iH (s:Nat->Bool) (m:Nat) (x:WrD):Prop where
 tk:∀ i,i<x.y.turns.length->x.y.turns.getD i (0,false)=(ndK x.v m i,ndB x.v m i)
 ky:x.y.k=ndK x.v m x.y.turns.length
 dn:x.up=false->0<x.y.left/\x.v / 2^(x.y.left - 1) % 2=0
 up:x.up=true->GE s (m - x.nx) (ndK x.v m x.nx) x.v/\(0<x.nx->(x.y.turns.getD (x.nx - 1) (0,false)).2=true)
theorem iH.mono {s s':Nat->Bool} {m:Nat} {x:WrD} (h:iH s m x) (hs:∀ k,s k=true->s' k=true):iH s' m x:=⟨h.tk,h.ky,h.dn,λhu=>⟨(h.up hu).1.mono hs _ _ _,(h.up hu).2⟩⟩
theorem GE.skip {s:Nat->Bool} {v m:Nat} {ts:List (Nat×Bool)} (hm:ts.length<=m) (htk:∀ i,i<ts.length->ts.getD i (0,false)=(ndK v m i,ndB v m i)):∀ n,n<=ts.length->GE s (m - n) (ndK v m n) v->GE s (m - bN ts n) (ndK v m (bN ts n)) v
 | 0,_,h=>h
 | n+1,hn,h=>by
  unfold bN
  split
  ·exact h
  ·rename_i hr
   refine GE.skip hm htk n (by omega) ?_
   have hb:ndB v m n=false:=by
    rw [htk n (by omega)] at hr
    simpa using hr
   have hk:=sJ (v:=v) (m:=m) (i:=n) (by omega)
   rw [hb] at hk
   have hk:ndK v m (n+1)=2*ndK v m n:=hk
   obtain⟨j,hj⟩:∃ j,m - n=j+1:=⟨m - n - 1,by omega⟩
   rw [hj]
   unfold GE
   have hb2:¬ v / 2^j % 2=1:=by
    unfold ndB at hb
    rw [show m - n - 1=j by omega] at hb
    exact of_decide_eq_false hb
   rw [if_neg hb2]
   right
   rw [hk,show m - (n+1)=j by omega] at h
   exact h
theorem iH.fin {s:Nat->Bool} {m:Nat} {x:WrD} (hlen:x.y.turns.length+x.y.left=m) (tk:∀ i,i<x.y.turns.length->x.y.turns.getD i (0,false)=(ndK x.v m i,ndB x.v m i)) (ky:x.y.k=ndK x.v m x.y.turns.length) (hg:GE s x.y.left x.y.k x.v):iH s m x.fin:=by
 refine⟨tk,ky,λe=>(by cases e),λ_=>⟨?_,λh9=>kK _ _ h9⟩⟩
 show GE s (m - bN x.y.turns x.y.turns.length) (ndK x.v m (bN x.y.turns x.y.turns.length)) x.v
 refine GE.skip (by omega) tk _ (Nat.le_refl _) ?_
 rw [<-ky,show m - x.y.turns.length=x.y.left by omega];exact hg
theorem zJ {l:List (Nat×Bool)} {t:Nat×Bool} {i:Nat}:(l++[t]).getD i (0,false)=if i<l.length then l.getD i (0,false) else if i=l.length then t else (0,false):=by
 rw [List.getD_eq_getElem?_getD]
 by_cases h1:i<l.length
 ·rw [if_pos h1,List.getElem?_append_left h1,List.getD_eq_getElem?_getD]
 ·rw [if_neg h1,List.getElem?_append_right (by omega)]
  by_cases h2:i=l.length
  ·rw [if_pos h2,h2,Nat.sub_self];rfl
  ·rw [if_neg h2]
   cases h3:i - l.length with
   | zero=>omega
   | succ k=>rfl
def zF (v m:Nat) (y:dQ):Prop:=y.turns.length+y.left=m/\(∀ i,i<y.turns.length->y.turns.getD i (0,false)=(ndK v m i,ndB v m i))/\y.k=ndK v m y.turns.length
theorem zF.turn {v m:Nat} {y:dQ} {r:Bool} (h:zF v m y) (hl:0<y.left) (hb:ndB v m y.turns.length=r):zF v m (y.turn r):=by
 obtain⟨h1,h2,h3⟩:=h
 have hl':(y.turn r).turns.length=y.turns.length+1:=by show(y.turns++[(y.k,r)]).length=_;simp
 refine⟨by rw [hl'];show _+(y.left - 1)=m;omega,λi hi=>?_,?_⟩
 ·show(y.turns++[(y.k,r)]).getD i (0,false)=_
  rw [zJ]
  rw [hl'] at hi
  by_cases h9:i<y.turns.length
  ·rw [if_pos h9];exact h2 i h9
  ·have e:i=y.turns.length:=by omega
   rw [if_neg h9,if_pos e,e,h3,hb]
 ·rw [hl',sJ (by omega),hb,<-h3];rfl
theorem wY (v m:Nat):∀(n:Nat) {y:dQ},zF v m y->y.left=n->zF v m (downN v n y)/\(0<(downN v n y).left->v / 2^((downN v n y).left - 1) % 2=0)
 | 0,y,h,hl=>⟨h,λh9=>by have:(downN v 0 y).left=y.left:=rfl;omega⟩
 | n+1,y,h,hl=>by
  have hlen:=h.1
  unfold downN
  split
  ·rename_i hb
   refine wY v m n (h.turn (by omega) ?_) (by show y.left - 1=n;omega)
   unfold ndB
   rw [show m - y.turns.length - 1=n by omega]
   exact decide_eq_true hb
  ·rename_i hb
   refine⟨h,λ_=>?_⟩
   rw [hl,Nat.add_sub_cancel];omega
theorem iH.down {s:Nat->Bool} {m:Nat} {x:WrD} (h:zF x.v m x.y) (hu:x.up=false):iH s m x.down:=by
 obtain⟨⟨h1,h2,h3⟩,h4⟩:=wY x.v m x.y.left h rfl
 unfold WrD.down
 split
 ·rename_i h0
  exact iH.fin (x:={ x with y:=downN x.v x.y.left x.y }) h1 h2 h3 (by show GE s (downN x.v x.y.left x.y).left _ _;rw [h0];trivial)
 ·rename_i h0
  exact⟨h2,h3,λ_=>⟨by show 0<(downN x.v x.y.left x.y).left;omega,h4 (by omega)⟩,λe=>(by have e:x.up=true:=e;rw [hu] at e;cases e)⟩
theorem iH.init {s:Nat->Bool} {m v:Nat} (hv:v<2^m):iH s m (dB m v):=
 iH.down (x:=⟨eP m,v,false,1,[]⟩) ⟨by simp [eP],λi hi=>absurd hi (Nat.not_lt_zero i),by show 1=2^0+v / 2^(m - 0);rw [Nat.sub_zero,Nat.div_eq_of_lt hv]⟩ rfl
theorem iH.look {s:Nat->Bool} {m:Nat} {x:WrD} {wd:WD} (h:iH s m x) (hok:fZ m x) (hu:x.up=false):(s x.y.k=true->iH s m ({ x with y:=x.y.look wd }:WrD).fin)/\(s x.y.k=false->iH s m ({ x with y:=(x.y.look wd).turn false }:WrD).down):=by
 obtain⟨h1,h2⟩:=h.dn hu
 have hlen:=hok.way.len
 have hy:zF x.v m (x.y.look wd):=⟨hlen,h.tk,h.ky⟩
 refine⟨λhs=>?_,λhs=>?_⟩
 ·refine iH.fin (x:={ x with y:=x.y.look wd }) hlen h.tk h.ky ?_
  show GE s x.y.left x.y.k x.v
  obtain⟨j,hj⟩:∃ j,x.y.left=j+1:=⟨x.y.left - 1,by omega⟩
  rw [hj,Nat.add_sub_cancel] at h2
  rw [hj]
  unfold GE
  rw [if_neg (by omega)]
  exact .inl hs
 ·refine iH.down (x:={ x with y:=(x.y.look wd).turn false }) (hy.turn h1 ?_) hu
  show ndB x.v m x.y.turns.length=false
  unfold ndB
  rw [show m - x.y.turns.length - 1=x.y.left - 1 by omega]
  exact decide_eq_false (by omega)
theorem iH.put {s s':Nat->Bool} {m:Nat} {x:WrD} (h:iH s m x) (hok:fZ m x) (hu:x.up=true) (hnx:1<=x.nx) (hs:∀ k,s k=true->s' k=true) (hk:s' (wrK x)=true):iH s' m { x with nx:=bN x.y.turns (x.nx - 1) }:=by
 have hup:=hok.up hu
 have hlen:=hok.way.len
 obtain⟨g1,g2⟩:=h.up hu
 have ht:=h.tk (x.nx - 1) (by omega)
 have g3:=g2 hnx
 refine⟨h.tk,h.ky,λe=>(by have e:x.up=false:=e;rw [hu] at e;cases e),λ_=>⟨?_,λh9=>kK _ _ h9⟩⟩
 show GE s' (m - bN x.y.turns (x.nx - 1)) (ndK x.v m (bN x.y.turns (x.nx - 1))) x.v
 refine GE.skip (by omega) h.tk _ (by omega) ?_
 have hK:wrK x=ndK x.v m (x.nx - 1):=by unfold wrK;rw [ht]
 rw [ht] at g3
 have g3:ndB x.v m (x.nx - 1)=true:=g3
 have hkk:=sJ (v:=x.v) (m:=m) (i:=x.nx - 1) (by omega)
 rw [g3,show x.nx - 1+1=x.nx by omega] at hkk
 have hkk:ndK x.v m x.nx=2*ndK x.v m (x.nx - 1)+1:=hkk
 obtain⟨j,hj⟩:∃ j,m - (x.nx - 1)=j+1:=⟨m - (x.nx - 1) - 1,by omega⟩
 rw [hj]
 unfold GE
 have hb:x.v / 2^j % 2=1:=by
  unfold ndB at g3
  rw [show m - (x.nx - 1) - 1=j by omega] at g3
  exact of_decide_eq_true g3
 rw [if_pos hb,<-hK]
 refine⟨hk,?_⟩
 rw [hK,<-hkk,<-show m - x.nx=j by omega]
 exact g1.mono hs _ _ _
theorem iH.bound {s:Nat->Bool} {m:Nat} {x:WrD} (h:iH s m x) (hok:fZ m x) (hu:x.up=true) (hnx:1<=x.nx):1<=wrK x/\wrK x<2^m/\∀ d j,d+j+1=m->2^d<=wrK x->wrK x<2^(d+1)->(2*(wrK x - 2^d)+1)*2^j<=x.v:=by
 have hup:=hok.up hu
 have hlen:=hok.way.len
 have ht:=h.tk (x.nx - 1) (by omega)
 have hK:wrK x=ndK x.v m (x.nx - 1):=by unfold wrK;rw [ht]
 have g3:=(h.up hu).2 hnx
 rw [ht] at g3
 have g3:ndB x.v m (x.nx - 1)=true:=g3
 obtain⟨i,hi⟩:∃ i,i=x.nx - 1:=⟨_,rfl⟩
 rw [<-hi] at hK g3
 have hvl:x.v / 2^(m - i)<2^i:=by
  rw [Nat.div_lt_iff_lt_mul (Nat.two_pow_pos _),<-Nat.pow_add,show i+(m - i)=m by omega]
  exact hok.v
 have e1:wrK x=2^i+x.v / 2^(m - i):=hK
 have hp:=Nat.two_pow_pos i
 obtain⟨q,hq⟩:∃ q,q=x.v / 2^(m - i):=⟨_,rfl⟩
 rw [<-hq] at hvl e1
 refine⟨by rw [e1];exact Nat.le_trans hp (Nat.le_add_right _ _),?_,λd j hd h1 h2=>?_⟩
 ·have h9:2^(i+1)<=2^m:=Nat.pow_le_pow_right (by decide) (by omega)
  rw [Nat.pow_succ] at h9
  rw [e1]
  exact Nat.lt_of_lt_of_le (Nat.add_lt_add_left hvl _) (by omega)
 ·have hdi:d=i:=by
   rcases Nat.lt_trichotomy d i with h9|h9|h9
   ·have h8:2^(d+1)<=2^i:=Nat.pow_le_pow_right (by decide) h9
    exact absurd (Nat.lt_of_lt_of_le h2 h8) (by rw [e1];exact Nat.not_lt.2 (Nat.le_add_right _ _))
   ·exact h9
   ·have h8:2^(i+1)<=2^d:=Nat.pow_le_pow_right (by decide) h9
    rw [Nat.pow_succ] at h8
    have h7:=Nat.add_lt_add_left hvl (2^i)
    rw [<-e1] at h7
    exact absurd (Nat.lt_of_lt_of_le h7 (by omega)) (Nat.not_lt.2 h1)
  subst hdi
  have hb:x.v / 2^j % 2=1:=by
   unfold ndB at g3
   rw [show m - d - 1=j by omega] at g3
   exact of_decide_eq_true g3
  have hh:=half x.v j
  rw [show j+1=m - d by omega] at hh
  rw [e1,hq,Nat.add_sub_cancel_left,show 2*(x.v / 2^(m - d))+1=x.v / 2^j by omega]
  exact Nat.div_mul_le_self _ _
end Go.Proofs.Ytifhldnmcdbpfaa
