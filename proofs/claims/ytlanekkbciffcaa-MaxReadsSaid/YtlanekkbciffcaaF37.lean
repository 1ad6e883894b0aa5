/- Layer 10: what an operation on a max register went by, and that it stays so: in plain numbers. -/
import Derived.Test.YtlanekkbciffcaaF26
import Derived.Test.YtlanekkbciffcaaF36
import Derived.Test.YtlanekkbciffcaaF31
set_option maxRecDepth 100000
set_option linter.unusedVariables false
set_option linter.unusedSimpArgs false
set_option linter.unnecessarySimpa false
namespace Go.Proofs.Ytlanekkbciffcaa
section
open Go.RowKit
structure GOp where
 ts:List (Nat×Bool)
 last:Int
 v:Nat
 wr:Bool
 up:Bool
 inv:Int
def GOp.at (m:Nat) (g:GOp):Nat:=if g.wr=true then m else g.ts.length
structure WayBits (L v:Nat) (ts:List (Nat×Bool)):Prop where
 len:ts.length<=L
 path:∀(d:Nat) (t:Nat×Bool),ts[d]?=some t->t.1=mxNode 1 (ts.take d)
 bit:∀(d:Nat) (t:Nat×Bool),ts[d]?=some t->t.2=decide (v / 2^(L - d - 1) % 2=1)
structure GOk (S:Nat->Int) (now:Int) (m:Nat) (g:GOp):Prop where
 len:g.ts.length<=m
 bits:WayBits (g.at m) g.v g.ts
 val:g.v<2^(g.at m)
 inv1:g.inv<=g.last
 last:g.last<=now
 lne:(∃ t,t∈g.ts/\t.2=false)->∀ k,S k≠0->g.last≠S k
 left:∀ t,t∈g.ts->t.2=false->S t.1≠0->g.inv<S t.1
 rr:g.wr=false->∀(d:Nat) (t:Nat×Bool),g.ts[d]?=some t->t.2=true->S t.1≠0/\S t.1<g.last/\∀(d':Nat) (t':Nat×Bool),d<d'->g.ts[d']?=some t'->t'.2=false->S t'.1≠0->S t.1<S t'.1
 stop:g.up=true->g.ts.length<g.at m->g.v / 2^(m - g.ts.length - 1) % 2=0/\S (mxNode 1 g.ts)≠0/\S (mxNode 1 g.ts)<g.last
variable {S S':Nat->Int} {now now':Int} {m:Nat} {g:GOp}
theorem GOk.mono (h:GOk S now m g) (hS:∀ k,S k<=now) (hk:∀ k,S k≠0->S' k=S k) (hn:∀ k,S' k=S k∨now<S' k) (h2:now<=now'):GOk S' now' m g where
 len:=h.len
 bits:=h.bits
 val:=h.val
 inv1:=h.inv1
 last:=Int.le_trans h.last h2
 lne:=λe k hk0=>by
  rcases hn k with h1|h1
  ·rw [h1] at hk0 ⊢;exact h.lne e k hk0
  ·have:=h.last;omega
 left:=λt ht hb h0=>by
  rcases hn t.1 with h1|h1
  ·rw [h1] at h0 ⊢;exact h.left t ht hb h0
  ·have:=h.last;have:=h.inv1;omega
 rr:=λhw d t ht hb=>by
  obtain⟨a1,a2,a3⟩:=h.rr hw d t ht hb
  rw [hk _ a1]
  refine⟨a1,a2,λd' t' hd ht' hb' h0=>?_⟩
  rcases hn t'.1 with h1|h1
  ·rw [h1] at h0 ⊢;exact a3 d' t' hd ht' hb' h0
  ·have:=hS t.1;omega
 stop:=λhu hl=>by
  obtain⟨a1,a2,a3⟩:=h.stop hu hl
  rw [hk _ a2]
  exact⟨a1,a2,a3⟩
theorem GOk.self (h:GOk S now' m g) (hS:∀ k,S k<=now) (hlt:now<now') (hw:g.wr=true) (hl:(∃ t,t∈g.ts/\t.2=false)->g.last<=now) (hk:∀ k,S k≠0->S' k=S k) (hn:∀ k,S' k=S k∨S' k=now'):GOk S' now' m g where
 len:=h.len
 bits:=h.bits
 val:=h.val
 inv1:=h.inv1
 last:=h.last
 lne:=λe k hk0=>by
  rcases hn k with h1|h1
  ·rw [h1] at hk0 ⊢;exact h.lne e k hk0
  ·have:=hl e;omega
 left:=λt ht hb h0=>by
  rcases hn t.1 with h1|h1
  ·rw [h1] at h0 ⊢;exact h.left t ht hb h0
  ·have:=hl ⟨t,ht,hb⟩;have:=h.inv1;omega
 rr:=λhw'=>absurd (hw.symm.trans hw') (by decide)
 stop:=λhu hl=>by
  obtain⟨a1,a2,a3⟩:=h.stop hu hl
  rw [hk _ a2]
  exact⟨a1,a2,a3⟩
theorem get_snoc {ts l:List (Nat×Bool)} {x t:Nat×Bool} {d:Nat} (h:(ts++x::l)[d]?=some t):(d<ts.length/\ts[d]?=some t)∨(d=ts.length/\t=x)∨(ts.length<d/\t∈l):=by
 rcases Nat.lt_trichotomy d ts.length with h1|h1|h1
 ·rw [List.getElem?_append_left h1] at h;exact .inl ⟨h1,h⟩
 ·subst h1
  rw [List.getElem?_append_right (Nat.le_refl _),Nat.sub_self] at h
  simp at h;exact .inr (.inl ⟨rfl,h.symm⟩)
 ·rw [List.getElem?_append_right (by omega)] at h
  obtain⟨n,hn⟩:∃ n,d - ts.length=n+1:=⟨d - ts.length - 1,by omega⟩
  rw [hn,List.getElem?_cons_succ] at h
  exact .inr (.inr ⟨h1,List.mem_of_getElem? h⟩)
theorem GOk.look {g':GOp} {k:Nat} {b:Bool} {l:List (Nat×Bool)} (h:GOk S now' m g) (hS:∀ k,S k<=now) (hlt:now<now') (hwr:g'.wr=g.wr) (hinv:g'.inv=g.inv) (hup:g'.up=true->g'.ts.length=g'.at m) (hts:g'.ts=g.ts++(k,b)::l) (hlast:g'.last=now') (hl:∀ t,t∈l->t.2=true)
  (hl0:g.wr=false->l=[]) (hb0:b=false->S k=0) (hb1:b=true->S k≠0) (hlen:g'.ts.length<=m) (hbits:WayBits (g'.at m) g'.v g'.ts) (hval:g'.v<2^(g'.at m)):GOk S now' m g' where
 len:=hlen
 bits:=hbits
 val:=hval
 inv1:=by rw [hlast,hinv];exact Int.le_trans h.inv1 h.last
 last:=by rw [hlast];exact Int.le_refl _
 lne:=λ_ k0 h0=>by rw [hlast];have:=hS k0;omega
 left:=λt ht hb h0=>by
  rw [hinv]
  rw [hts] at ht
  rcases List.mem_append.1 ht with h1|h1
  ·exact h.left t h1 hb h0
  ·rcases List.mem_cons.1 h1 with rfl|h1
   ·exact absurd (hb0 hb) h0
   ·rw [hl t h1] at hb;cases hb
 rr:=λhw d t ht hb=>by
  rw [hwr] at hw
  have hle:=hl0 hw
  subst hle
  rw [hts] at ht
  rw [hlast]
  have hlater:∀(d':Nat) (t':Nat×Bool),d<d'->g'.ts[d']?=some t'->t'.2=false->S t'.1≠0->d'<g.ts.length/\g.ts[d']?=some t':=by
   intro d' t' hd ht' hb' h0
   rw [hts] at ht'
   rcases get_snoc ht' with h1|⟨_,rfl⟩|⟨_,h1⟩
   ·exact h1
   ·exact absurd (hb0 hb') h0
   ·cases h1
  rcases get_snoc ht with⟨h1,h2⟩|⟨h1,rfl⟩|⟨_,h1⟩
  ·obtain⟨a1,a2,a3⟩:=h.rr hw d t h2 hb
   refine⟨a1,by have:=hS t.1;omega,λd' t' hd ht' hb' h0=>a3 d' t' hd (hlater d' t' hd ht' hb' h0).2 hb' h0⟩
  ·refine⟨hb1 hb,by have:=hS k;show S k<now';omega,λd' t' hd ht' hb' h0=>?_⟩
   have:=(hlater d' t' hd ht' hb' h0).1;omega
  ·cases h1
 stop:=λhu hl=>by have:=hup hu;omega
theorem GOk.stopped {g':GOp} (h:GOk S now' m g) (hS:∀ k,S k<=now) (hlt:now<now') (hw:g.wr=true) (hwr:g'.wr=true) (hinv:g'.inv=g.inv) (hv:g'.v=g.v) (hts:g'.ts=g.ts) (hlast:g'.last=now') (hS0:S (mxNode 1 g.ts)≠0) (hbit:g.v / 2^(m - g.ts.length - 1) % 2=0):GOk S now' m g' where
 len:=by rw [hts];exact h.len
 bits:=by have:=h.bits;unfold GOp.at at this ⊢;rw [if_pos hw] at this;rw [if_pos hwr,hts,hv];exact this
 val:=by have:=h.val;unfold GOp.at at this ⊢;rw [if_pos hw] at this;rw [if_pos hwr,hv];exact this
 inv1:=by rw [hlast,hinv];exact Int.le_trans h.inv1 h.last
 last:=by rw [hlast];exact Int.le_refl _
 lne:=λ_ k0 h0=>by rw [hlast];have:=hS k0;omega
 left:=λt ht hb h0=>by rw [hinv];rw [hts] at ht;exact h.left t ht hb h0
 rr:=λhw'=>absurd (hwr.symm.trans hw') (by decide)
 stop:=λ_ _=>by rw [hts,hv,hlast];exact⟨hbit,hS0,by have:=hS (mxNode 1 g.ts);omega⟩
theorem WayBits.nil (L v:Nat):WayBits L v []:=⟨Nat.zero_le _,λd t h=>by simp at h,λd t h=>by simp at h⟩
theorem WayBits.snoc {L v:Nat} {ts:List (Nat×Bool)} (h:WayBits L v ts) (hl:ts.length<L) {r:Bool} (hr:r=decide (v / 2^(L - ts.length - 1) % 2=1)):WayBits L v (ts++[(mxNode 1 ts,r)]) where
 len:=by rw [List.length_append,List.length_singleton];omega
 path:=λd t ht=>by
  rcases get_snoc ht with⟨h1,h2⟩|⟨h1,rfl⟩|⟨_,h1⟩
  ·rw [h.path d t h2,List.take_append_of_le_length (by omega)]
  ·subst h1;rw [List.take_left]
  ·cases h1
 bit:=λd t ht=>by
  rcases get_snoc ht with⟨h1,h2⟩|⟨h1,rfl⟩|⟨_,h1⟩
  ·exact h.bit d t h2
  ·subst h1;exact hr
  ·cases h1
theorem WayBits.more {v:Nat} {ts:List (Nat×Bool)} (h:WayBits ts.length v ts) (r:Bool):WayBits (ts.length+1) (2*v+r.toNat) (ts++[(mxNode 1 ts,r)]):=by
 have h2:WayBits (ts.length+1) (2*v+r.toNat) ts:=by
  refine⟨Nat.le_succ _,h.path,λd t ht=>?_⟩
  have hd:=mx_lt ht
  rw [h.bit d t ht]
  have e:ts.length+1 - d - 1=(ts.length - d - 1)+1:=by omega
  have e2:(2*v+r.toNat) / 2^((ts.length - d - 1)+1)=v / 2^(ts.length - d - 1):=by
   rw [Nat.pow_succ,Nat.mul_comm (2^_) 2,<-Nat.div_div_eq_div_mul]
   have hr:r.toNat<=1:=by cases r<;>decide
   rw [show(2*v+r.toNat) / 2=v by omega]
  rw [e,e2]
 refine h2.snoc (Nat.lt_succ_self _) ?_
 have e:ts.length+1 - ts.length - 1=0:=by omega
 rw [e,Nat.pow_zero,Nat.div_one]
 cases r<;>simp<;>omega
structure WayIs (L v:Nat) (y:WayD):Prop where
 k:y.k=mxNode 1 y.turns
 len:y.turns.length+y.left=L
 bits:WayBits L v y.turns
theorem WayIs.turn {L v:Nat} {y:WayD} (h:WayIs L v y) (hl:0<y.left) {r:Bool} (hr:r=decide (v / 2^(y.left - 1) % 2=1)):WayIs L v (y.turn r):=by
 have h2:=h.len
 refine⟨?_,?_,?_⟩
 ·show 2*y.k+r.toNat=mxNode 1 (y.turns++[(y.k,r)])
  rw [mxNode_append,<-h.k];rfl
 ·show(y.turns++[(y.k,r)]).length+(y.left - 1)=L
  rw [List.length_append,List.length_singleton];omega
 ·show WayBits L v (y.turns++[(y.k,r)])
  rw [h.k]
  exact h.bits.snoc (by omega) (by rw [show L - y.turns.length - 1=y.left - 1 by omega];exact hr)
theorem WayIs.downN {L v:Nat}:∀(n:Nat) {y:WayD},WayIs L v y->y.left=n->WayIs L v (downN v n y)/\((Go.Proofs.Ytlanekkbciffcaa.downN v n y).left=0∨v / 2^((Go.Proofs.Ytlanekkbciffcaa.downN v n y).left - 1) % 2=0)
 | 0,y,h,hl=>⟨h,.inl hl⟩
 | n+1,y,h,hl=>by
  unfold Go.Proofs.Ytlanekkbciffcaa.downN
  split
  ·rename_i hb
   exact WayIs.downN n (h.turn (by omega) (r:=true) (by rw [hl,Nat.add_sub_cancel];simp [hb])) (by show y.left - 1=n;omega)
  ·rename_i hb
   refine⟨h,.inr ?_⟩
   rw [hl,Nat.add_sub_cancel];omega
end
section

/- Layer 10: a step of an operation on a max register, beside what it went by: in plain numbers. -/
open Go.RowKit
def mxS (tr:Int->List Int) (k:Nat):Int:=mxSet tr 0 k
def gOf (s:MxS) (inv:Nat):GOp:=match s with
 | .rd x=>⟨x.y.turns,if x.y.last=0 then (inv:Int) else (x.y.last:Int),x.val,false,false,inv⟩
 | .wr x=>⟨x.y.turns,if x.y.last=0 then (inv:Int) else (x.y.last:Int),x.v,true,x.up,inv⟩
def RSet (S:Nat->Int) (ts:List (Nat×Bool)) (n:Nat):Prop:=∀(d:Nat) (t:Nat×Bool),n<=d->ts[d]?=some t->t.2=true->S t.1≠0
def mHand (S:Nat->Int) (m:Nat):MxS->Prop
 | .rd x=>x.y.k=mxNode 1 x.y.turns
 | .wr x=>WayIs m x.v x.y/\(x.up=false->x.v / 2^(x.y.left - 1) % 2=0)/\(x.up=true->RSet S x.y.turns x.nx)
theorem mxSkip_none {ts:List (Nat×Bool)}:∀(n d:Nat),mxSkip ts n<=d->d<n->(ts.getD d (0,false)).2=false
 | 0,d,_,h=>absurd h (Nat.not_lt_zero _)
 | n+1,d,h1,h2=>by
  unfold mxSkip at h1
  split at h1
  ·omega
  ·rename_i hb
   rcases Nat.lt_or_ge d n with h3|h3
   ·exact mxSkip_none n d h1 h3
   ·obtain rfl:d=n:=by omega
    simpa using hb
theorem RSet.skip {S:Nat->Int} {ts:List (Nat×Bool)} {n:Nat} (h:RSet S ts n):RSet S ts (mxSkip ts n):=λd t hd ht hb=>by
 rcases Nat.lt_or_ge d n with h1|h1
 ·have:=mxSkip_none n d hd h1
  rw [List.getD_eq_getElem?_getD,ht] at this
  exact absurd (this.symm.trans hb) (by decide)
 ·exact h d t h1 ht hb
theorem RSet.end_ (S:Nat->Int) (ts:List (Nat×Bool)):RSet S ts ts.length:=λd t hd ht _=>by have:=mx_lt ht;omega
theorem RSet.mono {S S':Nat->Int} {ts:List (Nat×Bool)} {n:Nat} (h:RSet S ts n) (hk:∀ k,S k≠0->S' k=S k):RSet S' ts n:=λd t hd ht hb=>by
 have:=h d t hd ht hb
 rw [hk _ this];exact this
theorem mHand.mono {S S':Nat->Int} {m:Nat} (hk:∀ k,S k≠0->S' k=S k):∀ {s:MxS},mHand S m s->mHand S' m s
 | .rd _,h=>h
 | .wr _,⟨a,b,c⟩=>⟨a,b,λhu=>(c hu).mono hk⟩
def WordOk (m:Nat) (wd:WD):Prop:=wd.mem.ws.length=2^m - 1/\∀ k,1<=k->k<2^m->wd.mem.ws.getD (k - 1) 0=if mxS wd.traces k=0 then 0 else 1
theorem got_set {m:Nat} {wd:WD} (h:WordOk m wd) {k:Nat} (h1:1<=k) (h2:k<2^m):decide (taGot wd (0+k - 1)=1)=decide (mxS wd.traces k≠0):=by
 obtain⟨a,b⟩:=h
 have e:taGot wd (0+k - 1)=wd.mem.ws.getD (k - 1) 0:=by
  unfold taGot
  have:=(memR (m:=wd.mem) (a:=k - 1) (by omega)).2.1
  rw [show 0+k - 1=k - 1 by omega];exact this
 rw [e,b k h1 h2]
 by_cases h0:mxS wd.traces k=0<;>simp [h0]
theorem rd_g {m q inv:Nat} {now:Int} {wd:WD} {x:RdD} (hpos:wd.now≠0) (hw:WordOk m wd) (hS:∀ k,mxS wd.traces k<=now) (hn:now<(wd.now:Int)) (hp:RdOk m x) (hl:0<x.y.left) (hh:x.y.k=mxNode 1 x.y.turns) (hg:GOk (mxS wd.traces) wd.now m (gOf (.rd x) inv)) :
  GOk (mxS wd.traces) wd.now m (gOf (.rd (rdStep 0 q wd x).2.1) inv)/\(rdStep 0 q wd x).2.1.y.k=mxNode 1 (rdStep 0 q wd x).2.1.y.turns/\((rdStep 0 q wd x).2.2=true->(rdStep 0 q wd x).2.1.y.turns.length=m/\(rdStep 0 q wd x).2.1.ky=mxKey (mxS wd.traces) (rdStep 0 q wd x).2.1.y.turns (wd.now:Int))/\((rdStep 0 q wd x).2.1.y.last=wd.now):=by
 obtain⟨r,hr⟩:∃ r,r=rdTurn wd 0 x.y:=⟨_,rfl⟩
 have hk1:=hp.way.k1
 have hk2:=hp.way.klt hl
 have hlen:=hp.way.len
 have hr2:r=decide (mxS wd.traces x.y.k≠0):=by rw [hr];unfold rdTurn;exact got_set hw hk1 hk2
 have hgen:∀(z:RdD),z.y=(x.y.look wd).turn r->z.val=2*x.val+r.toNat->GOk (mxS wd.traces) wd.now m (gOf (.rd z) inv):=by
  intro z hz hv
  have hts:z.y.turns=x.y.turns++[(x.y.k,r)]:=by rw [hz];rfl
  have hla:z.y.last=wd.now:=by rw [hz];rfl
  have hb:=hg.bits
  have hb':WayBits x.y.turns.length x.val x.y.turns:=hb
  have hlen2:z.y.turns.length=x.y.turns.length+1:=by rw [hts,List.length_append,List.length_singleton]
  refine hg.look (k:=x.y.k) (b:=r) (l:=[]) hS hn rfl rfl (λe=>by cases e) hts (by show(if z.y.last=0 then _ else _)=_;rw [hla,if_neg hpos]) (λ_ h=>by cases h) (λ_=>rfl) (λe=>?_) (λe=>?_) (by show z.y.turns.length<=m;omega) ?_ ?_
  ·rw [e] at hr2;simpa using hr2
  ·rw [e] at hr2;simpa using hr2
  ·show WayBits z.y.turns.length z.val z.y.turns
   rw [hlen2,hv,hts,hh]
   exact hb'.more r
  ·show z.val<2^z.y.turns.length
   have h9:x.val<2^x.y.turns.length:=hg.val
   have:r.toNat<=1:=by cases r<;>decide
   rw [hlen2,hv,Nat.pow_succ];omega
 have hkey:∀ y:WayD,y.last=wd.now->wayLast (taRead wd (0+x.y.k - 1)) q y=(wd.now:Int):=λy hy=>by unfold wayLast;rw [hy,if_neg hpos]
 unfold rdStep
 rw [<-hr]
 split
 ·rename_i hlt
  refine⟨hgen _ rfl rfl,?_,(λe=>by cases e),rfl⟩
  show 2*x.y.k+r.toNat=mxNode 1 (x.y.turns++[(x.y.k,r)])
  rw [mxNode_append,<-hh];rfl
 ·rename_i hlt
  refine⟨hgen _ rfl rfl,?_,λ_=>⟨?_,?_⟩,rfl⟩
  ·show 2*x.y.k+r.toNat=mxNode 1 (x.y.turns++[(x.y.k,r)])
   rw [mxNode_append,<-hh];rfl
  ·show(x.y.turns++[(x.y.k,r)]).length=m
   have h8:¬ 0<x.y.left - 1:=hlt
   rw [List.length_append,List.length_singleton];omega
  ·show wayKey 0 q (taRead wd (0+x.y.k - 1)) ((x.y.look wd).turn r)=_
   unfold wayKey
   rw [hkey _ rfl]
   rfl
theorem mxS_put {wd:WD} {k k2:Nat}:mxS (mxPut 0 k wd).traces k2=if k2 - 1=k - 1 then (if mxS wd.traces k=0 then (wd.now:Int) else mxS wd.traces k2) else mxS wd.traces k2:=by
 have e:(mxPut 0 k wd).traces=if mxSet wd.traces 0 k=0 then updT wd.traces ((0+k - 1:Nat):Int) [(wd.now:Int)] else wd.traces:=rfl
 unfold mxS
 rw [e]
 by_cases h0:mxSet wd.traces 0 k=0
 ·rw [if_pos h0,if_pos h0]
  unfold mxSet updT
  by_cases h1:k2 - 1=k - 1
  ·rw [if_pos h1,if_pos (by omega)];rfl
  ·rw [if_neg h1,if_neg (by omega)]
 ·rw [if_neg h0,if_neg h0];split<;>rfl
theorem put_g {m:Nat} {now:Int} {wd:WD} {k:Nat} (hpos:wd.now≠0) (hw:WordOk m wd) (h1:1<=k) (h2:k<2^m):WordOk m (mxPut 0 k wd)/\(∀ j,mxS wd.traces j≠0->mxS (mxPut 0 k wd).traces j=mxS wd.traces j)/\(∀ j,mxS (mxPut 0 k wd).traces j=mxS wd.traces j∨mxS (mxPut 0 k wd).traces j=(wd.now:Int))/\
  (∀ j,1<=j->mxS (mxPut 0 k wd).traces j≠mxS wd.traces j->j=k/\mxS wd.traces k=0)/\mxS (mxPut 0 k wd).traces k≠0:=by
 have hkk:mxS (mxPut 0 k wd).traces k≠0:=by
  rw [mxS_put,if_pos rfl]
  split
  ·omega
  ·assumption
 have hal:∀ j,j - 1=k - 1->mxS wd.traces j=mxS wd.traces k:=λj hj=>by
  unfold mxS mxSet
  rw [show 0+j - 1=0+k - 1 by omega]
 refine⟨⟨?_,λj j1 j2=>?_⟩,λj hj=>?_,λj=>?_,λj j1 hj=>?_,hkk⟩
 ·show(memWrite wd.mem ((0+k - 1:Nat):Int) 1).ws.length=_
  rw [(memW (m:=wd.mem) (a:=0+k - 1) 1 (by have:=hw.1;omega)).1,List.length_set];exact hw.1
 ·show(memWrite wd.mem ((0+k - 1:Nat):Int) 1).ws.getD (j - 1) 0=_
  have hl:0+k - 1<wd.mem.ws.length:=by have:=hw.1;omega
  rw [(memW (m:=wd.mem) (a:=0+k - 1) 1 hl).1]
  by_cases h3:j - 1=k - 1
  ·obtain rfl:j=k:=by omega
   rw [if_neg hkk,show 0+j - 1=j - 1 by omega,getD_set_eq (by omega)]
  ·rw [getD_set_neq (by omega),hw.2 j j1 j2,mxS_put,if_neg h3]
 ·rw [mxS_put]
  split
  ·rename_i h3
   rw [hal j h3] at hj
   rw [if_neg hj]
  ·rfl
 ·rw [mxS_put]
  split
  ·split
   ·exact .inr rfl
   ·exact .inl rfl
  ·exact .inl rfl
 ·rw [mxS_put] at hj
  split at hj
  ·rename_i h3
   split at hj
   ·rename_i h4;exact⟨by omega,h4⟩
   ·exact absurd rfl hj
  ·exact absurd rfl hj
structure WrG (m q inv:Nat) (wd wd':WD) (x x':WrD) (done:Bool):Prop where
 word:WordOk m wd'
 old:∀ j,mxS wd.traces j≠0->mxS wd'.traces j=mxS wd.traces j
 new:∀ j,mxS wd'.traces j=mxS wd.traces j∨mxS wd'.traces j=(wd.now:Int)
 one:∀ j j2,1<=j->1<=j2->mxS wd'.traces j≠mxS wd.traces j->mxS wd'.traces j2≠mxS wd.traces j2->j=j2
 ok:GOk (mxS wd'.traces) wd.now m (gOf (.wr x') inv)
 hand:mHand (mxS wd'.traces) m (.wr x')
 set:∀ j,1<=j->mxS wd'.traces j≠mxS wd.traces j->x'.up=true/\∃ d:Nat,x'.y.turns[d]?=some (j,true)/\∀(d':Nat) (t':Nat×Bool),d<d'->x'.y.turns[d']?=some t'->t'.2=true->mxS wd'.traces t'.1≠0
 keep:x.up=true->gOf (.wr x') inv=gOf (.wr x) inv
 fin:done=true->x'.up=true/\x'.nx=0
 last:x'.up=false->x'.y.last=wd.now
theorem wrGo_g {m q inv:Nat} {now:Int} {wd:WD} {x:WrD} (hpos:wd.now≠0) (hw:WordOk m wd) (hS:∀ k,mxS wd.traces k<=now) (hn:now<(wd.now:Int)) (hp:WrOk m x) (hl:if x.up=true then 1<=x.nx else 0<x.y.left) (hu:mxUp (.wr x)) (hh:mHand (mxS wd.traces) m (.wr x)) (hg:GOk (mxS wd.traces) wd.now m (gOf (.wr x) inv))
  (hlf:(∃ t,t∈x.y.turns/\t.2=false)->(gOf (.wr x) inv).last<=now):WrG m q inv wd (wrGo 0 wd x).1 x (wrGo 0 wd x).2 (wrGo 0 wd x).2.done:=by
 obtain⟨hh1,hh2,hh3⟩:=hh
 have hfin:∀ z:WrD,z.done=true->z.up=true/\z.nx=0:=λz hz=>by unfold WrD.done at hz;simpa using hz
 unfold wrGo
 split
 ·rename_i hup
  rw [if_pos hup] at hl
  have hnx:=hp.up hup
  have hr:=hu hup hl
  obtain⟨t,ht⟩:∃ t,x.y.turns[x.nx - 1]?=some t:=⟨_,List.getElem?_eq_getElem (by omega)⟩
  have et:x.y.turns.getD (x.nx - 1) (0,false)=t:=by rw [List.getD_eq_getElem?_getD,ht];rfl
  have hk:wrK x=t.1:=by unfold wrK;rw [et]
  rw [et] at hr
  obtain⟨tk1,tk2⟩:=hp.way.tk t (List.mem_of_getElem? ht)
  rw [hk]
  obtain⟨p1,p2,p3,p4,p5⟩:=put_g (m:=m) (now:=now) hpos hw tk1 tk2
  refine⟨p1,p2,p3,λj j2 h1 h2 h3 h4=>((p4 j h1 h3).1).trans ((p4 j2 h2 h4).1).symm,hg.self hS hn rfl hlf p2 p3,⟨hh1,(λe=>by cases hup.symm.trans e),λ_=>?_⟩,λj j1 hj=>⟨hup,x.nx - 1,?_,λd' t' hd ht' hb'=>?_⟩,λ_=>rfl,hfin _,(λe=>by cases hup.symm.trans e)⟩
  ·refine RSet.skip (n:=x.nx - 1) λd t' hd ht' hb'=>?_
   rcases Nat.lt_or_ge (x.nx - 1) d with h9|h9
   ·exact((hh3 hup).mono p2) d t' (by omega) ht' hb'
   ·obtain rfl:d=x.nx - 1:=by omega
    rw [ht] at ht';cases ht';exact p5
  ·rw [(p4 j j1 hj).1,ht]
   obtain⟨a,b⟩:=t
   have:b=true:=hr
   rw [this]
  ·exact((hh3 hup).mono p2) d' t' (by omega) ht' hb'
 ·rename_i hup
  have hup':x.up=false:=by simpa using hup
  rw [if_neg hup] at hl
  have hk1:=hp.way.k1
  have hk2:=hp.way.klt hl
  have hb:=got_set hw hk1 hk2
  have hbit:=hh2 hup'
  have hlen:=hh1.len
  have hws:∀ k,mxS (taRead wd (0+x.y.k - 1)).traces k=mxS wd.traces k:=λ_=>rfl
  have hword:WordOk m (taRead wd (0+x.y.k - 1)):=by
   refine⟨?_,λk h1 h2=>?_⟩
   ·show(memRead wd.mem _).1.ws.length=_;rw [memRead_ws];exact hw.1
   ·show(memRead wd.mem _).1.ws.getD _ _=_;rw [memRead_ws];exact hw.2 k h1 h2
  have h0:∀ x:WrD,(gOf (.wr x) inv).wr=true:=λ_=>rfl
  split
  ·rename_i hgot
   rw [decide_eq_true hgot] at hb
   have hS0:mxS wd.traces x.y.k≠0:=of_decide_eq_true hb.symm
   obtain⟨z,hz⟩:∃ z,z=({ x with y:=x.y.look wd }:WrD).fin:=⟨_,rfl⟩
   rw [<-hz]
   have z1:z.y.turns=x.y.turns:=by rw [hz];rfl
   have z2:z.y.last=wd.now:=by rw [hz];rfl
   have z3:z.v=x.v:=by rw [hz];rfl
   have z4:z.up=true:=by rw [hz];rfl
   have z5:z.nx=mxSkip x.y.turns x.y.turns.length:=by rw [hz];rfl
   have z6:z.y=x.y.look wd:=by rw [hz];rfl
   refine⟨hword,λ_ _=>rfl,λ_=>.inl rfl,λj _ _ _ h=>absurd rfl h,?_,⟨?_,(λe=>by cases z4.symm.trans e),λ_=>?_⟩,λj _ h=>absurd rfl h,(λe=>by cases hup'.symm.trans e),hfin _,(λe=>by cases z4.symm.trans e)⟩
   ·refine hg.stopped (g':=gOf (.wr z) inv) hS hn rfl rfl rfl z3 z1 (by show(if z.y.last=0 then _ else _)=_;rw [z2,if_neg hpos]) (by show mxS wd.traces (mxNode 1 x.y.turns)≠0;rw [<-hh1.k];exact hS0) ?_
    show x.v / 2^(m - x.y.turns.length - 1) % 2=0
    rw [show m - x.y.turns.length - 1=x.y.left - 1 by omega];exact hbit
   ·rw [z6,z3];exact⟨hh1.k,hh1.len,hh1.bits⟩
   ·rw [z1,z5];exact(RSet.end_ _ _).skip
  ·rename_i hgot
   rw [decide_eq_false hgot] at hb
   have hS0:mxS wd.traces x.y.k=0:=by have:=of_decide_eq_false hb.symm;simpa using this
   obtain⟨y1,hy1⟩:∃ y1,y1=(x.y.look wd).turn false:=⟨_,rfl⟩
   obtain⟨z,hz⟩:∃ z,z=({ x with y:=(x.y.look wd).turn false }:WrD).down:=⟨_,rfl⟩
   rw [<-hz]
   have hw1:WayIs m x.v y1:=by
    rw [hy1]
    have hlk:WayIs m x.v (x.y.look wd):=⟨hh1.k,hh1.len,hh1.bits⟩
    refine hlk.turn hl ?_
    show false=decide (x.v / 2^(x.y.left - 1) % 2=1)
    rw [hbit];rfl
   obtain⟨d1,d2⟩:=WayIs.downN y1.left hw1 rfl
   obtain⟨l,l1,l2,_⟩:=downN_turns x.v y1.left y1
   have hdl:=downN_last x.v y1.left y1
   obtain⟨y2,hy2⟩:∃ y2,y2=downN x.v y1.left y1:=⟨_,rfl⟩
   rw [<-hy2] at d1 d2 l1 hdl
   have z6:z.y=y2:=by
    rw [hz,hy2,hy1];unfold WrD.down;split<;>rfl
   have z3:z.v=x.v:=by rw [hz];unfold WrD.down;split<;>rfl
   have z4:z.up=true->y2.left=0:=by
    rw [hz,hy2,hy1];unfold WrD.down
    split
    ·rename_i h9;exact λ_=>h9
    ·intro e;have e':x.up=true:=e;cases hup'.symm.trans e'
   have z7:z.up=true->RSet (mxS wd.traces) z.y.turns z.nx:=by
    rw [hz];unfold WrD.down
    split
    ·exact λ_=>(RSet.end_ _ _).skip
    ·intro e;have e':x.up=true:=e;cases hup'.symm.trans e'
   have z8:z.up=false->y2.left≠0:=by
    rw [hz,hy2,hy1];unfold WrD.down
    split
    ·exact λe=>by cases e
    ·rename_i h9;exact λ_=>h9
   have hts:y2.turns=x.y.turns++(x.y.k,false)::l:=by
    rw [l1,hy1];show(x.y.turns++[(x.y.k,false)])++l=_;simp
   have hla:y2.last=wd.now:=by rw [hdl,hy1];rfl
   refine⟨hword,λ_ _=>rfl,λ_=>.inl rfl,λj _ _ _ h=>absurd rfl h,?_,⟨?_,λe=>?_,z7⟩,λj _ h=>absurd rfl h,(λe=>by cases hup'.symm.trans e),hfin _,λ_=>by rw [z6,hla]⟩
   ·refine hg.look (g':=gOf (.wr z) inv) (k:=x.y.k) (b:=false) (l:=l) hS hn rfl rfl (λe=>?_) (by show z.y.turns=_;rw [z6];exact hts) (by show(if z.y.last=0 then _ else _)=_;rw [z6,hla,if_neg hpos]) l2 (λe=>by cases (h0 x).symm.trans e) (λ_=>hS0) (λe=>by cases e) (by show z.y.turns.length<=m;rw [z6];have:=d1.len;omega) ?_ ?_
    ·have e1:=z4 e
     have e2:=d1.len
     show z.y.turns.length=m
     rw [z6];omega
    ·show WayBits m z.v z.y.turns
     rw [z6,z3];exact d1.bits
    ·show z.v<2^m
     rw [z3];exact hp.v
   ·rw [z6,z3];exact d1
   ·have:=z8 e
    rw [z6,z3]
    rcases d2 with h9|h9
    ·exact absurd h9 this
    ·exact h9
theorem wr_g {m q inv:Nat} {now:Int} {wd:WD} {x:WrD} (hpos:wd.now≠0) (hw:WordOk m wd) (hS:∀ k,mxS wd.traces k<=now) (hn:now<(wd.now:Int)) (hp:WrOk m x) (hl:if x.up=true then 1<=x.nx else 0<x.y.left) (hu:mxUp (.wr x)) (hh:mHand (mxS wd.traces) m (.wr x)) (hg:GOk (mxS wd.traces) wd.now m (gOf (.wr x) inv))
  (hlf:(∃ t,t∈x.y.turns/\t.2=false)->(gOf (.wr x) inv).last<=now) (hiv:wd.inv.getD q 0=inv):WrG m q inv wd (wrStep 0 q wd x).1 x (wrStep 0 q wd x).2.1 (wrStep 0 q wd x).2.2/\((wrStep 0 q wd x).2.2=true->(wrStep 0 q wd x).2.1.ky=mxKey (mxS (wrStep 0 q wd x).1.traces) (wrStep 0 q wd x).2.1.y.turns (gOf (.wr (wrStep 0 q wd x).2.1) inv).last):=by
 have h:=wrGo_g (q:=q) hpos hw hS hn hp hl hu hh hg hlf
 have hi:(wrGo 0 wd x).1.inv.getD q 0=inv:=by
  have e:(wrGo 0 wd x).1.inv=wd.inv:=by
   unfold wrGo
   split
   ·rfl
   ·split<;>rfl
  rw [e];exact hiv
 unfold wrStep
 split
 ·rename_i hd
  rw [hd] at h
  refine⟨⟨h.word,h.old,h.new,h.one,h.ok,h.hand,h.set,h.keep,h.fin,h.last⟩,λ_=>?_⟩
  show wayKey 0 q (wrGo 0 wd x).1 (wrGo 0 wd x).2.y=_
  unfold wayKey wayLast
  rw [hi];rfl
 ·rename_i hd
  rw [show(wrGo 0 wd x).2.done=false by simpa using hd] at h
  exact⟨h,(λe=>by cases e)⟩
end
end Go.Proofs.Ytlanekkbciffcaa
