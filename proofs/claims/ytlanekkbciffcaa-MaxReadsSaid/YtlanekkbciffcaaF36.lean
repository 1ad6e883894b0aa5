/- Layer 27: what the walks of the reference's objects share. -/
import Derived.Test.YtlanekkbciffcaaF35
import Derived.Test.YtlanekkbciffcaaF17
import Derived.Test.YtlanekkbciffcaaF16
set_option maxRecDepth 100000
set_option linter.unusedVariables false
set_option linter.unusedSimpArgs false
set_option linter.unnecessarySimpa false
namespace Go.Proofs.Ytlanekkbciffcaa
section
open Go.RowKit
def oneInv (st:List Nat):Prop:=∃ v,st=[v]/\v<18446744073709551616
theorem set3 {w1:World} {b:Nat} {y0 y1 y2:Value} {T:TypeId} (h:w1.heap[b]?=some (.cells #[y0,y1,y2] T (0,0))) (x0 x1 x2:Value) :
  (((w1.setCell ⟨b,0,none⟩ x0).setCell ⟨b,1,none⟩ x1).setCell ⟨b,2,none⟩ x2).heap[b]?=some (.cells #[x0,x1,x2] T (0,0))/\Chg (λk=>k=b) w1 (((w1.setCell ⟨b,0,none⟩ x0).setCell ⟨b,1,none⟩ x1).setCell ⟨b,2,none⟩ x2)/\(((w1.setCell ⟨b,0,none⟩ x0).setCell ⟨b,1,none⟩ x1).setCell ⟨b,2,none⟩ x2).heap.size=w1.heap.size:=by
 refine⟨?_,(((Chg.refl (λk=>k=b) w1).setCell (p:=⟨b,0,none⟩) (.inl rfl) _).setCell (p:=⟨b,1,none⟩) (.inl rfl) _).setCell (p:=⟨b,2,none⟩) (.inl rfl) _,by simp [World.setCell]⟩
 rw [blk_set (blk_set (blk_set h _ _) _ _) _ _];rfl
theorem sl_one {w:World} {b x:Nat} {T:TypeId} {fz:Nat×Nat} (h:w.heap[b]?=some (.cells #[.int .u64 (x:Int)] T fz)):SlAt w (some ⟨b,0,none⟩) 1 1 (u64G [x]):=by
 refine⟨by unfold maxLen;omega,λj hj=>⟨b,0,rfl,blk_lt h,λf hf=>?_⟩⟩
 obtain rfl:j=0:=by omega
 obtain rfl:f=0:=by omega
 rw [cell_blk h];rfl
theorem sl_row1 {w:World} {B q n cp v:Nat} {T:TypeId} (h:w.ownsRow B T 1 (.slice (some ⟨q,0,none⟩) n cp) n [.int .u64 (v:Int)]) (hn:n=1):SlAt w (some ⟨q,0,none⟩) 1 1 (u64G [v]):=by
 subst hn
 obtain⟨a,c,e,h1,_⟩:=sl_of_row (g:=u64G [v]) h (by unfold maxLen;omega) (λj hj=>by
  obtain rfl:j=0:=(by omega)
  rfl)
 cases e
 exact h1
theorem new_one (kd:Int) (h:kd=1∨kd=2∨kd=3∨kd=4) (n:Nat) (P Q:Int) (u:World):Calls Try.prog 63 #[.int .i64 (n:Int),specV kd P Q] u λe u'=>∃ a c,e=.returned (.slice a ([0]:List Nat).length c)/\NewSl u u' a [0]/\Below u.heap.size u u':=by
 unfold specV
 have fin:∀ k:Int,NewSl u ((u.alloc (.cells #[.int .i64 k,.int .i64 P,.int .i64 Q] 48)).alloc (.cells #[.int .u64 0] 37)) (some ⟨u.heap.size+1,0,none⟩) [0]/\Below u.heap.size u ((u.alloc (.cells #[.int .i64 k,.int .i64 P,.int .i64 Q] 48)).alloc (.cells #[.int .u64 0] 37)):=λk=>
  ⟨⟨sl_one (x:=0) (allocs_get [_,_] u 1 _ rfl),λb off e=>by cases e;simp⟩,allocs_below u [_,_]⟩
 have Fin:=Lib.hid fin
 clear fin
 rcases h with rfl|rfl|rfl|rfl
 all_goals
  go_enter Try.func63,Try.ntmps63
  go_wp2
  go_ret
  exact⟨_,_,rfl,(Fin.out _).1,(Fin.out _).2⟩
end
section

/- Layer 10: what is read is the greatest number that was written ahead of it, in the order of keys: by induction over the levels, in plain lists. -/
open Go.RowKit
structure MxOp where
 ts:List (Nat×Bool)
 last:Int
 v:Nat
def mxNode (k:Nat):List (Nat×Bool)->Nat
 | []=>k
 | t::ts=>mxNode (2*k+t.2.toNat) ts
theorem mxNode_append (k:Nat):∀(a b:List (Nat×Bool)),mxNode k (a++b)=mxNode (mxNode k a) b
 | [],_=>by intros;rfl
 | t::a,b=>mxNode_append (2*k+t.2.toNat) a b
theorem mxNode_lo:∀(ts:List (Nat×Bool)) (k:Nat),k*2^ts.length<=mxNode k ts/\mxNode k ts<(k+1)*2^ts.length
 | [],k=>by simp [mxNode]
 | t::ts,k=>by
  obtain⟨h1,h2⟩:=mxNode_lo ts (2*k+t.2.toNat)
  have hb:t.2.toNat<=1:=by cases t.2<;>decide
  have e:2^(t::ts).length=2*2^ts.length:=by rw [List.length_cons,Nat.pow_succ];omega
  rw [e]
  show _<=mxNode (2*k+t.2.toNat) ts/\mxNode (2*k+t.2.toNat) ts<_
  constructor
  ·refine Nat.le_trans ?_ h1
   rw [<-Nat.mul_assoc,Nat.mul_comm k 2]
   exact Nat.mul_le_mul_right _ (by omega)
  ·refine Nat.lt_of_lt_of_le h2 ?_
   rw [<-Nat.mul_assoc]
   exact Nat.mul_le_mul_right _ (by omega)
theorem mxNode_pos (ts:List (Nat×Bool)):1<=mxNode 1 ts:=by
 have h1:=(mxNode_lo ts 1).1
 have h2:=Nat.two_pow_pos ts.length
 omega
theorem mxNode_depth {a b:List (Nat×Bool)} (h:mxNode 1 a=mxNode 1 b):a.length=b.length:=by
 obtain⟨a1,a2⟩:=mxNode_lo a 1
 obtain⟨b1,b2⟩:=mxNode_lo b 1
 rw [h] at a1 a2
 rw [Nat.one_mul] at a1 b1
 have e1:(1+1)*2^a.length=2^(a.length+1):=by rw [Nat.pow_succ];omega
 have e2:(1+1)*2^b.length=2^(b.length+1):=by rw [Nat.pow_succ];omega
 rw [e1] at a2;rw [e2] at b2
 have h1:=(Nat.pow_lt_pow_iff_right (a:=2) (by decide)).1 (Nat.lt_of_le_of_lt a1 b2)
 have h2:=(Nat.pow_lt_pow_iff_right (a:=2) (by decide)).1 (Nat.lt_of_le_of_lt b1 a2)
 omega
theorem take_snoc {ts:List (Nat×Bool)} {d:Nat} {t:Nat×Bool} (h:ts[d]?=some t):ts.take (d+1)=ts.take d++[t]:=by
 rw [List.take_add_one,h];rfl
theorem mxNode_take {ts:List (Nat×Bool)} {d k:Nat} {t:Nat×Bool} (h:ts[d]?=some t):mxNode k (ts.take (d+1))=2*mxNode k (ts.take d)+t.2.toNat:=by
 rw [take_snoc h,mxNode_append];rfl
theorem mx_lt {ts:List (Nat×Bool)} {d:Nat} {t:Nat×Bool} (h:ts[d]?=some t):d<ts.length:=by
 rcases Nat.lt_or_ge d ts.length with h1|h1
 ·exact h1
 ·rw [List.getElem?_eq_none h1] at h;cases h
theorem drop_of {ts:List (Nat×Bool)} {d:Nat} {t:Nat×Bool} (h:ts[d]?=some t):ts.drop d=t::ts.drop (d+1):=by
 have h1:=mx_lt h
 rw [List.drop_eq_getElem_cons h1]
 rw [List.getElem?_eq_getElem h1] at h
 cases h;rfl
theorem mem_drop {ts:List (Nat×Bool)} {d:Nat} {t:Nat×Bool} (h:t∈ts.drop d):∃ d',d<=d'/\ts[d']?=some t:=by
 obtain⟨i,hi⟩:=List.getElem?_of_mem h
 rw [List.getElem?_drop] at hi
 exact⟨d+i,by omega,hi⟩
theorem mxKey_ne (S:Nat->Int) (last:Int) (ts:List (Nat×Bool)):mxKey S ts last≠[]:=by
 have:=(mxKey_len S last ts).1
 intro h;rw [h] at this;simp at this
def fL (s:Int) (a:List Int):List Int:=if 2*s<a.headD 0 then (2*s - 1)::a else a
def gR (s:Int) (a:List Int):List Int:=if a.headD 0<=2*s then (2*s)::a else a
theorem step_left {S:Nat->Int} {k:Nat} {a:List Int} (h:S k≠0):mxKeyStep S (k,false) a=fL (S k) a:=by
 unfold mxKeyStep fL;simp [h]
theorem step_right {S:Nat->Int} {k:Nat} {a:List Int} (h:S k≠0):mxKeyStep S (k,true) a=gR (S k) a:=by
 unfold mxKeyStep gR;simp [h]
theorem step_none {S:Nat->Int} {t:Nat×Bool} {a:List Int} (h:S t.1=0):mxKeyStep S t a=a:=by
 unfold mxKeyStep;simp [h]
theorem fL_head {s:Int} {a:List Int} (h:a.headD 0≠2*s):(fL s a).headD 0<2*s:=by
 unfold fL;split
 ·simp;omega
 ·omega
theorem gR_head {s:Int} {a:List Int}:2*s<=(gR s a).headD 0:=by
 unfold gR;split
 ·simp
 ·omega
theorem keyLt_cons (x:Int) (a b:List Int):keyLt (x::a) (x::b)=keyLt a b:=by rw [keyLt];simp
theorem keyLt_no {a b:List Int} (ha:a≠[]) (hb:b≠[]) (h:b.headD 0<a.headD 0):keyLt a b=false:=keyLt_asymm (keyLt_head hb ha h)
theorem fL_lt {s:Int} {a b:List Int} (ha:a≠[]) (hb:b≠[]) (ha2:a.headD 0≠2*s) (ha3:a.headD 0≠2*s - 1) (hb2:b.headD 0≠2*s) (hb3:b.headD 0≠2*s - 1):keyLt (fL s a) (fL s b)=keyLt a b:=by
 unfold fL
 split<;>split
 ·exact keyLt_cons _ _ _
 ·rw [keyLt_no (List.cons_ne_nil _ _) hb (by rw [List.headD_cons];omega),keyLt_no ha hb (by omega)]
 ·rw [keyLt_head ha (List.cons_ne_nil _ _) (by rw [List.headD_cons];omega),keyLt_head ha hb (by omega)]
 ·rfl
theorem gR_lt {s:Int} {a b:List Int} (ha:a≠[]) (hb:b≠[]):keyLt (gR s a) (gR s b)=keyLt a b:=by
 unfold gR
 split<;>split
 ·exact keyLt_cons _ _ _
 ·rw [keyLt_head (List.cons_ne_nil _ _) hb (by rw [List.headD_cons];omega),keyLt_head ha hb (by omega)]
 ·rw [keyLt_no ha (List.cons_ne_nil _ _) (by rw [List.headD_cons];omega),keyLt_no ha hb (by omega)]
 ·rfl
theorem key_src (S:Nat->Int) (last:Int):∀ ts:List (Nat×Bool),(mxKey S ts last).headD 0=2*last∨∃ t,t∈ts/\S t.1≠0/\(t.2=false/\(mxKey S ts last).headD 0=2*S t.1 - 1∨t.2=true/\(mxKey S ts last).headD 0=2*S t.1)
 | []=>.inl rfl
 | (k,b)::ts=>by
  have e:mxKey S ((k,b)::ts) last=mxKeyStep S (k,b) (mxKey S ts last):=rfl
  have ih:(mxKey S ts last).headD 0=2*last∨∃ t,t∈(k,b)::ts/\S t.1≠0/\(t.2=false/\(mxKey S ts last).headD 0=2*S t.1 - 1∨t.2=true/\(mxKey S ts last).headD 0=2*S t.1):=by
   rcases key_src S last ts with h|⟨t,h1,h2⟩
   ·exact .inl h
   ·exact .inr ⟨t,List.mem_cons_of_mem _ h1,h2⟩
  rw [e]
  by_cases h0:S k=0
  ·rw [step_none h0];exact ih
  ·cases b with
   | false=>
    rw [step_left h0];unfold fL;split
    ·exact .inr ⟨(k,false),List.mem_cons_self ..,h0,.inl ⟨rfl,rfl⟩⟩
    ·exact ih
   | true=>
    rw [step_right h0];unfold gR;split
    ·exact .inr ⟨(k,true),List.mem_cons_self ..,h0,.inr ⟨rfl,rfl⟩⟩
    ·exact ih
theorem key_le {S:Nat->Int} {last s:Int} (hl:last<=s):∀ {ts:List (Nat×Bool)},(∀ t,t∈ts->t.2=true->S t.1<=s)->(mxKey S ts last).headD 0<=2*s
 | [],_=>by show 2*last<=2*s;omega
 | (k,b)::ts,h=>by
  have ih:=key_le hl (ts:=ts) (λt ht=>h t (List.mem_cons_of_mem _ ht))
  have hk:=h (k,b) (List.mem_cons_self ..)
  show(mxKeyStep S (k,b) (mxKey S ts last)).headD 0<=2*s
  by_cases h0:S k=0
  ·rw [step_none h0];exact ih
  ·cases b with
   | false=>
    rw [step_left h0];unfold fL;split
    ·simp;omega
    ·exact ih
   | true=>
    have:=hk rfl
    rw [step_right h0];unfold gR;split
    ·simp;exact this
    ·exact ih
theorem key_ge {S:Nat->Int} {last s:Int} (hl:s<=last):∀ {ts:List (Nat×Bool)},(∀ t,t∈ts->t.2=false->S t.1≠0->s<S t.1)->2*s<=(mxKey S ts last).headD 0
 | [],_=>by show 2*s<=2*last;omega
 | (k,b)::ts,h=>by
  have ih:=key_ge hl (ts:=ts) (λt ht=>h t (List.mem_cons_of_mem _ ht))
  have hk:=h (k,b) (List.mem_cons_self ..)
  show 2*s<=(mxKeyStep S (k,b) (mxKey S ts last)).headD 0
  by_cases h0:S k=0
  ·rw [step_none h0];exact ih
  ·cases b with
   | false=>
    have h2:s<S k:=hk rfl h0
    rw [step_left h0];unfold fL;split
    ·rw [List.headD_cons];omega
    ·exact ih
   | true=>
    rw [step_right h0];unfold gR;split
    ·rw [List.headD_cons];omega
    ·exact ih
theorem key_gt' {S:Nat->Int} {last s:Int} (hl:s<last):∀ {ts:List (Nat×Bool)},(∀ t,t∈ts->t.2=false->S t.1≠0->s<S t.1)->(mxKey S ts last).headD 0≠2*s
 | [],_=>by show 2*last≠2*s;omega
 | (k,b)::ts,h=>by
  have ih:=key_gt' hl (ts:=ts) (λt ht=>h t (List.mem_cons_of_mem _ ht))
  have ih2:=key_ge (S:=S) (s:=s) (last:=last) (by omega) (ts:=ts) (λt ht=>h t (List.mem_cons_of_mem _ ht))
  have hk:=h (k,b) (List.mem_cons_self ..)
  show(mxKeyStep S (k,b) (mxKey S ts last)).headD 0≠2*s
  by_cases h0:S k=0
  ·rw [step_none h0];exact ih
  ·cases b with
   | false=>
    have h2:s<S k:=hk rfl h0
    rw [step_left h0];unfold fL;split
    ·rw [List.headD_cons];omega
    ·exact ih
   | true=>
    rw [step_right h0];unfold gR;split
    ·rw [List.headD_cons];omega
    ·exact ih
theorem key_gt {S:Nat->Int} {last s:Int} (hl:s<last) {ts:List (Nat×Bool)} (h:∀ t,t∈ts->t.2=false->S t.1≠0->s<S t.1):2*s<(mxKey S ts last).headD 0:=by
 rcases key_src S last ts with h1|⟨t,ht,h0,⟨h2,h3⟩|⟨h2,h3⟩⟩
 ·omega
 ·have:=h t ht h2 h0;omega
 ·-- a right turn's tick is no less than what stands behind it
  have h4:=key_ge (S:=S) (s:=s) (last:=last) (by omega) h
  by_cases h5:2*s<(mxKey S ts last).headD 0
  ·exact h5
  ·exfalso
   have h6:(mxKey S ts last).headD 0=2*s:=by omega
   exact absurd h6 (key_gt' hl h)
structure MxFact (S:Nat->Int) (m:Nat) (R W:MxOp->Prop):Prop where
 inj:∀ k k',1<=k->1<=k'->S k≠0->S k=S k'->k=k'
 len:∀ x,R x∨W x->x.ts.length<=m
 path:∀ x,R x∨W x->∀ d t,x.ts[d]?=some t->t.1=mxNode 1 (x.ts.take d)
 bit:∀ x,R x∨W x->∀ d t,x.ts[d]?=some t->t.2=decide (x.v / 2^(m - d - 1) % 2=1)
 rlen:∀ r,R r->r.ts.length=m
 stop:∀ w,W w->w.ts.length<m->w.v / 2^(m - w.ts.length - 1) % 2=0/\S (mxNode 1 w.ts)≠0/\S (mxNode 1 w.ts)<w.last
 lastne:∀ x,R x∨W x->∀ t,t∈x.ts->t.2=false->∀ k,S k≠0->x.last≠S k
 rr:∀ r,R r->∀(d:Nat) (t:Nat×Bool),r.ts[d]?=some t->t.2=true->S t.1≠0/\S t.1<r.last/\∀(d':Nat) (t':Nat×Bool),d<d'->r.ts[d']?=some t'->t'.2=false->S t'.1≠0->S t.1<S t'.1
 set:∀ k,1<=k->S k≠0->∃(w:MxOp) (d:Nat),W w/\w.ts[d]?=some (k,true)/\w.last<=S k/\∀(d':Nat) (t':Nat×Bool),d<d'->w.ts[d']?=some t'->t'.2=true->S t'.1≠0/\S t'.1<=S k
def mxK (S:Nat->Int) (x:MxOp) (d:Nat):List Int:=mxKey S (x.ts.drop d) x.last
def Eff (S:Nat->Int) (x:MxOp) (d:Nat):Prop:=∀ d' t,d<=d'->x.ts[d']?=some t->t.2=true->S t.1≠0
variable {S:Nat->Int} {m:Nat} {R W:MxOp->Prop}
theorem mxK_step {x:MxOp} {d:Nat} {t:Nat×Bool} (h:x.ts[d]?=some t):mxK S x d=mxKeyStep S t (mxK S x (d+1)):=by
 unfold mxK;rw [drop_of h];rfl
theorem mxK_end {x:MxOp} {d:Nat} (h:x.ts.length<=d):mxK S x d=[2*x.last]:=by
 unfold mxK;rw [List.drop_eq_nil_of_le h];rfl
theorem mxK_ne (x:MxOp) (d:Nat):mxK S x d≠[]:=mxKey_ne _ _ _
theorem left_ne (F:MxFact S m R W) {x:MxOp} (hx:R x∨W x) {d k:Nat} (h:x.ts[d]?=some (k,false)) (h0:S k≠0):(mxK S x (d+1)).headD 0≠2*S k/\(mxK S x (d+1)).headD 0≠2*S k - 1:=by
 have hk:=F.path x hx d _ h
 have hln:=F.lastne x hx _ (List.mem_of_getElem? h) rfl k h0
 rcases key_src S x.last (x.ts.drop (d+1)) with h1|⟨t,ht,h2,h3⟩
 ·unfold mxK;rw [h1];omega
 ·obtain⟨d',hd',ht'⟩:=mem_drop ht
  have hk':=F.path x hx d' _ ht'
  have hne:t.1≠k:=by
   intro e
   have e2:mxNode 1 (x.ts.take d')=mxNode 1 (x.ts.take d):=by rw [<-hk',<-hk,e]
   have e3:=mxNode_depth e2
   rw [List.length_take,List.length_take] at e3
   have:=mx_lt ht';have:=mx_lt h
   omega
  have hSne:S t.1≠S k:=λe=>hne (F.inj _ _ (by rw [hk'];exact mxNode_pos _) (by rw [show k=_ from hk];exact mxNode_pos _) h2 e)
  unfold mxK
  rcases h3 with⟨_,h3⟩|⟨_,h3⟩<;>rw [h3]<;>omega
theorem bit_mod {v j:Nat}:v % 2^(j+1)=v % 2^j+2^j*(v / 2^j % 2):=by
 rw [Nat.pow_succ,Nat.mod_mul]
theorem mx_main (F:MxFact S m R W):∀ j d,d+j=m->∀ r,R r->
  (∀ w,W w->d<=w.ts.length->mxNode 1 (w.ts.take d)=mxNode 1 (r.ts.take d)->Eff S w d->keyLt (mxK S r d) (mxK S w d)=false->w.v % 2^j<=r.v % 2^j)/\
  (r.v % 2^j=0∨∃ w,W w/\d<=w.ts.length/\mxNode 1 (w.ts.take d)=mxNode 1 (r.ts.take d)/\Eff S w d/\keyLt (mxK S w d) (mxK S r d)=true/\w.v % 2^j=r.v % 2^j)
 | 0,d,hd,r,hr=>⟨λw _ _ _ _ _=>by simp [Nat.mod_one],.inl (by simp [Nat.mod_one])⟩
 | j+1,d,hd,r,hr=>by
  have hrl:=F.rlen r hr
  obtain⟨⟨k,b⟩,hb⟩:∃ t,r.ts[d]?=some t:=⟨_,List.getElem?_eq_getElem (by omega)⟩
  obtain⟨ih1,ih2⟩:=mx_main F j (d+1) (by omega) r hr
  have hk:k=mxNode 1 (r.ts.take d):=F.path r (.inl hr) d _ hb
  have hbit:b=decide (r.v / 2^j % 2=1):=by
   have:=F.bit r (.inl hr) d _ hb
   rw [show m - d - 1=j by omega] at this;exact this
  have hwbit:∀ w,W w->∀ t,w.ts[d]?=some t->t.2=decide (w.v / 2^j % 2=1):=λw hw t ht=>by
   have:=F.bit w (.inr hw) d _ ht
   rw [show m - d - 1=j by omega] at this;exact this
  have hwk:∀ w,W w->mxNode 1 (w.ts.take d)=mxNode 1 (r.ts.take d)->∀ t,w.ts[d]?=some t->t.1=k:=λw hw e t ht=>by
   rw [hk,<-e];exact F.path w (.inr hw) d _ ht
  have hrn:mxNode 1 (r.ts.take (d+1))=2*k+b.toNat:=by rw [mxNode_take hb,<-hk]
  have hup:∀ w,W w->w.ts[d]?=some (k,b)->mxNode 1 (w.ts.take (d+1))=mxNode 1 (r.ts.take (d+1)):=λw hw ht=>by
   rw [hrn,mxNode_take ht,<-F.path w (.inr hw) d _ ht]
  have hdown:∀ w,W w->d+1<=w.ts.length->mxNode 1 (w.ts.take (d+1))=mxNode 1 (r.ts.take (d+1))->w.ts[d]?=some (k,b)/\mxNode 1 (w.ts.take d)=mxNode 1 (r.ts.take d):=λw hw hl e=>by
   obtain⟨⟨k',b'⟩,ht⟩:∃ t,w.ts[d]?=some t:=⟨_,List.getElem?_eq_getElem (by omega)⟩
   rw [hrn,mxNode_take ht,<-F.path w (.inr hw) d _ ht] at e
   have e':2*k'+b'.toNat=2*k+b.toNat:=e
   have hh:k'=k/\b'=b:=by
    cases b<;>cases b'<;>simp at e' ⊢<;>omega
   obtain⟨rfl,rfl⟩:=hh
   exact⟨ht,by rw [<-hk,<-F.path w (.inr hw) d _ ht]⟩
  have hpos:0<2^j:=Nat.two_pow_pos j
  cases b with
  | false=>
   have hrb:r.v / 2^j % 2=0:=by
    have:¬ r.v / 2^j % 2=1:=of_decide_eq_false hbit.symm
    omega
   have hrv:r.v % 2^(j+1)=r.v % 2^j:=by rw [bit_mod,hrb];simp
   rw [hrv]
   have hrh:S k≠0->(mxK S r d).headD 0<2*S k:=λh0=>by
    rw [mxK_step hb,step_left h0];exact fL_head (left_ne F (.inl hr) hb h0).1
   constructor
   ·intro w hw hl hn he hlt
    rcases Nat.lt_or_ge d w.ts.length with h1|h1
    ·obtain⟨⟨k',b'⟩,ht⟩:∃ t,w.ts[d]?=some t:=⟨_,List.getElem?_eq_getElem h1⟩
     obtain rfl:k'=k:=hwk w hw hn _ ht
     have hwb:=hwbit w hw _ ht
     cases b' with
     | true=>
      have h0:S k'≠0:=he d _ (Nat.le_refl _) ht rfl
      have h2:2*S k'<=(mxK S w d).headD 0:=by rw [mxK_step ht,step_right h0];exact gR_head
      have h3:=hrh h0
      rw [keyLt_head (mxK_ne _ _) (mxK_ne _ _) (by omega)] at hlt;cases hlt
     | false=>
      have hwb0:w.v / 2^j % 2=0:=by
       have:¬ w.v / 2^j % 2=1:=of_decide_eq_false hwb.symm
       omega
      have hwv:w.v % 2^(j+1)=w.v % 2^j:=by rw [bit_mod,hwb0];simp
      rw [hwv]
      refine ih1 w hw (by omega) (hup w hw ht) (λd' t hd'=>he d' t (by omega)) ?_
      rw [mxK_step ht,mxK_step hb] at hlt
      by_cases h0:S k'=0
      ·rw [step_none h0,step_none h0] at hlt;exact hlt
      ·rw [step_left h0,step_left h0,fL_lt (mxK_ne _ _) (mxK_ne _ _) (left_ne F (.inl hr) hb h0).1 (left_ne F (.inl hr) hb h0).2 (left_ne F (.inr hw) ht h0).1 (left_ne F (.inr hw) ht h0).2] at hlt
       exact hlt
    ·have e1:w.ts.length=d:=by omega
     obtain⟨s1,s2,s3⟩:=F.stop w hw (by omega)
     have e2:mxNode 1 w.ts=k:=by rw [hk,<-hn,List.take_of_length_le h1]
     rw [e2] at s2 s3
     have h3:=hrh s2
     rw [keyLt_head (mxK_ne _ _) (mxK_ne _ _) (by rw [mxK_end h1,List.headD_cons];omega)] at hlt;cases hlt
   ·rcases ih2 with h|⟨w,hw,hl,hn,he,hlt,hv⟩
    ·exact .inl h
    ·obtain⟨ht,hn'⟩:=hdown w hw hl hn
     have hwb:=hwbit w hw _ ht
     have hwb0:w.v / 2^j % 2=0:=by
      have:¬ w.v / 2^j % 2=1:=of_decide_eq_false hwb.symm
      omega
     refine .inr ⟨w,hw,by omega,hn',λd' t hd' htt hb'=>?_,?_,by rw [bit_mod,hwb0];simpa using hv⟩
     ·rcases Nat.lt_or_ge d d' with h9|h9
      ·exact he d' t h9 htt hb'
      ·obtain rfl:d'=d:=by omega
       rw [ht] at htt;cases htt;cases hb'
     ·rw [mxK_step ht,mxK_step hb]
      by_cases h0:S k=0
      ·rw [step_none h0,step_none h0];exact hlt
      ·rw [step_left h0,step_left h0,fL_lt (mxK_ne _ _) (mxK_ne _ _) (left_ne F (.inr hw) ht h0).1 (left_ne F (.inr hw) ht h0).2 (left_ne F (.inl hr) hb h0).1 (left_ne F (.inl hr) hb h0).2]
       exact hlt
  | true=>
   have hrb:r.v / 2^j % 2=1:=of_decide_eq_true hbit.symm
   have hrv:r.v % 2^(j+1)=r.v % 2^j+2^j:=by rw [bit_mod,hrb,Nat.mul_one]
   rw [hrv]
   obtain⟨h0,hlast,hlater⟩:=F.rr r hr d _ hb rfl
   have h0':S k≠0:=h0
   have hkey:∀ w,w.ts[d]?=some (k,true)->keyLt (mxK S w d) (mxK S r d)=keyLt (mxK S w (d+1)) (mxK S r (d+1)):=λw ht=>by
    rw [mxK_step ht,mxK_step hb,step_right h0',step_right h0',gR_lt (mxK_ne _ _) (mxK_ne _ _)]
   have hkey2:∀ w,w.ts[d]?=some (k,true)->keyLt (mxK S r d) (mxK S w d)=keyLt (mxK S r (d+1)) (mxK S w (d+1)):=λw ht=>by
    rw [mxK_step ht,mxK_step hb,step_right h0',step_right h0',gR_lt (mxK_ne _ _) (mxK_ne _ _)]
   constructor
   ·intro w hw hl hn he hlt
    rcases Nat.lt_or_ge d w.ts.length with h1|h1
    ·obtain⟨⟨k',b'⟩,ht⟩:∃ t,w.ts[d]?=some t:=⟨_,List.getElem?_eq_getElem h1⟩
     obtain rfl:k'=k:=hwk w hw hn _ ht
     have hwb:=hwbit w hw _ ht
     cases b' with
     | false=>
      have hwb0:w.v / 2^j % 2=0:=by
       have:¬ w.v / 2^j % 2=1:=of_decide_eq_false hwb.symm
       omega
      have hwv:w.v % 2^(j+1)=w.v % 2^j:=by rw [bit_mod,hwb0];simp
      have:=Nat.mod_lt w.v hpos
      omega
     | true=>
      have hwb1:w.v / 2^j % 2=1:=of_decide_eq_true hwb.symm
      have hwv:w.v % 2^(j+1)=w.v % 2^j+2^j:=by rw [bit_mod,hwb1,Nat.mul_one]
      rw [hkey2 w ht] at hlt
      have:=ih1 w hw (by omega) (hup w hw ht) (λd' t hd'=>he d' t (by omega)) hlt
      omega
    ·have e1:w.ts.length=d:=by omega
     obtain⟨s1,_,_⟩:=F.stop w hw (by omega)
     rw [show m - w.ts.length - 1=j by omega] at s1
     have hwv:w.v % 2^(j+1)=w.v % 2^j:=by rw [bit_mod,s1];simp
     have:=Nat.mod_lt w.v hpos
     omega
   ·right
    have hset:∃ w,W w/\w.ts[d]?=some (k,true)/\mxNode 1 (w.ts.take d)=mxNode 1 (r.ts.take d)/\Eff S w (d+1)/\keyLt (mxK S w (d+1)) (mxK S r (d+1))=true:=by
     obtain⟨w,d1,hw,ht,hl,hs⟩:=F.set k (by rw [hk];exact mxNode_pos _) h0'
     have hp:=F.path w (.inr hw) d1 _ ht
     have e1:mxNode 1 (w.ts.take d1)=mxNode 1 (r.ts.take d):=by rw [<-hk];exact hp.symm
     have e2:=mxNode_depth e1
     rw [List.length_take,List.length_take] at e2
     have h7:=mx_lt ht
     have h8:d1=d:=by omega
     subst h8
     refine⟨w,hw,ht,e1,λd' t hd' htt hb'=>(hs d' t (by omega) htt hb').1,keyLt_head (mxK_ne _ _) (mxK_ne _ _) ?_⟩
     have a1:(mxK S w (d1+1)).headD 0<=2*S k:=key_le hl λt ht' hb'=>by
      obtain⟨d',hd',htt⟩:=mem_drop ht'
      exact(hs d' t (by omega) htt hb').2
     have a2:2*S k<(mxK S r (d1+1)).headD 0:=key_gt hlast λt ht' hb' h00=>by
      obtain⟨d',hd',htt⟩:=mem_drop ht'
      exact hlater d' t (by omega) htt hb' h00
     omega
    have hfin:∃ w,W w/\d+1<=w.ts.length/\w.ts[d]?=some (k,true)/\mxNode 1 (w.ts.take d)=mxNode 1 (r.ts.take d)/\Eff S w (d+1)/\keyLt (mxK S w (d+1)) (mxK S r (d+1))=true/\w.v % 2^j=r.v % 2^j:=by
     rcases ih2 with h|⟨w,hw,hl,hn,he,hlt,hv⟩
     ·obtain⟨w,hw,ht,hn,he,hlt⟩:=hset
      have:=ih1 w hw (mx_lt ht) (hup w hw ht) he (keyLt_asymm hlt)
      exact⟨w,hw,mx_lt ht,ht,hn,he,hlt,by omega⟩
     ·obtain⟨ht,hn'⟩:=hdown w hw hl hn
      exact⟨w,hw,hl,ht,hn',he,hlt,hv⟩
    obtain⟨w,hw,hl,ht,hn,he,hlt,hv⟩:=hfin
    have hwb1:w.v / 2^j % 2=1:=of_decide_eq_true (hwbit w hw _ ht).symm
    refine⟨w,hw,by omega,hn,λd' t hd' htt hb'=>?_,?_,by rw [bit_mod,hwb1,Nat.mul_one,hv]⟩
    ·rcases Nat.lt_or_ge d d' with h9|h9
     ·exact he d' t h9 htt hb'
     ·obtain rfl:d'=d:=by omega
      rw [ht] at htt;cases htt;exact h0'
    ·rw [hkey w ht];exact hlt
theorem mx_read (F:MxFact S m R W) {r:MxOp} (hr:R r) (hv:r.v<2^m) (hwv:∀ w,W w->w.v<2^m) :
  (∀ w,W w->Eff S w 0->keyLt (mxKey S r.ts r.last) (mxKey S w.ts w.last)=false->w.v<=r.v)/\
  (r.v=0∨∃ w,W w/\Eff S w 0/\keyLt (mxKey S w.ts w.last) (mxKey S r.ts r.last)=true/\w.v=r.v):=by
 obtain⟨h1,h2⟩:=mx_main F m 0 (by omega) r hr
 rw [Nat.mod_eq_of_lt hv] at h1 h2
 constructor
 ·intro w hw he hlt
  have:=h1 w hw (Nat.zero_le _) (by simp) he hlt
  rw [Nat.mod_eq_of_lt (hwv w hw)] at this;exact this
 ·rcases h2 with h|⟨w,hw,_,_,he,hlt,h⟩
  ·exact .inl h
  ·rw [Nat.mod_eq_of_lt (hwv w hw)] at h
   exact .inr ⟨w,hw,he,hlt,h⟩
end
end Go.Proofs.Ytlanekkbciffcaa
