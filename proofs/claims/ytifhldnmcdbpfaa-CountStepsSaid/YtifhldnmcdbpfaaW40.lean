/- Layer 11: the steps of one that counts, in plain numbers. -/
import Derived.Test.YtifhldnmcdbpfaaW30
import Derived.Test.YtifhldnmcdbpfaaW39
import Derived.Test.YtifhldnmcdbpfaaW19
set_option maxRecDepth 100000
set_option linter.unusedVariables false
set_option linter.unusedSimpArgs false
set_option linter.unnecessarySimpa false
namespace Go.Proofs.Ytifhldnmcdbpfaa
section
open Go.RowKit
def lev (v:Nat):Nat:=if v<2 then 0 else if v<4 then 1 else if v<8 then 2 else if v<16 then 3 else 4
theorem yZ {v:Nat} (h:2<=v) (h2:v<32):lev (v / 2)+1=lev v:=by
 have:∀ v,v<32->2<=v->lev (v / 2)+1=lev v:=by decide
 exact this v h2 h
def dH (l:LkD):Nat:=if l.kind=0 then l.x.y.left else if l.kind=1 then 1 else 0
theorem lQ {n m:Nat} (hm:0<m) (v:Nat):dH (dR n m v)<=m:=by
 unfold dH
 split
 ·exact Nat.le_refl m
 ·split
  ·omega
  ·exact Nat.zero_le _
theorem sN {n m p lo:Nat} {wd:WD} {g:Gh} {l:LkD} (hl:qK n m g lo l) (hk:l.kind≠2):((aI n m p wd l).2.2=false->dH (aI n m p wd l).2.1+1<=dH l)/\1<=dH l:=by
 rcases hl with⟨a,b,c,d,e,f⟩|⟨a,b,c,d⟩|⟨a,_⟩
 ·have h1:dH l=l.x.y.left:=if_pos a
  refine⟨λhd=>?_,by omega⟩
  have hr:=OZ (b:=aG n m l.v) (p:=p) (wd:=wd) f
  have hst:aI n m p wd l=if (rdStep (aG n m l.v) p wd l.x).2.2=true then ((rdStep (aG n m l.v) p wd l.x).1,{ l with x:=(rdStep (aG n m l.v) p wd l.x).2.1,val:=(rdStep (aG n m l.v) p wd l.x).2.1.val },true) else ((rdStep (aG n m l.v) p wd l.x).1,{ l with x:=(rdStep (aG n m l.v) p wd l.x).2.1 },false):=if_neg (by omega)
  rw [hst] at hd ⊢
  cases hr2:(rdStep (aG n m l.v) p wd l.x).2.2 with
  | true=>rw [hr2,if_pos rfl] at hd;cases hd
  | false=>
   rw [if_neg Bool.false_ne_true,h1]
   have e2:dH { l with x:=(rdStep (aG n m l.v) p wd l.x).2.1 }=(rdStep (aG n m l.v) p wd l.x).2.1.y.left:=if_pos a
   show dH { l with x:=(rdStep (aG n m l.v) p wd l.x).2.1 }+1<=_
   rw [e2];exact hr
 ·have h1:dH l=1:=(if_neg (by omega)).trans (if_pos a)
  have hst:aI n m p wd l=(dJ wd (l.v - aJ n),{ l with val:=gF wd (l.v - aJ n) },true):=if_pos a
  refine⟨λhd=>?_,by omega⟩
  rw [hst] at hd;cases hd
 ·exact absurd a hk
def MV (n m:Nat) (g:Gh) (q:Nat) (x:AdD):Prop:=x.pc=1/\x.left.v=2*x.v/\x.right.v=2*x.v+1/\x.right.val=0/\∃ cl cr,qK n m g cl x.left/\qK n m g cr x.right/\g.rk q<=cl+cr
def NA (n m:Nat) (g:Gh) (q:Nat) (x:AdD):Prop:=x.pc=2/\x.right.v=2*x.v+1/\x.left.val<=g.S n (aJ n) (2*x.v)/\∃ cl cr,cl<=x.left.val/\qK n m g cr x.right/\g.rk q<=cl+cr
def QK (n m:Nat) (g:Gh) (now q:Nat) (x:AdD):Prop:=x.pc=3/\xV m now (g.s x.v) x.wr/\g.rk q<=x.wr.v/\x.wr.v<=g.S n (aJ n) x.v
def kV (n m:Nat) (g:Gh) (now q:Nat) (x:AdD):Prop:=1<=x.v/\x.v<aJ n/\((MV n m g q x/\x.left.kind≠2)∨(NA n m g q x/\x.right.kind≠2)∨QK n m g now q x)
theorem kV.mono {n m now now' q:Nat} {g g':Gh} {x:AdD} (h:kV n m g now q x) (hg:g.Le g') (hr:g'.rk q=g.rk q) (hn:now<=now'):kV n m g' now' q x:=by
 obtain⟨h1,h2,h3⟩:=h
 refine⟨h1,h2,?_⟩
 rcases h3 with⟨⟨a,b,c,d,cl,cr,e,f,k⟩,l⟩|⟨⟨a,b,c,cl,cr,e,f,k⟩,l⟩|⟨a,b,c,d⟩
 ·exact .inl ⟨⟨a,b,c,d,cl,cr,e.mono hg,f.mono hg,by rw [hr];exact k⟩,l⟩
 ·exact .inr (.inl ⟨⟨a,b,Nat.le_trans c (hg.S ..),cl,cr,e,f.mono hg,by rw [hr];exact k⟩,l⟩)
 ·exact .inr (.inr ⟨a,b.mono (hg.s _) hn,by rw [hr];exact c,Nat.le_trans d (hg.S ..)⟩)
def eD (m:Nat) (x:AdD):Nat:=(if x.pc=1 then dH x.left+dH x.right+m else if x.pc=2 then dH x.right+m else gL (.wr x.wr))+lev x.v*(3*m)
theorem BZ (m v:Nat):(dB m v).v=v:=by
 unfold dB WrD.down
 split<;>rfl
theorem JJ {n m now q:Nat} {g:Gh} {x:AdD} (hm:0<m) (hn:n<=16) (h:GInv n m g) (h1:1<=x.v) (h2:x.v<aJ n) (hs1:x.left.val<=g.S n (aJ n) (2*x.v)) (hs2:x.right.val<=g.S n (aJ n) (2*x.v+1)) (hr:g.rk q<=x.left.val+x.right.val):kV n m g now q (x.sum m)/\eD m (x.sum m)<=m+lev x.v*(3*m):=by
 have hS:=g.S_split hn h1 h2
 have hl:=h.lt hn x.v
 refine⟨⟨h1,h2,.inr (.inr ⟨rfl,JS hm (by omega) _,?_,?_⟩)⟩,?_⟩
 ·show g.rk q<=(dB m (x.left.val+x.right.val)).v
  rw [BZ];exact hr
 ·show(dB m (x.left.val+x.right.val)).v<=_
  rw [BZ]
  show _<=g.S n (aJ n) x.v
  omega
 ·have:=FE (m:=m) (v:=x.left.val+x.right.val)
  show gL (.wr (dB m (x.left.val+x.right.val)))+lev x.v*(3*m)<=_
  omega
theorem xA {n m now q:Nat} {g:Gh} {x:AdD} (hm:0<m) (hn:n<=16) (h:GInv n m g) (h1:1<=x.v) (h2:x.v<aJ n) (hx:NA n m g q x):kV n m g now q (x.pass2 m)/\eD m (x.pass2 m)<=dH x.right+m+lev x.v*(3*m):=by
 obtain⟨a,b,c,cl,cr,e,f,k⟩:=hx
 unfold AdD.pass2
 split
 ·rename_i h9
  rcases f with⟨z,_⟩|⟨z,_⟩|⟨z1,z2,z3⟩
  ·omega
  ·omega
  ·obtain⟨s1,s2⟩:=JJ (now:=now) (q:=q) hm hn h h1 h2 c (by rw [z3];exact Nat.zero_le _) (by omega)
   exact⟨s1,by omega⟩
 ·rename_i h9
  refine⟨⟨h1,h2,.inr (.inl ⟨⟨a,b,c,cl,cr,e,f,k⟩,λz=>h9 ⟨a,z⟩⟩)⟩,?_⟩
  unfold eD
  rw [if_neg (by omega),if_pos a]
  exact Nat.le_refl _
theorem KU {n m now q:Nat} {g:Gh} {x:AdD} (hm:0<m) (hn:n<=16) (h:GInv n m g) (h1:1<=x.v) (h2:x.v<aJ n) (hx:MV n m g q x):kV n m g now q (x.pass m)/\eD m (x.pass m)<=dH x.left+dH x.right+m+lev x.v*(3*m):=by
 obtain⟨a,b,c,d,cl,cr,e,f,k⟩:=hx
 unfold AdD.pass AdD.pass1
 split
 ·rename_i h9
  have e9:=e
  rcases e with⟨z,_⟩|⟨z,_⟩|⟨z1,z2,z3⟩
  ·omega
  ·omega
  ·obtain⟨s1,s2⟩:=xA (now:=now) (q:=q) (x:={ x with pc:=2 }) hm hn h h1 h2 ⟨rfl,c,by show x.left.val<=_;rw [z3];exact Nat.zero_le _,0,cr,Nat.zero_le _,f,by omega⟩
   refine⟨s1,Nat.le_trans s2 ?_⟩
   show dH x.right+m+lev x.v*(3*m)<=dH x.left+dH x.right+m+lev x.v*(3*m)
   omega
 ·rename_i h9
  have e2:x.pass2 m=x:=if_neg (λz=>by omega)
  rw [e2]
  refine⟨⟨h1,h2,.inl ⟨⟨a,b,c,d,cl,cr,e,f,k⟩,λz=>h9 ⟨a,z⟩⟩⟩,?_⟩
  unfold eD
  rw [if_pos a]
  exact Nat.le_refl _
theorem wO {n m now q v:Nat} {g:Gh} {x:AdD} (hm:0<m) (hn:n<=16) (h:GInv n m g) (h1:1<=v) (h2:v<aJ n) (hr:g.rk q<=g.A n (aJ n) v):kV n m g now q (x.climb n m v)/\eD m (x.climb n m v)<=3*m+lev v*(3*m):=by
 have hA:=h.A_split hn h1 h2
 have e:x.climb n m v=({ x with v:=v,left:=dR n m (2*v),right:=dR n m (2*v+1),pc:=1 }:AdD).pass m:=if_neg (by omega)
 rw [e]
 obtain⟨s1,s2⟩:=KU (now:=now) (q:=q) (x:={ x with v:=v,left:=dR n m (2*v),right:=dR n m (2*v+1),pc:=1 }) hm hn h h1 h2 ⟨rfl,rfl,rfl,rfl,g.F n (aJ n) (2*v),g.F n (aJ n) (2*v+1),sG hm hn h (by omega) (h.low hn (by omega) (by omega)),sG hm hn h (by omega) (h.low hn (by omega) (by omega)),by rw [<-hA];exact hr⟩
 refine⟨s1,Nat.le_trans s2 ?_⟩
 have a1:=lQ (n:=n) hm (2*v)
 have a2:=lQ (n:=n) hm (2*v+1)
 show dH (dR n m (2*v))+dH (dR n m (2*v+1))+m+lev v*(3*m)<=_
 omega
structure RX (n m:Nat) (o:List Nat) (wd:WD) (q:Nat) (x:AdD) (w M rk:Nat->Nat) (ws:List Nat) (o':List Nat) (x':AdD) (dn:Bool) (M' rk':Nat->Nat):Prop where
 len:ws.length=wd.mem.ws.length
 leaf:∀ t,t<n->ws.getD t 0=wd.mem.ws.getD t 0
 le:(dS n m wd.mem.ws w M rk).Le (dS n m ws (bQ w q (if dn=true then 0 else x'.v)) M' rk')
 inv:GInv n m (dS n m ws (bQ w q (if dn=true then 0 else x'.v)) M' rk')
 rk:∀ p,p≠q->rk' p=rk p
 M:∀ v,M v<=M' v
 own:o'=if dn=true then o.set q (o.getD q 0+1) else o
 go:dn=false->kV n m (dS n m ws (bQ w q x'.v) M' rk') wd.now q x'/\eD m x'+1<=eD m x
 fin:1<=eD m x
theorem qZ {f:Nat->Nat} {q x:Nat} (h:f q=x):bQ f q x=f:=by
 funext t
 unfold bQ
 split
 ·rename_i e;rw [e,h]
 ·rfl
theorem MI {f:Nat->Nat} {q x p:Nat} (h:p≠q):bQ f q x p=f p:=if_neg h
theorem QX {n m q:Nat} {o:List Nat} {wd:WD} {x:AdD} {w M rk:Nat->Nat} (hm:0<m) (hn:n<=16) (hq:q<n) (hlen:wd.mem.ws.length=n+(aJ n - 1)*(2^m - 1)) (h:GInv n m (dS n m wd.mem.ws w M rk)) (hw:w q=x.v) (hx:kV n m (dS n m wd.mem.ws w M rk) wd.now q x) :
  ∃ M' rk',RX n m o wd q x w M rk (dU n m o wd q x).2.1.mem.ws (dU n m o wd q x).1 (dU n m o wd q x).2.2.1 (dU n m o wd q x).2.2.2 M' rk':=by
 obtain⟨h1,h2,h3⟩:=hx
 have hwid:bQ w q x.v=w:=qZ hw
 rcases h3 with⟨⟨a,b,c,d,cl,cr,e,f,k⟩,l⟩|⟨⟨a,b,c,cl,cr,e,f,k⟩,l⟩|⟨a,b,c,d⟩
 ·rw [xW a]
  obtain⟨t1,t2,t3,t4⟩:=xK (p:=q) hn hlen h e l
  obtain⟨r1,r2⟩:=sN (p:=q) (wd:=wd) e l
  have hR:eD m x=dH x.left+dH x.right+m+lev x.v*(3*m):=by unfold eD;rw [if_pos a]
  refine⟨M,rk,?_⟩
  cases hd:(aI n m q wd x.left).2.2 with
  | true=>
   rw [if_pos rfl]
   obtain⟨u1,u2,u3⟩:=t4 hd
   rw [t2,b] at u2
   have hp:=xA (now:=wd.now) (q:=q) (x:={ x with left:=(aI n m q wd x.left).2.1,pc:=2 }) hm hn h h1 h2 ⟨rfl,c,u2,cl,cr,u1,f,k⟩
   have ep:({ x with left:=(aI n m q wd x.left).2.1,pc:=2 }:AdD).pass m=({ x with left:=(aI n m q wd x.left).2.1,pc:=2 }:AdD).pass2 m:=by
    unfold AdD.pass AdD.pass1
    rw [if_neg (λz=>by have z:=z.1;exact absurd z (by show ¬ 2=1;decide))]
   have ev:(({ x with left:=(aI n m q wd x.left).2.1,pc:=2 }:AdD).pass m).v=x.v:=by
    rw [ep];unfold AdD.pass2;split<;>rfl
   refine⟨by show(aI n m q wd x.left).1.mem.ws.length=_;rw [t1],λt _=>by show(aI n m q wd x.left).1.mem.ws.getD t 0=_;rw [t1],?_,?_,λ_ _=>rfl,λ_=>Nat.le_refl _,rfl,λ_=>?_,by rw [hR];omega⟩
   ·show Gh.Le _ (dS n m (aI n m q wd x.left).1.mem.ws (bQ w q (({ x with left:=(aI n m q wd x.left).2.1,pc:=2 }:AdD).pass m).v) M rk)
    rw [t1,ev,hwid];exact Gh.Le.refl _
   ·show GInv n m (dS n m (aI n m q wd x.left).1.mem.ws (bQ w q (({ x with left:=(aI n m q wd x.left).2.1,pc:=2 }:AdD).pass m).v) M rk)
    rw [t1,ev,hwid];exact h
   ·show kV n m (dS n m (aI n m q wd x.left).1.mem.ws (bQ w q (({ x with left:=(aI n m q wd x.left).2.1,pc:=2 }:AdD).pass m).v) M rk) wd.now q (({ x with left:=(aI n m q wd x.left).2.1,pc:=2 }:AdD).pass m)/\eD m (({ x with left:=(aI n m q wd x.left).2.1,pc:=2 }:AdD).pass m)+1<=_
    rw [t1,ev,hwid,ep,hR]
    refine⟨hp.1,?_⟩
    have:=hp.2
    show _<=dH x.left+dH x.right+m+lev x.v*(3*m)
    have e3:dH ({ x with left:=(aI n m q wd x.left).2.1,pc:=2 }:AdD).right+m+lev ({ x with left:=(aI n m q wd x.left).2.1,pc:=2 }:AdD).v*(3*m)=dH x.right+m+lev x.v*(3*m):=rfl
    omega
  | false=>
   rw [if_neg Bool.false_ne_true]
   obtain⟨u1,u2⟩:=t3 hd
   refine⟨by show(aI n m q wd x.left).1.mem.ws.length=_;rw [t1],λt _=>by show(aI n m q wd x.left).1.mem.ws.getD t 0=_;rw [t1],?_,?_,λ_ _=>rfl,λ_=>Nat.le_refl _,rfl,λ_=>?_,by rw [hR];omega⟩
   ·show Gh.Le _ (dS n m (aI n m q wd x.left).1.mem.ws (bQ w q x.v) M rk)
    rw [t1,hwid];exact Gh.Le.refl _
   ·show GInv n m (dS n m (aI n m q wd x.left).1.mem.ws (bQ w q x.v) M rk)
    rw [t1,hwid];exact h
   ·show kV n m (dS n m (aI n m q wd x.left).1.mem.ws (bQ w q x.v) M rk) wd.now q { x with left:=(aI n m q wd x.left).2.1 }/\eD m { x with left:=(aI n m q wd x.left).2.1 }+1<=_
    rw [t1,hwid,hR]
    refine⟨⟨h1,h2,.inl ⟨⟨a,by show(aI n m q wd x.left).2.1.v=_;rw [t2];exact b,c,d,cl,cr,u1,f,k⟩,by show(aI n m q wd x.left).2.1.kind≠2;rw [u2];exact l⟩⟩,?_⟩
    have e3:eD m { x with left:=(aI n m q wd x.left).2.1 }=dH (aI n m q wd x.left).2.1+dH x.right+m+lev x.v*(3*m):=by
     unfold eD
     rw [if_pos (show({ x with left:=(aI n m q wd x.left).2.1 }:AdD).pc=1 from a)]
    rw [e3]
    have:=r1 hd
    omega
 ·rw [yS a]
  obtain⟨t1,t2,t3,t4⟩:=xK (p:=q) hn hlen h f l
  obtain⟨r1,r2⟩:=sN (p:=q) (wd:=wd) f l
  have hR:eD m x=dH x.right+m+lev x.v*(3*m):=by unfold eD;rw [if_neg (by omega),if_pos a]
  refine⟨M,rk,?_⟩
  cases hd:(aI n m q wd x.right).2.2 with
  | true=>
   rw [if_pos rfl]
   obtain⟨u1,u2,u3⟩:=t4 hd
   rw [t2,b] at u2
   have hp:=JJ (now:=wd.now) (q:=q) (x:={ x with right:=(aI n m q wd x.right).2.1 }) hm hn h h1 h2 c u2 (by show _<=x.left.val+(aI n m q wd x.right).2.1.val;omega)
   have ev:(({ x with right:=(aI n m q wd x.right).2.1 }:AdD).sum m).v=x.v:=rfl
   refine⟨by show(aI n m q wd x.right).1.mem.ws.length=_;rw [t1],λt _=>by show(aI n m q wd x.right).1.mem.ws.getD t 0=_;rw [t1],?_,?_,λ_ _=>rfl,λ_=>Nat.le_refl _,rfl,λ_=>?_,by rw [hR];omega⟩
   ·show Gh.Le _ (dS n m (aI n m q wd x.right).1.mem.ws (bQ w q x.v) M rk)
    rw [t1,hwid];exact Gh.Le.refl _
   ·show GInv n m (dS n m (aI n m q wd x.right).1.mem.ws (bQ w q x.v) M rk)
    rw [t1,hwid];exact h
   ·show kV n m (dS n m (aI n m q wd x.right).1.mem.ws (bQ w q x.v) M rk) wd.now q (({ x with right:=(aI n m q wd x.right).2.1 }:AdD).sum m)/\eD m (({ x with right:=(aI n m q wd x.right).2.1 }:AdD).sum m)+1<=_
    rw [t1,hwid,hR]
    refine⟨hp.1,?_⟩
    have:=hp.2
    have e3:lev ({ x with right:=(aI n m q wd x.right).2.1 }:AdD).v*(3*m)=lev x.v*(3*m):=rfl
    omega
  | false=>
   rw [if_neg Bool.false_ne_true]
   obtain⟨u1,u2⟩:=t3 hd
   refine⟨by show(aI n m q wd x.right).1.mem.ws.length=_;rw [t1],λt _=>by show(aI n m q wd x.right).1.mem.ws.getD t 0=_;rw [t1],?_,?_,λ_ _=>rfl,λ_=>Nat.le_refl _,rfl,λ_=>?_,by rw [hR];omega⟩
   ·show Gh.Le _ (dS n m (aI n m q wd x.right).1.mem.ws (bQ w q x.v) M rk)
    rw [t1,hwid];exact Gh.Le.refl _
   ·show GInv n m (dS n m (aI n m q wd x.right).1.mem.ws (bQ w q x.v) M rk)
    rw [t1,hwid];exact h
   ·show kV n m (dS n m (aI n m q wd x.right).1.mem.ws (bQ w q x.v) M rk) wd.now q { x with right:=(aI n m q wd x.right).2.1 }/\eD m { x with right:=(aI n m q wd x.right).2.1 }+1<=_
    rw [t1,hwid,hR]
    refine⟨⟨h1,h2,.inr (.inl ⟨⟨a,by show(aI n m q wd x.right).2.1.v=_;rw [t2];exact b,c,cl,cr,e,u1,k⟩,by show(aI n m q wd x.right).2.1.kind≠2;rw [u2];exact l⟩)⟩,?_⟩
    have e3:eD m { x with right:=(aI n m q wd x.right).2.1 }=dH (aI n m q wd x.right).2.1+m+lev x.v*(3*m):=by
     unfold eD
     rw [if_neg (show ¬ ({ x with right:=(aI n m q wd x.right).2.1 }:AdD).pc=1 from by show ¬ x.pc=1;omega),if_pos (show({ x with right:=(aI n m q wd x.right).2.1 }:AdD).pc=2 from a)]
    rw [e3]
    have:=r1 hd
    omega
 ·obtain⟨t1,t2,t3,t4,t5,t6,t7⟩:=RG (p:=q) h1 h2 hlen h b d
  have hR:eD m x=gL (.wr x.wr)+lev x.v*(3*m):=by unfold eD;rw [if_neg (by omega),if_neg (by omega)]
  have hrem:gL (.wr (aO (aG n m x.v) q wd x.wr).2.1)+1<=gL (.wr x.wr):=by
   rw [AA]
   exact JG b.2.2.1 (λhu=>(b.1.up hu).2 (by have h9:=b.2.2.1;rw [if_pos hu] at h9;omega)) b.2.1.up
  cases hd:(aO (aG n m x.v) q wd x.wr).2.2 with
  | false=>
   rw [uN a hd]
   refine⟨M,rk,t1,t2,?_,?_,λ_ _=>rfl,λ_=>Nat.le_refl _,rfl,λ_=>?_,by rw [hR];omega⟩
   ·show Gh.Le _ (dS n m (aO (aG n m x.v) q wd x.wr).1.mem.ws (bQ w q x.v) M rk)
    rw [hwid];exact t3
   ·show GInv n m (dS n m (aO (aG n m x.v) q wd x.wr).1.mem.ws (bQ w q x.v) M rk)
    rw [hwid];exact t4
   ·show kV n m (dS n m (aO (aG n m x.v) q wd x.wr).1.mem.ws (bQ w q x.v) M rk) wd.now q { x with wr:=(aO (aG n m x.v) q wd x.wr).2.1 }/\eD m { x with wr:=(aO (aG n m x.v) q wd x.wr).2.1 }+1<=_
    rw [hwid,hR]
    have e3:eD m { x with wr:=(aO (aG n m x.v) q wd x.wr).2.1 }=gL (.wr (aO (aG n m x.v) q wd x.wr).2.1)+lev x.v*(3*m):=by
     unfold eD
     rw [if_neg (show ¬ ({ x with wr:=(aO (aG n m x.v) q wd x.wr).2.1 }:AdD).pc=1 from by show ¬ x.pc=1;omega),if_neg (show ¬ ({ x with wr:=(aO (aG n m x.v) q wd x.wr).2.1 }:AdD).pc=2 from by show ¬ x.pc=2;omega)]
    refine⟨⟨h1,h2,.inr (.inr ⟨a,t6 hd,?_,?_⟩)⟩,by rw [e3];omega⟩
    ·show _<=(aO (aG n m x.v) q wd x.wr).2.1.v
     rw [t5];exact c
    ·show(aO (aG n m x.v) q wd x.wr).2.1.v<=_
     rw [t5]
     exact Nat.le_trans d (t3.S ..)
  | true=>
   rw [uH a hd]
   obtain⟨ws,hws⟩:∃ ws,ws=(aO (aG n m x.v) q wd x.wr).1.mem.ws:=⟨_,rfl⟩
   rw [<-hws] at t1 t2 t3 t4 t7
   have g1:=t4.raise x.v x.wr.v (λ_ _=>⟨t7 hd,Nat.le_trans d (t3.S ..)⟩)
   have hwq:w q=x.v:=hw
   obtain⟨r',hr'⟩:∃ r',r'=Gh.A n (aJ n) ⟨ghA n ws,bQ w q (x.v / 2),bQ M x.v (max (M x.v) x.wr.v),rk,ghS n m ws⟩ (x.v / 2):=⟨_,rfl⟩
   have g2:=GInv.climb hn g1 hq hwq h1 (show rk q<=bQ M x.v (max (M x.v) x.wr.v) x.v from by rw [bG];exact Nat.le_trans c (Nat.le_max_right _ _)) _ rfl r' hr'
   have ev:∀ y:AdD,(y.climb n m (x.v / 2)).v=x.v / 2:=λy=>by
    unfold AdD.climb
    split
    ·rfl
    ·unfold AdD.pass AdD.pass1 AdD.pass2
     split<;>split<;>rfl
   have hMle:∀ v,M v<=bQ M x.v (max (M x.v) x.wr.v) v:=λv=>by
    by_cases e9:v=x.v
    ·rw [e9,bG];exact Nat.le_max_left _ _
    ·rw [dD e9];exact Nat.le_refl _
   have hwv:(if (decide (x.v / 2<1)=true) then 0 else (({ x with wr:=(aO (aG n m x.v) q wd x.wr).2.1 }:AdD).climb n m (x.v / 2)).v)=x.v / 2:=by
    rw [ev]
    split
    ·rename_i h9
     have:=of_decide_eq_true h9;omega
    ·rfl
   refine⟨bQ M x.v (max (M x.v) x.wr.v),bQ rk q r',by rw [<-t1,hws],?_,?_,?_,λp hp=>MI hp,hMle,?_,λhd2=>?_,by rw [hR];omega⟩
   ·rw [<-hws];exact t2
   ·rw [<-hws]
    exact⟨t3.a,t3.s⟩
   ·rw [<-hws]
    simp only [hwv]
    exact g2
   ·show fJ o q (x.v / 2)=_
    unfold fJ
    by_cases h9:x.v / 2<1
    ·rw [if_pos h9,if_pos (decide_eq_true h9)]
    ·rw [if_neg h9,if_neg (by simpa using h9)]
   ·have h9:1<=x.v / 2:=by
     have:=of_decide_eq_false hd2;omega
    rw [<-hws,ev]
    obtain⟨z1,z2⟩:=wO (now:=wd.now) (q:=q) (x:={ x with wr:=(aO (aG n m x.v) q wd x.wr).2.1 }) hm hn g2 h9 (by omega) (by
     show bQ rk q r' q<=_
     rw [bG,hr']
     exact Nat.le_refl _)
    refine⟨z1,?_⟩
    have hl:=yZ (v:=x.v) (by omega) (by have:=(bL hn).2.2;omega)
    rw [<-hl,Nat.add_mul,Nat.one_mul] at hR
    show eD m (({ x with wr:=(aO (aG n m x.v) q wd x.wr).2.1 }:AdD).climb n m (x.v / 2))+1<=eD m x
    omega
end
section
open Go.RowKit
def bD (calls:List aF) (iv:Nat) (y:EvD):Bool:=decide (y.ans.err=0) && decide ((calls.getD y.call d0).obj=0) && decide ((calls.getD y.call d0).kind=0) && decide (y.resp≠0) && decide (y.resp<iv)
def bB (calls:List aF) (rs:Nat) (y:EvD):Bool:=decide (y.ans.err=0) && decide ((calls.getD y.call d0).obj=0) && decide ((calls.getD y.call d0).kind=0) && decide (y.inv<rs)
structure LX (calls:List aF) (evs:List EvD):Prop where
 call:∀ i,i<evs.length->(aD evs i).call<calls.length
 reads:∀ i,i<evs.length->(calls.getD (aD evs i).call d0).obj=0->(calls.getD (aD evs i).call d0).kind=1->(aD evs i).resp≠0->(aD evs i).ans.err=0->
  (∀ j,j<evs.length->(aD evs j).ans.err=0->(calls.getD (aD evs j).call d0).obj=0->(calls.getD (aD evs j).call d0).kind=1->(aD evs j).resp≠0->(aD evs j).resp<(aD evs i).inv->(aD evs j).ans.val<=(aD evs i).ans.val)/\
  cnt (bD calls (aD evs i).inv) evs<=(aD evs i).ans.val/\(aD evs i).ans.val<=cnt (bB calls (aD evs i).resp) evs
end
end Go.Proofs.Ytifhldnmcdbpfaa
