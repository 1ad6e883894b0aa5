/- Layer 11: the steps of one that counts, in plain numbers. -/
import Derived.Test.YtifhldnmcdbpfaaV28
import Derived.Test.YtifhldnmcdbpfaaV35
import Derived.Test.YtifhldnmcdbpfaaV17
set_option maxRecDepth 100000
set_option linter.unusedVariables false
set_option linter.unusedSimpArgs false
set_option linter.unnecessarySimpa false
namespace Go.Proofs.Ytifhldnmcdbpfaa
section
open Go.RowKit
def lev (v:Nat):Nat:=if v<2 then 0 else if v<4 then 1 else if v<8 then 2 else if v<16 then 3 else 4
theorem JX {v:Nat} (h:2<=v) (h2:v<32):lev (v / 2)+1=lev v:=by
 have:∀ v,v<32->2<=v->lev (v / 2)+1=lev v:=by decide
 exact this v h2 h
def dF (l:LkD):Nat:=if l.kind=0 then l.x.y.left else if l.kind=1 then 1 else 0
theorem lT {n m:Nat} (hm:0<m) (v:Nat):dF (dS n m v)<=m:=by
 unfold dF
 split
 ·exact Nat.le_refl m
 ·split
  ·omega
  ·exact Nat.zero_le _
theorem tT {n m p lo:Nat} {wd:WD} {g:Gh} {l:LkD} (hl:qQ n m g lo l) (hk:l.kind≠2):((aI n m p wd l).2.2=false->dF (aI n m p wd l).2.1+1<=dF l)/\1<=dF l:=by
 rcases hl with⟨a,b,c,d,e,f⟩|⟨a,b,c,d⟩|⟨a,_⟩
 ·have h1:dF l=l.x.y.left:=if_pos a
  refine⟨λhd=>?_,by omega⟩
  have hr:=OG (b:=aG n m l.v) (p:=p) (wd:=wd) f
  have hst:aI n m p wd l=if (rdStep (aG n m l.v) p wd l.x).2.2=true then ((rdStep (aG n m l.v) p wd l.x).1,{ l with x:=(rdStep (aG n m l.v) p wd l.x).2.1,val:=(rdStep (aG n m l.v) p wd l.x).2.1.val },true) else ((rdStep (aG n m l.v) p wd l.x).1,{ l with x:=(rdStep (aG n m l.v) p wd l.x).2.1 },false):=if_neg (by omega)
  rw [hst] at hd ⊢
  cases hr2:(rdStep (aG n m l.v) p wd l.x).2.2 with
  | true=>rw [hr2,if_pos rfl] at hd;cases hd
  | false=>
   rw [if_neg Bool.false_ne_true,h1]
   have e2:dF { l with x:=(rdStep (aG n m l.v) p wd l.x).2.1 }=(rdStep (aG n m l.v) p wd l.x).2.1.y.left:=if_pos a
   show dF { l with x:=(rdStep (aG n m l.v) p wd l.x).2.1 }+1<=_
   rw [e2];exact hr
 ·have h1:dF l=1:=(if_neg (by omega)).trans (if_pos a)
  have hst:aI n m p wd l=(dI wd (l.v - aK n),{ l with val:=gD wd (l.v - aK n) },true):=if_pos a
  refine⟨λhd=>?_,by omega⟩
  rw [hst] at hd;cases hd
 ·exact absurd a hk
def MO (n m:Nat) (g:Gh) (q:Nat) (x:AdD):Prop:=x.pc=1/\x.left.v=2*x.v/\x.right.v=2*x.v+1/\x.right.val=0/\∃ cl cr,qQ n m g cl x.left/\qQ n m g cr x.right/\g.rk q<=cl+cr
def NC (n m:Nat) (g:Gh) (q:Nat) (x:AdD):Prop:=x.pc=2/\x.right.v=2*x.v+1/\x.left.val<=g.S n (aK n) (2*x.v)/\∃ cl cr,cl<=x.left.val/\qQ n m g cr x.right/\g.rk q<=cl+cr
def QE (n m:Nat) (g:Gh) (now q:Nat) (x:AdD):Prop:=x.pc=3/\xA m now (g.s x.v) x.wr/\g.rk q<=x.wr.v/\x.wr.v<=g.S n (aK n) x.v
def lF (n m:Nat) (g:Gh) (now q:Nat) (x:AdD):Prop:=1<=x.v/\x.v<aK n/\((MO n m g q x/\x.left.kind≠2)∨(NC n m g q x/\x.right.kind≠2)∨QE n m g now q x)
theorem lF.mono {n m now now' q:Nat} {g g':Gh} {x:AdD} (h:lF n m g now q x) (hg:g.Le g') (hr:g'.rk q=g.rk q) (hn:now<=now'):lF n m g' now' q x:=by
 obtain⟨h1,h2,h3⟩:=h
 refine⟨h1,h2,?_⟩
 rcases h3 with⟨⟨a,b,c,d,cl,cr,e,f,k⟩,l⟩|⟨⟨a,b,c,cl,cr,e,f,k⟩,l⟩|⟨a,b,c,d⟩
 ·exact .inl ⟨⟨a,b,c,d,cl,cr,e.mono hg,f.mono hg,by rw [hr];exact k⟩,l⟩
 ·exact .inr (.inl ⟨⟨a,b,Nat.le_trans c (hg.S ..),cl,cr,e,f.mono hg,by rw [hr];exact k⟩,l⟩)
 ·exact .inr (.inr ⟨a,b.mono (hg.s _) hn,by rw [hr];exact c,Nat.le_trans d (hg.S ..)⟩)
def eB (m:Nat) (x:AdD):Nat:=(if x.pc=1 then dF x.left+dF x.right+m else if x.pc=2 then dF x.right+m else gP (.wr x.wr))+lev x.v*(3*m)
theorem BX (m v:Nat):(dB m v).v=v:=by
 unfold dB WrD.down
 split<;>rfl
theorem GY {n m now q:Nat} {g:Gh} {x:AdD} (hm:0<m) (hn:n<=16) (h:GInv n m g) (h1:1<=x.v) (h2:x.v<aK n) (hs1:x.left.val<=g.S n (aK n) (2*x.v)) (hs2:x.right.val<=g.S n (aK n) (2*x.v+1)) (hr:g.rk q<=x.left.val+x.right.val):lF n m g now q (x.sum m)/\eB m (x.sum m)<=m+lev x.v*(3*m):=by
 have hS:=g.S_split hn h1 h2
 have hl:=h.lt hn x.v
 refine⟨⟨h1,h2,.inr (.inr ⟨rfl,FN hm (by omega) _,?_,?_⟩)⟩,?_⟩
 ·show g.rk q<=(dB m (x.left.val+x.right.val)).v
  rw [BX];exact hr
 ·show(dB m (x.left.val+x.right.val)).v<=_
  rw [BX]
  show _<=g.S n (aK n) x.v
  omega
 ·have:=DY (m:=m) (v:=x.left.val+x.right.val)
  show gP (.wr (dB m (x.left.val+x.right.val)))+lev x.v*(3*m)<=_
  omega
theorem yP {n m now q:Nat} {g:Gh} {x:AdD} (hm:0<m) (hn:n<=16) (h:GInv n m g) (h1:1<=x.v) (h2:x.v<aK n) (hx:NC n m g q x):lF n m g now q (x.pass2 m)/\eB m (x.pass2 m)<=dF x.right+m+lev x.v*(3*m):=by
 obtain⟨a,b,c,cl,cr,e,f,k⟩:=hx
 unfold AdD.pass2
 split
 ·rename_i h9
  rcases f with⟨z,_⟩|⟨z,_⟩|⟨z1,z2,z3⟩
  ·omega
  ·omega
  ·obtain⟨s1,s2⟩:=GY (now:=now) (q:=q) hm hn h h1 h2 c (by rw [z3];exact Nat.zero_le _) (by omega)
   exact⟨s1,by omega⟩
 ·rename_i h9
  refine⟨⟨h1,h2,.inr (.inl ⟨⟨a,b,c,cl,cr,e,f,k⟩,λz=>h9 ⟨a,z⟩⟩)⟩,?_⟩
  unfold eB
  rw [if_neg (by omega),if_pos a]
  exact Nat.le_refl _
theorem KT {n m now q:Nat} {g:Gh} {x:AdD} (hm:0<m) (hn:n<=16) (h:GInv n m g) (h1:1<=x.v) (h2:x.v<aK n) (hx:MO n m g q x):lF n m g now q (x.pass m)/\eB m (x.pass m)<=dF x.left+dF x.right+m+lev x.v*(3*m):=by
 obtain⟨a,b,c,d,cl,cr,e,f,k⟩:=hx
 unfold AdD.pass AdD.pass1
 split
 ·rename_i h9
  have e9:=e
  rcases e with⟨z,_⟩|⟨z,_⟩|⟨z1,z2,z3⟩
  ·omega
  ·omega
  ·obtain⟨s1,s2⟩:=yP (now:=now) (q:=q) (x:={ x with pc:=2 }) hm hn h h1 h2 ⟨rfl,c,by show x.left.val<=_;rw [z3];exact Nat.zero_le _,0,cr,Nat.zero_le _,f,by omega⟩
   refine⟨s1,Nat.le_trans s2 ?_⟩
   show dF x.right+m+lev x.v*(3*m)<=dF x.left+dF x.right+m+lev x.v*(3*m)
   omega
 ·rename_i h9
  have e2:x.pass2 m=x:=if_neg (λz=>by omega)
  rw [e2]
  refine⟨⟨h1,h2,.inl ⟨⟨a,b,c,d,cl,cr,e,f,k⟩,λz=>h9 ⟨a,z⟩⟩⟩,?_⟩
  unfold eB
  rw [if_pos a]
  exact Nat.le_refl _
theorem xH {n m now q v:Nat} {g:Gh} {x:AdD} (hm:0<m) (hn:n<=16) (h:GInv n m g) (h1:1<=v) (h2:v<aK n) (hr:g.rk q<=g.A n (aK n) v):lF n m g now q (x.climb n m v)/\eB m (x.climb n m v)<=3*m+lev v*(3*m):=by
 have hA:=h.A_split hn h1 h2
 have e:x.climb n m v=({ x with v:=v,left:=dS n m (2*v),right:=dS n m (2*v+1),pc:=1 }:AdD).pass m:=if_neg (by omega)
 rw [e]
 obtain⟨s1,s2⟩:=KT (now:=now) (q:=q) (x:={ x with v:=v,left:=dS n m (2*v),right:=dS n m (2*v+1),pc:=1 }) hm hn h h1 h2 ⟨rfl,rfl,rfl,rfl,g.F n (aK n) (2*v),g.F n (aK n) (2*v+1),rM hm hn h (by omega) (h.low hn (by omega) (by omega)),rM hm hn h (by omega) (h.low hn (by omega) (by omega)),by rw [<-hA];exact hr⟩
 refine⟨s1,Nat.le_trans s2 ?_⟩
 have a1:=lT (n:=n) hm (2*v)
 have a2:=lT (n:=n) hm (2*v+1)
 show dF (dS n m (2*v))+dF (dS n m (2*v+1))+m+lev v*(3*m)<=_
 omega
structure SI (n m:Nat) (o:List Nat) (wd:WD) (q:Nat) (x:AdD) (w M rk:Nat->Nat) (ws:List Nat) (o':List Nat) (x':AdD) (dn:Bool) (M' rk':Nat->Nat):Prop where
 len:ws.length=wd.mem.ws.length
 leaf:∀ t,t<n->ws.getD t 0=wd.mem.ws.getD t 0
 le:(dU n m wd.mem.ws w M rk).Le (dU n m ws (bR w q (if dn=true then 0 else x'.v)) M' rk')
 inv:GInv n m (dU n m ws (bR w q (if dn=true then 0 else x'.v)) M' rk')
 rk:∀ p,p≠q->rk' p=rk p
 M:∀ v,M v<=M' v
 own:o'=if dn=true then o.set q (o.getD q 0+1) else o
 go:dn=false->lF n m (dU n m ws (bR w q x'.v) M' rk') wd.now q x'/\eB m x'+1<=eB m x
 fin:1<=eB m x
theorem rE {f:Nat->Nat} {q x:Nat} (h:f q=x):bR f q x=f:=by
 funext t
 unfold bR
 split
 ·rename_i e;rw [e,h]
 ·rfl
theorem LG {f:Nat->Nat} {q x p:Nat} (h:p≠q):bR f q x p=f p:=if_neg h
theorem PX {n m q:Nat} {o:List Nat} {wd:WD} {x:AdD} {w M rk:Nat->Nat} (hm:0<m) (hn:n<=16) (hq:q<n) (hlen:wd.mem.ws.length=n+(aK n - 1)*(2^m - 1)) (h:GInv n m (dU n m wd.mem.ws w M rk)) (hw:w q=x.v) (hx:lF n m (dU n m wd.mem.ws w M rk) wd.now q x) :
  ∃ M' rk',SI n m o wd q x w M rk (dX n m o wd q x).2.1.mem.ws (dX n m o wd q x).1 (dX n m o wd q x).2.2.1 (dX n m o wd q x).2.2.2 M' rk':=by
 obtain⟨h1,h2,h3⟩:=hx
 have hwid:bR w q x.v=w:=rE hw
 rcases h3 with⟨⟨a,b,c,d,cl,cr,e,f,k⟩,l⟩|⟨⟨a,b,c,cl,cr,e,f,k⟩,l⟩|⟨a,b,c,d⟩
 ·rw [yD a]
  obtain⟨t1,t2,t3,t4⟩:=wY (p:=q) hn hlen h e l
  obtain⟨r1,r2⟩:=tT (p:=q) (wd:=wd) e l
  have hR:eB m x=dF x.left+dF x.right+m+lev x.v*(3*m):=by unfold eB;rw [if_pos a]
  refine⟨M,rk,?_⟩
  cases hd:(aI n m q wd x.left).2.2 with
  | true=>
   rw [if_pos rfl]
   obtain⟨u1,u2,u3⟩:=t4 hd
   rw [t2,b] at u2
   have hp:=yP (now:=wd.now) (q:=q) (x:={ x with left:=(aI n m q wd x.left).2.1,pc:=2 }) hm hn h h1 h2 ⟨rfl,c,u2,cl,cr,u1,f,k⟩
   have ep:({ x with left:=(aI n m q wd x.left).2.1,pc:=2 }:AdD).pass m=({ x with left:=(aI n m q wd x.left).2.1,pc:=2 }:AdD).pass2 m:=by
    unfold AdD.pass AdD.pass1
    rw [if_neg (λz=>by have z:=z.1;exact absurd z (by show ¬ 2=1;decide))]
   have ev:(({ x with left:=(aI n m q wd x.left).2.1,pc:=2 }:AdD).pass m).v=x.v:=by
    rw [ep];unfold AdD.pass2;split<;>rfl
   refine⟨by show(aI n m q wd x.left).1.mem.ws.length=_;rw [t1],λt _=>by show(aI n m q wd x.left).1.mem.ws.getD t 0=_;rw [t1],?_,?_,λ_ _=>rfl,λ_=>Nat.le_refl _,rfl,λ_=>?_,by rw [hR];omega⟩
   ·show Gh.Le _ (dU n m (aI n m q wd x.left).1.mem.ws (bR w q (({ x with left:=(aI n m q wd x.left).2.1,pc:=2 }:AdD).pass m).v) M rk)
    rw [t1,ev,hwid];exact Gh.Le.refl _
   ·show GInv n m (dU n m (aI n m q wd x.left).1.mem.ws (bR w q (({ x with left:=(aI n m q wd x.left).2.1,pc:=2 }:AdD).pass m).v) M rk)
    rw [t1,ev,hwid];exact h
   ·show lF n m (dU n m (aI n m q wd x.left).1.mem.ws (bR w q (({ x with left:=(aI n m q wd x.left).2.1,pc:=2 }:AdD).pass m).v) M rk) wd.now q (({ x with left:=(aI n m q wd x.left).2.1,pc:=2 }:AdD).pass m)/\eB m (({ x with left:=(aI n m q wd x.left).2.1,pc:=2 }:AdD).pass m)+1<=_
    rw [t1,ev,hwid,ep,hR]
    refine⟨hp.1,?_⟩
    have:=hp.2
    show _<=dF x.left+dF x.right+m+lev x.v*(3*m)
    have e3:dF ({ x with left:=(aI n m q wd x.left).2.1,pc:=2 }:AdD).right+m+lev ({ x with left:=(aI n m q wd x.left).2.1,pc:=2 }:AdD).v*(3*m)=dF x.right+m+lev x.v*(3*m):=rfl
    omega
  | false=>
   rw [if_neg Bool.false_ne_true]
   obtain⟨u1,u2⟩:=t3 hd
   refine⟨by show(aI n m q wd x.left).1.mem.ws.length=_;rw [t1],λt _=>by show(aI n m q wd x.left).1.mem.ws.getD t 0=_;rw [t1],?_,?_,λ_ _=>rfl,λ_=>Nat.le_refl _,rfl,λ_=>?_,by rw [hR];omega⟩
   ·show Gh.Le _ (dU n m (aI n m q wd x.left).1.mem.ws (bR w q x.v) M rk)
    rw [t1,hwid];exact Gh.Le.refl _
   ·show GInv n m (dU n m (aI n m q wd x.left).1.mem.ws (bR w q x.v) M rk)
    rw [t1,hwid];exact h
   ·show lF n m (dU n m (aI n m q wd x.left).1.mem.ws (bR w q x.v) M rk) wd.now q { x with left:=(aI n m q wd x.left).2.1 }/\eB m { x with left:=(aI n m q wd x.left).2.1 }+1<=_
    rw [t1,hwid,hR]
    refine⟨⟨h1,h2,.inl ⟨⟨a,by show(aI n m q wd x.left).2.1.v=_;rw [t2];exact b,c,d,cl,cr,u1,f,k⟩,by show(aI n m q wd x.left).2.1.kind≠2;rw [u2];exact l⟩⟩,?_⟩
    have e3:eB m { x with left:=(aI n m q wd x.left).2.1 }=dF (aI n m q wd x.left).2.1+dF x.right+m+lev x.v*(3*m):=by
     unfold eB
     rw [if_pos (show({ x with left:=(aI n m q wd x.left).2.1 }:AdD).pc=1 from a)]
    rw [e3]
    have:=r1 hd
    omega
 ·rw [xP a]
  obtain⟨t1,t2,t3,t4⟩:=wY (p:=q) hn hlen h f l
  obtain⟨r1,r2⟩:=tT (p:=q) (wd:=wd) f l
  have hR:eB m x=dF x.right+m+lev x.v*(3*m):=by unfold eB;rw [if_neg (by omega),if_pos a]
  refine⟨M,rk,?_⟩
  cases hd:(aI n m q wd x.right).2.2 with
  | true=>
   rw [if_pos rfl]
   obtain⟨u1,u2,u3⟩:=t4 hd
   rw [t2,b] at u2
   have hp:=GY (now:=wd.now) (q:=q) (x:={ x with right:=(aI n m q wd x.right).2.1 }) hm hn h h1 h2 c u2 (by show _<=x.left.val+(aI n m q wd x.right).2.1.val;omega)
   have ev:(({ x with right:=(aI n m q wd x.right).2.1 }:AdD).sum m).v=x.v:=rfl
   refine⟨by show(aI n m q wd x.right).1.mem.ws.length=_;rw [t1],λt _=>by show(aI n m q wd x.right).1.mem.ws.getD t 0=_;rw [t1],?_,?_,λ_ _=>rfl,λ_=>Nat.le_refl _,rfl,λ_=>?_,by rw [hR];omega⟩
   ·show Gh.Le _ (dU n m (aI n m q wd x.right).1.mem.ws (bR w q x.v) M rk)
    rw [t1,hwid];exact Gh.Le.refl _
   ·show GInv n m (dU n m (aI n m q wd x.right).1.mem.ws (bR w q x.v) M rk)
    rw [t1,hwid];exact h
   ·show lF n m (dU n m (aI n m q wd x.right).1.mem.ws (bR w q x.v) M rk) wd.now q (({ x with right:=(aI n m q wd x.right).2.1 }:AdD).sum m)/\eB m (({ x with right:=(aI n m q wd x.right).2.1 }:AdD).sum m)+1<=_
    rw [t1,hwid,hR]
    refine⟨hp.1,?_⟩
    have:=hp.2
    have e3:lev ({ x with right:=(aI n m q wd x.right).2.1 }:AdD).v*(3*m)=lev x.v*(3*m):=rfl
    omega
  | false=>
   rw [if_neg Bool.false_ne_true]
   obtain⟨u1,u2⟩:=t3 hd
   refine⟨by show(aI n m q wd x.right).1.mem.ws.length=_;rw [t1],λt _=>by show(aI n m q wd x.right).1.mem.ws.getD t 0=_;rw [t1],?_,?_,λ_ _=>rfl,λ_=>Nat.le_refl _,rfl,λ_=>?_,by rw [hR];omega⟩
   ·show Gh.Le _ (dU n m (aI n m q wd x.right).1.mem.ws (bR w q x.v) M rk)
    rw [t1,hwid];exact Gh.Le.refl _
   ·show GInv n m (dU n m (aI n m q wd x.right).1.mem.ws (bR w q x.v) M rk)
    rw [t1,hwid];exact h
   ·show lF n m (dU n m (aI n m q wd x.right).1.mem.ws (bR w q x.v) M rk) wd.now q { x with right:=(aI n m q wd x.right).2.1 }/\eB m { x with right:=(aI n m q wd x.right).2.1 }+1<=_
    rw [t1,hwid,hR]
    refine⟨⟨h1,h2,.inr (.inl ⟨⟨a,by show(aI n m q wd x.right).2.1.v=_;rw [t2];exact b,c,cl,cr,e,u1,k⟩,by show(aI n m q wd x.right).2.1.kind≠2;rw [u2];exact l⟩)⟩,?_⟩
    have e3:eB m { x with right:=(aI n m q wd x.right).2.1 }=dF (aI n m q wd x.right).2.1+m+lev x.v*(3*m):=by
     unfold eB
     rw [if_neg (show ¬ ({ x with right:=(aI n m q wd x.right).2.1 }:AdD).pc=1 from by show ¬ x.pc=1;omega),if_pos (show({ x with right:=(aI n m q wd x.right).2.1 }:AdD).pc=2 from a)]
    rw [e3]
    have:=r1 hd
    omega
 ·obtain⟨t1,t2,t3,t4,t5,t6,t7⟩:=QD (p:=q) h1 h2 hlen h b d
  have hR:eB m x=gP (.wr x.wr)+lev x.v*(3*m):=by unfold eB;rw [if_neg (by omega),if_neg (by omega)]
  have hrem:gP (.wr (aO (aG n m x.v) q wd x.wr).2.1)+1<=gP (.wr x.wr):=by
   rw [AO]
   exact GA b.2.2.1 (λhu=>(b.1.up hu).2 (by have h9:=b.2.2.1;rw [if_pos hu] at h9;omega)) b.2.1.up
  cases hd:(aO (aG n m x.v) q wd x.wr).2.2 with
  | false=>
   rw [uL a hd]
   refine⟨M,rk,t1,t2,?_,?_,λ_ _=>rfl,λ_=>Nat.le_refl _,rfl,λ_=>?_,by rw [hR];omega⟩
   ·show Gh.Le _ (dU n m (aO (aG n m x.v) q wd x.wr).1.mem.ws (bR w q x.v) M rk)
    rw [hwid];exact t3
   ·show GInv n m (dU n m (aO (aG n m x.v) q wd x.wr).1.mem.ws (bR w q x.v) M rk)
    rw [hwid];exact t4
   ·show lF n m (dU n m (aO (aG n m x.v) q wd x.wr).1.mem.ws (bR w q x.v) M rk) wd.now q { x with wr:=(aO (aG n m x.v) q wd x.wr).2.1 }/\eB m { x with wr:=(aO (aG n m x.v) q wd x.wr).2.1 }+1<=_
    rw [hwid,hR]
    have e3:eB m { x with wr:=(aO (aG n m x.v) q wd x.wr).2.1 }=gP (.wr (aO (aG n m x.v) q wd x.wr).2.1)+lev x.v*(3*m):=by
     unfold eB
     rw [if_neg (show ¬ ({ x with wr:=(aO (aG n m x.v) q wd x.wr).2.1 }:AdD).pc=1 from by show ¬ x.pc=1;omega),if_neg (show ¬ ({ x with wr:=(aO (aG n m x.v) q wd x.wr).2.1 }:AdD).pc=2 from by show ¬ x.pc=2;omega)]
    refine⟨⟨h1,h2,.inr (.inr ⟨a,t6 hd,?_,?_⟩)⟩,by rw [e3];omega⟩
    ·show _<=(aO (aG n m x.v) q wd x.wr).2.1.v
     rw [t5];exact c
    ·show(aO (aG n m x.v) q wd x.wr).2.1.v<=_
     rw [t5]
     exact Nat.le_trans d (t3.S ..)
  | true=>
   rw [uI a hd]
   obtain⟨ws,hws⟩:∃ ws,ws=(aO (aG n m x.v) q wd x.wr).1.mem.ws:=⟨_,rfl⟩
   rw [<-hws] at t1 t2 t3 t4 t7
   have g1:=t4.raise x.v x.wr.v (λ_ _=>⟨t7 hd,Nat.le_trans d (t3.S ..)⟩)
   have hwq:w q=x.v:=hw
   obtain⟨r',hr'⟩:∃ r',r'=Gh.A n (aK n) ⟨ghA n ws,bR w q (x.v / 2),bR M x.v (max (M x.v) x.wr.v),rk,ghS n m ws⟩ (x.v / 2):=⟨_,rfl⟩
   have g2:=GInv.climb hn g1 hq hwq h1 (show rk q<=bR M x.v (max (M x.v) x.wr.v) x.v from by rw [bG];exact Nat.le_trans c (Nat.le_max_right _ _)) _ rfl r' hr'
   have ev:∀ y:AdD,(y.climb n m (x.v / 2)).v=x.v / 2:=λy=>by
    unfold AdD.climb
    split
    ·rfl
    ·unfold AdD.pass AdD.pass1 AdD.pass2
     split<;>split<;>rfl
   have hMle:∀ v,M v<=bR M x.v (max (M x.v) x.wr.v) v:=λv=>by
    by_cases e9:v=x.v
    ·rw [e9,bG];exact Nat.le_max_left _ _
    ·rw [dE e9];exact Nat.le_refl _
   have hwv:(if (decide (x.v / 2<1)=true) then 0 else (({ x with wr:=(aO (aG n m x.v) q wd x.wr).2.1 }:AdD).climb n m (x.v / 2)).v)=x.v / 2:=by
    rw [ev]
    split
    ·rename_i h9
     have:=of_decide_eq_true h9;omega
    ·rfl
   refine⟨bR M x.v (max (M x.v) x.wr.v),bR rk q r',by rw [<-t1,hws],?_,?_,?_,λp hp=>LG hp,hMle,?_,λhd2=>?_,by rw [hR];omega⟩
   ·rw [<-hws];exact t2
   ·rw [<-hws]
    exact⟨t3.a,t3.s⟩
   ·rw [<-hws]
    simp only [hwv]
    exact g2
   ·show fJ o q (x.v / 2)=_
    unfold fJ
    by_cases h9:x.v / 2<1
    ·rw [if_pos h9,if_pos (decide_eq_true h9)]
    ·rw [if_neg h9,if_neg (by simpa using h9)]
   ·have h9:1<=x.v / 2:=by
     have:=of_decide_eq_false hd2;omega
    rw [<-hws,ev]
    obtain⟨z1,z2⟩:=xH (now:=wd.now) (q:=q) (x:={ x with wr:=(aO (aG n m x.v) q wd x.wr).2.1 }) hm hn g2 h9 (by omega) (by
     show bR rk q r' q<=_
     rw [bG,hr']
     exact Nat.le_refl _)
    refine⟨z1,?_⟩
    have hl:=JX (v:=x.v) (by omega) (by have:=(bM hn).2.2;omega)
    rw [<-hl,Nat.add_mul,Nat.one_mul] at hR
    show eB m (({ x with wr:=(aO (aG n m x.v) q wd x.wr).2.1 }:AdD).climb n m (x.v / 2))+1<=eB m x
    omega
end
section
open Go.RowKit
def bD (calls:List aF) (iv:Nat) (y:EvD):Bool:=decide (y.ans.err=0) && decide ((calls.getD y.call d0).obj=0) && decide ((calls.getD y.call d0).kind=0) && decide (y.resp≠0) && decide (y.resp<iv)
def bB (calls:List aF) (rs:Nat) (y:EvD):Bool:=decide (y.ans.err=0) && decide ((calls.getD y.call d0).obj=0) && decide ((calls.getD y.call d0).kind=0) && decide (y.inv<rs)
structure wB (calls:List aF) (evs:List EvD):Prop where
 call:∀ i,i<evs.length->(aD evs i).call<calls.length
 reads:∀ i,i<evs.length->(calls.getD (aD evs i).call d0).obj=0->(calls.getD (aD evs i).call d0).kind=1->(aD evs i).resp≠0->(aD evs i).ans.err=0->
  (∀ j,j<evs.length->(aD evs j).ans.err=0->(calls.getD (aD evs j).call d0).obj=0->(calls.getD (aD evs j).call d0).kind=1->(aD evs j).resp≠0->(aD evs j).resp<(aD evs i).inv->(aD evs j).ans.val<=(aD evs i).ans.val)/\
  cnt (bD calls (aD evs i).inv) evs<=(aD evs i).ans.val/\(aD evs i).ans.val<=cnt (bB calls (aD evs i).resp) evs
theorem bD0 {D js iv:Nat} {jr ob kd:Int} (h:¬ (jr=0/\ob=0/\kd=0/\js≠0/\js<iv)):D+(if (decide (jr=0) && decide (ob=0) && decide (kd=0) && decide (js≠0) && decide (js<iv))=true then 1 else 0)=D:=by
 rw [if_neg (by simpa [and_assoc] using h),Nat.add_zero]
theorem bD1 {D js iv:Nat} {jr ob kd:Int} (h:jr=0/\ob=0/\kd=0/\js≠0/\js<iv):D+(if (decide (jr=0) && decide (ob=0) && decide (kd=0) && decide (js≠0) && decide (js<iv))=true then 1 else 0)=D+1:=by
 rw [if_pos (by simpa [and_assoc] using h)]
theorem bB0 {D jv rs:Nat} {jr ob kd:Int} (h:¬ (jr=0/\ob=0/\kd=0/\jv<rs)):D+(if (decide (jr=0) && decide (ob=0) && decide (kd=0) && decide (jv<rs))=true then 1 else 0)=D:=by
 rw [if_neg (by simpa [and_assoc] using h),Nat.add_zero]
theorem bB1 {D jv rs:Nat} {jr ob kd:Int} (h:jr=0/\ob=0/\kd=0/\jv<rs):D+(if (decide (jr=0) && decide (ob=0) && decide (kd=0) && decide (jv<rs))=true then 1 else 0)=D+1:=by
 rw [if_pos (by simpa [and_assoc] using h)]
end
end Go.Proofs.Ytifhldnmcdbpfaa
