/- A tape beside a row of words that its caller has made, and writes to. -/
import Derived.Test.YtfkokppncipgnaaGreatV42
import Derived.Test.YtfkokppncipgnaaGreatV43
set_option maxRecDepth 100000
set_option linter.unusedVariables false
set_option linter.unusedSimpArgs false
set_option linter.unnecessarySimpa false
namespace Go.Proofs.YtfkokppncipgnaaGreat
section
open Go.RowKit
variable {B:RBase} {w w' w1:World} {t t':TapeP} {r r':RWD} {X:Nat->Prop} {V V':Value} {l:List Nat}
theorem row_same {z:Nat} {v:Value} {e:TypeId} {k n:Nat} {xs:List Value} (h:w.ownsRow z e k v n xs) (hS:∀ b,v.ownBlock=some b->w'.heap[b]?=w.heap[b]?):w'.ownsRow z e k v n xs:=by
 obtain⟨h1,h2⟩:=h
 refine⟨h1,?_⟩
 rcases h2 with h2|⟨g,cap,cur,hv,hg,hh,r⟩
 ·exact .inl h2
 ·exact .inr ⟨g,cap,cur,hv,hg,(hS g (by rw [hv];rfl)).trans hh,r⟩
def RowU (w:World) (V:Value) (l:List Nat):Prop:=w.ownsRow 0 46 1 V l.length (l.map u64V)
theorem RowU.at (h:RowU w V l) {i:Nat} (hi:i<l.length):∃ g c,V=.slice (some ⟨g,0,none⟩) l.length c/\w.cell? ⟨g,i,none⟩=some (.int .u64 ((l.getD i 0:Nat):Int))/\w.frozen? ⟨g,i,none⟩=false/\g<w.heap.size:=by
 have hc:=h
 obtain⟨h1,h2⟩:=h
 rcases h2 with⟨_,hn⟩|⟨g,cap,cur,hv,hg,hh,r1,r2,r3,r4⟩
 ·omega
 ·subst hv
  refine⟨g,cap,rfl,?_,frozen_blk hh i,blk_lt hh⟩
  have:=hc.cellAt i (by omega)
  rw [this,List.getElem?_map,List.getElem?_eq_getElem hi,List.getD_eq_getElem?_getD,List.getElem?_eq_getElem hi]
  rfl
theorem RowU.form (h:RowU w V l):∃ a c,V=.slice a l.length c:=row_form h
theorem RowU.lt (h:RowU w V l) (b:Nat) (hb:V.ownBlock=some b):b<w.heap.size:=by
 obtain⟨cs,fz,h9⟩:=row_type h hb
 exact blk_lt h9
def OwnX (V:Value) (bs:List (Nat×Obj)) (b:Nat):Prop:=V.ownBlock=some b∨∃ x,x∈bs/\x.1=b
structure RAtV (B:RBase) (w:World) (t:TapeP) (r:RWD) (V:Value) (l:List Nat) (bs:List (Nat×Obj)):Prop where
 o:RAtO B w t r (OwnX V bs)
 row:RowU w V l
 mx:∀ b,V.ownBlock=some b->¬ B.I.Mx b
 box:∀ x,x∈bs->w.heap[x.1]?=some x.2
 nb:∀ x,x∈bs->V.ownBlock≠some x.1
variable {bs:List (Nat×Obj)}
theorem RAt.mxlow (h:RAt B w t r) (b:Nat) (hb:B.I.Mx b):b<w.heap.size:=by
 obtain⟨G,K,L,h1,_⟩:=h
 exact h1.low b hb
theorem RAtO.mxlow (h:RAtO B w t r X) (b:Nat) (hb:B.I.Mx b):b<w.heap.size:=h.at.mxlow b hb
theorem RAt.makeV (h:RAt B w t r) (hb:Below w.heap.size w w') (hrow:RowU w' V l) (hlo:∀ b,V.ownBlock=some b->w.heap.size<=b) (hbs:∀ x,x∈bs->w'.heap[x.1]?=some x.2/\w.heap.size<=x.1/\V.ownBlock≠some x.1):RAtV B w' t r V l bs:=
 ⟨h.own hb (λb e=>by
  rcases e with e|⟨x,hx,rfl⟩
  ·exact⟨hlo b e,hrow.lt b e⟩
  ·exact⟨(hbs x hx).2.1,by
    have h9:=(hbs x hx).1
    rcases Nat.lt_or_ge x.1 w'.heap.size with h8|h8
    ·exact h8
    ·rw [Array.getElem?_eq_none h8] at h9;cases h9⟩),hrow,λb e hm=>by have:=h.mxlow b hm;have:=hlo b e;omega,λx hx=>(hbs x hx).1,λx hx=>(hbs x hx).2.2⟩
theorem RAtV.boxlt (h:RAtV B w t r V l bs) (x:Nat×Obj) (hx:x∈bs):x.1<w.heap.size:=by
 have h9:=h.box x hx
 rcases Nat.lt_or_ge x.1 w.heap.size with h8|h8
 ·exact h8
 ·rw [Array.getElem?_eq_none h8] at h9;cases h9
theorem RAtV.push (h:RAtV B w t r V l bs) (hc:Chg (λb=>V.ownBlock=some b) w w') {l':List Nat} (hrow:RowU w' V' l') (hold:∀ b,V'.ownBlock=some b->V.ownBlock=some b∨w.heap.size<=b):RAtV B w' t r V' l' bs:=
 ⟨h.o.turn (hc.mono (λ_ _ e=>.inl e)) (λb e=>by
  rcases e with e|e
  ·exact(hold b e).imp (λh9=>.inl h9) (λh9=>⟨h9,hrow.lt b e⟩)
  ·exact .inl (.inr e)),hrow,λb e hm=>by
  rcases hold b e with h9|h9
  ·exact h.mx b h9 hm
  ·have:=h.o.mxlow b hm;omega,λx hx=>(hc.block _ (h.boxlt x hx) (h.nb x hx)).trans (h.box x hx),λx hx e=>by
  rcases hold _ e with h9|h9
  ·exact h.nb x hx h9
  ·have:=h.boxlt x hx;omega⟩
theorem RAtV.append (h:RAtV B w t r V l bs) {o:Obj} {g vc M N v:Nat} (hN:N=l.length) (hM:M=N+1) (hown:w'.ownsRow 0 46 1 (.slice (some ⟨g,0,none⟩) M vc) M ((l++[v]).map u64V)) (hch:Chg (λb=>V.ownBlock=some b) (w.alloc o) w') (hat:V.ownBlock=some g∨g=(w.alloc o).heap.size):RAtV B w' t r (.slice (some ⟨g,0,none⟩) M vc) (l++[v]) bs:=by
 refine h.push (((Chg.refl _ w).alloc _).trans hch) ?_ (λb e=>?_)
 ·show World.ownsRow _ 0 _ 1 _ (l++[v]).length _
  rw [List.length_append,List.length_singleton,<-hN,<-hM]
  exact hown
 ·have e':g=b:=Option.some.inj e
  rw [<-e']
  rcases hat with h9|h9
  ·exact .inl h9
  ·right;rw [h9];simp
theorem RAtV.set {g n c:Nat} (h:RAtV B w t r (.slice (some ⟨g,0,none⟩) n c) l bs) (i v:Nat):RAtV B (w.setCell ⟨g,i,none⟩ (.int .u64 (v:Int))) t r (.slice (some ⟨g,0,none⟩) n c) (l.set i v) bs:=by
 obtain⟨a',c',e⟩:=h.row.form
 cases e
 refine h.push ((Chg.refl (λb=>(Value.slice (some ⟨g,0,none⟩) l.length c).ownBlock=some b) w).setCell (p:=⟨g,i,none⟩) (.inl rfl) _) ?_ (λb e=>.inl e)
 have hr:w.ownsRow 0 46 1 (.slice (some ⟨g,0,none⟩) l.length c) l.length (l.map u64V):=h.row
 have h9:=(hr.stored i (u64V v)).1
 show World.ownsRow _ 0 _ 1 _ (l.set i v).length ((l.set i v).map u64V)
 rw [List.length_set,List.map_set]
 exact h9
theorem RAtV.grown (h:RAtV B w t r V l bs) (hb:Below w.heap.size w w'):RAtV B w' t r V l bs:=⟨h.o.grown hb,row_below h.row hb,h.mx,λx hx=>(hb.block _ (h.boxlt x hx)).trans (h.box x hx),h.nb⟩
theorem RAtV.at (h:RAtV B w t r V l bs):RAt B w t r:=h.o.at
theorem RAtV.call {F:Nat} {args:Array Value} {R:Ending->World->Prop} (h:RAtV B w t r V l bs) (C:∀ B':RBase,B'.I.tb=B.I.tb->B'.I.pre=B.I.pre->RAt B' w t r->Calls Tryz.prog F args w (λe w'=>R e w'/\RAt B' w' t' r')) :
  Calls Tryz.prog F args w (λe w'=>R e w'/\RAtV B w' t' r' V l bs):=by
 refine(h.o.call C).mono ?_
 rintro e w' ⟨h1,h2,h3,h4⟩
 exact⟨h1,h2,row_same h.row (λb hb=>h4 b (.inl hb)),h.mx,λx hx=>(h4 _ (.inr ⟨x,hx,rfl⟩)).trans (h.box x hx),h.nb⟩
theorem RAtV.read (h:RAtV B w t r V l bs) (a:Int):Calls Tryz.prog 88 #[.pointer (some ⟨B.I.tb,B.I.pre.length,none⟩),.int .i64 a] w λe w'=>e=.returned (.int .u64 ((accP 0 a 0 0 t r).1:Int))/\RAtV B w' (accP 0 a 0 0 t r).2.1 (accP 0 a 0 0 t r).2.2 V l bs:=
 h.call (λB' e1 e2 hA=>by rw [<-e1,<-e2];exact tread_r hA a)
theorem RAtV.write (h:RAtV B w t r V l bs) (a:Int) (d:Nat) (hd:d<18446744073709551616):Calls Tryz.prog 89 #[.pointer (some ⟨B.I.tb,B.I.pre.length,none⟩),.int .i64 a,.int .u64 (d:Int)] w λe w'=>e=.returned (.tuple #[])/\RAtV B w' (accP 1 a d 0 t r).2.1 (accP 1 a d 0 t r).2.2 V l bs:=
 h.call (λB' e1 e2 hA=>by rw [<-e1,<-e2];exact twrite_r hA a d hd)
theorem RAtV.add (h:RAtV B w t r V l bs) (a:Int) (d:Nat) (hd:d<18446744073709551616):Calls Tryz.prog 91 #[.pointer (some ⟨B.I.tb,B.I.pre.length,none⟩),.int .i64 a,.int .u64 (d:Int)] w λe w'=>e=.returned (.int .u64 ((accP 3 a d 0 t r).1:Int))/\RAtV B w' (accP 3 a d 0 t r).2.1 (accP 3 a d 0 t r).2.2 V l bs:=
 h.call (λB' e1 e2 hA=>by rw [<-e1,<-e2];exact tadd_r hA a d hd)
theorem RAtV.swap (h:RAtV B w t r V l bs) (a:Int) (x y:Nat) (hx:x<18446744073709551616) (hy:y<18446744073709551616):Calls Tryz.prog 90 #[.pointer (some ⟨B.I.tb,B.I.pre.length,none⟩),.int .i64 a,.int .u64 (x:Int),.int .u64 (y:Int)] w λe w'=>e=.returned (.bool ((accP 2 a x y t r).1 == 1))/\RAtV B w' (accP 2 a x y t r).2.1 (accP 2 a x y t r).2.2 V l bs:=
 h.call (λB' e1 e2 hA=>by rw [<-e1,<-e2];exact tswap_r hA a x y hx hy)
theorem RAtV.priv (h:RAtV B w t r V l bs) (hl:l.length<=1000000):RAt B (w.setCell ⟨B.I.tb,B.I.pre.length+8,none⟩ V) { t with priv:=l } r:=by
 obtain⟨a,c,rfl⟩:=h.row.form
 obtain⟨G,K,L,h1,h2,h3⟩:=h.o
 have hA:RTapeAt w B.I G K L t r:=h1.re (S:=noB) (Mx':=B.I.Mx) (Chg.refl _ _) (λ_ e=>e.elim) (λb hb=>.inl (.inl hb))
 have hU:RAtU B w t r (.slice a l.length c) l:=⟨G,K,L,hA,h2,a,c,rfl,(row_sl h.row (by unfold maxLen;omega) (g:=u64G l) (λj hj=>by simp [u64G,u64V,List.getD_eq_getElem?_getD,hj])).1,λh0 b off e hm=>by
  have hob:(Value.slice a l.length c).ownBlock=some b:=by rw [e];rfl
  rcases hm with hm|hm
  ·exact h1.dis b (.inr (.inl hob)) hm
  ·exact h.mx b hob hm⟩
 exact hU.putPriv
theorem RAtV.sep (h:RAtV B w t r V l bs):∀ b,V.ownBlock=some b->b≠B.I.tb:=by
 obtain⟨G,K,L,h1,_⟩:=h.o
 exact λb hb e=>h1.dis b (.inr (.inl hb)) (by rw [e];exact .inl (.inl rfl))
theorem RAt.privCell (h:RAt B w t r):∃ oa oc,w.cell? ⟨B.I.tb,B.I.pre.length+8,none⟩=some (.slice oa t.priv.length oc)/\SlAt w oa t.priv.length 1 (u64G t.priv):=by
 obtain⟨G,K,L,h1,_⟩:=h
 obtain⟨PV,LV,KV,ht,⟨oa,oc,rfl,h2,_⟩,_⟩:=h1.tape
 exact⟨oa,oc,ht.cell (i:=8) (by omega),h2⟩
end
section

/- A register of many words in the reference's play: one that writes. -/
open Go.RowKit
variable {B:RBase} {w w':World} {t:TapeP} {r:RWD}
theorem piLk_step (n k a:Nat) (own:List Nat) {i:Nat} (hi:i<=n) (t:TapeP) (r:RWD):(piLkPg n k a own (n+1 - i)).run t r=if i=own.getD (n+2) 0 then (piLkPg n k a own (n+1 - (i+1))).run t r else
  (if (accP 0 ((1+i:Nat):Int) 0 0 t r).1=own.getD i 0 then piFlPg n k a i own k else piLkPg n k a own (n+1 - (i+1))).run (accP 0 ((1+i:Nat):Int) 0 0 t r).2.1 (accP 0 ((1+i:Nat):Int) 0 0 t r).2.2:=by
 rw [show n+1 - i=(n - i)+1 by omega,show n+1 - (i+1)=n - i by omega]
 show(if n - (n - i)=own.getD (n+2) 0 then piLkPg n k a own (n - i) else .acc 0 ((1+(n - (n - i)):Nat):Int) 0 0 id λg=>if g=own.getD (n - (n - i)) 0 then piFlPg n k a (n - (n - i)) own k else piLkPg n k a own (n - i)).run t r=_
 rw [show n - (n - i)=i by omega]
 split
 ·rfl
 ·show(if (accP 0 ((1+i:Nat):Int) 0 0 t r).1=own.getD i 0 then piFlPg n k a i own k else piLkPg n k a own (n - i)).run (accP 0 ((1+i:Nat):Int) 0 0 t r).2.1 (effP id _ _)=_
  rw [effP_id]
theorem piFl_step (n k a q:Nat) (own:List Nat) {j:Nat} (hj:j<k) (t:TapeP) (r:RWD):(piFlPg n k a q own (k - j)).run t r=(piFlPg n k a q own (k - (j+1))).run (accP 1 ((piWord n k q j:Nat):Int) ((a+j) % 18446744073709551616) 0 t r).2.1 (accP 1 ((piWord n k q j:Nat):Int) ((a+j) % 18446744073709551616) 0 t r).2.2:=by
 rw [show k - j=(k - (j+1))+1 by omega]
 show(piFlPg n k a q own (k - (j+1))).run (accP 1 ((piWord n k q (k - (k - (j+1)+1)):Nat):Int) ((a+(k - (k - (j+1)+1))) % 18446744073709551616) 0 t r).2.1 (effP id _ (accP 1 ((piWord n k q (k - (k - (j+1)+1)):Nat):Int) ((a+(k - (k - (j+1)+1))) % 18446744073709551616) 0 t r).2.2)=_
 rw [effP_id,show k - (k - (j+1)+1)=j by omega]
theorem DoEq.halted {c:CallD} {t t1 u:TapeP} {o:OutP} (h1:t1.thread=t.thread) (h2:t1.inv=t.inv) (hu:u=t1.out o) (hh:t1.halt=true):DoEq c t t1 u:=by
 subst hu
 exact⟨h1,h2,rfl,rfl,rfl,λe=>by
  have e':t1.halt=false:=e
  rw [hh] at e';cases e'⟩
theorem DoEq.same {c:CallD} {t u:TapeP} (h1:u.thread=t.thread) (h2:u.inv=t.inv):DoEq c t u u:=⟨h1,h2,rfl,rfl,rfl,λ_=>⟨rfl,rfl,rfl,rfl,λ_=>rfl⟩⟩
theorem piPad_get (n:Nat) (l:List Nat) (hM:∀ x,x∈l->x<18446744073709551616) (i:Nat):(piPad n l).getD i 0<18446744073709551616:=by
 rw [List.getD_eq_getElem?_getD]
 cases h:(piPad n l)[i]? with
 | none=>exact(by decide:(0:Nat)<18446744073709551616)
 | some x=>
  have hx:=List.mem_of_getElem? h
  unfold piPad at hx
  rcases List.mem_append.1 hx with h9|h9
  ·exact hM x h9
  ·rw [List.mem_replicate] at h9
   rw [h9.2];exact(by decide:(0:Nat)<18446744073709551616)
def lenV:Value->Nat
 | .slice _ n _=>n
 | _=>0
theorem blk_lt' {w:World} {b:Nat} {o:Obj} (h:w.heap[b]?=some o):b<w.heap.size:=by
 rcases Nat.lt_or_ge b w.heap.size with h8|h8
 ·exact h8
 ·rw [Array.getElem?_eq_none h8] at h;cases h
set_option maxHeartbeats 16000000 in
theorem rpin_write (n k:Nat) (hn:n<=16) (hk1:1<=k) (hk:k<=8) (c:CallD) (th:Int) (xa xb xc:Nat) (hca:xa<18446744073709551616) (h:RAt B w t r) (hth:t.thread=0) (hpl:t.priv.length<=n+3) (hpM:∀ x,x∈t.priv->x<18446744073709551616) (hnow:(piPad n t.priv).getD (n+2) 0<=n) :
  Calls Tryz.prog 69 #[.pointer (some ⟨B.I.tb,B.I.pre.length,none⟩),.int .i64 (n:Int),.int .i64 0,.agg #[.int .i64 9,.int .i64 (k:Int),.int .i64 0],.agg #[.int .i64 th,.int .i64 0,.int .i64 0,.int .u64 (xa:Int),.int .u64 (xb:Int),.int .u64 (xc:Int)]] w λe u=>e=.returned (.tuple #[])/\∃ t',RAt B u t' (rpinDo n k ⟨th,0,0,xa,xb,xc⟩ t r).2/\DoEq c t t' (rpinDo n k ⟨th,0,0,xa,xb,xc⟩ t r).1:=by
 obtain⟨wb,hwb,hg,hS,hC⟩:=do_boxes w 9 (k:Int) 0 th 0 xa xb xc
 have hA:=h.grown hg
 have p1:wb.cell? ⟨w.heap.size,1,none⟩=some (.int .i64 (k:Int)):=by rw [cell_blk hS];rfl
 have q2:wb.cell? ⟨w.heap.size+1,2,none⟩=some (.int .i64 0):=by rw [cell_blk hC];rfl
 have x1:wb.cell? ⟨B.I.tb,B.I.pre.length+1,none⟩=some (.int .i64 0):=by rw [hA.cThread,hth];rfl
 obtain⟨bC,hbC⟩:∃ bC,bC=w.heap.size+1:=⟨_,rfl⟩
 rw [<-hbC] at hC q2
 obtain⟨R,hR⟩:∃ R,R=rpinDo n k ⟨th,0,0,xa,xb,xc⟩ t r:=⟨_,rfl⟩
 rw [<-hR]
 obtain⟨own,hown⟩:∃ own,own=piPad n t.priv:=⟨_,rfl⟩
 have hR2:R=(piLkPg n k xa own (n+1 - 0)).run t r:=by
  rw [hR,hown]
  show(piPg n k ⟨th,0,0,xa,xb,xc⟩ t.thread t.priv).run t r=_
  unfold piPg
  rw [if_neg (show ¬ (0:Int)=1 by decide),if_neg (show ¬ (0:Int)≠0 by decide),if_neg (λe=>e hth)]
  rfl
 have hgM:∀ i,own.getD i 0<18446744073709551616:=λi=>by rw [hown];exact piPad_get n _ hpM i
 have hol:own.length=n+3:=by rw [hown];unfold piPad;rw [List.length_append,List.length_replicate];omega
 rw [<-hown] at hnow
 obtain⟨now,hnw⟩:∃ now,now=own.getD (n+2) 0:=⟨_,rfl⟩
 rw [<-hnw] at hnow
 obtain⟨oa,oc,x8,hsl8⟩:=hA.privCell
 have ltb:=hA.lt
 obtain⟨pl,hpl0⟩:∃ pl,pl=t.priv:=⟨_,rfl⟩
 rw [<-hpl0] at x8 hsl8 hpl hown
 have hpl9:pl.length<=1000000:=by omega
 obtain⟨CO,hCO⟩:∃ CO:Obj,CO=.cells #[.int .i64 th,.int .i64 0,.int .i64 0,.int .u64 (xa:Int),.int .u64 (xb:Int),.int .u64 (xc:Int)] 48 (0,0):=⟨_,rfl⟩
 have box3:∀ u:World,u.heap[bC]?=some CO->u.cell? ⟨bC,3,none⟩=some (.int .u64 (xa:Int)):=λu hu=>by rw [hCO] at hu;rw [cell_blk hu];rfl
 rw [<-hCO] at hC
 have hsz:wb.heap.size=w.heap.size+2:=by rw [hwb];simp
 have MK:∀(g vc:Nat) (u:World),u.ownsRow wb.heap.size 46 1 (.slice (some ⟨g,0,none⟩) pl.length vc) pl.length (pl.map u64V)->Below wb.heap.size wb u->RAtV B u t r (.slice (some ⟨g,0,none⟩) pl.length vc) pl [(bC,CO)]:=λg vc u hr hb=>by
  have hlo:∀ b,(Value.slice (some ⟨g,0,none⟩) pl.length vc).ownBlock=some b->wb.heap.size<=b:=λb e=>(hr.lt b e).1
  refine h.makeV (hg.trans (hb.mono (by omega))) (row_base hr (Nat.zero_le _)) (λb e=>by have:=hlo b e;omega) (λx hx=>?_)
  obtain rfl:x=(bC,CO):=by simpa using hx
  refine⟨(hb.block _ (blk_lt' hC)).trans hC,by show w.heap.size<=bC;omega,λe=>?_⟩
  have h1:=hlo _ e
  have h2:bC=w.heap.size+1:=hbC
  simp only at h1
  omega
 have Hwb:=Lib.hid hwb;have HbC:=Lib.hid hbC;have HR2:=Lib.hid hR2;have HgM:=Lib.hid hgM;have Hol:=Lib.hid hol;have Hnow:=Lib.hid hnow;have Hnw:=Lib.hid hnw;have Hown:=Lib.hid hown;have HB3:=Lib.hid box3;have HMK:=Lib.hid MK;have Hsl8:=Lib.hid hsl8;have Hpl:=Lib.hid hpl
 obtain⟨tth,htth⟩:∃ tth,tth=t.thread:=⟨_,rfl⟩
 obtain⟨tin,htin⟩:∃ tin,tin=t.inv:=⟨_,rfl⟩
 have Hth:=Lib.hid htth;have Hin:=Lib.hid htin
 clear hwb hg hS hC h hA hR hR2 hgM hol hnow hnw hown hpl0 hpM hth hbC hCO box3 MK hsl8 hsz hpl htth htin
 go_enter Tryz.func69,Tryz.ntmps69
 go_upto_region 1 with fail
 rw [<-Hwb.out]
 (try rw [<-HbC.out])
 go_upto_region 17 with(at_builtin;refine wpList_copy_u64 rfl _ _ rfl wb.heap.size (heap_alloc_new _ _) oa oc pl hpl9 rfl rfl (Hsl8.out.grown (Gr.new _ _)) ?_;intro g1 vc1 w6 hown1 hb6)
 have hV:=HMK.out g1 vc1 w6 hown1 ((Gr.new wb _).trans (by exact hb6))
 have HV:=Lib.hid hV
 clear hV hown1 hb6 HMK Hsl8 x8 x1 q2 p1
 have c3:IntKind.i64.wrap ((n:Int)+3)=(n:Int)+3:=by rw [IntKind.wrap_i64];omega
 go_loopw [14] (λv wr=>∃(j:Nat) (V:Value) (l:List Nat),v=V/\RAtV B wr t r V l [(bC,CO)]/\l=pl++List.replicate j 0/\l.length<=n+3) (λv _=>n+3 - lenV v)
 case atStart=>exact⟨0,_,pl,rfl,HV.out,by simp,Hpl.out⟩
 case round=>
  obtain⟨j,V,l,rfl,hV,hl,hlen⟩:=hrel
  clear HV
  obtain⟨va,vc,rfl⟩:=hV.row.form
  obtain⟨L,hL⟩:∃ L,L=l.length:=⟨_,rfl⟩
  rw [<-hL] at hV ⊢
  by_cases hlt:L<n+3
  ·have l1:(L:Int)<(n:Int)+3:=by omega
   have hrow:wr.ownsRow 0 46 1 (.slice va L vc) L (l.map u64V):=by have h9:=hV.row;rw [hL];rw [hL] at h9;exact h9
   have HV:=Lib.hid hV;have HL:=Lib.hid hL;have Hl:=Lib.hid hl;have Hlen:=Lib.hid hlen;have Hrow:=Lib.hid hrow;have Hlt:=Lib.hid hlt
   have hL9:L<=1000000:=by omega
   clear hV hL hl hlen hrow hlt
   go_wp2_with (at_builtin;refine wpList_push_u64 rfl _ _ rfl _ l L HL.out hL9 rfl (row_below Hrow.out (Gr.new _ _)) wr.heap.size 0 rfl (heap_alloc_new _ _) ?_;intro g7 vc7 M w7 hM hown7 hch7 hat7 hlt7;have HV7:=Lib.hid (HV.out.append HL.out hM hown7 hch7 hat7);have HM:=Lib.hid hM;clear hM hown7 hch7 hat7 hlt7)
   go_roundw
   case rel=>exact⟨j+1,_,l++[0],rfl,HV7.out,by rw [Hl.out,List.append_assoc,List.replicate_succ'],by have:=HL.out;have:=Hlt.out;simp;omega⟩
   case measure=>(have h8:=HM.out;have h9:=Hlt.out;simp only [lenV];omega)
  ·have l1:¬ (L:Int)<(n:Int)+3:=by omega
   have hL3:L=n+3:=by omega
   have hlo:l=own:=by
    rw [Hown.out,hl]
    unfold piPad
    have h8:(pl++List.replicate j 0).length=n+3:=by rw [<-hl,<-hL];exact hL3
    rw [List.length_append,List.length_replicate] at h8
    rw [show n+3 - pl.length=j by omega]
   rw [hlo] at hV
   obtain⟨g,c9,hV9,y2,f2,hg9⟩:=hV.row.at (i:=n+2) (by rw [Hol.out];omega)
   obtain rfl:va=some ⟨g,0,none⟩:=(Value.slice.inj hV9).1
   obtain⟨n2,hn2⟩:∃ n2,n2=n+2:=⟨_,rfl⟩
   rw [<-Hnw.out,<-hn2] at y2
   rw [<-hn2] at f2
   have hnow:=Hnow.out
   have l2:(n2:Int)<(L:Int):=by omega
   have l3:¬ (n2:Int)<0:=by omega
   have m2:IntKind.i64.wrap ((n:Int)+2)=(n2:Int):=by rw [IntKind.wrap_i64];omega
   have m3:IntKind.i64.wrap (now:Int)=(now:Int):=by rw [IntKind.wrap_i64];omega
   have HV:=Lib.hid hV;have HL3:=Lib.hid hL3;have Hn2:=Lib.hid hn2
   clear hV hL hl hlen hL3 hlo hV9 hn2 hnow hlt
   go_upto_region 20 with fail
   clear y2 f2
   go_upto_region 22 with fail
   go_loopw [17,16] (λi q wr=>∃(j:Nat) (tj:TapeP) (rj:RWD),i=.int .i64 (j:Int)/\j<=n+1/\RAtV B wr tj rj (.slice (some ⟨g,0,none⟩) L vc) own [(bC,CO)]/\tj.thread=tth/\tj.inv=tin/\((q=.int .i64 (-1)/\R=(piLkPg n k xa own (n+1 - j)).run tj rj)∨∃ qv:Nat,qv<=n/\q=.int .i64 (qv:Int)/\R=(piFlPg n k xa qv own k).run tj rj)) (λi _ _=>n+1 - (intOf i).toNat)
   case atStart=>exact⟨0,t,r,rfl,Nat.zero_le _,HV.out,Hth.out.symm,Hin.out.symm,.inl ⟨rfl,HR2.out⟩⟩
   case round=>
    obtain⟨j,tj,rj,rfl,hj,hV,hth,hin,hq⟩:=hrel
    clear HV
    have hA:=hV.at
    have x7:=hA.cHalt
    have Hth2:=Lib.hid hth;have Hin2:=Lib.hid hin
    obtain⟨hh,hhe⟩:∃ hh,hh=tj.halt:=⟨_,rfl⟩
    rw [<-hhe] at x7
    rcases hq with⟨rfl,hR⟩|⟨qv,hqn,rfl,hR⟩
    ·by_cases hjn:j<=n
     ·have l4:(j:Int)<=(n:Int):=by omega
      cases hh with
      | true=>
       have Fin:∃ t',RAt B wr t' R.2/\DoEq c t t' R.1:=by
        obtain⟨o,ho⟩:=Pg.run_halt (piLkPg n k xa own (n+1 - j)) tj rj hhe.symm
        rw [hR,ho]
        exact⟨tj,hA,DoEq.halted (hth.trans Hth.out) (hin.trans Hin.out) rfl hhe.symm⟩
       have HF:=Lib.hid Fin
       clear Fin hR hV hA hth hin hhe hjn hj
       go_wp2
       (first|go_end0|((try simp only [Exit.inBlock,Exit.then]);refine bodyPost_ret (results_none rfl _ _ _) rfl ?_))
       exact⟨rfl,HF.out⟩
      | false=>
       have hst:=piLk_step n k xa own hjn tj rj
       rw [<-hR,<-Hnw.out] at hst
       have b4:IntKind.i64.wrap ((j:Int)+1)=(j:Int)+1:=by rw [IntKind.wrap_i64];omega
       by_cases hjw:j=now
       ·have e1:((j:Int) ==(now:Int))=true:=by simp [hjw]
        have e2:(!((j:Int) ==(now:Int)))=false:=by simp [hjw]
        have e3:((j:Int) !=(now:Int))=false:=by simp [hjw]
        have e4:decide ((j:Int)=(now:Int))=true:=by simp [hjw]
        have e5:(j:Int)=(now:Int):=by omega
        rw [if_pos hjw] at hst
        have HV:=Lib.hid hV;have HS:=Lib.hid hst;have Hj:=Lib.hid hjn
        clear hst hR hV hA hth hin hhe hjn hj hjw
        go_upto_region 24 with fail
        ((with_reducible refine wp_region_grown_lit (by kernel_rfl) (by kernel_rfl) ?_);(repeat (first|go_big_quiet_skip|(go_big_quiet_want;go_big_quiet_op;first|go_big_quiet_on|((with_reducible apply Exists.intro);(with_reducible refine⟨λ_=>?_,?_⟩);(fail);go_big_quiet_on))|((with_reducible refine wpQuiet_step (λK hK=>?_));go_simp;first|((with_reducible refine hK _ ?_);clear hK K)|((with_reducible apply Exists.intro);(with_reducible refine⟨λ_=>?_,hK _ ?_⟩);(fail);clear hK K))));(with_reducible refine wpQuiet_nil ?_);intro _ hw';obtain⟨nq,hw''⟩:=hw';subst hw'')
        have HV2:=Lib.hid (HV.out.grown nq.below)
        obtain⟨w8,hw8⟩:∃ w8,w8=nq.u:=⟨_,rfl⟩
        rw [<-hw8] at HV2 ⊢
        clear hw8 nq x7
        go_wp2
        go_roundw
        case rel=>exact⟨j+1,tj,rj,by go_num,by have:=Hj.out;omega,HV2.out,Hth2.out,Hin2.out,.inl ⟨rfl,HS.out⟩⟩
        case measure=>(have:=Hj.out;simp [intOf]<;>omega)
       ·have e1:((j:Int) ==(now:Int))=false:=by simp;omega
        have e2:(!((j:Int) ==(now:Int)))=true:=by simp;omega
        have e3:((j:Int) !=(now:Int))=true:=by simp;omega
        have e4:decide ((j:Int)=(now:Int))=false:=by simp;omega
        have e5:¬ (j:Int)=(now:Int):=by omega
        rw [if_neg hjw] at hst
        obtain⟨_,_,hV8,y3,_,_⟩:=hV.row.at (i:=j) (by rw [Hol.out];omega)
        obtain rfl:=(Addr.mk.inj (Option.some.inj (Value.slice.inj hV8).1)).1
        have hLj:j<L:=by have:=HL3.out;omega
        have l5:(j:Int)<(L:Int):=by omega
        have l6:¬ (j:Int)<0:=by omega
        obtain⟨A,hAe⟩:∃ A,A=1+j:=⟨_,rfl⟩
        obtain⟨ow,how⟩:∃ ow,ow=own.getD j 0:=⟨_,rfl⟩
        rw [<-hAe,<-how] at hst
        rw [<-how] at y3
        have RD:=λ(u:World) (hu:Below wr.heap.size wr u)=>(hV.grown hu).read (A:Int)
        have hrun:=Runs.acc 0 (A:Int) 0 0 tj rj
        obtain⟨Z,hZ⟩:∃ Z,Z=accP 0 (A:Int) 0 0 tj rj:=⟨_,rfl⟩
        rw [<-hZ] at hst hrun
        simp only [<-hZ] at RD
        obtain⟨v,t2,r2⟩:=Z
        simp only at hst RD hrun
        have t2th:=hrun.thread
        have t2in:=hrun.inv
        have a0:IntKind.i64.wrap (1:Int)=1:=by decide
        have a1:IntKind.i64.wrap (1+(j:Int))=(A:Int):=by rw [IntKind.wrap_i64];omega
        have YK:=Lib.hid (λ(u:World) (h9:RAtV B u t2 r2 (.slice (some ⟨g,0,none⟩) L vc) own [(bC,CO)])=>(by
         obtain⟨_,_,hV8,y3,_,_⟩:=h9.row.at (i:=j) (by rw [Hol.out];have:=HL3.out;omega)
         obtain rfl:=(Addr.mk.inj (Option.some.inj (Value.slice.inj hV8).1)).1
         rw [<-how] at y3
         exact y3:u.cell? ⟨g,j,none⟩=some (.int .u64 (ow:Int))))
        have HRD:=Lib.hid RD;have HS:=Lib.hid hst;have Hj:=Lib.hid hjn;have T1:=Lib.hid (t2th.trans hth);have T2:=Lib.hid (t2in.trans hin)
        by_cases hv:v=ow
        ·have d1:((v:Int) ==(ow:Int))=true:=by simp [hv]
         have d2:(v:Int)=(ow:Int):=by omega
         rw [if_pos hv] at hst
         have HS2:=Lib.hid hst
         clear HS RD hst hR hV hA hth hin hhe hjn hj hjw hZ hrun t2th t2in hV8 hAe how hLj hv
         go_upto_region 24 with fail
         go_region_held3 (λu=>u.cell? ⟨g,j,none⟩=some (.int .u64 (ow:Int)))
          (first|exact y3|exact z3)
          (first|(go_at_call 88;refine(HRD.out _ (Gr.refl _).drew).mono ?_;rintro e w8 ⟨rfl,hV8⟩;have z3:=YK.out _ hV8))
         all_goals
          clear YK HRD y3
          go_wp2
          go_roundw
          case rel=>exact⟨j+1,t2,r2,by go_num,by have:=Hj.out;omega,hV8,T1.out,T2.out,.inr ⟨j,Hj.out,rfl,HS2.out⟩⟩
          case measure=>(have:=Hj.out;simp [intOf]<;>omega)
        ·have d1:((v:Int) ==(ow:Int))=false:=by simp;omega
         have d2:¬ (v:Int)=(ow:Int):=by omega
         rw [if_neg hv] at hst
         have HS2:=Lib.hid hst
         clear HS RD hst hR hV hA hth hin hhe hjn hj hjw hZ hrun t2th t2in hV8 hAe how hLj hv
         go_upto_region 24 with fail
         go_region_held3 (λu=>u.cell? ⟨g,j,none⟩=some (.int .u64 (ow:Int)))
          (first|exact y3|exact z3)
          (first|(go_at_call 88;refine(HRD.out _ (Gr.refl _).drew).mono ?_;rintro e w8 ⟨rfl,hV8⟩;have z3:=YK.out _ hV8))
         all_goals
          clear YK HRD y3
          go_wp2
          go_roundw
          case rel=>exact⟨j+1,t2,r2,by go_num,by have:=Hj.out;omega,hV8,T1.out,T2.out,.inl ⟨rfl,HS2.out⟩⟩
          case measure=>(have:=Hj.out;simp [intOf]<;>omega)
     ·have l4:¬ (j:Int)<=(n:Int):=by omega
      have Fin:∃ t',RAt B wr t' R.2/\DoEq c t t' R.1:=by
       rw [hR,show n+1 - j=0 by omega]
       exact⟨tj,hA,DoEq.same (c:=c) (u:=tj) (hth.trans Hth.out) (hin.trans Hin.out)⟩
      have HF:=Lib.hid Fin
      clear Fin hR hV hA hth hin hhe hjn hj
      cases hh with
      | true=>
       go_wp2
       (first|go_end0|((try simp only [Exit.inBlock,Exit.then]);refine bodyPost_ret (results_none rfl _ _ _) rfl ?_))
       exact⟨rfl,HF.out⟩
      | false=>
       go_wp2
       (first|go_end0|((try simp only [Exit.inBlock,Exit.then]);refine bodyPost_ret (results_none rfl _ _ _) rfl ?_))
       exact⟨rfl,HF.out⟩
    ·have l3:¬ (qv:Int)<0:=by omega
     have Hqn:=Lib.hid hqn
     cases hh with
     | true=>
      have Fin:∃ t',RAt B wr t' R.2/\DoEq c t t' R.1:=by
       obtain⟨o,ho⟩:=Pg.run_halt (piFlPg n k xa qv own k) tj rj hhe.symm
       rw [hR,ho]
       exact⟨tj,hA,DoEq.halted (hth.trans Hth.out) (hin.trans Hin.out) rfl hhe.symm⟩
      have HF:=Lib.hid Fin
      clear Fin hR hV hA hth hin hhe hqn
      by_cases hjn:j<=n
      ·have l4:(j:Int)<=(n:Int):=by omega
       clear hjn hj
       go_wp2
       (first|go_end0|((try simp only [Exit.inBlock,Exit.then]);refine bodyPost_ret (results_none rfl _ _ _) rfl ?_))
       exact⟨rfl,HF.out⟩
      ·have l4:¬ (j:Int)<=(n:Int):=by omega
       clear hjn hj
       go_wp2
       (first|go_end0|((try simp only [Exit.inBlock,Exit.then]);refine bodyPost_ret (results_none rfl _ _ _) rfl ?_))
       exact⟨rfl,HF.out⟩
     | false=>
      have HV2:=Lib.hid hV;have HR3:=Lib.hid hR
      clear hR hV hA hth hin hhe hqn
      by_cases hjn:j<=n
      have l4:(j:Int)<=(n:Int):=by omega
      rotate_left
      have l4:¬ (j:Int)<=(n:Int):=by omega
      all_goals
       clear hjn hj
       go_upto_region 28 with fail
       go_loopw [146] (λi wr=>∃(j:Nat) (tj:TapeP) (rj:RWD),j<=k/\i=.int .i64 (j:Int)/\RAtV B wr tj rj (.slice (some ⟨g,0,none⟩) L vc) own [(bC,CO)]/\tj.thread=tth/\tj.inv=tin/\R=(piFlPg n k xa qv own (k - j)).run tj rj) (λi _=>k - (intOf i).toNat)
       case atStart=>exact⟨0,tj,rj,Nat.zero_le _,rfl,HV2.out,Hth2.out,Hin2.out,HR3.out⟩
       case round=>
        clear HV2 HR3 x7 l4 Hth2 Hin2
        obtain⟨j',t3,r3,hj,rfl,hV,hth,hin,hR⟩:=hrel
        by_cases hlt:j'<k
        ·have l5:(j':Int)<(k:Int):=by omega
         obtain⟨A,hAe⟩:∃ A,A=piWord n k qv j':=⟨_,rfl⟩
         obtain⟨qk,hqk⟩:∃ qk,qk=qv*k:=⟨_,rfl⟩
         have hA2:A=n+2+qk+j':=by rw [hAe,hqk];rfl
         have hqn:=Hqn.out
         have hqk2:qk<=16*8:=by rw [hqk];exact Nat.mul_le_mul (by omega) hk
         obtain⟨d,hd⟩:∃ d,d=(xa+j') % 18446744073709551616:=⟨_,rfl⟩
         have hd2:d<18446744073709551616:=by omega
         have hst:=piFl_step n k xa qv own hlt t3 r3
         rw [<-hR,<-hAe,<-hd] at hst
         have WR:=hV.write (A:Int) d hd2
         have hrun:=Runs.acc 1 (A:Int) d 0 t3 r3
         obtain⟨Z,hZ⟩:∃ Z,Z=accP 1 (A:Int) d 0 t3 r3:=⟨_,rfl⟩
         rw [<-hZ] at hst hrun WR
         obtain⟨v,t4,r4⟩:=Z
         simp only at hst WR hrun
         have y3:=HB3.out wr (hV.box (bC,CO) (by simp))
         have a1:IntKind.i64.wrap (n:Int)=(n:Int):=by rw [IntKind.wrap_i64];omega
         have a3:IntKind.i64.wrap ((qv:Int)*(k:Int))=(qk:Int):=by rw [show((qv:Int)*(k:Int))=(qk:Int) by rw [hqk];exact(Int.natCast_mul qv k).symm,IntKind.wrap_i64];omega
         have a4:IntKind.i64.wrap ((n2:Int)+(qk:Int))=(n2:Int)+(qk:Int):=by have:=Hn2.out;rw [IntKind.wrap_i64];omega
         have a5:IntKind.i64.wrap ((n2:Int)+(qk:Int)+(j':Int))=(A:Int):=by have:=Hn2.out;rw [IntKind.wrap_i64];omega
         have a6:IntKind.u64.wrap (j':Int)=(j':Int):=by rw [IntKind.wrap_u64];omega
         have a7:IntKind.u64.wrap ((xa:Int)+(j':Int))=(d:Int):=by rw [IntKind.wrap_u64];omega
         have HWR:=Lib.hid WR;have HS:=Lib.hid hst;have T1:=Lib.hid (hrun.thread.trans hth);have T2:=Lib.hid (hrun.inv.trans hin);have Hj:=Lib.hid hlt
         clear WR hst hrun hZ hR hth hin hV hqk hqk2 hAe hA2 hd hd2 hj hlt hqn
         go_wp2_with (go_at_call 89;refine HWR.out.mono ?_;rintro e w8 ⟨rfl,hV8⟩)
         go_roundw
         case rel=>exact⟨j'+1,t4,r4,by have:=Hj.out;omega,by go_num,hV8,T1.out,T2.out,HS.out⟩
         case measure=>(have:=Hj.out;simp [intOf]<;>omega)
        ·have l5:¬ (j':Int)<(k:Int):=by omega
         obtain rfl:j'=k:=by omega
         have hqn:=Hqn.out
         have hnow:=Hnow.out
         obtain⟨dd,hdd⟩:∃ dd,dd=piDiff qv now:=⟨_,rfl⟩
         obtain⟨e9,he9⟩:∃ e9,e9=(qv+18446744073709551616 - now) % 18446744073709551616:=⟨_,rfl⟩
         have hdd2:dd=e9*4294967296 % 18446744073709551616:=by rw [hdd,he9];rfl
         have hst:R=((accP 3 0 dd 0 t3 r3).2.1.out ⟨(accP 3 0 dd 0 t3 r3).2.1.err,(accP 3 0 dd 0 t3 r3).2.1.val,(accP 3 0 dd 0 t3 r3).2.1.list,(accP 3 0 dd 0 t3 r3).2.1.key,piOwn n own qv ((accP 3 0 dd 0 t3 r3).1 % 4294967296)⟩,(accP 3 0 dd 0 t3 r3).2.2):=by
          rw [hR,Nat.sub_self]
          show((accP 3 0 (piDiff qv (own.getD (n+2) 0)) 0 t3 r3).2.1.out ⟨_,_,_,_,piOwn n own qv ((accP 3 0 (piDiff qv (own.getD (n+2) 0)) 0 t3 r3).1 % 4294967296)⟩,effP id _ _)=_
          rw [effP_id,<-Hnw.out,<-hdd]
         have AD:=hV.add 0 dd (by omega)
         have hrun:=Runs.acc 3 0 dd 0 t3 r3
         obtain⟨Z,hZ⟩:∃ Z,Z=accP 3 0 dd 0 t3 r3:=⟨_,rfl⟩
         rw [<-hZ] at hst hrun AD
         obtain⟨v,t4,r4⟩:=Z
         simp only at hst AD hrun
         obtain⟨x,hx⟩:∃ x,x=v % 4294967296:=⟨_,rfl⟩
         rw [<-hx] at hst
         have hx9:x<4294967296:=by omega
         have b1:IntKind.u64.wrap (qv:Int)=(qv:Int):=by rw [IntKind.wrap_u64];omega
         have b2:IntKind.u64.wrap (now:Int)=(now:Int):=by rw [IntKind.wrap_u64];omega
         have b3:IntKind.u64.wrap ((qv:Int) - (now:Int))=(e9:Int):=by rw [IntKind.wrap_u64];omega
         have b4:IntKind.u64.wrap ((e9:Int)*4294967296)=(dd:Int):=by rw [IntKind.wrap_u64];omega
         have b5:(v:Int) % 4294967296=(x:Int):=by omega
         have b6:IntKind.u64.wrap (x:Int)=(x:Int):=by rw [IntKind.wrap_u64];omega
         have HAD:=Lib.hid AD;have HS:=Lib.hid hst;have Hx:=Lib.hid hx9;have T1:=Lib.hid ((hrun.thread.trans hth).trans Hth.out);have T2:=Lib.hid ((hrun.inv.trans hin).trans Hin.out)
         clear AD hst hrun hZ hR hth hin hV hdd hdd2 he9 hj hlt hqn hnow hx hx9
         go_upto_region 33 with(go_at_call 91;refine HAD.out.mono ?_;rintro e w8 ⟨rfl,hV8⟩)
         have hol:=Hol.out
         have hnow:=Hnow.out
         obtain⟨n1,hn1⟩:∃ n1,n1=n+1:=⟨_,rfl⟩
         obtain⟨_,_,hg8,y3,f3,_⟩:=hV8.row.at (i:=now) (by omega)
         obtain rfl:=(Addr.mk.inj (Option.some.inj (Value.slice.inj hg8).1)).1
         obtain⟨_,_,hg7,y4,_,_⟩:=hV8.row.at (i:=n1) (by omega)
         obtain rfl:=(Addr.mk.inj (Option.some.inj (Value.slice.inj hg7).1)).1
         obtain⟨a0,ha0⟩:∃ a0,a0=own.getD now 0:=⟨_,rfl⟩
         obtain⟨b0,hb0⟩:∃ b0,b0=own.getD n1 0:=⟨_,rfl⟩
         have hbM:b0<18446744073709551616:=by rw [hb0];exact HgM.out n1
         rw [<-ha0] at y3
         rw [<-hb0] at y4
         obtain⟨s1,hs1⟩:∃ s1,s1=(a0+x) % 18446744073709551616:=⟨_,rfl⟩
         obtain⟨d1,hd1⟩:∃ d1,d1=(s1+18446744073709551616 - b0) % 18446744073709551616:=⟨_,rfl⟩
         have c1:IntKind.u64.wrap ((a0:Int)+(x:Int))=(s1:Int):=by rw [IntKind.wrap_u64];omega
         have c2:IntKind.u64.wrap ((s1:Int) - (b0:Int))=(d1:Int):=by rw [IntKind.wrap_u64];omega
         have c4:IntKind.i64.wrap ((n:Int)+1)=(n1:Int):=by rw [IntKind.wrap_i64];omega
         have hL3:=HL3.out
         have l6:(now:Int)<(L:Int):=by omega
         have l7:¬ (now:Int)<0:=by omega
         have l8:(n1:Int)<(L:Int):=by omega
         have l9:¬ (n1:Int)<0:=by omega
         have HV8:=Lib.hid hV8;have Hn1:=Lib.hid hn1
         have hO:piOwn n own qv x=((own.set now d1).set n1 x).set n2 qv:=by
          unfold piOwn
          rw [<-Hnw.out,<-hn1,<-Hn2.out,<-ha0,<-hb0,<-hs1,<-hd1]
         have HO:=Lib.hid hO
         clear hV8 hn1 hg8 hg7 ha0 hb0 hbM hs1 hd1 hL3 hol hnow hO
         go_region
         obtain⟨w9,hw9⟩:∃ w9,w9=(w8.setCell ⟨g,now,none⟩ (.int .u64 (d1:Int))).drew:=⟨_,rfl⟩
         rw [<-hw9]
         have hV9:RAtV B w9 t4 r4 (.slice (some ⟨g,0,none⟩) L vc) (own.set now d1) [(bC,CO)]:=by rw [hw9];exact(HV8.out.set now d1).grown (Gr.refl _).drew
         have hol:=Hol.out
         have hn1:=Hn1.out
         have hn2:=Hn2.out
         obtain⟨_,_,hg7,y5,f5,_⟩:=hV9.row.at (i:=n1) (by rw [List.length_set];omega)
         obtain rfl:=(Addr.mk.inj (Option.some.inj (Value.slice.inj hg7).1)).1
         obtain⟨w10,hw10⟩:∃ w10,w10=w9.setCell ⟨g,n1,none⟩ (.int .u64 (x:Int)):=⟨_,rfl⟩
         have hV10:RAtV B w10 t4 r4 (.slice (some ⟨g,0,none⟩) L vc) ((own.set now d1).set n1 x) [(bC,CO)]:=by rw [hw10];exact hV9.set n1 x
         obtain⟨_,_,hg6,y6,f6,_⟩:=hV10.row.at (i:=n2) (by rw [List.length_set,List.length_set];omega)
         obtain rfl:=(Addr.mk.inj (Option.some.inj (Value.slice.inj hg6).1)).1
         obtain⟨w11,hw11⟩:∃ w11,w11=w10.setCell ⟨g,n2,none⟩ (.int .u64 (qv:Int)):=⟨_,rfl⟩
         have hV11:RAtV B w11 t4 r4 (.slice (some ⟨g,0,none⟩) L vc) (((own.set now d1).set n1 x).set n2 qv) [(bC,CO)]:=by rw [hw11];exact hV10.set n2 qv
         have hA11:=hV11.at
         obtain⟨_,_,y8,_⟩:=hA11.privCell
         have f8:=hA11.frozen (B.I.pre.length+8)
         have ltb:=hA11.lt
         have Fin:∃ t',RAt B (w11.setCell ⟨B.I.tb,B.I.pre.length+8,none⟩ (.slice (some ⟨g,0,none⟩) L vc)) t' R.2/\DoEq c t t' R.1:=by
          have h9:=hV11.priv (by rw [List.length_set,List.length_set,List.length_set];omega)
          rw [HS.out,HO.out]
          exact⟨_,h9,DoEq.same T1.out T2.out⟩
         have HF:=Lib.hid Fin;have Hw10:=Lib.hid hw10;have Hw11:=Lib.hid hw11;have Hw9:=Lib.hid hw9
         clear Fin hV9 hV10 hV11 hA11 hg7 hg6 hol hn1 hn2 hw9 hw10 hw11 HS HO HV8 y3 f3 y4
         go_upto_region 35 with fail
         rw [<-Hw10.out]
         clear y5 f5
         go_upto_region 36 with fail
         rw [<-Hw11.out]
         clear y6 f6
         go_wp2
         (first|go_end0|((try simp only [Exit.inBlock,Exit.then]);refine bodyPost_ret (results_none rfl _ _ _) rfl ?_))
         exact⟨rfl,HF.out⟩
end
end Go.Proofs.YtfkokppncipgnaaGreat
