/- A tape beside a row of words that its caller has made, and writes to. -/
import Derived.Test.YtfkokppncipgnaaGreatW30
import Derived.Test.YtfkokppncipgnaaGreatW29
set_option maxRecDepth 100000
set_option linter.unusedVariables false
set_option linter.unusedSimpArgs false
set_option linter.unnecessarySimpa false
namespace Go.Proofs.YtfkokppncipgnaaGreat
section
open Go.RowKit
variable {B:fD} {w w' w1:World} {t t':aJ} {r r':RWD} {X:Nat->Prop} {V V':Value} {l:List Nat}
def aAF (V:Value) (bs:List (Nat×Obj)) (b:Nat):Prop:=V.ownBlock=some b∨∃ x,x∈bs/\x.1=b
structure gT (B:fD) (w:World) (t:aJ) (r:RWD) (V:Value) (l:List Nat) (bs:List (Nat×Obj)):Prop where
 o:wU B w t r (aAF V bs)
 row:vT w V l
 mx:∀ b,V.ownBlock=some b->¬ B.I.Mx b
 box:∀ x,x∈bs->w.heap[x.1]?=some x.2
 nb:∀ x,x∈bs->V.ownBlock≠some x.1
variable {bs:List (Nat×Obj)}
theorem RAt.mxlow (h:RAt B w t r) (b:Nat) (hb:B.I.Mx b):b<w.heap.size:=by
 obtain⟨G,K,L,h1,_⟩:=h
 exact h1.low b hb
theorem wU.mxlow (h:wU B w t r X) (b:Nat) (hb:B.I.Mx b):b<w.heap.size:=h.at.mxlow b hb
theorem RAt.makeV (h:RAt B w t r) (hb:Below w.heap.size w w') (hrow:vT w' V l) (hlo:∀ b,V.ownBlock=some b->w.heap.size<=b) (hbs:∀ x,x∈bs->w'.heap[x.1]?=some x.2/\w.heap.size<=x.1/\V.ownBlock≠some x.1):gT B w' t r V l bs:=
 ⟨h.own hb (λb e=>by
  rcases e with e|⟨x,hx,rfl⟩
  ·exact⟨hlo b e,hrow.lt b e⟩
  ·exact⟨(hbs x hx).2.1,by
    have h9:=(hbs x hx).1
    rcases Nat.lt_or_ge x.1 w'.heap.size with h8|h8
    ·exact h8
    ·rw [Array.getElem?_eq_none h8] at h9;cases h9⟩),hrow,λb e hm=>by have:=h.mxlow b hm;have:=hlo b e;omega,λx hx=>(hbs x hx).1,λx hx=>(hbs x hx).2.2⟩
theorem gT.boxlt (h:gT B w t r V l bs) (x:Nat×Obj) (hx:x∈bs):x.1<w.heap.size:=by
 have h9:=h.box x hx
 rcases Nat.lt_or_ge x.1 w.heap.size with h8|h8
 ·exact h8
 ·rw [Array.getElem?_eq_none h8] at h9;cases h9
theorem gT.push (h:gT B w t r V l bs) (hc:Chg (λb=>V.ownBlock=some b) w w') {l':List Nat} (hrow:vT w' V' l') (hold:∀ b,V'.ownBlock=some b->V.ownBlock=some b∨w.heap.size<=b):gT B w' t r V' l' bs:=
 ⟨h.o.turn (hc.mono (λ_ _ e=>.inl e)) (λb e=>by
  rcases e with e|e
  ·exact(hold b e).imp (λh9=>.inl h9) (λh9=>⟨h9,hrow.lt b e⟩)
  ·exact .inl (.inr e)),hrow,λb e hm=>by
  rcases hold b e with h9|h9
  ·exact h.mx b h9 hm
  ·have:=h.o.mxlow b hm;omega,λx hx=>(hc.block _ (h.boxlt x hx) (h.nb x hx)).trans (h.box x hx),λx hx e=>by
  rcases hold _ e with h9|h9
  ·exact h.nb x hx h9
  ·have:=h.boxlt x hx;omega⟩
theorem gT.append (h:gT B w t r V l bs) {o:Obj} {g vc M N v:Nat} (hN:N=l.length) (hM:M=N+1) (hown:w'.ownsRow 0 46 1 (.slice (some ⟨g,0,none⟩) M vc) M ((l++[v]).map bI)) (hch:Chg (λb=>V.ownBlock=some b) (w.alloc o) w') (hat:V.ownBlock=some g∨g=(w.alloc o).heap.size):gT B w' t r (.slice (some ⟨g,0,none⟩) M vc) (l++[v]) bs:=by
 refine h.push (((Chg.refl _ w).alloc _).trans hch) ?_ (λb e=>?_)
 ·show World.ownsRow _ 0 _ 1 _ (l++[v]).length _
  rw [List.length_append,List.length_singleton,<-hN,<-hM]
  exact hown
 ·have e':g=b:=Option.some.inj e
  rw [<-e']
  rcases hat with h9|h9
  ·exact .inl h9
  ·right;rw [h9];simp
theorem gT.set {g n c:Nat} (h:gT B w t r (.slice (some ⟨g,0,none⟩) n c) l bs) (i v:Nat):gT B (w.setCell ⟨g,i,none⟩ (.int .u64 (v:Int))) t r (.slice (some ⟨g,0,none⟩) n c) (l.set i v) bs:=by
 obtain⟨a',c',e⟩:=h.row.form
 cases e
 refine h.push ((Chg.refl (λb=>(Value.slice (some ⟨g,0,none⟩) l.length c).ownBlock=some b) w).setCell (p:=⟨g,i,none⟩) (.inl rfl) _) ?_ (λb e=>.inl e)
 have hr:w.ownsRow 0 46 1 (.slice (some ⟨g,0,none⟩) l.length c) l.length (l.map bI):=h.row
 have h9:=(hr.stored i (bI v)).1
 show World.ownsRow _ 0 _ 1 _ (l.set i v).length ((l.set i v).map bI)
 rw [List.length_set,List.map_set]
 exact h9
theorem gT.grown (h:gT B w t r V l bs) (hb:Below w.heap.size w w'):gT B w' t r V l bs:=⟨h.o.grown hb,dV h.row hb,h.mx,λx hx=>(hb.block _ (h.boxlt x hx)).trans (h.box x hx),h.nb⟩
theorem gT.at (h:gT B w t r V l bs):RAt B w t r:=h.o.at
theorem gT.call {F:Nat} {args:Array Value} {R:Ending->World->Prop} (h:gT B w t r V l bs) (C:∀ B':fD,B'.I.tb=B.I.tb->B'.I.pre=B.I.pre->RAt B' w t r->Calls Tryz.prog F args w (λe w'=>R e w'/\RAt B' w' t' r')) :
  Calls Tryz.prog F args w (λe w'=>R e w'/\gT B w' t' r' V l bs):=by
 refine(h.o.call C).mono ?_
 rintro e w' ⟨h1,h2,h3,h4⟩
 exact⟨h1,h2,CU h.row (λb hb=>h4 b (.inl hb)),h.mx,λx hx=>(h4 _ (.inr ⟨x,hx,rfl⟩)).trans (h.box x hx),h.nb⟩
theorem gT.read (h:gT B w t r V l bs) (a:Int):Calls Tryz.prog 88 #[.pointer (some ⟨B.I.tb,B.I.pre.length,none⟩),.int .i64 a] w λe w'=>e=.returned (.int .u64 ((aX 0 a 0 0 t r).1:Int))/\gT B w' (aX 0 a 0 0 t r).2.1 (aX 0 a 0 0 t r).2.2 V l bs:=
 h.call (λB' e1 e2 hA=>by rw [<-e1,<-e2];exact ZA hA a)
theorem gT.write (h:gT B w t r V l bs) (a:Int) (d:Nat) (hd:d<18446744073709551616):Calls Tryz.prog 89 #[.pointer (some ⟨B.I.tb,B.I.pre.length,none⟩),.int .i64 a,.int .u64 (d:Int)] w λe w'=>e=.returned (.tuple #[])/\gT B w' (aX 1 a d 0 t r).2.1 (aX 1 a d 0 t r).2.2 V l bs:=
 h.call (λB' e1 e2 hA=>by rw [<-e1,<-e2];exact NA hA a d hd)
theorem gT.add (h:gT B w t r V l bs) (a:Int) (d:Nat) (hd:d<18446744073709551616):Calls Tryz.prog 91 #[.pointer (some ⟨B.I.tb,B.I.pre.length,none⟩),.int .i64 a,.int .u64 (d:Int)] w λe w'=>e=.returned (.int .u64 ((aX 3 a d 0 t r).1:Int))/\gT B w' (aX 3 a d 0 t r).2.1 (aX 3 a d 0 t r).2.2 V l bs:=
 h.call (λB' e1 e2 hA=>by rw [<-e1,<-e2];exact Qq hA a d hd)
theorem gT.swap (h:gT B w t r V l bs) (a:Int) (x y:Nat) (hx:x<18446744073709551616) (hy:y<18446744073709551616):Calls Tryz.prog 90 #[.pointer (some ⟨B.I.tb,B.I.pre.length,none⟩),.int .i64 a,.int .u64 (x:Int),.int .u64 (y:Int)] w λe w'=>e=.returned (.bool ((aX 2 a x y t r).1 == 1))/\gT B w' (aX 2 a x y t r).2.1 (aX 2 a x y t r).2.2 V l bs:=
 h.call (λB' e1 e2 hA=>by rw [<-e1,<-e2];exact Oa hA a x y hx hy)
theorem gT.priv (h:gT B w t r V l bs) (hl:l.length<=1000000):RAt B (w.setCell ⟨B.I.tb,B.I.pre.length+8,none⟩ V) { t with priv:=l } r:=by
 obtain⟨a,c,rfl⟩:=h.row.form
 obtain⟨G,K,L,h1,h2,h3⟩:=h.o
 have hA:fI w B.I G K L t r:=h1.re (S:=noB) (Mx':=B.I.Mx) (Chg.refl _ _) (λ_ e=>e.elim) (λb hb=>.inl (.inl hb))
 have hU:EN B w t r (.slice a l.length c) l:=⟨G,K,L,hA,h2,a,c,rfl,(wR h.row (by unfold maxLen;omega) (g:=fE l) (λj hj=>by simp [fE,bI,List.getD_eq_getElem?_getD,hj])).1,λh0 b off e hm=>by
  have hob:(Value.slice a l.length c).ownBlock=some b:=by rw [e];rfl
  rcases hm with hm|hm
  ·exact h1.dis b (.inr (.inl hob)) hm
  ·exact h.mx b hob hm⟩
 exact hU.putPriv
theorem gT.sep (h:gT B w t r V l bs):∀ b,V.ownBlock=some b->b≠B.I.tb:=by
 obtain⟨G,K,L,h1,_⟩:=h.o
 exact λb hb e=>h1.dis b (.inr (.inl hb)) (by rw [e];exact .inl (.inl rfl))
theorem RAt.privCell (h:RAt B w t r):∃ oa oc,w.cell? ⟨B.I.tb,B.I.pre.length+8,none⟩=some (.slice oa t.priv.length oc)/\cB w oa t.priv.length 1 (fE t.priv):=by
 obtain⟨G,K,L,h1,_⟩:=h
 obtain⟨PV,LV,KV,ht,⟨oa,oc,rfl,h2,_⟩,_⟩:=h1.tape
 exact⟨oa,oc,ht.cell (i:=8) (by omega),h2⟩
end
section
open Go.RowKit
variable {B:fD} {w w':World} {t:aJ} {r:RWD}
theorem RAt.nilV (h:RAt B w t r):gT B w t r (.slice none 0 0) [] []:=h.makeV (Below.refl _ _) (vT.nil _) (λb e=>by cases e) (λx hx=>by cases hx)
theorem FE:∀ m j l t r,(fB m j l t r).1.length=l.length+m
 | 0,_,_,_,_=>rfl
 | m+1,j,l,t,r=>by
  show(fB m (j+1) _ _ _).1.length=_
  rw [FE m,List.length_append,List.length_singleton];omega
set_option maxHeartbeats 4000000 in
theorem Cw (h:RAt B w t r) (n:Nat) (hn:n<=100) :
  Calls Tryz.prog 112 #[.pointer (some ⟨B.I.tb,B.I.pre.length,none⟩),.int .i64 (n:Int),.int .i64 0] w λe w'=>∃ V,e=.returned V/\gT B w' (fB n 0 [] t r).2.1 (fB n 0 [] t r).2.2 V (fB n 0 [] t r).1 []:=by
 obtain⟨Z,hZ⟩:∃ Z,Z=fB n 0 [] t r:=⟨_,rfl⟩
 rw [<-hZ]
 have HZ:=Lib.hid hZ;have HV:=Lib.hid h.nilV
 clear hZ h
 go_enter Tryz.func112,Tryz.ntmps112
 go_upto_region 3 with fail
 go_loopw [10,7] (λi v wr=>∃(j:Nat) (l:List Nat) (tj:aJ) (rj:RWD),i=.int .i64 (j:Int)/\j<=n/\gT B wr tj rj v l []/\Z=fB (n - j) j l tj rj/\l.length=j) (λi _ _=>n - (intOf i).toNat)
 case atStart=>exact⟨0,[],t,r,rfl,Nat.zero_le _,HV.out,HZ.out,rfl⟩
 case round=>
  obtain⟨j,l,tj,rj,rfl,hj,hV,hz,hlen⟩:=hrel
  clear HV HZ
  obtain⟨va,vc,rfl⟩:=hV.row.form
  obtain⟨L,hL⟩:∃ L,L=l.length:=⟨_,rfl⟩
  rw [<-hL] at hV ⊢
  by_cases hlt:j<n
  ·have l1:(j:Int)<(n:Int):=by omega
   have hst:Z=fB (n - (j+1)) (j+1) (l++[(aX 0 (j:Int) 0 0 tj rj).1]) (aX 0 (j:Int) 0 0 tj rj).2.1 (aX 0 (j:Int) 0 0 tj rj).2.2:=by
    rw [hz,show n - j=(n - (j+1))+1 by omega];rfl
   have RD:=hV.read (j:Int)
   obtain⟨Y,hY⟩:∃ Y,Y=aX 0 (j:Int) 0 0 tj rj:=⟨_,rfl⟩
   rw [<-hY] at hst RD
   obtain⟨v,t2,r2⟩:=Y
   simp only at hst RD
   have a1:IntKind.i64.wrap (j:Int)=(j:Int):=by rw [IntKind.wrap_i64];omega
   have hL9:L<=1000000:=by omega
   have HRD:=Lib.hid RD;have Hst:=Lib.hid hst;have HL:=Lib.hid hL;have Hlen:=Lib.hid hlen;have Hlt:=Lib.hid hlt
   clear RD hst hY hV hz hlen hlt hj hL
   go_wp2_with (first|(go_at_call 88;refine HRD.out.mono ?_;rintro e w5 ⟨rfl,hV5⟩;have HV5:=Lib.hid hV5;have fV:w5.ownsRow 0 46 1 (.slice va L vc) L (l.map bI):=(by have h9:=hV5.row;rw [HL.out] at h9 ⊢;exact h9);have HR5:=Lib.hid fV;clear fV hV5)|(at_builtin;refine jX rfl _ _ rfl _ l L HL.out hL9 rfl (dV HR5.out (Gr.new _ _)) w5.heap.size v rfl (heap_alloc_new _ _) ?_;intro g7 vc7 M w7 hM yM iD MZ YJ;have HV7:=Lib.hid (HV5.out.append HL.out hM yM iD MZ);have HM:=Lib.hid hM;clear hM yM iD MZ YJ))
   go_roundw
   case rel=>exact⟨j+1,l++[v],t2,r2,by go_num,Hlt.out,HV7.out,Hst.out,by simp [Hlen.out]⟩
   case measure=>(have:=Hlt.out;simp [intOf]<;>omega)
  ·have l1:¬ (j:Int)<(n:Int):=by omega
   have hst:Z=(l,tj,rj):=by rw [hz,show n - j=0 by omega];rfl
   have F:gT B wr Z.2.1 Z.2.2 (.slice va L vc) Z.1 []:=by rw [hst];exact hV
   have HF:=Lib.hid F
   clear F hst hV hz hlen hlt hj hL
   go_wp2
   go_ret
   exact⟨_,rfl,HF.out⟩
end
section
open Go.RowKit
abbrev PR:=List (Value×List Nat)
abbrev FF:=List (Nat×Obj)
def BD (rows:PR) (bs:FF) (b:Nat):Prop:=(∃ x,x∈rows/\x.1.ownBlock=some b)∨∃ x,x∈bs/\x.1=b
structure eT (B:fD) (w:World) (t:aJ) (r:RWD) (rows:PR) (bs:FF):Prop where
 o:wU B w t r (BD rows bs)
 row:∀ x,x∈rows->vT w x.1 x.2
 mx:∀ x,x∈rows->∀ b,x.1.ownBlock=some b->¬ B.I.Mx b
 box:∀ x,x∈bs->w.heap[x.1]?=some x.2
 ap:rows.Pairwise (λx y=>∀ b,x.1.ownBlock=some b->y.1.ownBlock≠some b)
 nb:∀ x,x∈rows->∀ y,y∈bs->x.1.ownBlock≠some y.1
variable {B:fD} {w w' w1:World} {t t':aJ} {r r':RWD} {rows rs:PR} {bs:FF} {V V':Value} {l:List Nat}
theorem eT.at (h:eT B w t r rows bs):RAt B w t r:=h.o.at
theorem eT.low (h:eT B w t r rows bs) (b:Nat) (hb:BD rows bs b):b<w.heap.size:=h.o.lt b hb
theorem eT.start (h:RAt B w t r):eT B w t r [] []:=
 ⟨h.own (Below.refl _ _) (λb hb=>by rcases hb with⟨x,hx,_⟩|⟨x,hx,_⟩<;>cases hx),(λx hx=>by cases hx),(λx hx=>by cases hx),(λx hx=>by cases hx),List.Pairwise.nil,(λx hx=>by cases hx)⟩
theorem eT.grown (h:eT B w t r rows bs) (hb:Below w.heap.size w w'):eT B w' t r rows bs:=
 ⟨h.o.grown hb,λx hx=>dV (h.row x hx) hb,h.mx,λx hx=>(hb.block _ (h.low _ (.inr ⟨x,hx,rfl⟩))).trans (h.box x hx),h.ap,h.nb⟩
theorem eT.less (h:eT B w t r rows bs) {rows':PR} {bs':FF} (h1:∀ x,x∈rows'->x∈rows) (h2:∀ x,x∈bs'->x∈bs) (hp:rows'.Pairwise (λx y=>∀ b,x.1.ownBlock=some b->y.1.ownBlock≠some b)):eT B w t r rows' bs':=
 ⟨h.o.turn (Chg.refl _ _) (λb hb=>.inl (by
  rcases hb with⟨x,hx,e⟩|⟨x,hx,e⟩
  ·exact .inl ⟨x,h1 x hx,e⟩
  ·exact .inr ⟨x,h2 x hx,e⟩)),λx hx=>h.row x (h1 x hx),λx hx=>h.mx x (h1 x hx),λx hx=>h.box x (h2 x hx),hp,λx hx y hy=>h.nb x (h1 x hx) y (h2 y hy)⟩
theorem eT.newBox (h:eT B w t r rows bs) (o:Obj):eT B (w.alloc o) t r rows ((w.heap.size,o)::bs):=by
 have hb:Below w.heap.size w (w.alloc o):=Gr.new _ _
 refine⟨h.o.turn (Chg.of_below hb) (λb uZ=>?_),λx hx=>dV (h.row x hx) hb,h.mx,λx hx=>?_,h.ap,λx hx y hy=>?_⟩
 ·rcases uZ with⟨x,hx,e⟩|⟨x,hx,e⟩
  ·exact .inl (.inl ⟨x,hx,e⟩)
  ·rcases List.mem_cons.1 hx with rfl|hx
   ·right
    have e':w.heap.size=b:=e
    rw [<-e'];simp
   ·exact .inl (.inr ⟨x,hx,e⟩)
 ·rcases List.mem_cons.1 hx with rfl|hx
  ·exact heap_alloc_new _ _
  ·exact(hb.block _ (h.low _ (.inr ⟨x,hx,rfl⟩))).trans (h.box x hx)
 ·rcases List.mem_cons.1 hy with rfl|hy
  ·intro e
   have h9:=h.low _ (.inl ⟨x,hx,e⟩)
   exact absurd h9 (Nat.lt_irrefl _)
  ·exact h.nb x hx y hy
theorem eT.setBox {b:Nat} {cs:Array Value} {T:TypeId} (h:eT B w t r rows ((b,.cells cs T (0,0))::bs)) (hnd:∀ y,y∈bs->y.1≠b) (i:Nat) (v:Value):eT B (w.setCell ⟨b,i,none⟩ v) t r rows ((b,.cells (cs.setIfInBounds i v) T (0,0))::bs):=by
 have hc:Chg (λg=>g=b) w (w.setCell ⟨b,i,none⟩ v):=(Chg.refl (λg=>g=b) w).setCell (p:=⟨b,i,none⟩) (.inl rfl) _
 have hbk:w.heap[b]?=some (.cells cs T (0,0)):=h.box (b,.cells cs T (0,0)) List.mem_cons_self
 refine⟨h.o.turn (hc.mono (λj _ e=>.inr ⟨_,List.mem_cons_self,e.symm⟩)) (λj hj=>.inl ?_),λx hx=>(h.row x hx).chg hc (λg e e9=>h.nb x hx _ List.mem_cons_self (by rw [<-e9];exact e)),h.mx,λx hx=>?_,h.ap,λx hx y hy=>?_⟩
 ·rcases hj with hj|⟨x,hx,e⟩
  ·exact .inl hj
  ·rcases List.mem_cons.1 hx with rfl|hx
   ·exact .inr ⟨_,List.mem_cons_self,e⟩
   ·exact .inr ⟨x,List.mem_cons_of_mem _ hx,e⟩
 ·rcases List.mem_cons.1 hx with rfl|hx
  ·exact aG hbk i v
  ·exact(hc.block _ (h.low _ (.inr ⟨x,List.mem_cons_of_mem _ hx,rfl⟩)) (hnd x hx)).trans (h.box x (List.mem_cons_of_mem _ hx))
 ·rcases List.mem_cons.1 hy with rfl|hy
  ·exact h.nb x hx (b,.cells cs T (0,0)) List.mem_cons_self
  ·exact h.nb x hx y (List.mem_cons_of_mem _ hy)
theorem eT.push (h:eT B w t r ((V,l)::rs) bs) (hc:Chg (λb=>V.ownBlock=some b) w w') {l':List Nat} (hrow:vT w' V' l') (hold:∀ b,V'.ownBlock=some b->V.ownBlock=some b∨w.heap.size<=b):eT B w' t r ((V',l')::rs) bs:=by
 have hap:=List.pairwise_cons.1 h.ap
 have hV:∀ b,V.ownBlock=some b->BD ((V,l)::rs) bs b:=λb e=>.inl ⟨(V,l),List.mem_cons_self,e⟩
 refine⟨h.o.turn (hc.mono (λb _ e=>hV b e)) (λb hb=>?_),λx hx=>?_,λx hx b e=>?_,λx hx=>(hc.block _ (h.low _ (.inr ⟨x,hx,rfl⟩)) (λe=>h.nb _ List.mem_cons_self x hx e)).trans (h.box x hx),List.pairwise_cons.2 ⟨λy hy b e e9=>?_,hap.2⟩,λx hx y hy e=>?_⟩
 ·rcases hb with⟨x,hx,e⟩|hb
  ·rcases List.mem_cons.1 hx with rfl|hx
   ·exact(hold b e).imp (λh9=>hV b h9) (λh9=>⟨h9,hrow.lt b e⟩)
   ·exact .inl (.inl ⟨x,List.mem_cons_of_mem _ hx,e⟩)
  ·exact .inl (.inr hb)
 ·rcases List.mem_cons.1 hx with rfl|hx
  ·exact hrow
  ·exact(h.row x (List.mem_cons_of_mem _ hx)).chg hc (λb e e9=>hap.1 x hx b e9 e)
 ·rcases List.mem_cons.1 hx with rfl|hx
  ·intro hm
   rcases hold b e with h9|h9
   ·exact h.mx (V,l) List.mem_cons_self b h9 hm
   ·have:=h.o.mxlow b hm;omega
  ·exact h.mx x (List.mem_cons_of_mem _ hx) b e
 ·rcases hold b e with h9|h9
  ·exact hap.1 y hy b h9 e9
  ·have:=h.low b (.inl ⟨y,List.mem_cons_of_mem _ hy,e9⟩);omega
 ·rcases List.mem_cons.1 hx with rfl|hx
  ·rcases hold _ e with h9|h9
   ·exact h.nb _ List.mem_cons_self y hy h9
   ·have:=h.low _ (.inr ⟨y,hy,rfl⟩);omega
  ·exact h.nb x (List.mem_cons_of_mem _ hx) y hy e
theorem eT.append (h:eT B w t r ((V,l)::rs) bs) {o:Obj} {g vc M N v:Nat} (hN:N=l.length) (hM:M=N+1) (hown:w'.ownsRow 0 46 1 (.slice (some ⟨g,0,none⟩) M vc) M ((l++[v]).map bI)) (hch:Chg (λb=>V.ownBlock=some b) (w.alloc o) w') (hat:V.ownBlock=some g∨g=(w.alloc o).heap.size):eT B w' t r ((.slice (some ⟨g,0,none⟩) M vc,l++[v])::rs) bs:=by
 refine h.push (((Chg.refl _ w).alloc _).trans hch) ?_ (λb e=>?_)
 ·show World.ownsRow _ 0 _ 1 _ (l++[v]).length _
  rw [List.length_append,List.length_singleton,<-hN,<-hM]
  exact hown
 ·have e':g=b:=Option.some.inj e
  rw [<-e']
  rcases hat with h9|h9
  ·exact .inl h9
  ·right;rw [h9];simp
theorem eT.nilRow (h:eT B w t r rows bs):eT B w t r ((.slice none 0 0,[])::rows) bs:=by
 refine⟨h.o.turn (Chg.refl _ _) (λb hb=>.inl ?_),λx hx=>?_,λx hx b e=>?_,h.box,List.pairwise_cons.2 ⟨(λy hy b e=>by cases e),h.ap⟩,λx hx y hy e=>?_⟩
 ·rcases hb with⟨x,hx,e⟩|hb
  ·rcases List.mem_cons.1 hx with rfl|hx
   ·cases e
   ·exact .inl ⟨x,hx,e⟩
  ·exact .inr hb
 ·rcases List.mem_cons.1 hx with rfl|hx
  ·exact vT.nil _
  ·exact h.row x hx
 ·rcases List.mem_cons.1 hx with rfl|hx
  ·cases e
  ·exact h.mx x hx b e
 ·rcases List.mem_cons.1 hx with rfl|hx
  ·cases e
  ·exact h.nb x hx y hy e
theorem eT.call {F:Nat} {args:Array Value} {R:Ending->World->Prop} (h:eT B w t r rows bs) (C:∀ B':fD,B'.I.tb=B.I.tb->B'.I.pre=B.I.pre->RAt B' w t r->Calls Tryz.prog F args w (λe w'=>R e w'/\RAt B' w' t' r')) :
  Calls Tryz.prog F args w (λe w'=>R e w'/\eT B w' t' r' rows bs):=by
 refine(h.o.call C).mono ?_
 rintro e w' ⟨h1,h2,h3,h4⟩
 exact⟨h1,h2,λx hx=>CU (h.row x hx) (λb hb=>h4 b (.inl ⟨x,hx,hb⟩)),h.mx,λx hx=>(h4 _ (.inr ⟨x,hx,rfl⟩)).trans (h.box x hx),h.ap,h.nb⟩
theorem eT.callV {F:Nat} {args:Array Value} {R:Ending->Value->Prop} (h:eT B w t r rows bs) (C:∀ B':fD,B'.I.tb=B.I.tb->B'.I.pre=B.I.pre->RAt B' w t r->Calls Tryz.prog F args w (λe w'=>∃ V,R e V/\gT B' w' t' r' V l [])) :
  Calls Tryz.prog F args w (λe w'=>∃ V,R e V/\eT B w' t' r' ((V,l)::rows) bs):=by
 obtain⟨G,K,L,h1,h2,h3⟩:=h.o
 refine(C ⟨w,B.I.plus (BD rows bs),G,K,L⟩ rfl rfl ⟨G,K,L,h1,RTo.refl _ _ _ _ _⟩).mono ?_
 rintro e w' ⟨V,hR,hV⟩
 obtain⟨G',K',L',k1,k2,k3⟩:=hV.o
 have hlow:∀ b,BD rows bs b->b<w.heap.size:=λb hb=>h1.low b (.inr hb)
 have hdis:∀ b,BD rows bs b->¬ wP (B.I.plus (BD rows bs)) G K L b:=λb hb=>h1.dis b (.inr hb)
 have hst:∀ b,BD rows bs b->w'.heap[b]?=w.heap[b]?:=λb hb=>k2.chg.block b (hlow b hb) (hdis b hb)
 have hVlo:∀ b,V.ownBlock=some b->w.heap.size<=b:=λb e=>k3 b (.inl e)
 have hVmx:∀ b,V.ownBlock=some b->¬ B.I.Mx b:=λb e hm=>hV.mx b e (.inl hm)
 refine⟨V,hR,⟨G',K',L',?_,?_,λb hb=>?_⟩,λx hx=>?_,λx hx b e=>?_,λx hx=>(hst _ (.inr ⟨x,hx,rfl⟩)).trans (h.box x hx),List.pairwise_cons.2 ⟨λy hy b e e9=>?_,h.ap⟩,λx hx y hy e=>?_⟩
 ·exact k1.re (S:=noB) (Mx':=λb=>B.I.Mx b∨BD ((V,l)::rows) bs b) (Chg.refl _ _) (λ_ e=>e.elim) (λb hb=>.inl (by
   rcases hb with hb|⟨x,hx,e⟩|hb
   ·exact .inl (.inl hb)
   ·rcases List.mem_cons.1 hx with rfl|hx
    ·exact .inr (.inl e)
    ·exact .inl (.inr (.inl ⟨x,hx,e⟩))
   ·exact .inl (.inr (.inr hb))))
 ·exact h2.trans (⟨k2.chg,k2.kg,k2.kk,k2.kl⟩:RTo w w' B.I G K L G' K' L')
 ·rcases hb with⟨x,hx,e⟩|hb
  ·rcases List.mem_cons.1 hx with rfl|hx
   ·exact Nat.le_trans h2.chg.size (hVlo b e)
   ·exact h3 b (.inl ⟨x,hx,e⟩)
  ·exact h3 b (.inr hb)
 ·rcases List.mem_cons.1 hx with rfl|hx
  ·exact hV.row
  ·exact CU (h.row x hx) (λb hb=>hst b (.inl ⟨x,hx,hb⟩))
 ·rcases List.mem_cons.1 hx with rfl|hx
  ·exact hVmx b e
  ·exact h.mx x hx b e
 ·have:=hVlo b e
  have:=hlow b (.inl ⟨y,hy,e9⟩)
  omega
 ·rcases List.mem_cons.1 hx with rfl|hx
  ·have:=hVlo _ e
   have:=hlow _ (.inr ⟨y,hy,rfl⟩)
   omega
  ·exact h.nb x hx y hy e
theorem eT.callX {F:Nat} {args:Array Value} {R:Ending->Value->aJ->RWD->List Nat->Prop} (h:eT B w t r rows bs) (C:∀ B':fD,B'.I.tb=B.I.tb->B'.I.pre=B.I.pre->RAt B' w t r->Calls Tryz.prog F args w (λe w'=>∃ V t' r' l,R e V t' r' l/\gT B' w' t' r' V l [])) :
  Calls Tryz.prog F args w (λe w'=>∃ V t' r' l,R e V t' r' l/\eT B w' t' r' ((V,l)::rows) bs):=by
 obtain⟨G,K,L,h1,h2,h3⟩:=h.o
 refine(C ⟨w,B.I.plus (BD rows bs),G,K,L⟩ rfl rfl ⟨G,K,L,h1,RTo.refl _ _ _ _ _⟩).mono ?_
 rintro e w' ⟨V,t',r',l,hR,hV⟩
 obtain⟨G',K',L',k1,k2,k3⟩:=hV.o
 have hlow:∀ b,BD rows bs b->b<w.heap.size:=λb hb=>h1.low b (.inr hb)
 have hdis:∀ b,BD rows bs b->¬ wP (B.I.plus (BD rows bs)) G K L b:=λb hb=>h1.dis b (.inr hb)
 have hst:∀ b,BD rows bs b->w'.heap[b]?=w.heap[b]?:=λb hb=>k2.chg.block b (hlow b hb) (hdis b hb)
 have hVlo:∀ b,V.ownBlock=some b->w.heap.size<=b:=λb e=>k3 b (.inl e)
 have hVmx:∀ b,V.ownBlock=some b->¬ B.I.Mx b:=λb e hm=>hV.mx b e (.inl hm)
 refine⟨V,t',r',l,hR,⟨G',K',L',?_,?_,λb hb=>?_⟩,λx hx=>?_,λx hx b e=>?_,λx hx=>(hst _ (.inr ⟨x,hx,rfl⟩)).trans (h.box x hx),List.pairwise_cons.2 ⟨λy hy b e e9=>?_,h.ap⟩,λx hx y hy e=>?_⟩
 ·exact k1.re (S:=noB) (Mx':=λb=>B.I.Mx b∨BD ((V,l)::rows) bs b) (Chg.refl _ _) (λ_ e=>e.elim) (λb hb=>.inl (by
   rcases hb with hb|⟨x,hx,e⟩|hb
   ·exact .inl (.inl hb)
   ·rcases List.mem_cons.1 hx with rfl|hx
    ·exact .inr (.inl e)
    ·exact .inl (.inr (.inl ⟨x,hx,e⟩))
   ·exact .inl (.inr (.inr hb))))
 ·exact h2.trans (⟨k2.chg,k2.kg,k2.kk,k2.kl⟩:RTo w w' B.I G K L G' K' L')
 ·rcases hb with⟨x,hx,e⟩|hb
  ·rcases List.mem_cons.1 hx with rfl|hx
   ·exact Nat.le_trans h2.chg.size (hVlo b e)
   ·exact h3 b (.inl ⟨x,hx,e⟩)
  ·exact h3 b (.inr hb)
 ·rcases List.mem_cons.1 hx with rfl|hx
  ·exact hV.row
  ·exact CU (h.row x hx) (λb hb=>hst b (.inl ⟨x,hx,hb⟩))
 ·rcases List.mem_cons.1 hx with rfl|hx
  ·exact hVmx b e
  ·exact h.mx x hx b e
 ·have:=hVlo b e
  have:=hlow b (.inl ⟨y,hy,e9⟩)
  omega
 ·rcases List.mem_cons.1 hx with rfl|hx
  ·have:=hVlo _ e
   have:=hlow _ (.inr ⟨y,hy,rfl⟩)
   omega
  ·exact h.nb x hx y hy e
theorem eT.one (h:eT B w t r ((V,l)::rs) bs):gT B w t r V l []:=
 ⟨h.o.turn (Chg.refl _ _) (λb hb=>.inl (by
  rcases hb with hb|⟨x,hx,_⟩
  ·exact .inl ⟨(V,l),List.mem_cons_self,hb⟩
  ·cases hx)),h.row _ List.mem_cons_self,h.mx _ List.mem_cons_self,(λx hx=>by cases hx),λx hx=>by cases hx⟩
theorem eT.read (h:eT B w t r rows bs) (a:Int):Calls Tryz.prog 88 #[.pointer (some ⟨B.I.tb,B.I.pre.length,none⟩),.int .i64 a] w λe w'=>e=.returned (.int .u64 ((aX 0 a 0 0 t r).1:Int))/\eT B w' (aX 0 a 0 0 t r).2.1 (aX 0 a 0 0 t r).2.2 rows bs:=
 h.call (λB' e1 e2 hA=>by rw [<-e1,<-e2];exact ZA hA a)
theorem eT.write (h:eT B w t r rows bs) (a:Int) (d:Nat) (hd:d<18446744073709551616):Calls Tryz.prog 89 #[.pointer (some ⟨B.I.tb,B.I.pre.length,none⟩),.int .i64 a,.int .u64 (d:Int)] w λe w'=>e=.returned (.tuple #[])/\eT B w' (aX 1 a d 0 t r).2.1 (aX 1 a d 0 t r).2.2 rows bs:=
 h.call (λB' e1 e2 hA=>by rw [<-e1,<-e2];exact NA hA a d hd)
theorem eT.boxes (h:RAt B w t r) (hb:Below w.heap.size w w') (hbs:∀ x,x∈bs->w'.heap[x.1]?=some x.2/\w.heap.size<=x.1):eT B w' t r [] bs:=
 ⟨h.own hb (λb e=>by
  rcases e with⟨x,hx,_⟩|⟨x,hx,rfl⟩
  ·cases hx
  ·exact⟨(hbs x hx).2,Ag (hbs x hx).1⟩),(λx hx=>by cases hx),(λx hx=>by cases hx),λx hx=>(hbs x hx).1,List.Pairwise.nil,(λx hx=>by cases hx)⟩
theorem eT.collect (h:eT B w t r rows bs) (n:Nat) (hn:n<=100):Calls Tryz.prog 112 #[.pointer (some ⟨B.I.tb,B.I.pre.length,none⟩),.int .i64 (n:Int),.int .i64 0] w λe w'=>∃ V,e=.returned V/\eT B w' (fB n 0 [] t r).2.1 (fB n 0 [] t r).2.2 ((V,(fB n 0 [] t r).1)::rows) bs:=
 h.callV (R:=λe V=>e=.returned V) (λB' e1 e2 hA=>by rw [<-e1,<-e2];exact Cw hA n hn)
end
section
open Go.RowKit
def vC (old now:List Nat):Nat->Nat->Bool->Nat->List Bool->Bool×Nat×List Bool
 | 0,_,s,f,d=>(s,f,d)
 | m+1,i,s,f,d=>if old.getD i 0=now.getD i 0 then vC old now m (i+1) s f d
  else vC old now m (i+1) false (if d.getD i false=true/\f=0 then now.getD i 0 else f) (d.set i true)
def gJ (n:Nat) (d:List Bool) (old now:List Nat):Bool×Nat×List Bool:=vC old now n 0 true 0 d
def tmW (tb p:Nat) (w:World):Nat:=match w.cell? ⟨tb,p+3,none⟩,w.cell? ⟨tb,p+5,none⟩,w.cell? ⟨tb,p+6,none⟩,w.cell? ⟨tb,p+7,none⟩ with
 | some (.slice _ n _),some (.int _ a),some (.bool f),some (.bool h)=>if h=true then 0 else (n - a.toNat)+(if f=true then 1 else 0)+1
 | _,_,_,_=>0
theorem Ii {B:fD} {w:World} {t:aJ} {r:RWD} (h:RAt B w t r):tmW B.I.tb B.I.pre.length w=iC t:=by
 obtain⟨⟨gc,ga,c3⟩,_⟩:=h.lists
 unfold tmW
 rw [c3,h.cAt,h.cFresh,h.cHalt]
 unfold iC
 simp
theorem CG:∀ m j l t r,t.at_<=t.got.length->iC (fB m j l t r).2.1<=iC t/\((fB m j l t r).2.1.halt=false->t.halt=false/\iC (fB m j l t r).2.1+m<=iC t)
 | 0,_,_,t,_,_=>⟨Nat.le_refl _,λe=>⟨e,Nat.le_refl _⟩⟩
 | m+1,j,l,t,r,hle=>by
  obtain⟨a1,a2,a3⟩:=ZX 0 (j:Int) 0 0 t r hle
  obtain⟨b1,b2⟩:=CG m (j+1) (l++[(aX 0 (j:Int) 0 0 t r).1]) (aX 0 (j:Int) 0 0 t r).2.1 (aX 0 (j:Int) 0 0 t r).2.2 a3
  refine⟨Nat.le_trans b1 a1,λe=>?_⟩
  obtain⟨c1,c2⟩:=b2 e
  obtain⟨d1,d2⟩:=a2 c1
  refine⟨d2,?_⟩
  show iC (fB m (j+1) _ _ _).2.1+(m+1)<=_
  omega
structure LM (t:aJ) (i:Nat) (x:Int):Prop where
 one:1<=i
 lt:i - 1<t.ticks.length
 eq:t.ticks.getD (i - 1) 0=x
theorem LM.acc {t:aJ} {i:Nat} {x:Int} (h:LM t i x) (kd a:Int) (u v:Nat) (r:RWD):LM (aX kd a u v t r).2.1 i x:=by
 unfold aX
 split
 ·exact h
 ·split
  ·exact⟨h.one,h.lt,h.eq⟩
  ·split
   ·refine⟨h.one,?_,?_⟩
    ·show i - 1<(t.ticks++[_]).length
     rw [List.length_append];have:=h.lt;omega
    ·show(t.ticks++[_]).getD (i - 1) 0=x
     rw [List.getD_eq_getElem?_getD,List.getElem?_append_left h.lt,<-List.getD_eq_getElem?_getD]
     exact h.eq
   ·exact⟨h.one,h.lt,h.eq⟩
theorem LM.coll {i:Nat} {x:Int}:∀ m j l {t:aJ} (r:RWD),LM t i x->LM (fB m j l t r).2.1 i x
 | 0,_,_,_,_,h=>h
 | m+1,j,l,t,r,h=>LM.coll m (j+1) _ _ (h.acc 0 (j:Int) 0 0 r)
theorem Li {kd a:Int} {x y:Nat} {t:aJ} {r:RWD} (h:(aX kd a x y t r).2.1.halt=false):(aX kd a x y t r).2.1.at_=t.at_+1:=by
 unfold aX at h ⊢
 split at h
 ·rename_i h1
  rw [show t.halt=false from h] at h1;cases h1
 ·rename_i h1
  rw [if_neg h1]
  split at h
  ·rename_i h2;rw [if_pos h2]
  ·rename_i h2
   rw [if_neg h2]
   split at h
   ·rename_i h3;rw [if_pos h3]
   ·cases h
theorem OA:∀ m j l t r,t.at_<=t.got.length->(fB m j l t r).2.1.halt=false->(fB m j l t r).2.1.at_=t.at_+m
 | 0,_,_,_,_,_,_=>rfl
 | m+1,j,l,t,r,hle,h=>by
  obtain⟨a1,a2,a3⟩:=ZX 0 (j:Int) 0 0 t r hle
  have h1:=((CG m (j+1) (l++[(aX 0 (j:Int) 0 0 t r).1]) _ (aX 0 (j:Int) 0 0 t r).2.2 a3).2 h).1
  have h2:=OA m (j+1) (l++[(aX 0 (j:Int) 0 0 t r).1]) (aX 0 (j:Int) 0 0 t r).2.1 (aX 0 (j:Int) 0 0 t r).2.2 a3 h
  have h3:=Li h1
  show(fB m (j+1) _ _ _).2.1.at_=_
  rw [h2,h3];omega
def CB (t:aJ) (r:RWD):Prop:=(∀ x,x∈t.got->x<18446744073709551616)/\∀ x,x∈r.mem.ws->x<18446744073709551616
theorem UF (m:dR) (a:Int):(bL m a).1.ws=m.ws:=by unfold bL dR.fault;split<;>rfl
theorem CB.read {t:aJ} {r:RWD} (h:CB t r) (a:Int):(aX 0 a 0 0 t r).1<18446744073709551616/\CB (aX 0 a 0 0 t r).2.1 (aX 0 a 0 0 t r).2.2:=by
 have h0:(0:Nat)<18446744073709551616:=by decide
 have hm:(bL r.mem a).2<18446744073709551616:=by
  unfold bL
  split
  ·exact h0
  ·show r.mem.ws.getD _ 0<_
   rw [List.getD_eq_getElem?_getD]
   cases hx:r.mem.ws[a.toNat]? with
   | none=>exact h0
   | some x=>exact h.2 x (List.mem_of_getElem? hx)
 cases hh:t.halt with
 | true=>rw [AJ hh];exact⟨h0,h⟩
 | false=>
  by_cases ha:t.at_<t.got.length
  ·rw [DK hh ha]
   refine⟨?_,h⟩
   show t.got.getD t.at_ 0<_
   rw [List.getD_eq_getElem?_getD,List.getElem?_eq_getElem ha]
   exact h.1 _ (List.getElem_mem ha)
  ·cases hf:t.fresh with
   | false=>rw [CJ hh ha hf];exact⟨h0,h⟩
   | true=>
    rw [xW hh ha hf]
    refine⟨hm,λx hx=>?_,λx hx=>?_⟩
    ·have hx':x∈t.got++[(bL r.mem a).2]:=hx
     rcases List.mem_append.1 hx' with h9|h9
     ·exact h.1 x h9
     ·rw [List.mem_singleton.1 h9];exact hm
    ·have hx':x∈(bL r.mem a).1.ws:=hx
     rw [UF] at hx'
     exact h.2 x hx'
theorem CB.coll:∀ m j l {t:aJ} {r:RWD},CB t r->CB (fB m j l t r).2.1 (fB m j l t r).2.2
 | 0,_,_,_,_,h=>h
 | m+1,j,l,_,_,h=>CB.coll m (j+1) _ (h.read (j:Int)).2
theorem RAt.words {B:fD} {w:World} {t:aJ} {r:RWD} (h:RAt B w t r):∀ x,x∈r.mem.ws->x<18446744073709551616:=by
 obtain⟨G,K,L,h1,_⟩:=h
 obtain⟨PV,LV,KV,ht,_⟩:=h1.tape
 exact ht.mem.val
theorem MP {l:List Nat} {v M:Nat} (h:∀ x,x∈l->x<M) (hv:v<M):∀ x,x∈l++[v]->x<M:=λx hx=>by
 rcases List.mem_append.1 hx with h9|h9
 ·exact h x h9
 ·rw [List.mem_singleton.1 h9];exact hv
theorem TM (kd a:Int) (x y:Nat) (t:aJ) (r:RWD):(aX kd a x y t r).2.2.traces=r.traces/\(aX kd a x y t r).2.2.marks=r.marks:=by
 unfold aX
 split
 ·exact⟨rfl,rfl⟩
 ·split
  ·exact⟨rfl,rfl⟩
  ·split<;>exact⟨rfl,rfl⟩
theorem NF:∀ m j l t r,(fB m j l t r).2.2.traces=r.traces
 | 0,_,_,_,_=>rfl
 | m+1,j,l,t,r=>by
  show(fB m (j+1) _ _ _).2.2.traces=_
  rw [NF m];exact(TM _ _ _ _ _ _).1
variable {B:fD} {w w':World} {t:aJ} {r:RWD}
theorem Di (h:RAt B w t r) (a:Int) (hlen:r.traces.length<=1000000) (ha:-9223372036854775808<=a/\a<9223372036854775808):Calls Tryz.prog 95 #[.pointer (some ⟨B.I.tb,B.I.pre.length,none⟩),.int .i64 a] w λe w'=>∃ xa xc,e=.returned (.slice xa (gN a r).length xc)/\w=w'/\cB w xa (gN a r).length 1 (kJ (gN a r)):=by
 by_cases h0:0<=a/\a<r.traces.length
 ·obtain⟨p,rfl⟩:∃ p:Nat,a=(p:Int):=⟨a.toNat,by omega⟩
  exact Mm h p (by omega) (by omega)
 ·have ht:gN a r=[]:=by unfold gN;rw [if_pos (by omega)]
  rw [ht]
  obtain⟨⟨bW,hbW,g1,_,g2⟩,_,_⟩:=h.world
  clear hbW
  obtain⟨n,hne⟩:∃ n,n=r.traces.length:=⟨_,rfl⟩
  rw [<-hne] at g2 h0
  suffices main:Calls Tryz.prog 95 #[.pointer (some ⟨B.I.tb,B.I.pre.length,none⟩),.int .i64 a] w λe w'=>e=.returned (.slice none 0 0)/\w=w' by
   refine Calls.mono main ?_
   rintro e w' ⟨rfl,rfl⟩
   exact⟨none,0,rfl,rfl,by show 0<=maxLen;exact Nat.zero_le _,λj hj=>absurd hj (Nat.not_lt_zero j)⟩
  by_cases hneg:a<0
  ·clear hne h ht hlen h0 ha
   go_enter Tryz.func95,Tryz.ntmps95
   go_wp2
   go_ret
   exact⟨rfl,rfl⟩
  ·have l5:(n:Int)<=a:=by omega
   have l1:¬ a<(n:Int):=by omega
   clear hne h ht hlen h0 ha
   go_enter Tryz.func95,Tryz.ntmps95
   go_wp2
   go_ret
   exact⟨rfl,rfl⟩
end
end Go.Proofs.YtfkokppncipgnaaGreat
