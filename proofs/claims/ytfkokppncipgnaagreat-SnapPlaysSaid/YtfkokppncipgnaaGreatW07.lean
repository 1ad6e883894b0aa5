/- The reference's tape and world, with all that they hold: in plain numbers, and as they lie. -/
import Derived.Test.YtfkokppncipgnaaGreatW06
set_option maxRecDepth 100000
set_option linter.unusedVariables false
set_option linter.unusedSimpArgs false
set_option linter.unnecessarySimpa false
namespace Go.Proofs.YtfkokppncipgnaaGreat
section
open Go.RowKit
structure aJ where
 thread:Nat
 inv:Nat
 got:List Nat
 ticks:List Int
 at_:Nat
 fresh:Bool
 halt:Bool
 priv:List Nat
 err:Int
 val:Nat
 list:List Nat
 key:List Int
structure RWD where
 mem:dR
 now:Nat
 marks:List (List Int)
 traces:List (List Int)
def aX (kd a:Int) (x y:Nat) (t:aJ) (r:RWD):Nat×aJ×RWD:=
 if t.halt=true then (0,t,r)
 else if t.at_<t.got.length then (t.got.getD t.at_ 0,{ t with at_:=t.at_+1 },r)
 else if t.fresh=true then ((bA r.mem kd a x y).2,{ t with got:=t.got++[(bA r.mem kd a x y).2],ticks:=t.ticks++[(r.now:Int)],at_:=t.at_+1,fresh:=false },{ r with mem:=(bA r.mem kd a x y).1 })
 else (0,{ t with halt:=true },r)
def lI (t:aJ):Int:=if t.at_=0 then (t.inv:Int) else t.ticks.getD (t.at_ - 1) 0
def kD (t:aJ):Bool:=!t.halt && !t.fresh && decide (t.at_=t.got.length) && decide (0<t.at_)
def QU (p:Int) (k:List Int) (t:aJ) (r:RWD):RWD:=if kD t=true/\0<=p/\p<r.marks.length then { r with marks:=r.marks.set p.toNat k } else r
def zL (a:Int) (k:List Int) (t:aJ) (r:RWD):RWD:=if kD t=true/\0<=a/\a<r.traces.length then { r with traces:=r.traces.set a.toNat k } else r
def gN (a:Int) (r:RWD):List Int:=if a<0∨(r.traces.length:Int)<=a then [] else r.traces.getD a.toNat []
structure wN where
 tb:Nat
 pre:List Value
 post:List Value
 T:TypeId
 bW:Nat
 bw:Option Nat
 bM:Nat
 bT:Nat
 nM:Nat
 nT:Nat
 Mx:Nat->Prop
def wN.tids (I:wN):wM:=⟨I.tb,I.pre,I.post,I.T,I.bW,I.bw,.slice (some ⟨I.bM,0,none⟩) I.nM I.nM,.slice (some ⟨I.bT,0,none⟩) I.nT I.nT⟩
def aJ.raw (t:aJ) (PV LV KV:Value):iZ:=⟨(t.thread:Int),(t.inv:Int),t.got,t.ticks,t.at_,t.fresh,t.halt,PV,t.err,t.val,LV,KV⟩
def wP (I:wN) (G K L:Value) (b:Nat):Prop:=AO I.tids G K L b∨b=I.bM∨b=I.bT
def eX (I:wN) (G K L:Value) (b:Nat):Prop:=wP I G K L b∨I.Mx b
def KR (w:World) (Mut:Nat->Prop) (v:Value) (l:List Nat):Prop:=fK w Mut v l/\(l=[]->v=.slice none 0 0)
theorem KR.keep {w w':World} {S Mut Mut':Nat->Prop} {v:Value} {l:List Nat} (h:KR w Mut v l) (hc:Chg S w w') (hS:∀ b,S b->Mut b) (hm:aN Mut w Mut'):KR w' Mut' v l:=⟨h.1.keep hc hS hm,h.2⟩
theorem KR.nil (w:World) (Mut:Nat->Prop):KR w Mut (.slice none 0 0) []:=⟨fK.nil w Mut,λ_=>rfl⟩
structure iU (w:World) (Mut:Nat->Prop) (b n:Nat) (ls:List (List Int)):Prop where
 len:ls.length=n
 blk:∃ vs:List Value,w.heap[b]?=some (.cells vs.toArray 24 (0,0))/\vs.length=n/\∀ i,i<n->Lst w Mut (vs.getD i undef) (ls.getD i [])
structure fI (w:World) (I:wN) (G K L:Value) (t:aJ) (r:RWD):Prop where
 tape:∃ PV LV KV,dE w I.tids G K L (t.raw PV LV KV) r.mem r.now/\fK w (eX I G K L) PV t.priv/\KR w (eX I G K L) LV t.list/\Lst w (eX I G K L) KV t.key
 marks:iU w (eX I G K L) I.bM I.nM r.marks
 traces:iU w (eX I G K L) I.bT I.nT r.traces
 sep:I.bM≠I.bT/\I.T≠24/\∀ q,I.bw=some q->q≠I.bM/\q≠I.bT
 dis:∀ b,I.Mx b->¬ wP I G K L b
 low:∀ b,I.Mx b->b<w.heap.size
 at_le:t.at_<=t.got.length
 tl:t.ticks.length=t.got.length
 room:t.fresh=true->t.halt=false->r.mem.c.all+1<1000000000000/\t.got.length+1<=100000000
structure RTo (w w':World) (I:wN) (G K L G' K' L':Value):Prop where
 chg:Chg (wP I G K L) w w'
 kg:dY w G G'
 kk:dY w K K'
 kl:dY w L L'
structure fD where
 w0:World
 I:wN
 G:Value
 K:Value
 L:Value
def RAt (B:fD) (w:World) (t:aJ) (r:RWD):Prop:=∃ G K L,fI w B.I G K L t r/\RTo B.w0 w B.I B.G B.K B.L G K L
def wQ (B:fD) (w:World) (t:aJ) (r:RWD) (v:Value) (l:List Int):Prop:=∃ G K L,fI w B.I G K L t r/\RTo B.w0 w B.I B.G B.K B.L G K L/\Lst w (eX B.I G K L) v l
def EN (B:fD) (w:World) (t:aJ) (r:RWD) (v:Value) (l:List Nat):Prop:=∃ G K L,fI w B.I G K L t r/\RTo B.w0 w B.I B.G B.K B.L G K L/\fK w (eX B.I G K L) v l
theorem wQ.at {B:fD} {w:World} {t:aJ} {r:RWD} {v:Value} {l:List Int} (h:wQ B w t r v l):RAt B w t r:=by obtain⟨G,K,L,h1,h2,_⟩:=h;exact⟨G,K,L,h1,h2⟩
theorem EN.at {B:fD} {w:World} {t:aJ} {r:RWD} {v:Value} {l:List Nat} (h:EN B w t r v l):RAt B w t r:=by obtain⟨G,K,L,h1,h2,_⟩:=h;exact⟨G,K,L,h1,h2⟩
theorem RTo.refl (w:World) (I:wN) (G K L:Value):RTo w w I G K L G K L:=⟨Chg.refl _ _,dY.refl _ _,dY.refl _ _,dY.refl _ _⟩
theorem RTo.sub {w w':World} {I:wN} {G K L G' K' L':Value} (h:RTo w w' I G K L G' K' L'):∀ b,wP I G' K' L' b->wP I G K L b∨w.heap.size<=b:=λb hs=>by
 rcases hs with(e|e|e|e|e|e)|e
 ·exact .inl (.inl (.inl e))
 ·exact .inl (.inl (.inr (.inl e)))
 ·exact .inl (.inl (.inr (.inr (.inl e))))
 ·rcases h.kg b e with h9|h9
  ·exact .inl (.inl (.inr (.inr (.inr (.inl h9)))))
  ·exact .inr h9
 ·rcases h.kk b e with h9|h9
  ·exact .inl (.inl (.inr (.inr (.inr (.inr (.inl h9))))))
  ·exact .inr h9
 ·rcases h.kl b e with h9|h9
  ·exact .inl (.inl (.inr (.inr (.inr (.inr (.inr h9))))))
  ·exact .inr h9
 ·exact .inl (.inr e)
theorem RTo.trans {w w1 w2:World} {I:wN} {G K L G1 K1 L1 G2 K2 L2:Value} (h:RTo w w1 I G K L G1 K1 L1) (h1:RTo w1 w2 I G1 K1 L1 G2 K2 L2):RTo w w2 I G K L G2 K2 L2:=
 ⟨xZ h.chg h1.chg (λx hx hs=>(h.sub x hs).elim id (λh9=>by omega)),h.kg.trans h1.kg h.chg.size,h.kk.trans h1.kk h.chg.size,h.kl.trans h1.kl h.chg.size⟩
theorem RTo.mut {w w':World} {I:wN} {G K L G' K' L':Value} (h:RTo w w' I G K L G' K' L'):aN (eX I G K L) w (eX I G' K' L'):=λb hb=>by
 rcases hb with hb|hb
 ·rcases h.sub b hb with h9|h9
  ·exact .inl (.inl h9)
  ·exact .inr h9
 ·exact .inl (.inr hb)
theorem jF.rto {w w':World} {I:wN} {G K L G' K' L':Value} (h:jF w w' I.tids G K L G' K' L'):RTo w w' I G K L G' K' L':=⟨h.chg.mono (λ_ _ e=>.inl e),h.kg,h.kk,h.kl⟩
theorem iU.keep {w w':World} {S Mut Mut':Nat->Prop} {b n:Nat} {ls:List (List Int)} (h:iU w Mut b n ls) (hc:Chg S w w') (hS:∀ b,S b->Mut b) (hm:aN Mut w Mut') (hb:¬ S b):iU w' Mut' b n ls:=by
 obtain⟨vs,h1,h2,h3⟩:=h.blk
 exact⟨h.len,vs,(hc.block _ (aC h1) hb).trans h1,h2,λi hi=>(h3 i hi).keep hc hS hm⟩
variable {w w':World} {I:wN} {G K L G' K' L':Value} {t t':aJ} {r r':RWD}
theorem fI.bm (h:fI w I G K L t r):¬ AO I.tids G K L I.bM/\¬ AO I.tids G K L I.bT:=by
 obtain⟨PV,LV,KV,ht,_⟩:=h.tape
 obtain⟨ms,hm,_⟩:=h.marks.blk
 obtain⟨ts,htr,_⟩:=h.traces.blk
 obtain⟨s1,s2,s3⟩:=h.sep
 obtain⟨n,xs,_,hl⟩:=ht.log
 obtain⟨_,_,_,hW,_⟩:=ht.mem.blk
 have key:∀(b:Nat) (cs:Array Value),w.heap[b]?=some (.cells cs 24 (0,0))->(∀ q,I.bw=some q->q≠b)->¬ AO I.tids G K L b:=λb cs hb hq hs=>by
  rcases hs with e|e|e|e|e|e
  ·rw [e,ht.blk] at hb
   simp only [Option.some.injEq,Obj.cells.injEq] at hb
   exact s2 hb.2.1
  ·rw [e,hW] at hb
   simp only [Option.some.injEq,Obj.cells.injEq] at hb
   exact absurd hb.2.1 (by decide)
  ·exact hq b e rfl
  ·exact dJ ht.got hb (by decide) e
  ·exact dJ ht.ticks hb (by decide) e
  ·exact dJ hl hb (by decide) e
 exact⟨key _ _ hm (λq e=>(s3 q e).1),key _ _ htr (λq e=>(s3 q e).2)⟩
theorem fI.lift (h:fI w I G K L t r):∃ PV LV KV,dE w I.tids G K L (t.raw PV LV KV) r.mem r.now/\∀ {w' G' K' L' t' r'},dE w' I.tids G' K' L' (aJ.raw t' PV LV KV) (RWD.mem r') (RWD.now r')->jF w w' I.tids G K L G' K' L'->t'.priv=t.priv->t'.list=t.list->t'.key=t.key->r'.marks=r.marks->r'.traces=r.traces->
  t'.at_<=t'.got.length->t'.ticks.length=t'.got.length->(t'.fresh=true->t'.halt=false->r'.mem.c.all+1<1000000000000/\t'.got.length+1<=100000000)->fI w' I G' K' L' t' r'/\RTo w w' I G K L G' K' L':=by
 obtain⟨PV,LV,KV,ht,hp,hl,hk⟩:=h.tape
 obtain⟨bm,bt⟩:=h.bm
 refine⟨PV,LV,KV,ht,λ{w' G' K' L' t' r'} ht' tto e1 e2 e3 e4 e5 h1 h2 h3=>?_⟩
 have rto:RTo w w' I G K L G' K' L':=tto.rto
 have hS:∀ b,AO I.tids G K L b->eX I G K L b:=λb hb=>.inl (.inl hb)
 refine⟨⟨⟨PV,LV,KV,ht',by rw [e1];exact hp.keep tto.chg hS rto.mut,by rw [e2];exact hl.keep tto.chg hS rto.mut,by rw [e3];exact hk.keep tto.chg hS rto.mut⟩,by rw [e4];exact h.marks.keep tto.chg hS rto.mut bm,by rw [e5];exact h.traces.keep tto.chg hS rto.mut bt,h.sep,λb hb hs=>?_,λb hb=>Nat.lt_of_lt_of_le (h.low b hb) tto.chg.size,h1,h2,h3⟩,rto⟩
 rcases rto.sub b hs with h9|h9
 ·exact h.dis b hb h9
 ·have:=h.low b hb;omega
theorem fI.grown (h:fI w I G K L t r) (hb:Below w.heap.size w w'):fI w' I G K L t r/\RTo w w' I G K L G K L:=by
 obtain⟨PV,LV,KV,ht,hl⟩:=h.lift
 obtain⟨h1,h2⟩:=ht.grown hb
 exact hl h1 h2 rfl rfl rfl rfl rfl h.at_le h.tl h.room
variable {B:fD}
theorem RAt.grown (h:RAt B w t r) (hb:Below w.heap.size w w'):RAt B w' t r:=by
 obtain⟨G,K,L,h1,h2⟩:=h
 obtain⟨h3,h4⟩:=h1.grown hb
 exact⟨G,K,L,h3,h2.trans h4⟩
theorem wQ.grown {v:Value} {l:List Int} (h:wQ B w t r v l) (hb:Below w.heap.size w w'):wQ B w' t r v l:=by
 obtain⟨G,K,L,h1,h2,h5⟩:=h
 obtain⟨h3,h4⟩:=h1.grown hb
 exact⟨G,K,L,h3,h2.trans h4,h5.keep (S:=noB) (Chg.of_below hb) (λ_ h=>h.elim) (aN.refl _ _)⟩
theorem EN.grown {v:Value} {l:List Nat} (h:EN B w t r v l) (hb:Below w.heap.size w w'):EN B w' t r v l:=by
 obtain⟨G,K,L,h1,h2,h5⟩:=h
 obtain⟨h3,h4⟩:=h1.grown hb
 exact⟨G,K,L,h3,h2.trans h4,h5.keep (S:=noB) (Chg.of_below hb) (λ_ h=>h.elim) (aN.refl _ _)⟩
theorem RAt.cell (h:RAt B w t r):∃ G K PV LV KV,w.heap[B.I.tb]?=some (.cells (B.I.pre++(iH B.I.bW G K (t.raw PV LV KV)++B.I.post)).toArray B.I.T (0,0)):=by
 obtain⟨G,K,L,h1,_⟩:=h
 obtain⟨PV,LV,KV,ht,_⟩:=h1.tape
 exact⟨G,K,PV,LV,KV,ht.blk⟩
theorem RAt.frozen (h:RAt B w t r) (i:Nat):w.frozen? ⟨B.I.tb,i,none⟩=false:=by
 obtain⟨G,K,PV,LV,KV,hb⟩:=h.cell
 exact aB hb _
theorem RAt.lt (h:RAt B w t r):B.I.tb<w.heap.size:=by
 obtain⟨G,K,PV,LV,KV,hb⟩:=h.cell
 exact aC hb
theorem RAt.get (h:RAt B w t r) {i:Nat} (hi:i<13):∃ G K PV LV KV,w.cell? ⟨B.I.tb,B.I.pre.length+i,none⟩=(iH B.I.bW G K (t.raw PV LV KV))[i]?:=by
 obtain⟨G,K,PV,LV,KV,hb⟩:=h.cell
 exact⟨G,K,PV,LV,KV,by rw [aA hb];exact fG hi⟩
theorem RAt.cThread (h:RAt B w t r):w.cell? ⟨B.I.tb,B.I.pre.length+1,none⟩=some (.int .i64 (t.thread:Int)):=by obtain⟨_,_,_,_,_,h1⟩:=h.get (i:=1) (by omega);exact h1
theorem RAt.cInv (h:RAt B w t r):w.cell? ⟨B.I.tb,B.I.pre.length+2,none⟩=some (.int .i64 (t.inv:Int)):=by obtain⟨_,_,_,_,_,h1⟩:=h.get (i:=2) (by omega);exact h1
theorem RAt.cAt (h:RAt B w t r):w.cell? ⟨B.I.tb,B.I.pre.length+5,none⟩=some (.int .i64 (t.at_:Int)):=by obtain⟨_,_,_,_,_,h1⟩:=h.get (i:=5) (by omega);exact h1
theorem RAt.cFresh (h:RAt B w t r):w.cell? ⟨B.I.tb,B.I.pre.length+6,none⟩=some (.bool t.fresh):=by obtain⟨_,_,_,_,_,h1⟩:=h.get (i:=6) (by omega);exact h1
theorem RAt.cHalt (h:RAt B w t r):w.cell? ⟨B.I.tb,B.I.pre.length+7,none⟩=some (.bool t.halt):=by obtain⟨_,_,_,_,_,h1⟩:=h.get (i:=7) (by omega);exact h1
theorem RAt.cErr (h:RAt B w t r):w.cell? ⟨B.I.tb,B.I.pre.length+9,none⟩=some (.int .i64 t.err):=by obtain⟨_,_,_,_,_,h1⟩:=h.get (i:=9) (by omega);exact h1
theorem RAt.put (h:RAt B w t r) {i:Nat} (hi:i<13) (v:Value) {t':aJ} (hv:∀ G K PV LV KV,(iH B.I.bW G K (t.raw PV LV KV)).set i v=iH B.I.bW G K (t'.raw PV LV KV)) (hg:t'.got=t.got) (hk:t'.ticks=t.ticks) (e1:t'.priv=t.priv) (e2:t'.list=t.list) (e3:t'.key=t.key) (ha:t'.at_<=t.got.length) (hf:t'.fresh=true->t'.halt=false->t.fresh=true/\t.halt=false) :
  RAt B (w.setCell ⟨B.I.tb,B.I.pre.length+i,none⟩ v) t' r:=by
 obtain⟨G,K,L,h1,h2⟩:=h
 obtain⟨PV,LV,KV,ht,hl⟩:=h1.lift
 obtain⟨h3,h4⟩:=ht.put hi v (t':=t'.raw PV LV KV) (hv G K PV LV KV) hg hk
 obtain⟨h5,h6⟩:=hl h3 h4 e1 e2 e3 rfl rfl (by rw [hg];exact ha) (by rw [hg,hk];exact h1.tl) (λx y=>by rw [hg];exact h1.room (hf x y).1 (hf x y).2)
 exact⟨G,K,L,h5,h2.trans h6⟩
theorem RAt.putErr (h:RAt B w t r) (x:Int):RAt B (w.setCell ⟨B.I.tb,B.I.pre.length+9,none⟩ (.int .i64 x)) { t with err:=x } r:=by
 obtain⟨_,_,_,h1,_⟩:=id h
 exact h.put (i:=9) (by omega) _ (λ_ _ _ _ _=>rfl) rfl rfl rfl rfl rfl h1.at_le (λx y=>⟨x,y⟩)
theorem wQ.putKey {v:Value} {l:List Int} (h:wQ B w t r v l):RAt B (w.setCell ⟨B.I.tb,B.I.pre.length+12,none⟩ v) { t with key:=l } r:=by
 obtain⟨G,K,L,h1,h2,h9⟩:=h
 obtain⟨PV,LV,KV,ht,hp,hl,hk⟩:=h1.tape
 obtain⟨bm,bt⟩:=h1.bm
 obtain⟨h3,h4⟩:=ht.put (i:=12) (by omega) v (t':=aJ.raw { t with key:=l } PV LV v) rfl rfl rfl
 have hS:∀ b,AO B.I.tids G K L b->eX B.I G K L b:=λb hb=>.inl (.inl hb)
 have rto:RTo w _ B.I G K L G K L:=h4.rto
 exact⟨G,K,L,⟨⟨PV,LV,v,h3,hp.keep h4.chg hS rto.mut,hl.keep h4.chg hS rto.mut,h9.keep h4.chg hS rto.mut⟩,h1.marks.keep h4.chg hS rto.mut bm,h1.traces.keep h4.chg hS rto.mut bt,h1.sep,h1.dis,λb hb=>Nat.lt_of_lt_of_le (h1.low b hb) h4.chg.size,h1.at_le,h1.tl,h1.room⟩,h2.trans rto⟩
theorem EN.putList {v:Value} {l:List Nat} (h:EN B w t r v l) (hn:l=[]->v=.slice none 0 0):RAt B (w.setCell ⟨B.I.tb,B.I.pre.length+11,none⟩ v) { t with list:=l } r:=by
 obtain⟨G,K,L,h1,h2,h9⟩:=h
 obtain⟨PV,LV,KV,ht,hp,hl,hk⟩:=h1.tape
 obtain⟨bm,bt⟩:=h1.bm
 obtain⟨h3,h4⟩:=ht.put (i:=11) (by omega) v (t':=aJ.raw { t with list:=l } PV v KV) rfl rfl rfl
 have hS:∀ b,AO B.I.tids G K L b->eX B.I G K L b:=λb hb=>.inl (.inl hb)
 have rto:RTo w _ B.I G K L G K L:=h4.rto
 exact⟨G,K,L,⟨⟨PV,v,KV,h3,hp.keep h4.chg hS rto.mut,⟨h9.keep h4.chg hS rto.mut,hn⟩,hk.keep h4.chg hS rto.mut⟩,h1.marks.keep h4.chg hS rto.mut bm,h1.traces.keep h4.chg hS rto.mut bt,h1.sep,h1.dis,λb hb=>Nat.lt_of_lt_of_le (h1.low b hb) h4.chg.size,h1.at_le,h1.tl,h1.room⟩,h2.trans rto⟩
theorem EN.putPriv {v:Value} {l:List Nat} (h:EN B w t r v l):RAt B (w.setCell ⟨B.I.tb,B.I.pre.length+8,none⟩ v) { t with priv:=l } r:=by
 obtain⟨G,K,L,h1,h2,h9⟩:=h
 obtain⟨PV,LV,KV,ht,hp,hl,hk⟩:=h1.tape
 obtain⟨bm,bt⟩:=h1.bm
 obtain⟨h3,h4⟩:=ht.put (i:=8) (by omega) v (t':=aJ.raw { t with priv:=l } v LV KV) rfl rfl rfl
 have hS:∀ b,AO B.I.tids G K L b->eX B.I G K L b:=λb hb=>.inl (.inl hb)
 have rto:RTo w _ B.I G K L G K L:=h4.rto
 exact⟨G,K,L,⟨⟨v,LV,KV,h3,h9.keep h4.chg hS rto.mut,hl.keep h4.chg hS rto.mut,hk.keep h4.chg hS rto.mut⟩,h1.marks.keep h4.chg hS rto.mut bm,h1.traces.keep h4.chg hS rto.mut bt,h1.sep,h1.dis,λb hb=>Nat.lt_of_lt_of_le (h1.low b hb) h4.chg.size,h1.at_le,h1.tl,h1.room⟩,h2.trans rto⟩
theorem fI.mutlow (h:fI w I G K L t r):∀ b,eX I G K L b->b<w.heap.size:=λb hb=>by
 obtain⟨PV,LV,KV,ht,_⟩:=h.tape
 obtain⟨ms,hm,_⟩:=h.marks.blk
 obtain⟨ts,htr,_⟩:=h.traces.blk
 obtain⟨n,xs,_,hl⟩:=ht.log
 have row:∀ {e:TypeId} {k n:Nat} {V:Value} {xs:List Value},w.ownsRow 0 e k V n xs->V.ownBlock=some b->b<w.heap.size:=λh1 e=>by
  obtain⟨cs,fz,h9⟩:=gG h1 e
  exact aC h9
 rcases hb with((e|e|e|e|e|e)|e|e)|e
 ·rw [e];exact aC ht.blk
 ·rw [e];exact ht.mem.lt
 ·exact ht.mem.low b e
 ·exact row ht.got e
 ·exact row ht.ticks e
 ·exact row hl e
 ·rw [e];exact aC hm
 ·rw [e];exact aC htr
 ·exact h.low b e
theorem RAt.newL (h:RAt B w t r) (hb:Below w.heap.size w w') {a:Option Addr} {c:Nat} {l:List Int} (hs:cB w' a l.length 1 (kJ l)) (hn:l=[]->a=none/\c=0) (hlo:∀ b off,a=some ⟨b,off,none⟩->w.heap.size<=b):wQ B w' t r (.slice a l.length c) l:=by
 obtain⟨G,K,L,h1,h2⟩:=h
 obtain⟨h3,h4⟩:=h1.grown hb
 refine⟨G,K,L,h3,h2.trans h4,a,c,rfl,λe=>?_,hs,λb off e hm=>?_⟩
 ·obtain⟨rfl,rfl⟩:=hn e;rw [e];rfl
 ·have:=hlo b off e;have:=h1.mutlow b hm;omega
theorem RAt.newU (h:RAt B w t r) (hb:Below w.heap.size w w') {a:Option Addr} {c:Nat} {l:List Nat} (hs:cB w' a l.length 1 (fE l)) (hlo:0<l.length->∀ b off,a=some ⟨b,off,none⟩->w.heap.size<=b):EN B w' t r (.slice a l.length c) l:=by
 obtain⟨G,K,L,h1,h2⟩:=h
 obtain⟨h3,h4⟩:=h1.grown hb
 refine⟨G,K,L,h3,h2.trans h4,a,c,rfl,hs,λh0 b off e hm=>?_⟩
 have:=hlo h0 b off e;have:=h1.mutlow b hm;omega
end
section
open Go.RowKit
inductive Mh (σ:Type) where
 | refuse (e:Int)
 | refused (e:Int)
 | run (s:σ)
def Mh.of {σ:Type}:Mc σ->Mh σ
 | .refuse e=>.refuse e
 | .run s=>.run s
def aU (S:Sys) (o:S.ω) (wd:WD) (p:Nat):Mh S.σ->S.ω×WD×Mh S.σ×Bool
 | .refuse e=>(o,wd,.refused e,true)
 | .refused e=>(o,wd,.refused e,true)
 | .run s=>let r:=S.step o wd p s;(r.1,r.2.1,.run r.2.2.1,r.2.2.2)
def dC (S:Sys):Mh S.σ->TN×List Int
 | .refuse e=>(⟨e,0,[]⟩,[])
 | .refused e=>(⟨e,0,[]⟩,[])
 | .run s=>S.answer s
def xA {S:Sys} (R:Real S) (w:World) (Mut B:Nat->Prop) (T:TypeId) (x:Value) (p:Nat):Mh S.σ->Prop
 | .refuse e=>T=208/\∃ b be,x=.pointer (some ⟨b,0,none⟩)/\DI w b be e/\B b/\¬ Mut be
 | .refused e=>T=208/\∃ b K cap,x=.pointer (some ⟨b,0,none⟩)/\w.heap[b]?=some (.cells (kG K cap e 0) 210 (0,0))/\B b
 | .run s=>R.MRep w Mut B T x p s
variable {S:Sys} {R:Real S}
theorem xA.of_mc {w:World} {Mut B:Nat->Prop} {T:TypeId} {x:Value} {p:Nat} {m:Mc S.σ} (h:Pi R w Mut B T x p m):xA R w Mut B T x p (Mh.of m):=by
 cases m<;>exact h
theorem xA.keep (ok:gL R) {w w':World} {Q Mut Mut' B:Nat->Prop} {T:TypeId} {x:Value} {p:Nat} {m:Mh S.σ} (h:xA R w Mut B T x p m) (hc:Chg Q w w') (hQ:∀ b,Q b->Mut b) (hB:∀ b,B b->¬ Q b) (hm:aN Mut w Mut'):xA R w' Mut' B T x p m:=by
 cases m with
 | run s=>exact ok.keepM _ _ _ _ _ _ _ _ _ _ h hc hQ hB hm
 | refuse e=>
  obtain⟨h1,b,be,h2,⟨h3,h4,h5⟩,h6,h7⟩:=h
  have hlt:=World.block_lt_of_cell? _ _ h4
  refine⟨h1,b,be,h2,⟨(hc.block _ (aC h3) (hB b h6)).trans h3,aW hc (λhq=>h7 (hQ _ hq)) h4,h5⟩,h6,λhx=>?_⟩
  rcases hm _ hx with hy|hy
  ·exact h7 hy
  ·simp only at hlt;omega
 | refused e=>
  obtain⟨h1,b,K,cap,h2,h3,h6⟩:=h
  exact⟨h1,b,K,cap,h2,(hc.block _ (aC h3) (hB b h6)).trans h3,h6⟩
def Ib (R:Real S) (w:World) (Mut B:Nat->Prop) (I:iM) (N:Nat) (wd:WD) (o:S.ω) (T:TypeId) (x:Value) (p:Nat) (m:Mh S.σ) (e:Ending) (w':World):Prop:=
 e=.returned (.bool (aU S o wd p m).2.2.2)/\Chg (λb=>cK I b∨R.OB b∨B b) w w'/\∃ B',(∀ b,B' b->B b∨w.heap.size<=b)/\(∀ b,B' b->b<w'.heap.size)/\
  bJ w' (jE Mut B B') I (N+R.dN) (aU S o wd p m).2.1/\R.ORep w' (jE Mut B B') (aU S o wd p m).1/\xA R w' (jE Mut B B') B' T x p (aU S o wd p m).2.2.1
theorem zN {Mut B B':Nat->Prop} {w:World} (h:∀ b,B' b->B b∨w.heap.size<=b) (hB:∀ b,B b->Mut b):aN Mut w (jE Mut B B'):=by
 rintro b (⟨h1,_⟩|h1)
 ·exact .inl h1
 ·rcases h b h1 with h2|h2
  ·exact .inl (hB b h2)
  ·exact .inr h2
theorem bJ.more {w:World} {Mut:Nat->Prop} {I:iM} {N N':Nat} {wd:WD} (h:bJ w Mut I N wd) (hN:N<=N') (hl:N'<1000000000):bJ w Mut I N' wd:=by
 obtain⟨h1,h4,h5,h6,⟨n,M,h7,h8,h9⟩,h10,h11,h12,h13,h14⟩:=h
 exact⟨h1,h4,h5,h6,⟨n,M,h7,by omega,h9⟩,h10,h11,h12,h13,hl⟩
theorem ZV (ok:gL R) {w:World} {Mut B:Nat->Prop} {I:iM} {N:Nat} {wd:WD} {o:S.ω} {T:TypeId} {x:Value} {p:Nat} {m:Mh S.σ} (hw:bJ w Mut I N wd) (ho:R.ORep w Mut o) (hm:xA R w Mut B T x p m) (hi:R.inv o wd) (hp:p<16)
  (hN:N+R.dN<1000000000) (hc:wd.mem.c.all+1<1000000000000) (hB:∀ b,B b->Mut b/\¬ cK I b/\¬ R.OB b) (hr:∀ e,m≠.refused e) (how:∀ b,R.OB b->¬ cK I b) (hlv:∀ s,m=.run s->R.live o wd p s) :
  ∃ K recv, KD T x "Step" K recv ∧ Calls Tryz.prog K #[recv, .pointer (some ⟨I.bW, 0, none⟩)] w (Ib R w Mut B I N wd o T x p m) := by
 cases m with
 | run s=>exact ok.step w Mut B I N wd o T x p s hw ho hm hi hp hN hc hB how (hlv s rfl)
 | refused e=>exact absurd rfl (hr e)
 | refuse e=>
  obtain⟨rfl,b,be,rfl,h3,h6,h7⟩:=hm
  refine⟨_,_,TY _,?_⟩
  refine(Bb b _ _ (.pointer (some ⟨I.bW,0,none⟩)) w _ h3.1 RX (Ct b be e _ w h3)).mono ?_
  rintro e' w' ⟨rfl,er,vl,w1,⟨rfl,rfl,hb1⟩,hblk,hch⟩
  have hcb:Chg (λk=>k=b) w w':=(Chg.of_below hb1).trans hch
  have hlt:=aC h3.1
  have hsub:∀ k,(λk=>k=b) k->Mut k:=by rintro k rfl;exact(hB _ h6).1
  have hup:aN Mut w (jE Mut B (λk=>k=b)):=zN (λk hk=>by cases hk;exact .inl h6) (λk hk=>(hB k hk).1)
  refine⟨rfl,hcb.mono (λk _ hk=>by cases hk;exact .inr (.inr h6)),λk=>k=b,(λk hk=>by cases hk;exact .inl h6),(λk hk=>by cases hk;exact Nat.lt_of_lt_of_le hlt hcb.size),?_,?_,rfl,b,_,_,rfl,hblk,rfl⟩
  ·refine(hw.keep hcb hsub (by rintro k rfl;exact(hB _ h6).2.1) hup ?_ ?_).more (by omega) hN
   ·rintro k (⟨h1,_⟩|h1)
    ·exact Nat.lt_of_lt_of_le (hw.low k h1) hcb.size
    ·cases h1;exact Nat.lt_of_lt_of_le hlt hcb.size
   ·intro k hk
    by_cases hkb:B k
    ·exact absurd hk (hB k hkb).2.1
    ·exact .inl ⟨hw.muts k hk,hkb⟩
  ·exact ok.keepO _ _ _ _ _ _ ho hcb hsub (by rintro k hk rfl;exact(hB _ h6).2.2 hk) hup (λb hb=>.inl ⟨ok.lowO _ _ _ ho b hb,λhx=>(hB b hx).2.2 hb⟩)
theorem Gw (ok:gL R) {o:S.ω} {wd:WD} {p:Nat} {m:Mh S.σ} {s:S.σ} (h:(aU S o wd p m).2.2.2=true) (hs:(aU S o wd p m).2.2.1=.run s):R.done s:=by
 cases m with
 | run s0=>
  have e:(S.step o wd p s0).2.2.1=s:=by injection hs
  rw [<-e];exact ok.fin o wd p s0 h
 | refuse e=>cases hs
 | refused e=>cases hs
theorem QS (ok:gL R) {w:World} {Mut B:Nat->Prop} {T:TypeId} {x:Value} {p:Nat} {m:Mh S.σ} (hm:xA R w Mut B T x p m) (hr:∀ e,m≠.refuse e) (hd:∀ s,m=.run s->R.done s) :
  ∃ K recv, KD T x "Answer" K recv ∧ Calls Tryz.prog K #[recv] w (OQ w Mut (dC S m).1 (dC S m).2) := by
 cases m with
 | run s=>exact ok.answer w Mut B T x p s hm (hd s rfl)
 | refuse e=>exact absurd rfl (hr e)
 | refused e=>
  obtain⟨rfl,b,K,cap,rfl,h3,h6⟩:=hm
  refine⟨_,_,PE _,(VR b K cap e 0 w h3).mono ?_⟩
  rintro e' w' ⟨rfl,hb⟩
  exact⟨none,0,.slice none 0 0,rfl,fK.nil _ _,Lst.nil _ _,hb⟩
end
section
open Go.RowKit
structure vX where
 W:iM
 bP:Nat
 bl:Nat
 blm:Nat
 old:Nat->Prop
structure PG where
 Mut:Nat->Prop
 MB:Nat->Nat->Prop
 hs:List (Value×Nat)
 ev:Value
 ers:List (Value×Value)
 turn:Int
 N:Nat
def SQ (J:vX) (ev:Value) (b:Nat):Prop:=b=J.bP∨b=J.bl∨b=J.blm∨ev.ownBlock=some b
structure ZE {S:Sys} (R:Real S) (w:World) (Mut:Nat->Prop) (calls:List aD) (ov cv:Value):Prop where
 cs:∃ ca cc,cv=.slice ca calls.length cc/\cB w ca calls.length 6 (iX calls)/\(0<calls.length->∀ b off,ca=some ⟨b,off,none⟩->¬ Mut b)
 ok:∀ x∈calls,lF x/\0<=x.thread/\x.thread<16
 clen:calls.length<=1000
 objs:∃ bo oo oc,ov=.slice (some ⟨bo,oo,none⟩) 1 oc/\w.cell? ⟨bo,oo,none⟩=some (.iface R.T R.x)/\¬ Mut bo
structure Mr (w:World) (Mut:Nat->Prop) (B0:Nat) (ev:Value) (ers:List (Value×Value)) (evs:List EvD):Prop where
 row:w.ownsRow B0 52 8 ev evs.length (iP evs ers)
 elen:ers.length=evs.length
 ans:∀ i,i<evs.length->fK w Mut (ers.getD i wT).1 (evs.getD i iO).ans.list/\Lst w Mut (ers.getD i wT).2 (evs.getD i iO).key
variable {S:Sys} {R:Real S}
def jY (R:Real S) (w:World) (Mut B:Nat->Prop) (p:Nat) (hv:Value×Nat) (hd:Option (Mh S.σ)×Nat):Prop:=
 hv.2=hd.2/\match hd.1 with
 | none=>hv.1=.nilIface
 | some m=>∃ T x,hv.1=.iface T x/\xA R w Mut B T x p m
theorem ZE.keep {w w':World} {Q Mut Mut':Nat->Prop} {calls:List aD} {ov cv:Value} (h:ZE R w Mut calls ov cv) (hc:Chg Q w w') (hQ:∀ b,Q b->Mut b) (hm:aN Mut w Mut'):ZE R w' Mut' calls ov cv:=by
 obtain⟨⟨ca,cc,h1,h2,h3⟩,h4,h9,⟨bo,oo,oc,h5,h6,h7⟩⟩:=h
 have hlt:=World.block_lt_of_cell? _ _ h6
 refine⟨⟨ca,cc,h1,?_,λhp b off e hx=>?_⟩,h4,h9,⟨bo,oo,oc,h5,aW hc (λhq=>h7 (hQ _ hq)) h6,λhx=>?_⟩⟩
 ·rcases Nat.eq_zero_or_pos calls.length with h0|h0
  ·rw [h0];exact cB.nil _ _ _ _
  ·exact h2.chg hc (λb off e hq=>h3 h0 b off e (hQ b hq))
 ·obtain⟨b0,KU,e0,hb0⟩:=h2.lt hp
  rw [e0] at e;cases e
  rcases hm _ hx with hy|hy
  ·exact h3 hp _ _ e0 hy
  ·omega
 ·rcases hm _ hx with hy|hy
  ·exact h7 hy
  ·simp only at hlt;omega
theorem Mr.keep {w w':World} {Q Mut Mut':Nat->Prop} {B0:Nat} {ev:Value} {ers:List (Value×Value)} {evs:List EvD} (h:Mr w Mut B0 ev ers evs) (hc:Chg Q w w') (hQ:∀ b,Q b->Mut b) (hm:aN Mut w Mut') (he:∀ b,ev.ownBlock=some b->¬ Q b):Mr w' Mut' B0 ev ers evs:=
 ⟨bB h.row hc he,h.elen,λi hi=>⟨(h.ans i hi).1.keep hc hQ hm,(h.ans i hi).2.keep hc hQ hm⟩⟩
theorem jY.keep (ok:gL R) {w w':World} {Q Mut Mut' B:Nat->Prop} {p:Nat} {hv:Value×Nat} {hd:Option (Mh S.σ)×Nat} (h:jY R w Mut B p hv hd) (hc:Chg Q w w') (hQ:∀ b,Q b->Mut b) (hB:∀ b,B b->¬ Q b) (hm:aN Mut w Mut'):jY R w' Mut' B p hv hd:=by
 obtain⟨h1,h2⟩:=h
 refine⟨h1,?_⟩
 cases hd1:hd.1 with
 | none=>rw [hd1] at h2;exact h2
 | some m=>
  rw [hd1] at h2
  obtain⟨T,x,h3,h4⟩:=h2
  exact⟨T,x,h3,h4.keep ok hc hQ hB hm⟩
theorem iT.keepP {w w':World} {Q Mut Mut':Nat->Prop} {bl bm n:Nat} {M:Int->Value} {q:Int->List Nat} {left:Int} (h:iT w (λb=>b<w.heap.size/\¬ Mut b) bl bm n M q left) (hc:Chg Q w w') (hQ:∀ b,Q b->Mut b) (hl:¬ Q bl) (hb:¬ Q bm) (hm:aN Mut w Mut') :
  iT w' (λb=>b<w'.heap.size/\¬ Mut' b) bl bm n M q left:=by
 refine(h.chg hc hl hb (λb hz hq=>hz.2 (hQ b hq))).mono (λb hz=>⟨Nat.lt_of_lt_of_le hz.1 hc.size,λhx=>?_⟩)
 rcases hm b hx with hy|hy
 ·exact hz.2 hy
 ·omega
structure aM (R:Real S) (calls:List aD) (w:World) (J:vX) (ov cv:Value) (B0:Nat) (G:PG) (wd:WD) (o:S.ω) (fin:List Bool) (hands:List (Option (Mh S.σ)×Nat)) (evs:List EvD) (idle:Nat):Prop where
 blk:w.heap[J.bP]?=some (.cells (aO J.W.bW J.bl ov cv G.turn G.hs G.ev idle) 134 (0,0))
 h1:G.hs.length=16
 h2:hands.length=16
 hand:∀ p,p<16->jY R w G.Mut (G.MB p) p (G.hs.getD p (undef,0)) (hands.getD p (none,0))
 world:bJ w G.Mut J.W G.N wd
 obj:R.ORep w G.Mut o
 inv:R.inv o wd
 line:∃ n M left,iT w (λb=>b<w.heap.size/\¬ G.Mut b) J.bl J.blm n M (qF calls fin) left/\n<=1000+fin.count true/\left=(calls.length:Int) - (fin.count true:Int)
 flen:fin.length=calls.length
 eva:Mr w G.Mut B0 G.ev G.ers evs
 ele:evs.length<=wd.now
 at_:∀ p,p<16->∀ m,(hands.getD p (none,0)).1=some m->(hands.getD p (none,0)).2<evs.length
 imm:ZE R w G.Mut calls ov cv
 pmut:∀ b,SQ J G.ev b->G.Mut b/\¬ cK J.W b/\¬ R.OB b
 ow:∀ b,R.OB b->¬ cK J.W b
 psep:J.bP≠J.bl/\J.bP≠J.blm/\G.ev.ownBlock≠some J.bP/\G.ev.ownBlock≠some J.bl/\G.ev.ownBlock≠some J.blm
 mb:∀ p b,p<16->G.MB p b->G.Mut b/\¬ cK J.W b/\¬ R.OB b/\¬ SQ J G.ev b
 mbd:∀ p q b,p<16->q<16->p≠q->G.MB p b->¬ G.MB q b
 cnt:wd.mem.c.all<=wd.now
 nowb:wd.now<=70000
 nb:G.N<=R.dN*wd.now
 base:B0<=w.heap.size/\B0<=J.bP/\(∀ b,cK J.W b->B0<=b)/\B0<=J.bl/\B0<=J.blm/\(∀ b,R.OB b->PB R B0 b)/\(∀ p b,p<16->G.MB p b->B0<=b)
 stp:∀ i,(evs.getD i iO).steps<=wd.now
 oldm:∀ b,J.old b->G.Mut b/\b<B0
end
section
open Go.RowKit
variable {S:Sys} {R:Real S}
theorem aI {α:Type} {l:List α} {p:Nat} {v d:α} (h:p<l.length):(l.set p v).getD p d=v:=by simp [List.getD_eq_getElem?_getD,h]
theorem aK {α:Type} {l:List α} {p q:Nat} {v d:α} (h:p≠q):(l.set p v).getD q d=l.getD q d:=by simp [List.getD_eq_getElem?_getD,h]
theorem kZ {α:Type} {l:List α} {x d:α} {i:Nat} (h:i<l.length):(l++[x]).getD i d=l.getD i d:=by simp [List.getD_eq_getElem?_getD,List.getElem?_append_left h,h]
theorem gM {α:Type} {l:List α} {x d:α}:(l++[x]).getD l.length d=x:=by simp [List.getD_eq_getElem?_getD]
def LK (G:PG) (p gg:Nat) (ev':Value) (n:Nat):PG:={ G with Mut:=λb=>G.Mut b∨b=gg,hs:=G.hs.set p (.nilIface,n),ev:=ev',ers:=G.ers++[(.slice none 0 0,.slice none 0 0)],MB:=λq b=>q≠p/\G.MB q b }
theorem aM.begun (ok:gL R) {calls:List aD} {w w':World} {J:vX} {ov cv:Value} {B0:Nat} {G:PG} {wd:WD} {o:S.ω} {fin:List Bool} {hands:List (Option (Mh S.σ)×Nat)} {evs:List EvD} {idle p i:Nat} {mks:List Value} {gg cap:Nat}
  (h:aM R calls w J ov cv B0 G wd o fin hands evs idle) (hp:p<16) (hev:evs.length<wd.now)
  (hmk:mks.length=16) (hmks:∀ q,q<16->Lst w G.Mut (mks.getD q undef) (wd.marks.getD q []))
  (hP:w'.heap[J.bP]?=some (.cells (aO J.W.bW J.bl ov cv G.turn (G.hs.set p (.nilIface,evs.length)) (.slice (some ⟨gg,0,none⟩) (evs.length+1) cap) idle) 134 (0,0)))
  (hW:w'.heap[J.W.bW]?=some (.cells (dD J.W.bm wd.now (wd.inv.set p wd.now) (mks.set p (.slice none 0 0)) J.W.bt) 127 (0,0)))
  (hrow:w'.ownsRow B0 52 8 (.slice (some ⟨gg,0,none⟩) (evs.length+1) cap) (evs.length+1) (iP evs G.ers++dK (fZ i (wd.begin p)) (.slice none 0 0,.slice none 0 0)))
  (hch:Chg (λb=>b=J.W.bW∨b=J.bP∨G.ev.ownBlock=some b) w w') (hgg:G.ev.ownBlock=some gg∨w.heap.size<=gg) :
  aM R calls w' J ov cv B0 (LK G p gg (.slice (some ⟨gg,0,none⟩) (evs.length+1) cap) evs.length) (wd.begin p) o fin (hands.set p (none,evs.length)) (evs++[fZ i (wd.begin p)]) idle:=by
 have hgl:gg<w'.heap.size:=(hrow.lt gg rfl).2
 have hup:aN G.Mut w (λb=>G.Mut b∨b=gg):=by
  rintro b (hb|rfl)
  ·exact .inl hb
  ·rcases hgg with hg|hg
   ·exact .inl (h.pmut b (.inr (.inr (.inr hg)))).1
   ·exact .inr hg
 have hQ:∀ b,(b=J.W.bW∨b=J.bP∨G.ev.ownBlock=some b)->G.Mut b:=by
  rintro b (rfl|rfl|hb)
  ·exact h.world.muts _ (.inl rfl)
  ·exact(h.pmut _ (.inl rfl)).1
  ·exact(h.pmut _ (.inr (.inr (.inr hb)))).1
 have hgW:∀ b,cK J.W b->b≠gg:=by
  rintro b hb rfl
  rcases hgg with hg|hg
  ·exact(h.pmut _ (.inr (.inr (.inr hg)))).2.1 hb
  ·have:=h.world.low b (h.world.muts b hb);omega
 have hgO:∀ b,R.OB b->b≠gg:=by
  rintro b hb rfl
  rcases hgg with hg|hg
  ·exact(h.pmut _ (.inr (.inr (.inr hg)))).2.2 hb
  ·have:=h.world.low b (ok.lowO _ _ _ h.obj b hb);omega
 have hgP:J.bP≠gg/\J.bl≠gg/\J.blm≠gg:=by
  have l1:=h.world.low _ (h.pmut J.bP (.inl rfl)).1
  have l2:=h.world.low _ (h.pmut J.bl (.inr (.inl rfl))).1
  have l3:=h.world.low _ (h.pmut J.blm (.inr (.inr (.inl rfl)))).1
  rcases hgg with hg|hg
  ·have:=h.psep
   exact⟨λe=>this.2.2.1 (by rw [e];exact hg),λe=>this.2.2.2.1 (by rw [e];exact hg),λe=>this.2.2.2.2 (by rw [e];exact hg)⟩
  ·omega
 have hPW:∀ b,cK J.W b->b≠J.bP:=λb hb e=>(h.pmut J.bP (.inl rfl)).2.1 (by rw [<-e];exact hb)
 have hlow:∀ b,(G.Mut b∨b=gg)->b<w'.heap.size:=by
  rintro b (hb|rfl)
  ·exact Nat.lt_of_lt_of_le (h.world.low b hb) hch.size
  ·exact hgl
 have Dl:=h.world.inv16;have aAf:=h.world.mk16
 have sep:=h.world.sep
 have nQ:∀ b,cK J.W b->b≠J.W.bW->¬ (b=J.W.bW∨b=J.bP∨G.ev.ownBlock=some b):=by
  rintro b hb hne (e|e|e)
  ·exact hne e
  ·exact hPW b hb e
  ·exact(h.pmut _ (.inr (.inr (.inr e)))).2.1 hb
 have hworld:bJ w' (λb=>G.Mut b∨b=gg) J.W G.N (wd.begin p):=by
  obtain⟨n,M,t1,t2,t3⟩:=h.world.tr
  refine⟨⟨_,hW,by simpa using hmk,λq hq=>?_⟩,by simpa [WD.begin] using Dl,by simpa [WD.begin] using aAf,?_,⟨n,M,t1.block (hch.block _ t1.lt (nQ _ (.inr (.inr (.inl rfl))) (Ne.symm sep.2.1))),t2,λk=>(t3 k).keep hch hQ hup⟩,sep,λb hb=>.inl (h.world.muts b hb),hlow,h.world.nowlt,h.world.nlt⟩
  ·by_cases hqp:p=q
   ·subst hqp
    rw [aI (by omega)]
    show Lst _ _ _ ((wd.marks.set p []).getD p [])
    rw [aI (by omega)]
    exact Lst.nil _ _
   ·rw [aK hqp]
    show Lst _ _ _ ((wd.marks.set p []).getD q [])
    rw [aK hqp]
    exact(hmks q hq).keep hch hQ hup
  ·exact h.world.mem.chg hch (nQ _ (.inr (.inl rfl)) (Ne.symm sep.1)) (λq e=>nQ _ (.inr (.inr (.inr e.symm))) (λe2=>sep.2.2.2.1 (by rw [e,e2])))
 refine⟨hP,by simpa [LK] using h.h1,by simpa using h.h2,λq hq=>?_,hworld,?_,ok.invBegin _ _ _ h.inv,?_,h.flen,⟨?_,?_,?_⟩,?_,?_,h.imm.keep hch hQ hup,?_,h.ow,?_,?_,?_,h.cnt,h.nowb,h.nb,?_,λk=>?_,λb hb=>⟨.inl (h.oldm b hb).1,(h.oldm b hb).2⟩⟩
 ·by_cases hqp:p=q
  ·subst hqp
   show jY R w' _ _ p ((G.hs.set p (.nilIface,evs.length)).getD p (undef,0)) _
   rw [aI (by rw [h.h1];exact hp),aI (by rw [h.h2];exact hp)]
   exact⟨rfl,rfl⟩
  ·show jY R w' _ (λb=>q≠p/\G.MB q b) q ((G.hs.set p (.nilIface,evs.length)).getD q (undef,0)) _
   rw [aK hqp,aK hqp]
   have e1:(λb=>q≠p/\G.MB q b)=G.MB q:=by funext b;simp [Ne.symm hqp]
   rw [e1]
   refine(h.hand q hq).keep ok hch hQ (λb hb=>?_) hup
   have hm:=h.mb q b hq hb
   rintro(rfl|rfl|e)
   ·exact hm.2.1 (.inl rfl)
   ·exact hm.2.2.2 (.inl rfl)
   ·exact hm.2.2.2 (.inr (.inr (.inr e)))
 ·refine ok.keepO _ _ _ _ _ _ h.obj hch hQ (λb hb=>?_) hup (λb hb=>.inl (ok.lowO _ _ _ h.obj b hb))
  rintro(rfl|rfl|e)
  ·exact h.ow _ hb (.inl rfl)
  ·exact(h.pmut _ (.inl rfl)).2.2 hb
  ·exact(h.pmut _ (.inr (.inr (.inr e)))).2.2 hb
 ·obtain⟨n,M,left,t1,t2⟩:=h.line
  refine⟨n,M,left,t1.keepP hch hQ ?_ ?_ hup,t2⟩
  ·rintro(e|e|e)
   ·exact(h.pmut J.bl (.inr (.inl rfl))).2.1 (.inl e)
   ·exact h.psep.1 e.symm
   ·exact h.psep.2.2.2.1 e
  ·rintro(e|e|e)
   ·exact(h.pmut J.blm (.inr (.inr (.inl rfl)))).2.1 (.inl e)
   ·exact h.psep.2.1 e.symm
   ·exact h.psep.2.2.2.2 e
 ·show w'.ownsRow B0 _ 8 (.slice (some ⟨gg,0,none⟩) (evs.length+1) cap) (evs++[fZ i (wd.begin p)]).length (iP (evs++[fZ i (wd.begin p)]) (G.ers++[(.slice none 0 0,.slice none 0 0)]))
  rw [yB _ _ _ _ h.eva.elen.symm,List.length_append]
  simpa [iP] using hrow
 ·simp [LK,h.eva.elen]
 ·intro k hk
  show fK _ _ ((G.ers++[(Value.slice none 0 0,Value.slice none 0 0)]).getD k wT).1 _/\Lst _ _ ((G.ers++[(Value.slice none 0 0,Value.slice none 0 0)]).getD k wT).2 _
  rcases Nat.lt_or_ge k evs.length with hlt|hge
  ·rw [kZ (by rw [h.eva.elen];exact hlt),kZ hlt]
   exact⟨(h.eva.ans k hlt).1.keep hch hQ hup,(h.eva.ans k hlt).2.keep hch hQ hup⟩
  ·obtain rfl:k=evs.length:=by simp at hk;omega
   rw [gM]
   have e2:(G.ers++[(Value.slice none 0 0,Value.slice none 0 0)]).getD evs.length wT=(.slice none 0 0,.slice none 0 0):=by rw [<-h.eva.elen];exact gM
   rw [e2]
   exact⟨fK.nil _ _,Lst.nil _ _⟩
 ·simp [WD.begin];omega
 ·intro q hq m hm
  by_cases hqp:p=q
  ·subst hqp
   rw [aI (by rw [h.h2];exact hp)] at hm
   cases hm
  ·rw [aK hqp] at hm ⊢
   have:=h.at_ q hq m hm
   rw [List.length_append];exact Nat.lt_of_lt_of_le this (Nat.le_add_right _ _)
 ·rintro b (rfl|rfl|rfl|e)
  ·exact⟨.inl (h.pmut _ (.inl rfl)).1,(h.pmut _ (.inl rfl)).2⟩
  ·exact⟨.inl (h.pmut _ (.inr (.inl rfl))).1,(h.pmut _ (.inr (.inl rfl))).2⟩
  ·exact⟨.inl (h.pmut _ (.inr (.inr (.inl rfl)))).1,(h.pmut _ (.inr (.inr (.inl rfl)))).2⟩
  ·obtain rfl:gg=b:=by simpa [LK,Value.ownBlock] using e
   exact⟨.inr rfl,λhb=>hgW _ hb rfl,λhb=>hgO _ hb rfl⟩
 ·refine⟨h.psep.1,h.psep.2.1,?_,?_,?_⟩
  ·intro e;exact hgP.1 (by simpa [LK,Value.ownBlock] using e.symm)
  ·intro e;exact hgP.2.1 (by simpa [LK,Value.ownBlock] using e.symm)
  ·intro e;exact hgP.2.2 (by simpa [LK,Value.ownBlock] using e.symm)
 ·rintro q b hq ⟨hqp,hb⟩
  have hm:=h.mb q b hq hb
  refine⟨.inl hm.1,hm.2.1,hm.2.2.1,?_⟩
  rintro(e|e|e|e)
  ·exact hm.2.2.2 (.inl e)
  ·exact hm.2.2.2 (.inr (.inl e))
  ·exact hm.2.2.2 (.inr (.inr (.inl e)))
  ·obtain rfl:gg=b:=by simpa [LK,Value.ownBlock] using e
   rcases hgg with hg|hg
   ·exact hm.2.2.2 (.inr (.inr (.inr hg)))
   ·have:=h.world.low _ hm.1;omega
 ·rintro q r b hq hr hqr ⟨_,hb⟩ ⟨_,hc⟩
  exact h.mbd q r b hq hr hqr hb hc
 ·obtain⟨g1,g2,g3,g4,g5,g6,g7⟩:=h.base
  exact⟨Nat.le_trans g1 hch.size,g2,g3,g4,g5,g6,λq b hq hb=>g7 q b hq hb.2⟩
 ·rcases Nat.lt_or_ge k evs.length with hlt|hge
  ·rw [kZ hlt];exact h.stp k
  ·rcases Nat.eq_or_lt_of_le hge with rfl|hgt
   ·rw [gM];exact Nat.zero_le _
   ·have:(evs++[fZ i (wd.begin p)]).getD k iO=iO:=by
     rw [List.getD_eq_getElem?_getD,List.getElem?_eq_none (by simp;omega)];rfl
    rw [this];exact Nat.zero_le _
end
end Go.Proofs.YtfkokppncipgnaaGreat
