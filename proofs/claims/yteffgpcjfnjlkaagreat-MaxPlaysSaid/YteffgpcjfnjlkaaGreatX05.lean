/- Layer 6's reference: the next access of a tape: (*Tape).access. -/
import Derived.Test.YteffgpcjfnjlkaaGreatX04
import Derived.BigRegion
set_option maxRecDepth 100000
set_option linter.unusedVariables false
set_option linter.unusedSimpArgs false
set_option linter.unnecessarySimpa false
namespace Go.Proofs.YteffgpcjfnjlkaaGreat
open Go.RowKit
def AccD (t:TapeD) (v now:Nat):TapeD:={ t with got:=t.got++[v],ticks:=t.ticks++[(now:Int)],at_:=t.at_+1,fresh:=false }
def TapeOut (w w':World) (I:TIds) (G K L:Value) (t':TapeD) (m':MemD) (now:Nat):Prop:=∃ G' K' L',TapeAt w' I G' K' L' t' m' now/\TapeTo w w' I G K L G' K' L'
theorem TapeAt.acc {w w1:World} {I:TIds} {G K L:Value} {t:TapeD} {m m1:MemD} {now:Nat} (h:TapeAt w I G K L t m now) (hm:RMemAt w1 I.bW 106 [.int .i64 (now:Int),I.mks,I.trs,L] I.bw m1) (hc:Chg (MemSet I.bW I.bw) w w1) (hle:m.c.all<=m1.c.all) :
  TapeAt w1 I G K L t m1 now/\TapeTo w w1 I G K L G K L:=by
 obtain⟨n,xs,hn,hl⟩:=h.log
 obtain⟨t1,t2,t3,t4⟩:=h.typ
 obtain⟨wa,cap,_,hb,_⟩:=h.mem.blk
 have hne:I.tb≠I.bW:=λe=>by
  have h1:=h.blk;rw [e,hb] at h1
  simp only [Option.some.injEq,Obj.cells.injEq] at h1
  exact t4 h1.2.1.symm
 have row:∀ {e:TypeId} {k n:Nat} {V:Value} {xs:List Value},w.ownsRow 0 e k V n xs->106≠e->(∀ q,I.bw=some q->V.ownBlock≠some q)->w1.ownsRow 0 e k V n xs:=λh1 hT hq=>row_chg h1 hc (λb e hs=>by
  rcases hs with rfl|hs
  ·exact row_ne h1 hb hT e
  ·exact hq b hs.symm e)
 refine⟨⟨(hc.block _ (blk_lt h.blk) (λhs=>by
   rcases hs with e|e
   ·exact hne e
   ·exact(h.sep _ e.symm).1 rfl)).trans h.blk,hm,row h.got (by decide) (λq e=>(h.sep q e).2.1),row h.ticks (by decide) (λq e=>(h.sep q e).2.2.1),⟨n,xs,Nat.le_trans hn hle,row hl (by decide) (λq e=>(h.sep q e).2.2.2)⟩,h.typ,h.sep,h.glen,h.klen⟩,
  ⟨hc.mono (λk _ hs=>by
   rcases hs with e|e
   ·exact .inr (.inl e)
   ·exact .inr (.inr (.inl e.symm))),KeepB.refl _ _,KeepB.refl _ _,KeepB.refl _ _⟩⟩
theorem TapeAt.ne {w:World} {I:TIds} {G K L:Value} {t:TapeD} {m:MemD} {now:Nat} (h:TapeAt w I G K L t m now):I.tb≠I.bW:=λe=>by
 obtain⟨wa,cap,_,hb,_⟩:=h.mem.blk
 have h1:=h.blk;rw [e,hb] at h1
 simp only [Option.some.injEq,Obj.cells.injEq] at h1
 exact h.typ.2.2.2 h1.2.1.symm
theorem TapeAt.logged {w w1 w2:World} {I:TIds} {G K L L':Value} {t:TapeD} {m:MemD} {now n:Nat} {xs:List Value} (h:TapeAt w I G K L t m now) (hc:Chg (λk=>L.ownBlock=some k) w w1) (hk:KeepB w L L')
  (hl:w1.ownsRow 0 219 6 L' n xs) (hn:n<=m.c.all) (hw2:w2=w1.setCell ⟨I.bW,9,none⟩ L') :
  TapeAt w2 I G K L' t m now/\TapeTo w w2 I G K L G K L':=by
 obtain⟨n0,xs0,hn0,hl0⟩:=h.log
 obtain⟨t1,t2,t3,t4⟩:=h.typ
 obtain⟨wa,cap,_,hb,_⟩:=h.mem.blk
 have hL:∀ k,L.ownBlock=some k->k≠I.tb/\k≠I.bW/\G.ownBlock≠some k/\K.ownBlock≠some k:=λk e=>⟨λe9=>row_ne hl0 h.blk t3 (e9 ▸ e),λe9=>row_ne hl0 hb (by decide) (e9 ▸ e),λe9=>row_row hl0 h.got (by decide) e9 e,λe9=>row_row hl0 h.ticks (by decide) e9 e⟩
 have hL':∀ k,L'.ownBlock=some k->k≠I.bW:=λk e e9=>by
  have:w1.heap[I.bW]?=w.heap[I.bW]?:=hc.block _ (blk_lt hb) (λe=>(hL _ e).2.1 rfl)
  exact row_ne hl (this.trans hb) (by decide) (e9 ▸ e)
 have hm1:RMemAt w1 I.bW 106 [.int .i64 (now:Int),I.mks,I.trs,L] I.bw m:=h.mem.chg hc (λe=>(hL _ e).2.1 rfl) (λq e e9=>(h.sep q e).2.2.2 e9)
 have hm2:=hm1.tail 3 L'
 have hcs:Chg (λk=>k=I.bW) w1 w2:=by rw [hw2];exact(Chg.refl (λk=>k=I.bW) w1).setCell (p:=⟨I.bW,9,none⟩) (.inl rfl) _
 have hc2:Chg (λk=>k=I.bW∨L.ownBlock=some k) w w2:=(hc.mono (λk _ e=>.inr e)).trans (hcs.mono (λk _ e=>.inl e))
 rw [<-hw2] at hm2
 refine⟨⟨(hc2.block _ (blk_lt h.blk) (λhs=>by
   rcases hs with e|e
   ·exact h.ne e
   ·exact(hL _ e).1 rfl)).trans h.blk,hm2,?_,?_,⟨n,xs,hn,row_chg hl hcs (λb e e9=>hL' b e e9)⟩,h.typ,λq e=>?_,h.glen,h.klen⟩,
  ⟨hc2.mono (λk _ hs=>by
   rcases hs with e|e
   ·exact .inr (.inl e)
   ·exact .inr (.inr (.inr (.inr (.inr e))))),KeepB.refl _ _,KeepB.refl _ _,hk⟩⟩
 ·exact row_chg h.got hc2 (λb e hs=>by
   rcases hs with e9|e9
   ·exact row_ne h.got hb (by decide) (e9 ▸ e)
   ·exact(hL b e9).2.2.1 e)
 ·exact row_chg h.ticks hc2 (λb e hs=>by
   rcases hs with e9|e9
   ·exact row_ne h.ticks hb (by decide) (e9 ▸ e)
   ·exact(hL b e9).2.2.2 e)
 ·obtain⟨q1,q2,q3,q4⟩:=h.sep q e
  refine⟨q1,q2,q3,λe9=>?_⟩
  rcases hk q e9 with e8|e8
  ·exact q4 e8
  ·have:=h.mem.low q e;omega
theorem TapeAt.gotten {w w1 w2:World} {I:TIds} {G K L G':Value} {t:TapeD} {m:MemD} {now v:Nat} (h:TapeAt w I G K L t m now) (hc:Chg (λk=>G.ownBlock=some k) w w1) (hk:KeepB w G G')
  (hl:w1.ownsRow 0 46 1 G' (t.got.length+1) (t.got.map u64V++[u64V v])) (hn:t.got.length+1<=100000000) (hw2:w2=w1.setCell ⟨I.tb,I.pre.length+3,none⟩ G') :
  TapeAt w2 I G' K L { t with got:=t.got++[v] } m now/\TapeTo w w2 I G K L G' K L:=by
 obtain⟨n0,xs0,hn0,hl0⟩:=h.log
 obtain⟨t1,t2,t3,t4⟩:=h.typ
 obtain⟨wa,cap,_,hb,_⟩:=h.mem.blk
 have hL:∀ k,G.ownBlock=some k->k≠I.tb/\k≠I.bW/\L.ownBlock≠some k/\K.ownBlock≠some k:=λk e=>⟨λe9=>row_ne h.got h.blk t1 (e9 ▸ e),λe9=>row_ne h.got hb (by decide) (e9 ▸ e),λe9=>row_row h.got hl0 (by decide) e9 e,λe9=>row_row h.got h.ticks (by decide) e9 e⟩
 have hb1:w1.heap[I.tb]?=some (.cells (I.pre++(tapeL I.bW G K t++I.post)).toArray I.T (0,0)):=(hc.block _ (blk_lt h.blk) (λe=>(hL _ e).1 rfl)).trans h.blk
 have hL':∀ k,G'.ownBlock=some k->k≠I.tb:=λk e e9=>row_ne hl hb1 t1 (e9 ▸ e)
 have hcs:Chg (λk=>k=I.tb) w1 w2:=by rw [hw2];exact(Chg.refl (λk=>k=I.tb) w1).setCell (p:=⟨I.tb,I.pre.length+3,none⟩) (.inl rfl) _
 have hc2:Chg (λk=>k=I.tb∨G.ownBlock=some k) w w2:=(hc.mono (λk _ e=>.inr e)).trans (hcs.mono (λk _ e=>.inl e))
 refine⟨⟨by rw [hw2];exact tape_set hb1 (by omega) G' rfl,h.mem.chg hc2 (λhs=>?_) (λq e hs=>?_),?_,?_,⟨n0,xs0,hn0,?_⟩,h.typ,λq e=>?_,by simpa using hn,h.klen⟩,
  ⟨hc2.mono (λk _ hs=>by
   rcases hs with e|e
   ·exact .inl e
   ·exact .inr (.inr (.inr (.inl e)))),hk,KeepB.refl _ _,KeepB.refl _ _⟩⟩
 ·rcases hs with e|e
  ·exact h.ne e.symm
  ·exact(hL _ e).2.1 rfl
 ·rcases hs with e9|e9
  ·exact(h.sep q e).1 e9
  ·exact(h.sep q e).2.1 e9
 ·have:=row_chg hl hcs (λb e e9=>hL' b e e9)
  simpa using this
 ·exact row_chg h.ticks hc2 (λb e hs=>by
   rcases hs with e9|e9
   ·exact row_ne h.ticks h.blk t2 (e9 ▸ e)
   ·exact(hL b e9).2.2.2 e)
 ·exact row_chg hl0 hc2 (λb e hs=>by
   rcases hs with e9|e9
   ·exact row_ne hl0 h.blk t3 (e9 ▸ e)
   ·exact(hL b e9).2.2.1 e)
 ·obtain⟨q1,q2,q3,q4⟩:=h.sep q e
  refine⟨q1,λe9=>?_,q3,q4⟩
  rcases hk q e9 with e8|e8
  ·exact q2 e8
  ·have:=h.mem.low q e;omega
theorem TapeAt.ticked {w w1 w2:World} {I:TIds} {G K L K':Value} {t:TapeD} {m:MemD} {now:Nat} {v:Int} (h:TapeAt w I G K L t m now) (hc:Chg (λk=>K.ownBlock=some k) w w1) (hk:KeepB w K K')
  (hl:w1.ownsRow 0 3 1 K' (t.ticks.length+1) (t.ticks.map intV++[intV v])) (hn:t.ticks.length+1<=100000000) (hw2:w2=w1.setCell ⟨I.tb,I.pre.length+4,none⟩ K') :
  TapeAt w2 I G K' L { t with ticks:=t.ticks++[v] } m now/\TapeTo w w2 I G K L G K' L:=by
 obtain⟨n0,xs0,hn0,hl0⟩:=h.log
 obtain⟨t1,t2,t3,t4⟩:=h.typ
 obtain⟨wa,cap,_,hb,_⟩:=h.mem.blk
 have hL:∀ k,K.ownBlock=some k->k≠I.tb/\k≠I.bW/\L.ownBlock≠some k/\G.ownBlock≠some k:=λk e=>⟨λe9=>row_ne h.ticks h.blk t2 (e9 ▸ e),λe9=>row_ne h.ticks hb (by decide) (e9 ▸ e),λe9=>row_row h.ticks hl0 (by decide) e9 e,λe9=>row_row h.ticks h.got (by decide) e9 e⟩
 have hb1:w1.heap[I.tb]?=some (.cells (I.pre++(tapeL I.bW G K t++I.post)).toArray I.T (0,0)):=(hc.block _ (blk_lt h.blk) (λe=>(hL _ e).1 rfl)).trans h.blk
 have hL':∀ k,K'.ownBlock=some k->k≠I.tb:=λk e e9=>row_ne hl hb1 t2 (e9 ▸ e)
 have hcs:Chg (λk=>k=I.tb) w1 w2:=by rw [hw2];exact(Chg.refl (λk=>k=I.tb) w1).setCell (p:=⟨I.tb,I.pre.length+4,none⟩) (.inl rfl) _
 have hc2:Chg (λk=>k=I.tb∨K.ownBlock=some k) w w2:=(hc.mono (λk _ e=>.inr e)).trans (hcs.mono (λk _ e=>.inl e))
 refine⟨⟨by rw [hw2];exact tape_set hb1 (by omega) K' rfl,h.mem.chg hc2 (λhs=>?_) (λq e hs=>?_),?_,?_,⟨n0,xs0,hn0,?_⟩,h.typ,λq e=>?_,h.glen,by simpa using hn⟩,
  ⟨hc2.mono (λk _ hs=>by
   rcases hs with e|e
   ·exact .inl e
   ·exact .inr (.inr (.inr (.inr (.inl e))))),KeepB.refl _ _,hk,KeepB.refl _ _⟩⟩
 ·rcases hs with e|e
  ·exact h.ne e.symm
  ·exact(hL _ e).2.1 rfl
 ·rcases hs with e9|e9
  ·exact(h.sep q e).1 e9
  ·exact(h.sep q e).2.2.1 e9
 ·exact row_chg h.got hc2 (λb e hs=>by
   rcases hs with e9|e9
   ·exact row_ne h.got h.blk t1 (e9 ▸ e)
   ·exact(hL b e9).2.2.2 e)
 ·have:=row_chg hl hcs (λb e e9=>hL' b e e9)
  simpa using this
 ·exact row_chg hl0 hc2 (λb e hs=>by
   rcases hs with e9|e9
   ·exact row_ne hl0 h.blk t3 (e9 ▸ e)
   ·exact(hL b e9).2.2.1 e)
 ·obtain⟨q1,q2,q3,q4⟩:=h.sep q e
  refine⟨q1,q2,λe9=>?_,q4⟩
  rcases hk q e9 with e8|e8
  ·exact q3 e8
  ·have:=h.mem.low q e;omega
end Go.Proofs.YteffgpcjfnjlkaaGreat
