/- Layer 6's reference: the tape of an operation, as it lies in memory. -/
import Derived.Test.YtfkokppncipgnaaGreatV03
import Derived.Test.YtfkokppncipgnaaGreatV04
import Derived.Test.YtfkokppncipgnaaGreatV01
import Derived.Deep.QuietTactic
import Derived.BigRegion
set_option maxRecDepth 100000
set_option linter.unusedVariables false
set_option linter.unusedSimpArgs false
set_option linter.unnecessarySimpa false
namespace Go.Proofs.YtfkokppncipgnaaGreat
open List renaming getElem_toArray → zq1, getElem_cons_zero → zq2, getElem_cons_succ → zq3, setIfInBounds_toArray → zq4, set_cons_zero → zq5, set_cons_succ → zq6
section
open Go.RowKit
def intV (x:Int):Value:=.int .i64 x
structure TapeD where
 thread:Int
 inv:Int
 got:List Nat
 ticks:List Int
 at_:Nat
 fresh:Bool
 halt:Bool
 priv:Value
 err:Int
 val:Nat
 list:Value
 key:Value
structure TIds where
 tb:Nat
 pre:List Value
 post:List Value
 T:TypeId
 bW:Nat
 bw:Option Nat
 mks:Value
 trs:Value
def tapeL (bW:Nat) (G K:Value) (t:TapeD):List Value:=
 [.pointer (some ⟨bW,0,none⟩),.int .i64 t.thread,.int .i64 t.inv,G,K,.int .i64 (t.at_:Int),.bool t.fresh,.bool t.halt,t.priv,.int .i64 t.err,.int .u64 (t.val:Int),t.list,t.key]
structure TapeAt (w:World) (I:TIds) (G K L:Value) (t:TapeD) (m:MemD) (now:Nat):Prop where
 blk:w.heap[I.tb]?=some (.cells (I.pre++(tapeL I.bW G K t++I.post)).toArray I.T (0,0))
 mem:RMemAt w I.bW 93 [.int .i64 (now:Int),I.mks,I.trs,L] I.bw m
 got:w.ownsRow 0 46 1 G t.got.length (t.got.map u64V)
 ticks:w.ownsRow 0 3 1 K t.ticks.length (t.ticks.map intV)
 log:∃ n xs,n<=m.c.all/\w.ownsRow 0 212 6 L n xs
 typ:I.T≠46/\I.T≠3/\I.T≠212/\I.T≠93
 sep:∀ q,I.bw=some q->q≠I.tb/\G.ownBlock≠some q/\K.ownBlock≠some q/\L.ownBlock≠some q
 glen:t.got.length<=100000000
 klen:t.ticks.length<=100000000
def TSet (I:TIds) (G K L:Value) (k:Nat):Prop:=k=I.tb∨k=I.bW∨I.bw=some k∨G.ownBlock=some k∨K.ownBlock=some k∨L.ownBlock=some k
def KeepB (w:World) (V V':Value):Prop:=∀ b,V'.ownBlock=some b->V.ownBlock=some b∨w.heap.size<=b
structure TapeTo (w w':World) (I:TIds) (G K L G' K' L':Value):Prop where
 chg:Chg (TSet I G K L) w w'
 kg:KeepB w G G'
 kk:KeepB w K K'
 kl:KeepB w L L'
theorem KeepB.refl (w:World) (V:Value):KeepB w V V:=λ_ h=>.inl h
theorem KeepB.trans {w w1:World} {V V1 V2:Value} (h:KeepB w V V1) (h1:KeepB w1 V1 V2) (hs:w.heap.size<=w1.heap.size):KeepB w V V2:=λb hb=>by
 rcases h1 b hb with h9|h9
 ·exact h b h9
 ·exact .inr (by omega)
theorem chg_trans2 {S S1:Nat->Prop} {a b c:World} (h:Chg S a b) (k:Chg S1 b c) (hs:∀ x,x<a.heap.size->S1 x->S x):Chg S a c:=
 ⟨k.os.trans h.os,k.tape.trans h.tape,k.output.trans h.output,Nat.le_trans h.size k.size,λi hi hn=>(k.block i (Nat.lt_of_lt_of_le hi h.size) (λx=>hn (hs i hi x))).trans (h.block i hi hn)⟩
theorem TapeTo.refl (w:World) (I:TIds) (G K L:Value):TapeTo w w I G K L G K L:=⟨Chg.refl _ _,KeepB.refl _ _,KeepB.refl _ _,KeepB.refl _ _⟩
theorem TapeTo.trans {w w1 w2:World} {I:TIds} {G K L G1 K1 L1 G2 K2 L2:Value} (h:TapeTo w w1 I G K L G1 K1 L1) (h1:TapeTo w1 w2 I G1 K1 L1 G2 K2 L2):TapeTo w w2 I G K L G2 K2 L2:=by
 refine⟨chg_trans2 h.chg h1.chg (λx hx hs=>?_),h.kg.trans h1.kg h.chg.size,h.kk.trans h1.kk h.chg.size,h.kl.trans h1.kl h.chg.size⟩
 rcases hs with e|e|e|e|e|e
 ·exact .inl e
 ·exact .inr (.inl e)
 ·exact .inr (.inr (.inl e))
 ·rcases h.kg x e with h9|h9
  ·exact .inr (.inr (.inr (.inl h9)))
  ·omega
 ·rcases h.kk x e with h9|h9
  ·exact .inr (.inr (.inr (.inr (.inl h9))))
  ·omega
 ·rcases h.kl x e with h9|h9
  ·exact .inr (.inr (.inr (.inr (.inr h9))))
  ·omega
theorem row_type {w:World} {B:Nat} {e:TypeId} {k n:Nat} {V:Value} {xs:List Value} (h:w.ownsRow B e k V n xs) {b:Nat} (hb:V.ownBlock=some b):∃ cs fz,w.heap[b]?=some (.cells cs e fz):=by
 obtain⟨_,h2⟩:=h
 rcases h2 with⟨rfl,_⟩|⟨g,cap,cur,rfl,_,hh,_⟩
 ·cases hb
 ·cases hb;exact⟨_,_,hh⟩
theorem row_ne {w:World} {B:Nat} {e T:TypeId} {k n b:Nat} {V:Value} {xs:List Value} {cs:Array Value} {fz:Nat×Nat} (h:w.ownsRow B e k V n xs) (hb:w.heap[b]?=some (.cells cs T fz)) (hT:T≠e):V.ownBlock≠some b:=λe9=>by
 obtain⟨cs',fz',h'⟩:=row_type h e9
 rw [hb] at h'
 simp only [Option.some.injEq,Obj.cells.injEq] at h'
 exact hT h'.2.1
theorem row_row {w:World} {B B':Nat} {e e':TypeId} {k k' n n' b:Nat} {V V':Value} {xs xs':List Value} (h:w.ownsRow B e k V n xs) (h':w.ownsRow B' e' k' V' n' xs') (hT:e'≠e) (hb:V'.ownBlock=some b):V.ownBlock≠some b:=by
 obtain⟨cs',fz',h9⟩:=row_type h' hb
 exact row_ne h h9 hT
theorem RMemAt.wld {w:World} {b:Nat} {T:TypeId} {tail:List Value} {bw:Option Nat} {m:MemD} (h:RMemAt w b T tail bw m):∃ wa cap,CapOk wa m.ws.length cap/\w.heap[b]?=some (.cells (rmemCells wa m.ws.length cap m.c tail) T (0,0))/\SlAt w wa m.ws.length 1 (u64G m.ws)/\(∀ q off,wa=some ⟨q,off,none⟩->0<m.ws.length->off=0/\bw=some q):=by
 obtain⟨wa,cap,hl,hb,hw⟩:=h.blk
 have hlen:=h.len
 refine⟨wa,cap,hl,hb,⟨by unfold maxLen;omega,λj hj=>?_⟩,λq off e hp=>?_⟩
 ·obtain⟨q,rest,hq,ha,hr⟩:=hw (by omega)
  refine⟨q,0,ha,h.low q hq,λf hf=>?_⟩
  obtain rfl:f=0:=by omega
  rw [cell_blk hr]
  simp [u64G,u64V,List.getD_eq_getElem?_getD,hj,List.getElem?_append]
 ·obtain⟨q',rest,hq,ha,hr⟩:=hw hp
  rw [ha] at e
  cases e
  exact⟨rfl,hq⟩
theorem RMemAt.tail {w:World} {b:Nat} {T:TypeId} {tail:List Value} {bw:Option Nat} {m:MemD} (h:RMemAt w b T tail bw m) (i:Nat) (v:Value):RMemAt (w.setCell ⟨b,6+i,none⟩ v) b T (tail.set i v) bw m:=by
 obtain⟨wa,cap,hl,hb,hw⟩:=h.blk
 refine⟨⟨wa,cap,hl,?_,λhp=>?_⟩,h.apart,λq e=>by have:=h.low q e;simpa [World.setCell] using this,h.len,h.cnt,h.val⟩
 ·rw [blk_set hb]
  congr 2
  unfold rmemCells
  rw [show 6+i=i+6 by omega]
  simp [List.set]
 ·obtain⟨q,rest,hq,ha,hr⟩:=hw hp
  exact⟨q,rest,hq,ha,by rw [blk_set_other (by rintro rfl;exact h.apart hq)];exact hr⟩
theorem mid_get {pre X post:List Value} {i:Nat} (hi:i<X.length):(pre++(X++post)).toArray[pre.length+i]?=X[i]?:=by
 simp only [List.getElem?_toArray]
 rw [List.getElem?_append_right (by omega),Nat.add_sub_cancel_left,List.getElem?_append_left hi]
theorem mid_set {pre X post:List Value} {i:Nat} (hi:i<X.length) (v:Value):(pre++(X++post)).toArray.setIfInBounds (pre.length+i) v=(pre++(X.set i v++post)).toArray:=by
 rw [zq4,List.set_append_right _ _ (by omega),Nat.add_sub_cancel_left,List.set_append_left _ _ hi]
theorem TapeAt.cell {w:World} {I:TIds} {G K L:Value} {t:TapeD} {m:MemD} {now:Nat} (h:TapeAt w I G K L t m now) {i:Nat} (hi:i<13):w.cell? ⟨I.tb,I.pre.length+i,none⟩=(tapeL I.bW G K t)[i]?:=by
 rw [cell_blk h.blk];exact mid_get hi
theorem TapeAt.cell0 {w:World} {I:TIds} {G K L:Value} {t:TapeD} {m:MemD} {now:Nat} (h:TapeAt w I G K L t m now):w.cell? ⟨I.tb,I.pre.length,none⟩=some (.pointer (some ⟨I.bW,0,none⟩)):=h.cell (i:=0) (by omega)
theorem tape_set {w:World} {I:TIds} {G K:Value} {t:TapeD} (h:w.heap[I.tb]?=some (.cells (I.pre++(tapeL I.bW G K t++I.post)).toArray I.T (0,0))) {i:Nat} (hi:i<13) (v:Value) {G' K':Value} {t':TapeD} (hv:(tapeL I.bW G K t).set i v=tapeL I.bW G' K' t') :
  (w.setCell ⟨I.tb,I.pre.length+i,none⟩ v).heap[I.tb]?=some (.cells (I.pre++(tapeL I.bW G' K' t'++I.post)).toArray I.T (0,0)):=by
 rw [blk_set h,mid_set (by exact hi),hv]
theorem TapeAt.chg {S:Nat->Prop} {w w':World} {I:TIds} {G K L:Value} {t:TapeD} {m:MemD} {now:Nat} (h:TapeAt w I G K L t m now) (hc:Chg S w w') (hs:∀ k,TSet I G K L k->¬ S k):TapeAt w' I G K L t m now:=by
 obtain⟨n,xs,hn,hl⟩:=h.log
 refine⟨(hc.block _ (blk_lt h.blk) (hs _ (.inl rfl))).trans h.blk,h.mem.chg hc (hs _ (.inr (.inl rfl))) (λq e=>hs q (.inr (.inr (.inl e)))),?_,?_,⟨n,xs,hn,?_⟩,h.typ,h.sep,h.glen,h.klen⟩
 ·exact row_chg h.got hc (λb e=>hs b (.inr (.inr (.inr (.inl e)))))
 ·exact row_chg h.ticks hc (λb e=>hs b (.inr (.inr (.inr (.inr (.inl e))))))
 ·exact row_chg hl hc (λb e=>hs b (.inr (.inr (.inr (.inr (.inr e))))))
theorem TapeAt.put {w:World} {I:TIds} {G K L:Value} {t:TapeD} {m:MemD} {now:Nat} (h:TapeAt w I G K L t m now) {i:Nat} (hi:i<13) (v:Value) {t':TapeD} (hv:(tapeL I.bW G K t).set i v=tapeL I.bW G K t') (hg:t'.got=t.got) (hk:t'.ticks=t.ticks) :
  TapeAt (w.setCell ⟨I.tb,I.pre.length+i,none⟩ v) I G K L t' m now/\TapeTo w (w.setCell ⟨I.tb,I.pre.length+i,none⟩ v) I G K L G K L:=by
 have hc:Chg (λk=>k=I.tb) w (w.setCell ⟨I.tb,I.pre.length+i,none⟩ v):=(Chg.refl (λk=>k=I.tb) w).setCell (p:=⟨I.tb,I.pre.length+i,none⟩) (.inl rfl) v
 obtain⟨n,xs,hn,hl⟩:=h.log
 obtain⟨t1,t2,t3,t4⟩:=h.typ
 obtain⟨wa,cap,_,hb,_⟩:=h.mem.blk
 have hne:I.tb≠I.bW:=λe=>by
  have h1:=h.blk;rw [e,hb] at h1
  simp only [Option.some.injEq,Obj.cells.injEq] at h1
  exact t4 h1.2.1.symm
 refine⟨⟨tape_set h.blk hi v hv,h.mem.chg hc (λe=>hne e.symm) (λq e=>(h.sep q e).1),?_,?_,⟨n,xs,hn,?_⟩,h.typ,h.sep,by rw [hg];exact h.glen,by rw [hk];exact h.klen⟩,⟨hc.mono (λk _ e=>.inl e),KeepB.refl _ _,KeepB.refl _ _,KeepB.refl _ _⟩⟩
 ·rw [hg];exact row_chg h.got hc (λb e e9=>row_ne h.got h.blk t1 (e9 ▸ e))
 ·rw [hk];exact row_chg h.ticks hc (λb e e9=>row_ne h.ticks h.blk t2 (e9 ▸ e))
 ·exact row_chg hl hc (λb e e9=>row_ne hl h.blk t3 (e9 ▸ e))
end
section

/- Regions that draw their order, whose operations only read, and whose calls leave what was there: one walk in the order of the text serves every order. -/
open Go.RowKit
structure GrownOf (w:World) where
 u:World
 below:Below w.heap.size w u
instance grownOf_nonempty (w:World):Nonempty (GrownOf w):=⟨⟨w,Below.refl _ _⟩⟩
theorem wp_region_grown_lit {P:Program} {id:Nat} {Q:Exit->Act->World->Prop} {a:Act} {w:World} {l:List Oper} (hm:P.follows .mixedOrders=true) (hB:Region.lexB .any l.toArray=true)
  (h:wpQuiet P l.toArray (λw'=>∃ n:GrownOf w,w'=n.u) (λa'=>∀ w',(∃ n:GrownOf w,w'=n.u)->Q .normal a' w') l a):(Code.region id l.toArray true).wp P Q a w:=
 wp_region_quiet (C:=λw'=>∃ n:GrownOf w,w'=n.u) hm hB ⟨⟨_,(Below.refl w.heap.size w).drew⟩,rfl⟩ (by simpa using h)
theorem grown_cell {w:World} {p:Addr} {v:Value} (h:w.cell? p=some v):∀ n:GrownOf w,n.u.cell? p=some v:=λn=>(n.below.cell (World.block_lt_of_cell? _ _ h)).trans h
theorem quietG {P:Program} {f:FuncId} {args:Array Value} {w:World} {n:GrownOf w} {v:Value}
  (h:Calls P f args n.u λe w'=>e=.returned v/\Below n.u.heap.size n.u w'):Calls P f args n.u λe w''=>e=.returned v/\∃ m:GrownOf w,w''=m.u:=
 h.mono λ_ w' ⟨he,hb⟩=>⟨he,⟨w',Gr.trans n.below hb⟩,rfl⟩
end
section

/- Layer 6's reference: the next access of a tape: (*Tape).access. -/
open Go.RowKit
def AccD (t:TapeD) (v now:Nat):TapeD:={ t with got:=t.got++[v],ticks:=t.ticks++[(now:Int)],at_:=t.at_+1,fresh:=false }
def TapeOut (w w':World) (I:TIds) (G K L:Value) (t':TapeD) (m':MemD) (now:Nat):Prop:=∃ G' K' L',TapeAt w' I G' K' L' t' m' now/\TapeTo w w' I G K L G' K' L'
theorem TapeAt.acc {w w1:World} {I:TIds} {G K L:Value} {t:TapeD} {m m1:MemD} {now:Nat} (h:TapeAt w I G K L t m now) (hm:RMemAt w1 I.bW 93 [.int .i64 (now:Int),I.mks,I.trs,L] I.bw m1) (hc:Chg (MemSet I.bW I.bw) w w1) (hle:m.c.all<=m1.c.all) :
  TapeAt w1 I G K L t m1 now/\TapeTo w w1 I G K L G K L:=by
 obtain⟨n,xs,hn,hl⟩:=h.log
 obtain⟨t1,t2,t3,t4⟩:=h.typ
 obtain⟨wa,cap,_,hb,_⟩:=h.mem.blk
 have hne:I.tb≠I.bW:=λe=>by
  have h1:=h.blk;rw [e,hb] at h1
  simp only [Option.some.injEq,Obj.cells.injEq] at h1
  exact t4 h1.2.1.symm
 have row:∀ {e:TypeId} {k n:Nat} {V:Value} {xs:List Value},w.ownsRow 0 e k V n xs->93≠e->(∀ q,I.bw=some q->V.ownBlock≠some q)->w1.ownsRow 0 e k V n xs:=λh1 hT hq=>row_chg h1 hc (λb e hs=>by
  rcases hs with rfl|hs
  ·exact row_ne h1 hb hT e
  ·exact hq b hs.symm e)
 refine⟨⟨(hc.block _ (blk_lt h.blk) (λhs=>by
   rcases hs with e|e
   ·exact hne e
   ·exact(h.sep _ e.symm).1 rfl)).trans h.blk,hm,row h.got (by decide) (λq e=>(h.sep q e).2.1),row h.ticks (by decide) (λq e=>(h.sep q e).2.2.1),⟨n,xs,Nat.le_trans hn hle,row hl (by decide) (λq e=>(h.sep q e).2.2.2)⟩,h.typ,h.sep,h.glen,h.klen⟩,
  ⟨hc.mono (λk _ hs=>by
   rcases hs with e|e
   ·exact .inr (.inl e)
   ·exact .inr (.inr (.inl e.symm))),KeepB.refl _ _,KeepB.refl _ _,KeepB.refl _ _⟩⟩
theorem TapeAt.ne {w:World} {I:TIds} {G K L:Value} {t:TapeD} {m:MemD} {now:Nat} (h:TapeAt w I G K L t m now):I.tb≠I.bW:=λe=>by
 obtain⟨wa,cap,_,hb,_⟩:=h.mem.blk
 have h1:=h.blk;rw [e,hb] at h1
 simp only [Option.some.injEq,Obj.cells.injEq] at h1
 exact h.typ.2.2.2 h1.2.1.symm
theorem TapeAt.logged {w w1 w2:World} {I:TIds} {G K L L':Value} {t:TapeD} {m:MemD} {now n:Nat} {xs:List Value} (h:TapeAt w I G K L t m now) (hc:Chg (λk=>L.ownBlock=some k) w w1) (hk:KeepB w L L')
  (hl:w1.ownsRow 0 212 6 L' n xs) (hn:n<=m.c.all) (hw2:w2=w1.setCell ⟨I.bW,9,none⟩ L') :
  TapeAt w2 I G K L' t m now/\TapeTo w w2 I G K L G K L':=by
 obtain⟨n0,xs0,hn0,hl0⟩:=h.log
 obtain⟨t1,t2,t3,t4⟩:=h.typ
 obtain⟨wa,cap,_,hb,_⟩:=h.mem.blk
 have hL:∀ k,L.ownBlock=some k->k≠I.tb/\k≠I.bW/\G.ownBlock≠some k/\K.ownBlock≠some k:=λk e=>⟨λe9=>row_ne hl0 h.blk t3 (e9 ▸ e),λe9=>row_ne hl0 hb (by decide) (e9 ▸ e),λe9=>row_row hl0 h.got (by decide) e9 e,λe9=>row_row hl0 h.ticks (by decide) e9 e⟩
 have hL':∀ k,L'.ownBlock=some k->k≠I.bW:=λk e e9=>by
  have:w1.heap[I.bW]?=w.heap[I.bW]?:=hc.block _ (blk_lt hb) (λe=>(hL _ e).2.1 rfl)
  exact row_ne hl (this.trans hb) (by decide) (e9 ▸ e)
 have hm1:RMemAt w1 I.bW 93 [.int .i64 (now:Int),I.mks,I.trs,L] I.bw m:=h.mem.chg hc (λe=>(hL _ e).2.1 rfl) (λq e e9=>(h.sep q e).2.2.2 e9)
 have hm2:=hm1.tail 3 L'
 have hcs:Chg (λk=>k=I.bW) w1 w2:=by rw [hw2];exact(Chg.refl (λk=>k=I.bW) w1).setCell (p:=⟨I.bW,9,none⟩) (.inl rfl) _
 have hc2:Chg (λk=>k=I.bW∨L.ownBlock=some k) w w2:=(hc.mono (λk _ e=>.inr e)).trans (hcs.mono (λk _ e=>.inl e))
 rw [<-hw2] at hm2
 refine⟨⟨(hc2.block _ (blk_lt h.blk) (λhs=>by
   rcases hs with e|e
   ·exact h.ne e
   ·exact(hL _ e).1 rfl)).trans h.blk,hm2,?_,?_,⟨n,xs,hn,row_chg hl hcs (λb e e9=>hL' b e e9)⟩,h.typ,λq e=>?_,h.glen,h.klen⟩,
  ⟨hc2.mono (λk _ hs=>by
   rcases hs with e|e
   ·exact .inr (.inl e)
   ·exact .inr (.inr (.inr (.inr (.inr e))))),KeepB.refl _ _,KeepB.refl _ _,hk⟩⟩
 ·exact row_chg h.got hc2 (λb e hs=>by
   rcases hs with e9|e9
   ·exact row_ne h.got hb (by decide) (e9 ▸ e)
   ·exact(hL b e9).2.2.1 e)
 ·exact row_chg h.ticks hc2 (λb e hs=>by
   rcases hs with e9|e9
   ·exact row_ne h.ticks hb (by decide) (e9 ▸ e)
   ·exact(hL b e9).2.2.2 e)
 ·obtain⟨q1,q2,q3,q4⟩:=h.sep q e
  refine⟨q1,q2,q3,λe9=>?_⟩
  rcases hk q e9 with e8|e8
  ·exact q4 e8
  ·have:=h.mem.low q e;omega
theorem TapeAt.gotten {w w1 w2:World} {I:TIds} {G K L G':Value} {t:TapeD} {m:MemD} {now v:Nat} (h:TapeAt w I G K L t m now) (hc:Chg (λk=>G.ownBlock=some k) w w1) (hk:KeepB w G G')
  (hl:w1.ownsRow 0 46 1 G' (t.got.length+1) (t.got.map u64V++[u64V v])) (hn:t.got.length+1<=100000000) (hw2:w2=w1.setCell ⟨I.tb,I.pre.length+3,none⟩ G') :
  TapeAt w2 I G' K L { t with got:=t.got++[v] } m now/\TapeTo w w2 I G K L G' K L:=by
 obtain⟨n0,xs0,hn0,hl0⟩:=h.log
 obtain⟨t1,t2,t3,t4⟩:=h.typ
 obtain⟨wa,cap,_,hb,_⟩:=h.mem.blk
 have hL:∀ k,G.ownBlock=some k->k≠I.tb/\k≠I.bW/\L.ownBlock≠some k/\K.ownBlock≠some k:=λk e=>⟨λe9=>row_ne h.got h.blk t1 (e9 ▸ e),λe9=>row_ne h.got hb (by decide) (e9 ▸ e),λe9=>row_row h.got hl0 (by decide) e9 e,λe9=>row_row h.got h.ticks (by decide) e9 e⟩
 have hb1:w1.heap[I.tb]?=some (.cells (I.pre++(tapeL I.bW G K t++I.post)).toArray I.T (0,0)):=(hc.block _ (blk_lt h.blk) (λe=>(hL _ e).1 rfl)).trans h.blk
 have hL':∀ k,G'.ownBlock=some k->k≠I.tb:=λk e e9=>row_ne hl hb1 t1 (e9 ▸ e)
 have hcs:Chg (λk=>k=I.tb) w1 w2:=by rw [hw2];exact(Chg.refl (λk=>k=I.tb) w1).setCell (p:=⟨I.tb,I.pre.length+3,none⟩) (.inl rfl) _
 have hc2:Chg (λk=>k=I.tb∨G.ownBlock=some k) w w2:=(hc.mono (λk _ e=>.inr e)).trans (hcs.mono (λk _ e=>.inl e))
 refine⟨⟨by rw [hw2];exact tape_set hb1 (by omega) G' rfl,h.mem.chg hc2 (λhs=>?_) (λq e hs=>?_),?_,?_,⟨n0,xs0,hn0,?_⟩,h.typ,λq e=>?_,by simpa using hn,h.klen⟩,
  ⟨hc2.mono (λk _ hs=>by
   rcases hs with e|e
   ·exact .inl e
   ·exact .inr (.inr (.inr (.inl e)))),hk,KeepB.refl _ _,KeepB.refl _ _⟩⟩
 ·rcases hs with e|e
  ·exact h.ne e.symm
  ·exact(hL _ e).2.1 rfl
 ·rcases hs with e9|e9
  ·exact(h.sep q e).1 e9
  ·exact(h.sep q e).2.1 e9
 ·have:=row_chg hl hcs (λb e e9=>hL' b e e9)
  simpa using this
 ·exact row_chg h.ticks hc2 (λb e hs=>by
   rcases hs with e9|e9
   ·exact row_ne h.ticks h.blk t2 (e9 ▸ e)
   ·exact(hL b e9).2.2.2 e)
 ·exact row_chg hl0 hc2 (λb e hs=>by
   rcases hs with e9|e9
   ·exact row_ne hl0 h.blk t3 (e9 ▸ e)
   ·exact(hL b e9).2.2.1 e)
 ·obtain⟨q1,q2,q3,q4⟩:=h.sep q e
  refine⟨q1,λe9=>?_,q3,q4⟩
  rcases hk q e9 with e8|e8
  ·exact q2 e8
  ·have:=h.mem.low q e;omega
theorem TapeAt.ticked {w w1 w2:World} {I:TIds} {G K L K':Value} {t:TapeD} {m:MemD} {now:Nat} {v:Int} (h:TapeAt w I G K L t m now) (hc:Chg (λk=>K.ownBlock=some k) w w1) (hk:KeepB w K K')
  (hl:w1.ownsRow 0 3 1 K' (t.ticks.length+1) (t.ticks.map intV++[intV v])) (hn:t.ticks.length+1<=100000000) (hw2:w2=w1.setCell ⟨I.tb,I.pre.length+4,none⟩ K') :
  TapeAt w2 I G K' L { t with ticks:=t.ticks++[v] } m now/\TapeTo w w2 I G K L G K' L:=by
 obtain⟨n0,xs0,hn0,hl0⟩:=h.log
 obtain⟨t1,t2,t3,t4⟩:=h.typ
 obtain⟨wa,cap,_,hb,_⟩:=h.mem.blk
 have hL:∀ k,K.ownBlock=some k->k≠I.tb/\k≠I.bW/\L.ownBlock≠some k/\G.ownBlock≠some k:=λk e=>⟨λe9=>row_ne h.ticks h.blk t2 (e9 ▸ e),λe9=>row_ne h.ticks hb (by decide) (e9 ▸ e),λe9=>row_row h.ticks hl0 (by decide) e9 e,λe9=>row_row h.ticks h.got (by decide) e9 e⟩
 have hb1:w1.heap[I.tb]?=some (.cells (I.pre++(tapeL I.bW G K t++I.post)).toArray I.T (0,0)):=(hc.block _ (blk_lt h.blk) (λe=>(hL _ e).1 rfl)).trans h.blk
 have hL':∀ k,K'.ownBlock=some k->k≠I.tb:=λk e e9=>row_ne hl hb1 t2 (e9 ▸ e)
 have hcs:Chg (λk=>k=I.tb) w1 w2:=by rw [hw2];exact(Chg.refl (λk=>k=I.tb) w1).setCell (p:=⟨I.tb,I.pre.length+4,none⟩) (.inl rfl) _
 have hc2:Chg (λk=>k=I.tb∨K.ownBlock=some k) w w2:=(hc.mono (λk _ e=>.inr e)).trans (hcs.mono (λk _ e=>.inl e))
 refine⟨⟨by rw [hw2];exact tape_set hb1 (by omega) K' rfl,h.mem.chg hc2 (λhs=>?_) (λq e hs=>?_),?_,?_,⟨n0,xs0,hn0,?_⟩,h.typ,λq e=>?_,h.glen,by simpa using hn⟩,
  ⟨hc2.mono (λk _ hs=>by
   rcases hs with e|e
   ·exact .inl e
   ·exact .inr (.inr (.inr (.inr (.inl e))))),KeepB.refl _ _,hk,KeepB.refl _ _⟩⟩
 ·rcases hs with e|e
  ·exact h.ne e.symm
  ·exact(hL _ e).2.1 rfl
 ·rcases hs with e9|e9
  ·exact(h.sep q e).1 e9
  ·exact(h.sep q e).2.2.1 e9
 ·exact row_chg h.got hc2 (λb e hs=>by
   rcases hs with e9|e9
   ·exact row_ne h.got h.blk t1 (e9 ▸ e)
   ·exact(hL b e9).2.2.2 e)
 ·have:=row_chg hl hcs (λb e e9=>hL' b e e9)
  simpa using this
 ·exact row_chg hl0 hc2 (λb e hs=>by
   rcases hs with e9|e9
   ·exact row_ne hl0 h.blk t3 (e9 ▸ e)
   ·exact(hL b e9).2.2.1 e)
 ·obtain⟨q1,q2,q3,q4⟩:=h.sep q e
  refine⟨q1,q2,λe9=>?_,q4⟩
  rcases hk q e9 with e8|e8
  ·exact q3 e8
  ·have:=h.mem.low q e;omega
end
end Go.Proofs.YtfkokppncipgnaaGreat
