/- A reference's play under way, whatever its object is: how it lies in memory. -/
import Derived.Test.YtfkokppncipgnaaGreatV16
import Derived.Test.YtfkokppncipgnaaGreatV15
set_option maxRecDepth 100000
set_option linter.unusedVariables false
set_option linter.unusedSimpArgs false
set_option linter.unnecessarySimpa false
namespace Go.Proofs.YtfkokppncipgnaaGreat
section
open Go.RowKit
structure RJ where
 bW:Nat
 bM:Nat
 bT:Nat
 bF:Nat
 bH:Nat
 bO:Nat
 bw:Option Nat
 nt:Nat
 sz:Nat
 nc:Nat
 old:Nat->Prop
abbrev HV:=Value×Value×Nat
def hv0:HV:=(undef,undef,0)
def outR (EV:Value) (idle:Nat):Array Value:=#[EV,.slice none 0 0,.int .i64 0,.int .i64 0,.int .i64 0,.int .i64 0,.int .i64 0,.int .i64 0,.int .i64 (idle:Int)]
def RMx (J:RJ) (p:Nat) (vs:List HV) (EV:Value) (b:Nat):Prop:=b=J.bF∨(b=J.bO∨J.old b)∨EV.ownBlock=some b∨∃ q,q<J.nt/\((vs.getD q hv0).2.2=b∨(q≠p/\((vs.getD q hv0).1.ownBlock=some b∨(vs.getD q hv0).2.1.ownBlock=some b)))
def rids (J:RJ) (p:Nat) (hl:List Value) (vs:List HV) (EV:Value):RIds:=⟨J.bH,hl.take (16*p+2),hl.drop (16*p+15),100,J.bW,J.bw,J.bM,J.bT,J.nt,J.sz,RMx J p vs EV⟩
def LMut (J:RJ) (vs:List HV) (L EV:Value) (b:Nat):Prop:=b=J.bW∨b=J.bM∨b=J.bT∨b=J.bF∨b=J.bH∨(b=J.bO∨J.old b)∨J.bw=some b∨L.ownBlock=some b∨EV.ownBlock=some b∨∃ q,q<J.nt/\((vs.getD q hv0).2.2=b∨(vs.getD q hv0).1.ownBlock=some b∨(vs.getD q hv0).2.1.ownBlock=some b)
structure HandAt (w:World) (Mut:Nat->Prop) (bW:Nat) (hl:List Value) (p:Nat) (h:RHand) (v:HV):Prop where
 opn:h.opn=true->(∃ a f ha PV er vl LV KV pl ll kl,(∀ j,j<13->hl[16*p+2+j]?=(tapeL bW v.1 v.2.1 ⟨(p:Int),(h.inv:Int),h.got,h.ticks,a,f,ha,PV,er,vl,LV,KV⟩)[j]?)/\a<=h.got.length/\LstU w Mut PV pl/\LstV w Mut LV ll/\Lst w Mut KV kl)/\w.ownsRow 0 46 1 v.1 h.got.length (h.got.map u64V)/\w.ownsRow 0 3 1 v.2.1 h.ticks.length (h.ticks.map intV)/\h.ticks.length=h.got.length
 cl:h.opn=false->v.1=.slice none 0 0/\v.2.1=.slice none 0 0
structure LogR (w0 w:World) (Mut:Nat->Prop) (J:RJ) (P:Nat->Prop) (s:RefS) (hl:List Value) (vs:List HV) (ea:Option Addr) (ec:Nat) (ers:List (Value×Value)):Prop where
 below:Below w0.heap.size w0 w
 fin:w.heap[J.bF]?=some (.cells (s.fin.map Value.bool).toArray 4 (0,0))
 flen:s.fin.length=J.nc
 lens:hl.length=16*J.nt/\vs.length=J.nt/\s.hands.length=J.nt/\ers.length=s.evs.length
 c0:∀ q,q<J.nt->hl[16*q]?=some (.bool (s.hands.getD q rh0).opn)
 c1:∀ q,q<J.nt->(s.hands.getD q rh0).opn=true->hl[16*q+1]?=some (.int .i64 ((s.hands.getD q rh0).ev:Int))
 c15:∀ q,q<J.nt->hl[16*q+15]?=some (.slice (some ⟨(vs.getD q hv0).2.2,0,none⟩) 1 1)
 own:∀ q,q<J.nt->∃ OV,w.heap[(vs.getD q hv0).2.2]?=some (.cells #[OV] 28 (0,0))/\LstU w Mut OV (s.hands.getD q rh0).own
 hand:∀ q,q<J.nt->P q->HandAt w Mut J.bW hl q (s.hands.getD q rh0) (vs.getD q hv0)
 out:w.heap[J.bO]?=some (.cells (outR (.slice ea s.evs.length ec) s.idle) 32 (0,0))
 evs:w.ownsRow w0.heap.size 52 8 (.slice ea s.evs.length ec) s.evs.length (evRow s.evs ers)
 lie:∀ i,i<s.evs.length->LstU w Mut (ers.getD i vv0).1 (s.evs.getD i ev0).ans.list/\Lst w Mut (ers.getD i vv0).2 (s.evs.getD i ev0).key
 gg:∀ p q,p<J.nt->q<J.nt->P p->P q->p≠q->∀ b,(vs.getD p hv0).1.ownBlock=some b->(vs.getD q hv0).1.ownBlock≠some b
 kk:∀ p q,p<J.nt->q<J.nt->P p->P q->p≠q->∀ b,(vs.getD p hv0).2.1.ownBlock=some b->(vs.getD q hv0).2.1.ownBlock≠some b
 oo:∀ p q,p<J.nt->q<J.nt->p≠q->(vs.getD p hv0).2.2≠(vs.getD q hv0).2.2
 ge:w0.heap.size<=J.bF/\w0.heap.size<=J.bO/\w0.heap.size<=J.bH/\w0.heap.size<=J.bW/\w0.heap.size<=J.bM/\w0.heap.size<=J.bT/\(∀ q,J.bw=some q->w0.heap.size<=q)/\∀ q,q<J.nt->w0.heap.size<=(vs.getD q hv0).2.2/\(P q->(∀ b,(vs.getD q hv0).1.ownBlock=some b->w0.heap.size<=b)/\∀ b,(vs.getD q hv0).2.1.ownBlock=some b->w0.heap.size<=b)
 wb:∀ b,J.bw=some b->∃ cs fz,w.heap[b]?=some (.cells cs 46 fz)
 wg:∀ b,J.bw=some b->∀ q,q<J.nt->P q->(vs.getD q hv0).1.ownBlock≠some b
 res:∀ b,J.old b->b<w0.heap.size
structure LogA (w0 w:World) (J:RJ) (s:RefS) (hl:List Value) (vs:List HV) (L:Value) (ea:Option Addr) (ec:Nat) (ers:List (Value×Value)):Prop where
 rest:LogR w0 w (LMut J vs L (.slice ea s.evs.length ec)) J (λ_=>True) s hl vs ea ec ers
 hb:w.heap[J.bH]?=some (.cells hl.toArray 100 (0,0))
 mem:RMemAt w J.bW 93 [.int .i64 (s.rw.now:Int),.slice (some ⟨J.bM,0,none⟩) J.nt J.nt,.slice (some ⟨J.bT,0,none⟩) J.sz J.sz,L] J.bw s.rw.mem
 log:∃ n xs,n<=s.rw.mem.c.all/\w.ownsRow 0 212 6 L n xs
 logge:∀ b,L.ownBlock=some b->w0.heap.size<=b
 marks:ListsAt w (LMut J vs L (.slice ea s.evs.length ec)) J.bM J.nt s.rw.marks
 traces:ListsAt w (LMut J vs L (.slice ea s.evs.length ec)) J.bT J.sz s.rw.traces
 mt:J.bM≠J.bT
def LogAt (w0 w:World) (J:RJ) (s:RefS):Prop:=∃ hl vs L ea ec ers,LogA w0 w J s hl vs L ea ec ers
variable {w0 w w':World} {J:RJ} {s:RefS} {hl:List Value} {vs:List HV} {L:Value} {ea:Option Addr} {ec:Nat} {ers:List (Value×Value)} {Mut Mut':Nat->Prop} {P:Nat->Prop} {p:Nat}
theorem HandAt.keep {S:Nat->Prop} {bW:Nat} {h:RHand} {v:HV} (H:HandAt w Mut bW hl p h v) (hc:Chg S w w') (hS:∀ b,S b->Mut b) (hm:MutUp Mut w Mut') (hg:∀ b,v.1.ownBlock=some b->¬ S b) (hk:∀ b,v.2.1.ownBlock=some b->¬ S b):HandAt w' Mut' bW hl p h v:=
 ⟨λe=>by
  obtain⟨⟨a,f,ha,PV,er,vl,LV,KV,pl,ll,kl,h1,h6,h5,h7,h8⟩,h2,h3,h4⟩:=H.opn e
  exact⟨⟨a,f,ha,PV,er,vl,LV,KV,pl,ll,kl,h1,h6,h5.keep hc hS hm,h7.keep hc hS hm,h8.keep hc hS hm⟩,row_chg h2 hc hg,row_chg h3 hc hk,h4⟩,H.cl⟩
theorem Chg.old {S:Nat->Prop} (hc:Chg S w w'):Chg (λb=>S b/\b<w.heap.size) w w':=⟨hc.os,hc.tape,hc.output,hc.size,λk hk hn=>hc.block k hk (λhs=>hn ⟨hs,hk⟩)⟩
theorem LogR.turn {S:Nat->Prop} {s':RefS} {ea':Option Addr} {ec':Nat} {ers':List (Value×Value)} (h:LogR w0 w Mut J P s hl vs ea ec ers) (hc:Chg S w w') (hS:∀ b,b<w.heap.size->S b->Mut b) (hm:MutUp Mut w Mut') (hge:∀ b,S b->w0.heap.size<=b)
  (hd:∀ b,S b->∀ q,q<J.nt->(vs.getD q hv0).2.2≠b/\(P q->(vs.getD q hv0).1.ownBlock≠some b/\(vs.getD q hv0).2.1.ownBlock≠some b)) (hwt:∀ b,S b->J.bw=some b->∃ cs fz,w'.heap[b]?=some (.cells cs 46 fz))
  (eh:s'.hands=s.hands) (hfin:w'.heap[J.bF]?=some (.cells (s'.fin.map Value.bool).toArray 4 (0,0))) (hfl:s'.fin.length=J.nc) (hel:ers'.length=s'.evs.length) (hout:w'.heap[J.bO]?=some (.cells (outR (.slice ea' s'.evs.length ec') s'.idle) 32 (0,0)))
  (hev:w'.ownsRow w0.heap.size 52 8 (.slice ea' s'.evs.length ec') s'.evs.length (evRow s'.evs ers')) (hlie:∀ i,i<s'.evs.length->LstU w' Mut' (ers'.getD i vv0).1 (s'.evs.getD i ev0).ans.list/\Lst w' Mut' (ers'.getD i vv0).2 (s'.evs.getD i ev0).key) :
  LogR w0 w' Mut' J P s' hl vs ea' ec' ers':=by
 have hc':=hc.old
 have hS':∀ b,(S b/\b<w.heap.size)->Mut b:=λb hb=>hS b hb.2 hb.1
 refine⟨h.below.trans (hc.below hge h.below.size),hfin,hfl,⟨h.lens.1,h.lens.2.1,by rw [eh];exact h.lens.2.2.1,hel⟩,by rw [eh];exact h.c0,by rw [eh];exact h.c1,h.c15,λq hq=>?_,λq hq hP=>?_,hout,hev,hlie,h.gg,h.kk,h.oo,h.ge,λb hb=>?_,h.wg,h.res⟩
 ·rw [eh]
  obtain⟨OV,h1,h2⟩:=h.own q hq
  exact⟨OV,(hc.block _ (blk_lt h1) (λhs=>(hd _ hs q hq).1 rfl)).trans h1,h2.keep hc' hS' hm⟩
 ·rw [eh]
  exact(h.hand q hq hP).keep hc' hS' hm (λb e hs=>((hd b hs.1 q hq).2 hP).1 e) (λb e hs=>((hd b hs.1 q hq).2 hP).2 e)
 ·obtain⟨cs,fz,h1⟩:=h.wb b hb
  rcases Classical.em (S b) with hs|hs
  ·exact hwt b hs hb
  ·exact⟨cs,fz,(hc.block _ (blk_lt h1) hs).trans h1⟩
theorem LogR.lies {S:Nat->Prop} (h:LogR w0 w Mut J P s hl vs ea ec ers) (hc:Chg S w w') (hS:∀ b,b<w.heap.size->S b->Mut b) (hm:MutUp Mut w Mut'):∀ i,i<s.evs.length->LstU w' Mut' (ers.getD i vv0).1 (s.evs.getD i ev0).ans.list/\Lst w' Mut' (ers.getD i vv0).2 (s.evs.getD i ev0).key:=
 λi hi=>⟨(h.lie i hi).1.keep hc.old (λb hb=>hS b hb.2 hb.1) hm,(h.lie i hi).2.keep hc.old (λb hb=>hS b hb.2 hb.1) hm⟩
theorem LogR.keep {S:Nat->Prop} (h:LogR w0 w Mut J P s hl vs ea ec ers) (hc:Chg S w w') (hS:∀ b,b<w.heap.size->S b->Mut b) (hm:MutUp Mut w Mut') (hge:∀ b,S b->w0.heap.size<=b)
  (hd:∀ b,S b->b≠J.bF/\b≠J.bO/\(Value.slice ea s.evs.length ec).ownBlock≠some b/\∀ q,q<J.nt->(vs.getD q hv0).2.2≠b/\(P q->(vs.getD q hv0).1.ownBlock≠some b/\(vs.getD q hv0).2.1.ownBlock≠some b)) (hwt:∀ b,S b->J.bw=some b->∃ cs fz,w'.heap[b]?=some (.cells cs 46 fz)):LogR w0 w' Mut' J P s hl vs ea ec ers:=
 h.turn hc hS hm hge (λb hs=>(hd b hs).2.2.2) hwt rfl ((hc.block _ (blk_lt h.fin) (λhs=>(hd _ hs).1 rfl)).trans h.fin) h.flen h.lens.2.2.2 ((hc.block _ (blk_lt h.out) (λhs=>(hd _ hs).2.1 rfl)).trans h.out) (row_chg h.evs hc (λb e hs=>(hd b hs).2.2.1 e)) (h.lies hc hS hm)
theorem LogR.grown (h:LogR w0 w Mut J P s hl vs ea ec ers) (hb:Below w.heap.size w w'):LogR w0 w' Mut J P s hl vs ea ec ers:=
 h.keep (S:=noB) (Chg.of_below hb) (λ_ _ h=>h.elim) (MutUp.refl _ _) (λ_ h=>h.elim) (λ_ h=>h.elim) (λ_ h=>h.elim)
theorem LogA.grown (h:LogA w0 w J s hl vs L ea ec ers) (hb:Below w.heap.size w w'):LogA w0 w' J s hl vs L ea ec ers:=by
 obtain⟨n,xs,hn,hl9⟩:=h.log
 exact⟨h.rest.grown hb,(hb.block _ (blk_lt h.hb)).trans h.hb,h.mem.chg (S:=noB) (Chg.of_below hb) (λh=>h) (λ_ _ h=>h),⟨n,xs,hn,row_below hl9 hb⟩,h.logge,h.marks.keep (S:=noB) (Chg.of_below hb) (λ_ h=>h.elim) (MutUp.refl _ _) (λh=>h),h.traces.keep (S:=noB) (Chg.of_below hb) (λ_ h=>h.elim) (MutUp.refl _ _) (λh=>h),h.mt⟩
theorem LogAt.grown (h:LogAt w0 w J s) (hb:Below w.heap.size w w'):LogAt w0 w' J s:=by obtain⟨hl,vs,L,ea,ec,ers,h1⟩:=h;exact⟨hl,vs,L,ea,ec,ers,h1.grown hb⟩
theorem blk_ne9 {w:World} {b b':Nat} {c c':Array Value} {T T':TypeId} {fz fz':Nat×Nat} (h:w.heap[b]?=some (.cells c T fz)) (h':w.heap[b']?=some (.cells c' T' fz')) (hT:T≠T'):b≠b':=λe=>by
 rw [e,h'] at h
 simp only [Option.some.injEq,Obj.cells.injEq] at h
 exact hT h.2.1.symm
structure BlkTy (w:World) (J:RJ) (vs:List HV) (L EV:Value) (P:Nat->Prop):Prop where
 W:∃ c,w.heap[J.bW]?=some (.cells c 93 (0,0))
 M:∃ c,w.heap[J.bM]?=some (.cells c 24 (0,0))
 T:∃ c,w.heap[J.bT]?=some (.cells c 24 (0,0))
 F:∃ c,w.heap[J.bF]?=some (.cells c 4 (0,0))
 H:∃ c,w.heap[J.bH]?=some (.cells c 100 (0,0))
 O:∃ c,w.heap[J.bO]?=some (.cells c 32 (0,0))
 U:∀ b,J.bw=some b->∃ c fz,w.heap[b]?=some (.cells c 46 fz)
 L:∀ b,L.ownBlock=some b->∃ c fz,w.heap[b]?=some (.cells c 212 fz)
 E:∀ b,EV.ownBlock=some b->∃ c fz,w.heap[b]?=some (.cells c 52 fz)
 o:∀ q,q<J.nt->∃ c,w.heap[(vs.getD q hv0).2.2]?=some (.cells c 28 (0,0))
 G:∀ q,q<J.nt->P q->∀ b,(vs.getD q hv0).1.ownBlock=some b->∃ c fz,w.heap[b]?=some (.cells c 46 fz)
 K:∀ q,q<J.nt->P q->∀ b,(vs.getD q hv0).2.1.ownBlock=some b->∃ c fz,w.heap[b]?=some (.cells c 3 fz)
theorem HandAt.ty {bW:Nat} {h:RHand} {v:HV} (H:HandAt w Mut bW hl p h v):(∀ b,v.1.ownBlock=some b->∃ c fz,w.heap[b]?=some (.cells c 46 fz))/\∀ b,v.2.1.ownBlock=some b->∃ c fz,w.heap[b]?=some (.cells c 3 fz):=by
 cases ho:h.opn with
 | true=>
  obtain⟨_,h2,h3,_⟩:=H.opn ho
  exact⟨λb e=>row_type h2 e,λb e=>row_type h3 e⟩
 | false=>
  obtain⟨h1,h2⟩:=H.cl ho
  exact⟨λb e=>by(rw [h1] at e;cases e),λb e=>by(rw [h2] at e;cases e)⟩
theorem LogA.ty (h:LogA w0 w J s hl vs L ea ec ers):BlkTy w J vs L (.slice ea s.evs.length ec) (λ_=>True):=by
 obtain⟨_,_,_,hW,_⟩:=h.mem.blk
 obtain⟨_,hM,_⟩:=h.marks.blk
 obtain⟨_,hT,_⟩:=h.traces.blk
 obtain⟨n,xs,hn,hlg⟩:=h.log
 exact⟨⟨_,hW⟩,⟨_,hM⟩,⟨_,hT⟩,⟨_,h.rest.fin⟩,⟨_,h.hb⟩,⟨_,h.rest.out⟩,h.rest.wb,λb e=>row_type hlg e,λb e=>row_type h.rest.evs e,λq hq=>by obtain⟨_,h1,_⟩:=h.rest.own q hq;exact⟨_,h1⟩,λq hq _=>(h.rest.hand q hq trivial).ty.1,λq hq _=>(h.rest.hand q hq trivial).ty.2⟩
end
section

/- A reference's play under way: a hand's tape is taken up, and laid down. -/
open Go.RowKit
variable {w0 w w':World} {J:RJ} {s:RefS} {hl:List Value} {vs:List HV} {L:Value} {ea:Option Addr} {ec:Nat} {ers:List (Value×Value)} {Mut Mut':Nat->Prop} {P:Nat->Prop} {p:Nat}
theorem put_ext {hl X:List Value} {a:Nat} (hX:a+X.length<=hl.length) (h:∀ j,j<X.length->hl[a+j]?=X[j]?):hl=hl.take a++(X++hl.drop (a+X.length)):=by
 apply List.ext_getElem?
 intro i
 have hta:(hl.take a).length=a:=by simp;omega
 by_cases h1:i<a
 ·rw [List.getElem?_append_left (by omega),List.getElem?_take_of_lt h1]
 ·rw [List.getElem?_append_right (by omega),hta]
  by_cases h2:i - a<X.length
  ·rw [List.getElem?_append_left h2,<-h _ h2];congr 1;omega
  ·rw [List.getElem?_append_right (by omega),List.getElem?_drop];congr 1;omega
theorem put_get {hl X:List Value} {a:Nat} (hX:a+X.length<=hl.length) (i:Nat):(hl.take a++(X++hl.drop (a+X.length)))[i]?=if a<=i/\i<a+X.length then X[i - a]? else hl[i]?:=by
 have hta:(hl.take a).length=a:=by simp;omega
 by_cases h1:i<a
 ·rw [if_neg (by omega),List.getElem?_append_left (by omega),List.getElem?_take_of_lt h1]
 ·rw [List.getElem?_append_right (by omega),hta]
  by_cases h2:i - a<X.length
  ·rw [if_pos (by omega),List.getElem?_append_left h2]
  ·rw [if_neg (by omega),List.getElem?_append_right (by omega),List.getElem?_drop];congr 1;omega
def tyOf (w:World) (b:Nat):Option TypeId:=match w.heap[b]? with|some (.cells _ T _)=>some T|_=>none
theorem tyOf_of {w:World} {b:Nat} {c:Array Value} {T:TypeId} {fz:Nat×Nat} (h:w.heap[b]?=some (.cells c T fz)):tyOf w b=some T:=by unfold tyOf;rw [h]
theorem BlkTy.rset {EV:Value} (h:BlkTy w J vs L EV P) (hp:p<J.nt) (hP:P p) {b:Nat} (hb:RSet (rids J p hl vs EV) (vs.getD p hv0).1 (vs.getD p hv0).2.1 L b) :
  (tyOf w b=some 100∨tyOf w b=some 93∨tyOf w b=some 212∨tyOf w b=some 24)∨(tyOf w b=some 46/\(J.bw=some b∨(vs.getD p hv0).1.ownBlock=some b))∨(tyOf w b=some 3/\(vs.getD p hv0).2.1.ownBlock=some b):=by
 rcases hb with(e|e|e|e|e|e)|e|e
 ·obtain⟨c,h1⟩:=h.H;rw [show b=J.bH from e];exact .inl (.inl (tyOf_of h1))
 ·obtain⟨c,h1⟩:=h.W;rw [show b=J.bW from e];exact .inl (.inr (.inl (tyOf_of h1)))
 ·obtain⟨c,fz,h1⟩:=h.U b e;exact .inr (.inl ⟨tyOf_of h1,.inl e⟩)
 ·obtain⟨c,fz,h1⟩:=h.G p hp hP b e;exact .inr (.inl ⟨tyOf_of h1,.inr e⟩)
 ·obtain⟨c,fz,h1⟩:=h.K p hp hP b e;exact .inr (.inr ⟨tyOf_of h1,e⟩)
 ·obtain⟨c,fz,h1⟩:=h.L b e;exact .inl (.inr (.inr (.inl (tyOf_of h1))))
 ·obtain⟨c,h1⟩:=h.M;rw [show b=J.bM from e];exact .inl (.inr (.inr (.inr (tyOf_of h1))))
 ·obtain⟨c,h1⟩:=h.T;rw [show b=J.bT from e];exact .inl (.inr (.inr (.inr (tyOf_of h1))))
theorem BlkTy.rmx {EV:Value} (h:BlkTy w J vs L EV P) (hP:∀ q,q≠p->P q) {b:Nat} (hb:RMx J p vs EV b) :
  ((tyOf w b=some 4∨tyOf w b=some 32∨tyOf w b=some 52∨tyOf w b=some 28)∨∃ q,q<J.nt/\q≠p/\((tyOf w b=some 46/\(vs.getD q hv0).1.ownBlock=some b)∨(tyOf w b=some 3/\(vs.getD q hv0).2.1.ownBlock=some b)))∨J.old b:=by
 rcases hb with e|e|e|⟨q,hq,e|⟨hqp,e|e⟩⟩
 ·obtain⟨c,h1⟩:=h.F;rw [e];exact .inl (.inl (.inl (tyOf_of h1)))
 ·rcases e with e|e
  ·obtain⟨c,h1⟩:=h.O;rw [e];exact .inl (.inl (.inr (.inl (tyOf_of h1))))
  ·exact .inr e
 ·obtain⟨c,fz,h1⟩:=h.E b e;exact .inl (.inl (.inr (.inr (.inl (tyOf_of h1)))))
 ·obtain⟨c,h1⟩:=h.o q hq;rw [<-e];exact .inl (.inl (.inr (.inr (.inr (tyOf_of h1)))))
 ·obtain⟨c,fz,h1⟩:=h.G q hq (hP q hqp) b e;exact .inl (.inr ⟨q,hq,hqp,.inl ⟨tyOf_of h1,e⟩⟩)
 ·obtain⟨c,fz,h1⟩:=h.K q hq (hP q hqp) b e;exact .inl (.inr ⟨q,hq,hqp,.inr ⟨tyOf_of h1,e⟩⟩)
theorem LogA.ge (h:LogA w0 w J s hl vs L ea ec ers) (hp:p<J.nt):∀ b,RSet (rids J p hl vs (.slice ea s.evs.length ec)) (vs.getD p hv0).1 (vs.getD p hv0).2.1 L b->w0.heap.size<=b:=λb hb=>by
 obtain⟨g1,g2,g3,g4,g5,g6,g7,g8⟩:=h.rest.ge
 rcases hb with(e|e|e|e|e|e)|e|e
 ·rw [show b=J.bH from e];exact g3
 ·rw [show b=J.bW from e];exact g4
 ·exact g7 b e
 ·exact((g8 p hp).2 trivial).1 b e
 ·exact((g8 p hp).2 trivial).2 b e
 ·exact h.logge b e
 ·rw [show b=J.bM from e];exact g5
 ·rw [show b=J.bT from e];exact g6
theorem LogA.dis (h:LogA w0 w J s hl vs L ea ec ers) (hp:p<J.nt):∀ b,RMx J p vs (.slice ea s.evs.length ec) b->¬ RSet (rids J p hl vs (.slice ea s.evs.length ec)) (vs.getD p hv0).1 (vs.getD p hv0).2.1 L b:=λb hm hs=>by
 have h1:=h.ty.rset hp trivial hs
 have h2:=h.ty.rmx (λ_ _=>trivial) hm
 rcases h2 with h2|h2
 rotate_left
 ·have:=h.ge hp b hs;have:=h.rest.res b h2;omega
 rcases h2 with h2|⟨q,hq,hqp,⟨t2,g2⟩|⟨t2,g2⟩⟩
 ·rcases h1 with h1|⟨t1,_⟩|⟨t1,_⟩
  ·rcases h1 with h1|h1|h1|h1<;>rcases h2 with h2|h2|h2|h2<;>(rw [h1] at h2;exact absurd h2 (by decide))
  ·rcases h2 with h2|h2|h2|h2<;>(rw [t1] at h2;exact absurd h2 (by decide))
  ·rcases h2 with h2|h2|h2|h2<;>(rw [t1] at h2;exact absurd h2 (by decide))
 ·rcases h1 with h1|⟨t1,g1|g1⟩|⟨t1,_⟩
  ·rcases h1 with h1|h1|h1|h1<;>(rw [h1] at t2;exact absurd t2 (by decide))
  ·exact h.rest.wg b g1 q hq trivial g2
  ·exact h.rest.gg p q hp hq trivial trivial (Ne.symm hqp) b g1 g2
  ·rw [t1] at t2;exact absurd t2 (by decide)
 ·rcases h1 with h1|⟨t1,_⟩|⟨t1,g1⟩
  ·rcases h1 with h1|h1|h1|h1<;>(rw [h1] at t2;exact absurd t2 (by decide))
  ·rw [t1] at t2;exact absurd t2 (by decide)
  ·exact h.rest.kk p q hp hq trivial trivial (Ne.symm hqp) b g1 g2
theorem ty_hand (J:RJ) (p:Nat) (hl:List Value) (vs:List HV) (EV:Value):(rids J p hl vs EV).tids.T≠46/\(rids J p hl vs EV).tids.T≠3/\(rids J p hl vs EV).tids.T≠212/\(rids J p hl vs EV).tids.T≠93:=by
 show 100≠_/\100≠_/\100≠_/\100≠_
 decide
theorem LogA.tapeAt (h:LogA w0 w J s hl vs L ea ec ers) (hp:p<J.nt) (ho:(s.hands.getD p rh0).opn=true) (hN:(s.hands.getD p rh0).got.length<=1000000) :
  ∃ a f ha PV er vl LV KV pl ll kl,TapeAt w (rids J p hl vs (.slice ea s.evs.length ec)).tids (vs.getD p hv0).1 (vs.getD p hv0).2.1 L ⟨(p:Int),((s.hands.getD p rh0).inv:Int),(s.hands.getD p rh0).got,(s.hands.getD p rh0).ticks,a,f,ha,PV,er,vl,LV,KV⟩ s.rw.mem s.rw.now/\LstU w (LMut J vs L (.slice ea s.evs.length ec)) PV pl/\LstV w (LMut J vs L (.slice ea s.evs.length ec)) LV ll/\Lst w (LMut J vs L (.slice ea s.evs.length ec)) KV kl/\a<=(s.hands.getD p rh0).got.length:=by
 obtain⟨⟨a,f,ha,PV,er,vl,LV,KV,pl,ll,kl,h1,h6,h5,h7,h8⟩,h2,h3,h4⟩:=(h.rest.hand p hp trivial).opn ho
 refine⟨a,f,ha,PV,er,vl,LV,KV,pl,ll,kl,⟨?_,h.mem,h2,h3,h.log,ty_hand J p hl vs _,λq e=>?_,by simp only;omega,by simp only;rw [h4];omega⟩,h5,h7,h8,h6⟩
 ·have h9:=put_ext (hl:=hl) (a:=16*p+2) (X:=tapeL J.bW (vs.getD p hv0).1 (vs.getD p hv0).2.1 ⟨(p:Int),((s.hands.getD p rh0).inv:Int),(s.hands.getD p rh0).got,(s.hands.getD p rh0).ticks,a,f,ha,PV,er,vl,LV,KV⟩) (by have:=h.rest.lens.1;show 16*p+2+13<=_;omega) (λj hj=>h1 j hj)
  have h10:=h.hb
  rw [h9] at h10
  exact h10
 ·obtain⟨cs,fz,hb⟩:=h.ty.U q e
  refine⟨λe9=>?_,h.rest.wg q e p hp trivial,λe9=>?_,λe9=>?_⟩
  ·have e9':q=J.bH:=e9
   obtain⟨c,hh⟩:=h.ty.H
   exact blk_ne9 hb hh (by decide) e9'
  ·obtain⟨c,fz',hk⟩:=h.ty.K p hp trivial q e9
   exact blk_ne9 hb hk (by decide) rfl
  ·obtain⟨c,fz',hk⟩:=h.ty.L q e9
   exact blk_ne9 hb hk (by decide) rfl
theorem lmut_of {EV:Value} {b:Nat} (hp:p<J.nt) (hb:RMut (rids J p hl vs EV) (vs.getD p hv0).1 (vs.getD p hv0).2.1 L b):LMut J vs L EV b:=by
 rcases hb with((e|e|e|e|e|e)|e|e)|e|e|e|⟨q,hq,e|⟨hqp,e|e⟩⟩
 ·exact .inr (.inr (.inr (.inr (.inl e))))
 ·exact .inl e
 ·exact .inr (.inr (.inr (.inr (.inr (.inr (.inl e))))))
 ·exact .inr (.inr (.inr (.inr (.inr (.inr (.inr (.inr (.inr ⟨p,hp,.inr (.inl e)⟩))))))))
 ·exact .inr (.inr (.inr (.inr (.inr (.inr (.inr (.inr (.inr ⟨p,hp,.inr (.inr e)⟩))))))))
 ·exact .inr (.inr (.inr (.inr (.inr (.inr (.inr (.inl e)))))))
 ·exact .inr (.inl e)
 ·exact .inr (.inr (.inl e))
 ·exact .inr (.inr (.inr (.inl e)))
 ·exact .inr (.inr (.inr (.inr (.inr (.inl e)))))
 ·exact .inr (.inr (.inr (.inr (.inr (.inr (.inr (.inr (.inl e))))))))
 ·exact .inr (.inr (.inr (.inr (.inr (.inr (.inr (.inr (.inr ⟨q,hq,.inl e⟩))))))))
 ·exact .inr (.inr (.inr (.inr (.inr (.inr (.inr (.inr (.inr ⟨q,hq,.inr (.inl e)⟩))))))))
 ·exact .inr (.inr (.inr (.inr (.inr (.inr (.inr (.inr (.inr ⟨q,hq,.inr (.inr e)⟩))))))))
theorem LogR.weak {P':Nat->Prop} (h:LogR w0 w Mut J P s hl vs ea ec ers) (hP:∀ q,P' q->P q):LogR w0 w Mut J P' s hl vs ea ec ers:=
 ⟨h.below,h.fin,h.flen,h.lens,h.c0,h.c1,h.c15,h.own,λq hq hP'=>h.hand q hq (hP q hP'),h.out,h.evs,h.lie,λa b ha hb h1 h2=>h.gg a b ha hb (hP _ h1) (hP _ h2),λa b ha hb h1 h2=>h.kk a b ha hb (hP _ h1) (hP _ h2),h.oo,⟨h.ge.1,h.ge.2.1,h.ge.2.2.1,h.ge.2.2.2.1,h.ge.2.2.2.2.1,h.ge.2.2.2.2.2.1,h.ge.2.2.2.2.2.2.1,λq hq=>⟨(h.ge.2.2.2.2.2.2.2 q hq).1,λh1=>(h.ge.2.2.2.2.2.2.2 q hq).2 (hP _ h1)⟩⟩,h.wb,λb hb q hq h1=>h.wg b hb q hq (hP _ h1),h.res⟩
structure LogM (w0 w:World) (J:RJ) (p:Nat) (s:RefS) (hl:List Value) (vs:List HV) (G K L:Value) (ea:Option Addr) (ec:Nat) (ers:List (Value×Value)) (t:TapeP) (r:RWD):Prop where
 tape:RTapeAt w (rids J p hl vs (.slice ea s.evs.length ec)) G K L t r
 rest:LogR w0 w (RMut (rids J p hl vs (.slice ea s.evs.length ec)) G K L) J (λq=>q≠p) s hl vs ea ec ers
 hp:p<J.nt
 opn:(s.hands.getD p rh0).opn=true
 thr:t.thread=p
 inv:t.inv=(s.hands.getD p rh0).inv
 ge:∀ b,RSet (rids J p hl vs (.slice ea s.evs.length ec)) G K L b->w0.heap.size<=b
theorem LogA.mid (h:LogA w0 w J s hl vs L ea ec ers) (hp:p<J.nt) (ho:(s.hands.getD p rh0).opn=true) {w2:World} {t:TapeP} {PV LV KV:Value}
  (ht:TapeAt w2 (rids J p hl vs (.slice ea s.evs.length ec)).tids (vs.getD p hv0).1 (vs.getD p hv0).2.1 L (t.raw PV LV KV) s.rw.mem s.rw.now) (hc:Chg (λb=>b=J.bH) w w2)
  (h1:LstU w2 (LMut J vs L (.slice ea s.evs.length ec)) PV t.priv) (h2:LstV w2 (LMut J vs L (.slice ea s.evs.length ec)) LV t.list) (h3:Lst w2 (LMut J vs L (.slice ea s.evs.length ec)) KV t.key)
  (hat:t.at_<=t.got.length) (htl:t.ticks.length=t.got.length) (hroom:s.rw.mem.c.all+1<1000000000000/\t.got.length+1<=100000000) (hthr:t.thread=p) (hinv:t.inv=(s.hands.getD p rh0).inv) :
  LogM w0 w2 J p s hl vs (vs.getD p hv0).1 (vs.getD p hv0).2.1 L ea ec ers t s.rw:=by
 have hM:∀ b,RMut (rids J p hl vs (.slice ea s.evs.length ec)) (vs.getD p hv0).1 (vs.getD p hv0).2.1 L b->LMut J vs L (.slice ea s.evs.length ec) b:=λb hb=>lmut_of hp hb
 have hM2:MutUp (LMut J vs L (.slice ea s.evs.length ec)) w2 (RMut (rids J p hl vs (.slice ea s.evs.length ec)) (vs.getD p hv0).1 (vs.getD p hv0).2.1 L):=λb hb=>.inl (hM b hb)
 have hM1:MutUp (LMut J vs L (.slice ea s.evs.length ec)) w (RMut (rids J p hl vs (.slice ea s.evs.length ec)) (vs.getD p hv0).1 (vs.getD p hv0).2.1 L):=λb hb=>.inl (hM b hb)
 have hSl:∀ b,b=J.bH->LMut J vs L (.slice ea s.evs.length ec) b:=λb e=>.inr (.inr (.inr (.inr (.inl e))))
 have ty:=h.ty
 obtain⟨cH,hH⟩:=ty.H
 have hne:∀ {b:Nat} {c:Array Value} {T:TypeId} {fz:Nat×Nat},w.heap[b]?=some (.cells c T fz)->T≠100->b≠J.bH:=λhb hT=>blk_ne9 hb hH hT
 obtain⟨cM,hMb⟩:=ty.M
 obtain⟨cT,hTb⟩:=ty.T
 refine⟨⟨⟨PV,LV,KV,ht,?_,?_,?_⟩,h.marks.keep hc hSl hM1 (hne hMb (by decide)),h.traces.keep hc hSl hM1 (hne hTb (by decide)),⟨h.mt,(show 100≠24 by decide),λq e=>?_⟩,h.dis hp,λb hb=>?_,hat,htl,λ_ _=>hroom⟩,?_,hp,ho,hthr,hinv,h.ge hp⟩
 ·exact h1.keep (S:=noB) (Chg.refl _ _) (λ_ h=>h.elim) hM2
 ·exact h2.keep (S:=noB) (Chg.refl _ _) (λ_ h=>h.elim) hM2
 ·exact h3.keep (S:=noB) (Chg.refl _ _) (λ_ h=>h.elim) hM2
 ·obtain⟨cs,fz,hb⟩:=ty.U q e
  exact⟨blk_ne9 hb hMb (by decide),blk_ne9 hb hTb (by decide)⟩
 ·refine Nat.lt_of_lt_of_le ?_ hc.size
  rcases ty.rmx (p:=p) (λ_ _=>trivial) hb with h9|h9
  rotate_left
  ·exact Nat.lt_of_lt_of_le (h.rest.res b h9) h.rest.below.size
  rcases h9 with h9|⟨q,_,_,⟨h9,_⟩|⟨h9,_⟩⟩
  ·rcases Nat.lt_or_ge b w.heap.size with h8|h8
   ·exact h8
   ·exfalso;unfold tyOf at h9;rw [Array.getElem?_eq_none h8] at h9;simp at h9
  all_goals
   rcases Nat.lt_or_ge b w.heap.size with h8|h8
   ·exact h8
   ·exfalso;unfold tyOf at h9;rw [Array.getElem?_eq_none h8] at h9;simp at h9
 ·refine(h.rest.keep hc (λb _ e=>hSl b e) hM1 (λb e=>by rw [e];exact h.rest.ge.2.2.1) (λb e=>?_) (λb e e9=>?_)).weak (λ_ _=>trivial)
  ·rw [e]
   obtain⟨_,hF⟩:=ty.F
   obtain⟨_,hO⟩:=ty.O
   refine⟨Ne.symm (hne hF (by decide)),Ne.symm (hne hO (by decide)),λe8=>?_,λq hq=>⟨?_,λ_=>⟨λe8=>?_,λe8=>?_⟩⟩⟩
   ·obtain⟨_,_,h9⟩:=ty.E _ e8;exact hne h9 (by decide) rfl
   ·obtain⟨_,h9⟩:=ty.o q hq;exact hne h9 (by decide)
   ·obtain⟨_,_,h9⟩:=ty.G q hq trivial _ e8;exact hne h9 (by decide) rfl
   ·obtain⟨_,_,h9⟩:=ty.K q hq trivial _ e8;exact hne h9 (by decide) rfl
  ·obtain⟨_,_,h9⟩:=ty.U b e9;exact absurd e (hne h9 (by decide))
end
end Go.Proofs.YtfkokppncipgnaaGreat
