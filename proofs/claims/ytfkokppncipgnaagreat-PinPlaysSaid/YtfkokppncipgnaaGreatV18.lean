/- A reference's play under way: what each of its own writes leaves. -/
import Derived.Test.YtfkokppncipgnaaGreatV17
set_option maxRecDepth 100000
set_option linter.unusedVariables false
set_option linter.unusedSimpArgs false
set_option linter.unnecessarySimpa false
namespace Go.Proofs.YtfkokppncipgnaaGreat
section
open Go.RowKit
variable {w0 w w':World} {J:RJ} {s s':RefS} {hl:List Value} {vs:List HV} {G K L:Value} {ea ea':Option Addr} {ec ec':Nat} {ers ers':List (Value×Value)} {Mut Mut':Nat->Prop} {P:Nat->Prop} {p:Nat} {t:TapeP} {r:RWD}
theorem RTapeAt.chgMx {S:Nat->Prop} {I:RIds} (h:RTapeAt w I G K L t r) (hc:Chg S w w') (hS:∀ b,S b->I.Mx b):RTapeAt w' I G K L t r:=by
 obtain⟨PV,LV,KV,ht,hp,hl,hk⟩:=h.tape
 have hn:∀ b,S b->¬ RSet I G K L b:=λb hb=>h.dis b (hS b hb)
 have hM:∀ b,S b->RMut I G K L b:=λb hb=>.inr (hS b hb)
 exact⟨⟨PV,LV,KV,ht.chg hc (λk hk hs=>hn k hs (.inl hk)),hp.keep hc hM (MutUp.refl _ _),hl.keep hc hM (MutUp.refl _ _),hk.keep hc hM (MutUp.refl _ _)⟩,h.marks.keep hc hM (MutUp.refl _ _) (λhs=>hn _ hs (.inr (.inl rfl))),h.traces.keep hc hM (MutUp.refl _ _) (λhs=>hn _ hs (.inr (.inr rfl))),h.sep,h.dis,λb hb=>Nat.lt_of_lt_of_le (h.low b hb) hc.size,h.at_le,h.tl,h.room⟩
theorem LogM.evs {S:Nat->Prop} (h:LogM w0 w J p s hl vs G K L ea ec ers t r) (hc:Chg S w w') (hS:∀ b,S b->(Value.slice ea s.evs.length ec).ownBlock=some b) (evs':List EvD) (he:evs'.length=s.evs.length) (hel:ers'.length=evs'.length)
  (hev:w'.ownsRow w0.heap.size 52 8 (.slice ea s.evs.length ec) s.evs.length (evRow evs' ers'))
  (hlie:∀ i,i<evs'.length->LstU w' (RMut (rids J p hl vs (.slice ea s.evs.length ec)) G K L) (ers'.getD i vv0).1 (evs'.getD i ev0).ans.list/\Lst w' (RMut (rids J p hl vs (.slice ea s.evs.length ec)) G K L) (ers'.getD i vv0).2 (evs'.getD i ev0).key) :
  LogM w0 w' J p { s with evs:=evs' } hl vs G K L ea ec ers' t r:=by
 have hx:∀ b,S b->RMx J p vs (.slice ea s.evs.length ec) b:=λb hb=>.inr (.inr (.inl (hS b hb)))
 have hty:∀ b,S b->∃ c fz,w.heap[b]?=some (.cells c 52 fz):=λb hb=>row_type h.rest.evs (hS b hb)
 have hnt:∀ {b b':Nat} {c:Array Value} {T:TypeId} {fz:Nat×Nat},S b->w.heap[b']?=some (.cells c T fz)->T≠52->b'≠b:=λhb h9 hT e=>by
  obtain⟨c,fz,h8⟩:=hty _ hb
  rw [<-e] at h8
  exact blk_ne9 h9 h8 hT rfl
 have hrest:=h.rest.turn (s':={ s with evs:=evs' }) (ea':=ea) (ec':=ec) (ers':=ers') hc (λb _ hb=>.inr (hx b hb)) (MutUp.refl _ _)
  (λb hb=>by
   rcases h.rest.evs.2 with⟨h1,_⟩|⟨g,cap,cur,h1,h2,_⟩
   ·have:=hS b hb;rw [h1] at this;cases this
   ·have:=hS b hb;rw [h1] at this;cases this;exact h2)
  (λb hb q hq=>by
   refine⟨?_,λhP=>⟨λe=>?_,λe=>?_⟩⟩
   ·obtain⟨_,h1,_⟩:=h.rest.own q hq;exact hnt hb h1 (by decide)
   ·obtain⟨_,_,h9⟩:=(h.rest.hand q hq hP).ty.1 b e;exact hnt hb h9 (by decide) rfl
   ·obtain⟨_,_,h9⟩:=(h.rest.hand q hq hP).ty.2 b e;exact hnt hb h9 (by decide) rfl)
  (λb hb e=>by obtain⟨_,_,h9⟩:=h.rest.wb b e;exact absurd rfl (hnt hb h9 (by decide)))
  rfl ((hc.block _ (blk_lt h.rest.fin) (λhs=>hnt hs h.rest.fin (by decide) rfl)).trans h.rest.fin) h.rest.flen hel (by simp only [he];exact(hc.block _ (blk_lt h.rest.out) (λhs=>hnt hs h.rest.out (by decide) rfl)).trans h.rest.out) (by simp only [he];exact hev) hlie
 have e9:({ s with evs:=evs' }:RefS).evs.length=s.evs.length:=he
 refine⟨?_,?_,h.hp,h.opn,h.thr,h.inv,?_⟩
 ·rw [e9];exact h.tape.chgMx hc hx
 ·rw [e9];exact hrest
 ·rw [e9];exact h.ge
theorem LogM.own (h:LogM w0 w J p s hl vs G K L ea ec ers t r) (PV:Value) (l:List Nat) (hPV:LstU w (RMut (rids J p hl vs (.slice ea s.evs.length ec)) G K L) PV l) :
  LogM w0 (w.setCell ⟨(vs.getD p hv0).2.2,0,none⟩ PV) J p { s with hands:=s.hands.set p { s.hands.getD p rh0 with own:=l } } hl vs G K L ea ec ers t r:=by
 obtain⟨OV,ho,_⟩:=h.rest.own p h.hp
 have hc:Chg (λb=>b=(vs.getD p hv0).2.2) w (w.setCell ⟨(vs.getD p hv0).2.2,0,none⟩ PV):=(Chg.refl (λb=>b=(vs.getD p hv0).2.2) w).setCell (p:=⟨(vs.getD p hv0).2.2,0,none⟩) (.inl rfl) _
 have hx:∀ b,b=(vs.getD p hv0).2.2->RMx J p vs (.slice ea s.evs.length ec) b:=λb hb=>.inr (.inr (.inr ⟨p,h.hp,.inl hb.symm⟩))
 have hM:∀ b,b=(vs.getD p hv0).2.2->RMut (rids J p hl vs (.slice ea s.evs.length ec)) G K L b:=λb hb=>.inr (hx b hb)
 have hnt:∀ {b':Nat} {c:Array Value} {T:TypeId} {fz:Nat×Nat},w.heap[b']?=some (.cells c T fz)->T≠28->b'≠(vs.getD p hv0).2.2:=λh9 hT e=>by
  rw [e] at h9
  exact blk_ne9 h9 ho hT rfl
 have hpl:p<s.hands.length:=by rw [h.rest.lens.2.2.1];exact h.hp
 obtain⟨g1,g2⟩:=h.rest.ge
 have hh:∀ q,q≠p->(s.hands.set p { s.hands.getD p rh0 with own:=l }).getD q rh0=s.hands.getD q rh0:=λq hq=>getD_set_neq (Ne.symm hq)
 have hpp:(s.hands.set p { s.hands.getD p rh0 with own:=l }).getD p rh0={ s.hands.getD p rh0 with own:=l }:=getD_set_eq hpl
 have hop:∀ q,((s.hands.set p { s.hands.getD p rh0 with own:=l }).getD q rh0).opn=(s.hands.getD q rh0).opn/\((s.hands.set p { s.hands.getD p rh0 with own:=l }).getD q rh0).ev=(s.hands.getD q rh0).ev:=λq=>by
  by_cases e:q=p
  ·subst e;rw [hpp];exact⟨rfl,rfl⟩
  ·rw [hh q e];exact⟨rfl,rfl⟩
 refine⟨h.tape.chgMx hc hx,⟨h.rest.below.trans (hc.below (λb e=>by rw [e];exact(h.rest.ge.2.2.2.2.2.2.2 p h.hp).1) h.rest.below.size),(hc.block _ (blk_lt h.rest.fin) (hnt h.rest.fin (by decide))).trans h.rest.fin,h.rest.flen,⟨h.rest.lens.1,h.rest.lens.2.1,by simpa using h.rest.lens.2.2.1,h.rest.lens.2.2.2⟩,
  λq hq=>by rw [show(({ s with hands:=s.hands.set p { s.hands.getD p rh0 with own:=l } }:RefS).hands.getD q rh0).opn=_ from(hop q).1];exact h.rest.c0 q hq,λq hq e=>by
   have e':(s.hands.getD q rh0).opn=true:=by rw [<-(hop q).1];exact e
   show hl[16*q+1]?=some (.int .i64 ((((s.hands.set p { s.hands.getD p rh0 with own:=l }).getD q rh0).ev:Nat):Int))
   rw [(hop q).2];exact h.rest.c1 q hq e',h.rest.c15,λq hq=>?_,λq hq hP=>?_,(hc.block _ (blk_lt h.rest.out) (hnt h.rest.out (by decide))).trans h.rest.out,row_chg h.rest.evs hc (λb e e9=>by rw [e9] at e;exact row_ne h.rest.evs ho (by decide) e),h.rest.lies hc (λb _ hb=>hM b hb) (MutUp.refl _ _),h.rest.gg,h.rest.kk,h.rest.oo,h.rest.ge,λb hb=>?_,h.rest.wg,h.rest.res⟩,h.hp,?_,h.thr,?_,h.ge⟩
 ·by_cases e:q=p
  ·subst e
   refine⟨PV,by rw [blk_set ho];rfl,?_⟩
   show LstU _ _ PV ((s.hands.set q { s.hands.getD q rh0 with own:=l }).getD q rh0).own
   rw [hpp]
   exact hPV.keep hc hM (MutUp.refl _ _)
  ·obtain⟨OV',h1,h2⟩:=h.rest.own q hq
   refine⟨OV',(hc.block _ (blk_lt h1) (h.rest.oo q p hq h.hp e)).trans h1,?_⟩
   show LstU _ _ OV' ((s.hands.set p { s.hands.getD p rh0 with own:=l }).getD q rh0).own
   rw [hh q e]
   exact h2.keep hc hM (MutUp.refl _ _)
 ·show HandAt _ _ _ _ _ ((s.hands.set p { s.hands.getD p rh0 with own:=l }).getD q rh0) _
  rw [hh q hP]
  exact(h.rest.hand q hq hP).keep hc hM (MutUp.refl _ _) (λb e e9=>by obtain⟨_,_,h9⟩:=(h.rest.hand q hq hP).ty.1 b e;exact hnt h9 (by decide) e9) (λb e e9=>by obtain⟨_,_,h9⟩:=(h.rest.hand q hq hP).ty.2 b e;exact hnt h9 (by decide) e9)
 ·obtain⟨cs,fz,h9⟩:=h.rest.wb b hb
  exact⟨cs,fz,(hc.block _ (blk_lt h9) (hnt h9 (by decide))).trans h9⟩
 ·show((s.hands.set p { s.hands.getD p rh0 with own:=l }).getD p rh0).opn=true
  rw [hpp];exact h.opn
 ·show t.inv=((s.hands.set p { s.hands.getD p rh0 with own:=l }).getD p rh0).inv
  rw [hpp];exact h.inv
theorem rmut_of {EV:Value} {b o:Nat} (hp:p<vs.length) (hv:vs.length=J.nt) (ho:o=(vs.getD p hv0).2.2) (hb:LMut J (vs.set p (G,K,o)) L EV b):RMut (rids J p hl vs EV) G K L b:=by
 rcases hb with e|e|e|e|e|e|e|e|e|⟨q,hq,e⟩
 ·exact .inl (.inl (.inr (.inl e)))
 ·exact .inl (.inr (.inl e))
 ·exact .inl (.inr (.inr e))
 ·exact .inr (.inl e)
 ·exact .inl (.inl (.inl e))
 ·exact .inr (.inr (.inl e))
 ·exact .inl (.inl (.inr (.inr (.inl e))))
 ·exact .inl (.inl (.inr (.inr (.inr (.inr (.inr e))))))
 ·exact .inr (.inr (.inr (.inl e)))
 ·by_cases hqp:q=p
  ·subst hqp
   rw [getD_set_eq hp] at e
   rcases e with e|e|e
   ·exact .inr (.inr (.inr (.inr ⟨q,hq,.inl (ho.symm.trans e)⟩)))
   ·exact .inl (.inl (.inr (.inr (.inr (.inl e)))))
   ·exact .inl (.inl (.inr (.inr (.inr (.inr (.inl e))))))
  ·rw [getD_set_neq (Ne.symm hqp)] at e
   rcases e with e|e|e
   ·exact .inr (.inr (.inr (.inr ⟨q,hq,.inl e⟩)))
   ·exact .inr (.inr (.inr (.inr ⟨q,hq,.inr ⟨hqp,.inl e⟩⟩)))
   ·exact .inr (.inr (.inr (.inr ⟨q,hq,.inr ⟨hqp,.inr e⟩⟩)))
theorem LogM.close (h:LogM w0 w J p s hl vs G K L ea ec ers t r):∃ hl',LogA w0 w J { s with rw:=r,hands:=s.hands.set p { s.hands.getD p rh0 with got:=t.got,ticks:=t.ticks } } hl' (vs.set p (G,K,(vs.getD p hv0).2.2)) L ea ec ers:=by
 obtain⟨PV,LV,KV,ht,hPV,hLV,hKV⟩:=h.tape.tape
 have hpl:p<s.hands.length:=by rw [h.rest.lens.2.2.1];exact h.hp
 have hpv:p<vs.length:=by rw [h.rest.lens.2.1];exact h.hp
 have hlen:=h.rest.lens.1
 have hp:=h.hp
 have hb0:=ht.blk
 obtain⟨X,hX⟩:∃ X,X=tapeL J.bW G K (t.raw PV LV KV):=⟨_,rfl⟩
 have hX13:X.length=13:=by rw [hX];rfl
 have hin:16*p+2+X.length<=hl.length:=by rw [hX13,hlen];omega
 obtain⟨hl',hhl⟩:∃ hl',hl'=hl.take (16*p+2)++(X++hl.drop (16*p+2+X.length)):=⟨_,rfl⟩
 have hget:∀ i,hl'[i]?=if 16*p+2<=i/\i<16*p+2+X.length then X[i - (16*p+2)]? else hl[i]?:=λi=>by rw [hhl];exact put_get hin i
 have hlen':hl'.length=16*J.nt:=by rw [hhl];simp;omega
 have hget':∀ q j,(q≠p∨j<2∨15<=j)->j<16->hl'[16*q+j]?=hl[16*q+j]?:=λq j h1 h2=>by
  rw [hget,if_neg (by rw [hX13];omega)]
 have hM:MutUp (RMut (rids J p hl vs (.slice ea s.evs.length ec)) G K L) w (LMut J (vs.set p (G,K,(vs.getD p hv0).2.2)) L (.slice ea s.evs.length ec)):=λb hb=>.inl (rmut_of hpv h.rest.lens.2.1 rfl hb)
 have hh:∀ q,q≠p->(s.hands.set p { s.hands.getD p rh0 with got:=t.got,ticks:=t.ticks }).getD q rh0=s.hands.getD q rh0:=λq hq=>getD_set_neq (Ne.symm hq)
 have hpp:(s.hands.set p { s.hands.getD p rh0 with got:=t.got,ticks:=t.ticks }).getD p rh0={ s.hands.getD p rh0 with got:=t.got,ticks:=t.ticks }:=getD_set_eq hpl
 have hvq:∀ q,q≠p->(vs.set p (G,K,(vs.getD p hv0).2.2)).getD q hv0=vs.getD q hv0:=λq hq=>getD_set_neq (Ne.symm hq)
 have hvp:(vs.set p (G,K,(vs.getD p hv0).2.2)).getD p hv0=(G,K,(vs.getD p hv0).2.2):=getD_set_eq hpv
 have hop:∀ q,((s.hands.set p { s.hands.getD p rh0 with got:=t.got,ticks:=t.ticks }).getD q rh0).opn=(s.hands.getD q rh0).opn/\((s.hands.set p { s.hands.getD p rh0 with got:=t.got,ticks:=t.ticks }).getD q rh0).ev=(s.hands.getD q rh0).ev/\((s.hands.set p { s.hands.getD p rh0 with got:=t.got,ticks:=t.ticks }).getD q rh0).own=(s.hands.getD q rh0).own:=λq=>by
  by_cases e:q=p
  ·subst e;rw [hpp];exact⟨rfl,rfl,rfl⟩
  ·rw [hh q e];exact⟨rfl,rfl,rfl⟩
 have hvo:∀ q,((vs.set p (G,K,(vs.getD p hv0).2.2)).getD q hv0).2.2=(vs.getD q hv0).2.2:=λq=>by
  by_cases e:q=p
  ·subst e;rw [hvp]
  ·rw [hvq q e]
 have mxG:∀ q,q<J.nt->q≠p->∀ b,(vs.getD q hv0).1.ownBlock=some b->G.ownBlock≠some b:=λq hq hqp b e e9=>h.tape.dis b (.inr (.inr (.inr ⟨q,hq,.inr ⟨hqp,.inl e⟩⟩))) (.inl (.inr (.inr (.inr (.inl e9)))))
 have mxK:∀ q,q<J.nt->q≠p->∀ b,(vs.getD q hv0).2.1.ownBlock=some b->K.ownBlock≠some b:=λq hq hqp b e e9=>h.tape.dis b (.inr (.inr (.inr ⟨q,hq,.inr ⟨hqp,.inr e⟩⟩))) (.inl (.inr (.inr (.inr (.inr (.inl e9))))))
 refine⟨hl',⟨⟨h.rest.below,h.rest.fin,h.rest.flen,⟨hlen',by simpa using h.rest.lens.2.1,by simpa using h.rest.lens.2.2.1,h.rest.lens.2.2.2⟩,λq hq=>?_,λq hq e=>?_,λq hq=>?_,λq hq=>?_,λq hq _=>?_,h.rest.out,h.rest.evs,λi hi=>⟨(h.rest.lie i hi).1.keep (S:=noB) (Chg.refl _ _) (λ_ h=>h.elim) hM,(h.rest.lie i hi).2.keep (S:=noB) (Chg.refl _ _) (λ_ h=>h.elim) hM⟩,λa b ha hb _ _ hab c e1 e2=>?_,λa b ha hb _ _ hab c e1 e2=>?_,λa b ha hb hab=>?_,⟨h.rest.ge.1,h.rest.ge.2.1,h.rest.ge.2.2.1,h.rest.ge.2.2.2.1,h.rest.ge.2.2.2.2.1,h.rest.ge.2.2.2.2.2.1,h.rest.ge.2.2.2.2.2.2.1,λq hq=>?_⟩,h.rest.wb,λb hb q hq _ e=>?_,h.rest.res⟩,?_,ht.mem,ht.log,λb e=>h.ge b (.inl (.inr (.inr (.inr (.inr (.inr e)))))),?_,?_,h.tape.sep.1⟩⟩
 ·show hl'[16*q]?=some (.bool ((s.hands.set p { s.hands.getD p rh0 with got:=t.got,ticks:=t.ticks }).getD q rh0).opn)
  rw [(hop q).1]
  have:=hget' q 0 (.inr (.inl (by omega))) (by omega)
  rw [Nat.add_zero] at this
  rw [this];exact h.rest.c0 q hq
 ·have e':(s.hands.getD q rh0).opn=true:=by rw [<-(hop q).1];exact e
  show hl'[16*q+1]?=some (.int .i64 ((((s.hands.set p { s.hands.getD p rh0 with got:=t.got,ticks:=t.ticks }).getD q rh0).ev:Nat):Int))
  rw [(hop q).2.1,hget' q 1 (.inr (.inl (by omega))) (by omega)];exact h.rest.c1 q hq e'
 ·rw [hvo,hget' q 15 (.inr (.inr (by omega))) (by omega)];exact h.rest.c15 q hq
 ·obtain⟨OV,h1,h2⟩:=h.rest.own q hq
  refine⟨OV,by rw [hvo];exact h1,?_⟩
  show LstU w _ OV ((s.hands.set p { s.hands.getD p rh0 with got:=t.got,ticks:=t.ticks }).getD q rh0).own
  rw [(hop q).2.2]
  exact h2.keep (S:=noB) (Chg.refl _ _) (λ_ h=>h.elim) hM
 ·show HandAt w _ J.bW hl' q ((s.hands.set p { s.hands.getD p rh0 with got:=t.got,ticks:=t.ticks }).getD q rh0) _
  by_cases e:q=p
  ·subst e
   rw [hpp,hvp]
   refine⟨λ_=>⟨⟨t.at_,t.fresh,t.halt,PV,t.err,t.val,LV,KV,t.priv,t.list,t.key,λj hj=>?_,h.tape.at_le,hPV.keep (S:=noB) (Chg.refl _ _) (λ_ h=>h.elim) hM,hLV.keep (S:=noB) (Chg.refl _ _) (λ_ h=>h.elim) hM,hKV.keep (S:=noB) (Chg.refl _ _) (λ_ h=>h.elim) hM⟩,ht.got,ht.ticks,h.tape.tl⟩,λe=>?_⟩
   ·rw [hget,if_pos (by rw [hX13];omega),Nat.add_sub_cancel_left,hX]
    have e1:(t.raw PV LV KV)=⟨(q:Int),((s.hands.getD q rh0).inv:Int),t.got,t.ticks,t.at_,t.fresh,t.halt,PV,t.err,t.val,LV,KV⟩:=by
     unfold TapeP.raw;rw [h.thr,h.inv]
    rw [e1]
   ·have e':(s.hands.getD q rh0).opn=false:=e
    rw [h.opn] at e';cases e'
  ·rw [hh q e,hvq q e]
   have H:=h.rest.hand q hq e
   refine⟨λe1=>?_,H.cl⟩
   obtain⟨⟨a,f,ha,PV',er,vl,LV',KV',pl,ll,kl,h1,h6,h5,h7,h8⟩,h2,h3,h4⟩:=H.opn e1
   exact⟨⟨a,f,ha,PV',er,vl,LV',KV',pl,ll,kl,λj hj=>by rw [show 16*q+2+j=16*q+(2+j) by omega,hget' q (2+j) (.inl e) (by omega),<-h1 j hj,Nat.add_assoc],h6,h5.keep (S:=noB) (Chg.refl _ _) (λ_ h=>h.elim) hM,h7.keep (S:=noB) (Chg.refl _ _) (λ_ h=>h.elim) hM,h8.keep (S:=noB) (Chg.refl _ _) (λ_ h=>h.elim) hM⟩,h2,h3,h4⟩
 ·by_cases ea9:a=p
  ·subst ea9
   rw [hvp] at e1;rw [hvq b (Ne.symm hab)] at e2
   exact mxG b hb (Ne.symm hab) c e2 e1
  ·rw [hvq a ea9] at e1
   by_cases eb9:b=p
   ·subst eb9;rw [hvp] at e2;exact mxG a ha ea9 c e1 e2
   ·rw [hvq b eb9] at e2;exact h.rest.gg a b ha hb ea9 eb9 hab c e1 e2
 ·by_cases ea9:a=p
  ·subst ea9
   rw [hvp] at e1;rw [hvq b (Ne.symm hab)] at e2
   exact mxK b hb (Ne.symm hab) c e2 e1
  ·rw [hvq a ea9] at e1
   by_cases eb9:b=p
   ·subst eb9;rw [hvp] at e2;exact mxK a ha ea9 c e1 e2
   ·rw [hvq b eb9] at e2;exact h.rest.kk a b ha hb ea9 eb9 hab c e1 e2
 ·rw [hvo,hvo];exact h.rest.oo a b ha hb hab
 ·refine⟨by rw [hvo];exact(h.rest.ge.2.2.2.2.2.2.2 q hq).1,λ_=>?_⟩
  by_cases e:q=p
  ·subst e
   rw [hvp]
   exact⟨λb e=>h.ge b (.inl (.inr (.inr (.inr (.inl e))))),λb e=>h.ge b (.inl (.inr (.inr (.inr (.inr (.inl e))))))⟩
  ·rw [hvq q e];exact(h.rest.ge.2.2.2.2.2.2.2 q hq).2 e
 ·by_cases e9:q=p
  ·subst e9;rw [hvp] at e;exact(ht.sep b hb).2.1 e
  ·rw [hvq q e9] at e;exact h.rest.wg b hb q hq e9 e
 ·rw [hhl,hX13,hX];exact hb0
 ·exact h.tape.marks.keep (S:=noB) (Chg.refl _ _) (λ_ h=>h.elim) hM (λh=>h)
 ·exact h.tape.traces.keep (S:=noB) (Chg.refl _ _) (λ_ h=>h.elim) hM (λh=>h)
end
section

/- A reference's play under way: between steps, what each of its own writes leaves. -/
open Go.RowKit
variable {w0 w w':World} {J:RJ} {s s':RefS} {hl hl':List Value} {vs vs':List HV} {G K L:Value} {ea ea':Option Addr} {ec ec':Nat} {ers ers':List (Value×Value)} {Mut Mut':Nat->Prop} {P:Nat->Prop} {p:Nat} {t:TapeP} {r:RWD}
theorem BlkTy.ne {EV:Value} (h:BlkTy w J vs L EV P) {b:Nat} {c:Array Value} {T:TypeId} {fz:Nat×Nat} (hb:w.heap[b]?=some (.cells c T fz)) :
  (T≠93->J.bW≠b)/\(T≠24->J.bM≠b/\J.bT≠b)/\(T≠4->J.bF≠b)/\(T≠100->J.bH≠b)/\(T≠32->J.bO≠b)/\(T≠46->J.bw≠some b)/\(T≠212->L.ownBlock≠some b)/\(T≠52->EV.ownBlock≠some b)/\
   ∀ q,q<J.nt->(T≠28->(vs.getD q hv0).2.2≠b)/\(P q->(T≠46->(vs.getD q hv0).1.ownBlock≠some b)/\(T≠3->(vs.getD q hv0).2.1.ownBlock≠some b)):=by
 refine⟨λhT e=>?_,λhT=>⟨λe=>?_,λe=>?_⟩,λhT e=>?_,λhT e=>?_,λhT e=>?_,λhT e=>?_,λhT e=>?_,λhT e=>?_,λq hq=>⟨λhT e=>?_,λhP=>⟨λhT e=>?_,λhT e=>?_⟩⟩⟩
 ·obtain⟨_,h1⟩:=h.W;exact blk_ne9 hb h1 hT e.symm
 ·obtain⟨_,h1⟩:=h.M;exact blk_ne9 hb h1 hT e.symm
 ·obtain⟨_,h1⟩:=h.T;exact blk_ne9 hb h1 hT e.symm
 ·obtain⟨_,h1⟩:=h.F;exact blk_ne9 hb h1 hT e.symm
 ·obtain⟨_,h1⟩:=h.H;exact blk_ne9 hb h1 hT e.symm
 ·obtain⟨_,h1⟩:=h.O;exact blk_ne9 hb h1 hT e.symm
 ·obtain⟨_,_,h1⟩:=h.U b e;exact blk_ne9 hb h1 hT rfl
 ·obtain⟨_,_,h1⟩:=h.L b e;exact blk_ne9 hb h1 hT rfl
 ·obtain⟨_,_,h1⟩:=h.E b e;exact blk_ne9 hb h1 hT rfl
 ·obtain⟨_,h1⟩:=h.o q hq;exact blk_ne9 hb h1 hT e.symm
 ·obtain⟨_,_,h1⟩:=h.G q hq hP b e;exact blk_ne9 hb h1 hT rfl
 ·obtain⟨_,_,h1⟩:=h.K q hq hP b e;exact blk_ne9 hb h1 hT rfl
theorem LogA.notmut (h:LogA w0 w J s hl vs L ea ec ers) {b:Nat} {c:Array Value} {T:TypeId} {fz:Nat×Nat} (hb:w.heap[b]?=some (.cells c T fz)) (hge:w0.heap.size<=b)
  (hT:T≠93/\T≠24/\T≠4/\T≠100/\T≠32/\T≠46/\T≠212/\T≠52/\T≠28/\T≠3):¬ LMut J vs L (.slice ea s.evs.length ec) b:=λhm=>by
 obtain⟨x1,x2,x3,x4,x5,x6,x7,x8,x9⟩:=h.ty.ne hb
 obtain⟨t1,t2,t3,t4,t5,t6,t7,t8,t9,t10⟩:=hT
 rcases hm with e|e|e|e|e|e|e|e|e|⟨q,hq,e|e|e⟩
 ·exact x1 t1 e.symm
 ·exact(x2 t2).1 e.symm
 ·exact(x2 t2).2 e.symm
 ·exact x3 t3 e.symm
 ·exact x4 t4 e.symm
 ·rcases e with e|e
  ·exact x5 t5 e.symm
  ·have:=h.rest.res b e;omega
 ·exact x6 t6 e
 ·exact x7 t7 e
 ·exact x8 t8 e
 ·exact(x9 q hq).1 t9 e
 ·exact((x9 q hq).2 trivial).1 t6 e
 ·exact((x9 q hq).2 trivial).2 t10 e
theorem LogA.world {b:Nat} {c:Array Value} {T:TypeId} {fz:Nat×Nat} (h:LogA w0 w J s hl vs L ea ec ers) (hb:w.heap[b]?=some (.cells c T fz)) (hc:Chg (λx=>x=b) w w') (hm:LMut J vs L (.slice ea s.evs.length ec) b) (hm':MutUp (LMut J vs L (.slice ea s.evs.length ec)) w Mut')
  (hT:T≠93/\T≠24/\T≠46/\T≠212) :
  RMemAt w' J.bW 93 [.int .i64 (s.rw.now:Int),.slice (some ⟨J.bM,0,none⟩) J.nt J.nt,.slice (some ⟨J.bT,0,none⟩) J.sz J.sz,L] J.bw s.rw.mem/\(∃ n xs,n<=s.rw.mem.c.all/\w'.ownsRow 0 212 6 L n xs)/\
   ListsAt w' Mut' J.bM J.nt s.rw.marks/\ListsAt w' Mut' J.bT J.sz s.rw.traces:=by
 obtain⟨n,xs,hn,hl9⟩:=h.log
 obtain⟨x1,x2,x3,x4,x5,x6,x7,_⟩:=h.ty.ne hb
 have hS:∀ x,x=b->LMut J vs L (.slice ea s.evs.length ec) x:=λx e=>by rw [e];exact hm
 exact⟨h.mem.chg hc (x1 hT.1) (λq e e9=>x6 hT.2.2.1 (by rw [e,e9])),⟨n,xs,hn,row_chg hl9 hc (λq e e9=>x7 hT.2.2.2 (by rw [e,e9]))⟩,h.marks.keep hc hS hm' (x2 hT.2.1).1,h.traces.keep hc hS hm' (x2 hT.2.1).2⟩
theorem LogA.tick (h:LogA w0 w J s hl vs L ea ec ers):LogA w0 (w.setCell ⟨J.bW,6,none⟩ (.int .i64 ((s.rw.now:Int)+1))) J { s with rw:=s.rw.tick } hl vs L ea ec ers:=by
 obtain⟨cW,hW⟩:=h.ty.W
 obtain⟨x1,x2,x3,x4,x5,x6,x7,x8,x9⟩:=h.ty.ne hW
 have hc:Chg (λx=>x=J.bW) w (w.setCell ⟨J.bW,6,none⟩ (.int .i64 ((s.rw.now:Int)+1))):=(Chg.refl (λx=>x=J.bW) w).setCell (p:=⟨J.bW,6,none⟩) (.inl rfl) _
 have hS:∀ x,x=J.bW->LMut J vs L (.slice ea s.evs.length ec) x:=λx e=>.inl e
 obtain⟨n,xs,hn,hl9⟩:=h.log
 obtain⟨_,hH⟩:=h.ty.H
 refine⟨h.rest.turn (s':={ s with rw:=s.rw.tick }) hc (λx _ e=>hS x e) (MutUp.refl _ _) (λx e=>by rw [e];exact h.rest.ge.2.2.2.1) (λx e q hq=>by rw [e];exact⟨(x9 q hq).1 (by decide),λhP=>⟨((x9 q hq).2 hP).1 (by decide),((x9 q hq).2 hP).2 (by decide)⟩⟩) (λx e e9=>absurd (by rw [<-e];exact e9) (x6 (by decide))) rfl
   ((hc.block _ (blk_lt h.rest.fin) (x3 (by decide))).trans h.rest.fin) h.rest.flen h.rest.lens.2.2.2 ((hc.block _ (blk_lt h.rest.out) (x5 (by decide))).trans h.rest.out) (row_chg h.rest.evs hc (λb e e9=>x8 (by decide) (by rw [e,e9]))) (h.rest.lies hc (λx _ e=>hS x e) (MutUp.refl _ _)),
  (hc.block _ (blk_lt h.hb) (x4 (by decide))).trans h.hb,?_,⟨n,xs,hn,row_chg hl9 hc (λb e e9=>x7 (by decide) (by rw [e,e9]))⟩,h.logge,h.marks.keep hc hS (MutUp.refl _ _) (x2 (by decide)).1,h.traces.keep hc hS (MutUp.refl _ _) (x2 (by decide)).2,h.mt⟩
 exact h.mem.tail 0 (.int .i64 ((s.rw.now:Int)+1))
theorem LogA.idleN (h:LogA w0 w J s hl vs L ea ec ers):LogA w0 (w.setCell ⟨J.bO,8,none⟩ (.int .i64 ((s.idle:Int)+1))) J { s with idle:=s.idle+1 } hl vs L ea ec ers:=by
 obtain⟨cO,hO⟩:=h.ty.O
 obtain⟨x1,x2,x3,x4,x5,x6,x7,x8,x9⟩:=h.ty.ne hO
 have hc:Chg (λx=>x=J.bO) w (w.setCell ⟨J.bO,8,none⟩ (.int .i64 ((s.idle:Int)+1))):=(Chg.refl (λx=>x=J.bO) w).setCell (p:=⟨J.bO,8,none⟩) (.inl rfl) _
 have hm:LMut J vs L (.slice ea s.evs.length ec) J.bO:=.inr (.inr (.inr (.inr (.inr (.inl (.inl rfl))))))
 have hS:∀ x,x=J.bO->LMut J vs L (.slice ea s.evs.length ec) x:=λx e=>by rw [e];exact hm
 obtain⟨m1,m2,m3,m4⟩:=h.world hO hc hm (MutUp.refl _ _) ⟨by decide,by decide,by decide,by decide⟩
 refine⟨h.rest.turn (s':={ s with idle:=s.idle+1 }) hc (λx _ e=>hS x e) (MutUp.refl _ _) (λx e=>by rw [e];exact h.rest.ge.2.1) (λx e q hq=>by rw [e];exact⟨(x9 q hq).1 (by decide),λhP=>⟨((x9 q hq).2 hP).1 (by decide),((x9 q hq).2 hP).2 (by decide)⟩⟩) (λx e e9=>absurd (by rw [<-e];exact e9) (x6 (by decide))) rfl
   ((hc.block _ (blk_lt h.rest.fin) (x3 (by decide))).trans h.rest.fin) h.rest.flen h.rest.lens.2.2.2 ?_ (row_chg h.rest.evs hc (λb e e9=>x8 (by decide) (by rw [e,e9]))) (h.rest.lies hc (λx _ e=>hS x e) (MutUp.refl _ _)),
  (hc.block _ (blk_lt h.hb) (x4 (by decide))).trans h.hb,m1,m2,h.logge,m3,m4,h.mt⟩
 rw [blk_set h.rest.out];rfl
theorem LogA.finN (h:LogA w0 w J s hl vs L ea ec ers) (i:Nat):LogA w0 (w.setCell ⟨J.bF,i,none⟩ (.bool true)) J { s with fin:=s.fin.set i true } hl vs L ea ec ers:=by
 obtain⟨x1,x2,x3,x4,x5,x6,x7,x8,x9⟩:=h.ty.ne h.rest.fin
 have hc:Chg (λx=>x=J.bF) w (w.setCell ⟨J.bF,i,none⟩ (.bool true)):=(Chg.refl (λx=>x=J.bF) w).setCell (p:=⟨J.bF,i,none⟩) (.inl rfl) _
 have hm:LMut J vs L (.slice ea s.evs.length ec) J.bF:=.inr (.inr (.inr (.inl rfl)))
 have hS:∀ x,x=J.bF->LMut J vs L (.slice ea s.evs.length ec) x:=λx e=>by rw [e];exact hm
 obtain⟨m1,m2,m3,m4⟩:=h.world h.rest.fin hc hm (MutUp.refl _ _) ⟨by decide,by decide,by decide,by decide⟩
 refine⟨h.rest.turn (s':={ s with fin:=s.fin.set i true }) hc (λx _ e=>hS x e) (MutUp.refl _ _) (λx e=>by rw [e];exact h.rest.ge.1) (λx e q hq=>by rw [e];exact⟨(x9 q hq).1 (by decide),λhP=>⟨((x9 q hq).2 hP).1 (by decide),((x9 q hq).2 hP).2 (by decide)⟩⟩) (λx e e9=>absurd (by rw [<-e];exact e9) (x6 (by decide))) rfl
   ?_ (by simpa using h.rest.flen) h.rest.lens.2.2.2 ((hc.block _ (blk_lt h.rest.out) (x5 (by decide))).trans h.rest.out) (row_chg h.rest.evs hc (λb e e9=>x8 (by decide) (by rw [e,e9]))) (h.rest.lies hc (λx _ e=>hS x e) (MutUp.refl _ _)),
  (hc.block _ (blk_lt h.hb) (x4 (by decide))).trans h.hb,m1,m2,h.logge,m3,m4,h.mt⟩
 rw [blk_set h.rest.fin]
 simp [List.map_set]
theorem LogA.app {w1:World} (h:LogA w0 w J s hl vs L ea ec ers) (e:EvD) (he:e.ans.list=[]/\e.key=[]) (hc:Chg (λb=>(Value.slice ea s.evs.length ec).ownBlock=some b) w w1) (hk:KeepB w (.slice ea s.evs.length ec) (.slice ea' (s.evs.length+1) ec'))
  (hrow:w1.ownsRow w0.heap.size 52 8 (.slice ea' (s.evs.length+1) ec') (s.evs.length+1) (evRow s.evs ers++evCells e (.slice none 0 0,.slice none 0 0))) :
  LogA w0 (w1.setCell ⟨J.bO,0,none⟩ (.slice ea' (s.evs.length+1) ec')) J { s with evs:=s.evs++[e] } hl vs L ea' ec' (ers++[(.slice none 0 0,.slice none 0 0)]):=by
 have ty:=h.ty
 have hlen:(s.evs++[e]).length=s.evs.length+1:=by simp
 obtain⟨w2,hw2⟩:∃ w2,w2=w1.setCell ⟨J.bO,0,none⟩ (.slice ea' (s.evs.length+1) ec'):=⟨_,rfl⟩
 have hE:∀ b,(Value.slice ea s.evs.length ec).ownBlock=some b->∃ c fz,w.heap[b]?=some (.cells c 52 fz):=λb e=>row_type h.rest.evs e
 have hne:∀ {b':Nat} {c:Array Value} {T:TypeId} {fz:Nat×Nat},w.heap[b']?=some (.cells c T fz)->T≠52->¬ (Value.slice ea s.evs.length ec).ownBlock=some b':=λh9 hT e=>by
  obtain⟨_,_,h8⟩:=hE _ e;exact blk_ne9 h9 h8 hT rfl
 have hO1:w1.heap[J.bO]?=some (.cells (outR (.slice ea s.evs.length ec) s.idle) 32 (0,0)):=(hc.block _ (blk_lt h.rest.out) (hne h.rest.out (by decide))).trans h.rest.out
 obtain⟨x1,x2,x3,x4,x5,x6,x7,x8,x9⟩:=ty.ne h.rest.out
 have hc1:Chg (λx=>x=J.bO) w1 w2:=by rw [hw2];exact(Chg.refl (λx=>x=J.bO) w1).setCell (p:=⟨J.bO,0,none⟩) (.inl rfl) _
 have hc2:Chg (λx=>(Value.slice ea s.evs.length ec).ownBlock=some x∨x=J.bO) w w2:=(hc.mono (λ_ _ e=>.inl e)).trans (hc1.mono (λ_ _ e=>.inr e))
 have hS:∀ x,((Value.slice ea s.evs.length ec).ownBlock=some x∨x=J.bO)->LMut J vs L (.slice ea s.evs.length ec) x:=λx e=>by
  rcases e with e|e
  ·exact .inr (.inr (.inr (.inr (.inr (.inr (.inr (.inr (.inl e))))))))
  ·exact .inr (.inr (.inr (.inr (.inr (.inl (.inl e))))))
 have hM:MutUp (LMut J vs L (.slice ea s.evs.length ec)) w (LMut J vs L (.slice ea' (s.evs.length+1) ec')):=λx e=>by
  rcases e with e|e|e|e|e|e|e|e|e|e
  ·exact .inl (.inl e)
  ·exact .inl (.inr (.inl e))
  ·exact .inl (.inr (.inr (.inl e)))
  ·exact .inl (.inr (.inr (.inr (.inl e))))
  ·exact .inl (.inr (.inr (.inr (.inr (.inl e)))))
  ·exact .inl (.inr (.inr (.inr (.inr (.inr (.inl e))))))
  ·exact .inl (.inr (.inr (.inr (.inr (.inr (.inr (.inl e)))))))
  ·exact .inl (.inr (.inr (.inr (.inr (.inr (.inr (.inr (.inl e))))))))
  ·rcases hk x e with h9|h9
   ·exact .inl (.inr (.inr (.inr (.inr (.inr (.inr (.inr (.inr (.inl h9)))))))))
   ·exact .inr h9
  ·exact .inl (.inr (.inr (.inr (.inr (.inr (.inr (.inr (.inr (.inr e)))))))))
 have hn2:∀ {b':Nat} {c:Array Value} {T:TypeId} {fz:Nat×Nat},w.heap[b']?=some (.cells c T fz)->T≠52->T≠32->¬ ((Value.slice ea s.evs.length ec).ownBlock=some b'∨b'=J.bO):=λh9 hT hT2 e=>by
  rcases e with e|e
  ·exact hne h9 hT e
  ·rw [e] at h9;exact blk_ne9 h9 h.rest.out hT2 rfl
 obtain⟨n,xs,hn,hl9⟩:=h.log
 obtain⟨_,hW⟩:=ty.W
 obtain⟨_,hMb⟩:=ty.M
 obtain⟨_,hTb⟩:=ty.T
 have hrow2:w2.ownsRow w0.heap.size 52 8 (.slice ea' (s.evs.length+1) ec') (s.evs.length+1) (evRow (s.evs++[e]) (ers++[(.slice none 0 0,.slice none 0 0)])):=by
  rw [evRow_append _ _ _ _ h.rest.lens.2.2.2.symm,show evRow [e] [((.slice none 0 0:Value),(.slice none 0 0:Value))]=evCells e (.slice none 0 0,.slice none 0 0)++[] from rfl,List.append_nil]
  exact row_chg hrow hc1 (λb e9 e8=>by rw [e8] at e9;exact row_ne hrow hO1 (by decide) e9)
 rw [<-hw2]
 have hrest:LogR w0 w2 (LMut J vs L (.slice ea' (s.evs.length+1) ec')) J (λ_=>True) { s with evs:=s.evs++[e] } hl vs ea' ec' (ers++[(.slice none 0 0,.slice none 0 0)]):=by
  refine h.rest.turn (s':={ s with evs:=s.evs++[e] }) hc2 (λx _ e=>hS x e) hM (λx e=>?_) (λx e q hq=>?_) (λx e e9=>?_) rfl ((hc2.block _ (blk_lt h.rest.fin) (hn2 h.rest.fin (by decide) (by decide))).trans h.rest.fin) h.rest.flen (by simp [h.rest.lens.2.2.2]) ?_ (by rw [hlen];exact hrow2) (λi hi=>?_)
  ·rcases e with e|e
   ·rcases h.rest.evs.2 with⟨h1,_⟩|⟨g,cap,cur,h1,h2,_⟩
    ·rw [h1] at e;cases e
    ·rw [h1] at e;cases e;exact h2
   ·rw [e];exact h.rest.ge.2.1
  ·refine⟨λe9=>?_,λhP=>⟨λe9=>?_,λe9=>?_⟩⟩
   ·obtain⟨_,h9⟩:=ty.o q hq;exact hn2 h9 (by decide) (by decide) (by rw [e9];exact e)
   ·obtain⟨_,_,h9⟩:=ty.G q hq trivial x e9;exact hn2 h9 (by decide) (by decide) e
   ·obtain⟨_,_,h9⟩:=ty.K q hq trivial x e9;exact hn2 h9 (by decide) (by decide) e
  ·obtain⟨_,_,h9⟩:=ty.U x e9;exact absurd e (hn2 h9 (by decide) (by decide))
  ·rw [hw2,blk_set hO1,hlen];rfl
  ·simp only [hlen] at hi
   by_cases h1:i<s.evs.length
   ·have e1:(ers++[((.slice none 0 0:Value),(.slice none 0 0:Value))]).getD i vv0=ers.getD i vv0:=by rw [List.getD_eq_getElem?_getD,List.getD_eq_getElem?_getD,List.getElem?_append_left (by rw [h.rest.lens.2.2.2];exact h1)]
    have e2:(s.evs++[e]).getD i ev0=s.evs.getD i ev0:=by rw [List.getD_eq_getElem?_getD,List.getD_eq_getElem?_getD,List.getElem?_append_left h1]
    show LstU w2 _ _ ((s.evs++[e]).getD i ev0).ans.list/\Lst w2 _ _ ((s.evs++[e]).getD i ev0).key
    rw [e1,e2]
    exact h.rest.lies hc2 (λx _ e=>hS x e) hM i h1
   ·obtain rfl:i=s.evs.length:=by omega
    have e1:(ers++[((.slice none 0 0:Value),(.slice none 0 0:Value))]).getD s.evs.length vv0=(.slice none 0 0,.slice none 0 0):=by rw [List.getD_eq_getElem?_getD,List.getElem?_append_right (by rw [h.rest.lens.2.2.2];exact Nat.le_refl _),h.rest.lens.2.2.2,Nat.sub_self];rfl
    have e2:(s.evs++[e]).getD s.evs.length ev0=e:=by rw [List.getD_eq_getElem?_getD,List.getElem?_append_right (Nat.le_refl _),Nat.sub_self];rfl
    show LstU w2 _ _ ((s.evs++[e]).getD s.evs.length ev0).ans.list/\Lst w2 _ _ ((s.evs++[e]).getD s.evs.length ev0).key
    rw [e1,e2,he.1,he.2]
    exact⟨LstU.nil _ _,Lst.nil _ _⟩
 refine⟨by rw [hlen];exact hrest,(hc2.block _ (blk_lt h.hb) (hn2 h.hb (by decide) (by decide))).trans h.hb,h.mem.chg hc2 (hn2 hW (by decide) (by decide)) (λq e9=>by obtain⟨_,_,h9⟩:=ty.U q e9;exact hn2 h9 (by decide) (by decide)),⟨n,xs,hn,row_chg hl9 hc2 (λb e9=>by obtain⟨_,_,h9⟩:=ty.L b e9;exact hn2 h9 (by decide) (by decide))⟩,h.logge,?_,?_,h.mt⟩
 ·rw [hlen];exact h.marks.keep hc2 hS hM (hn2 hMb (by decide) (by decide))
 ·rw [hlen];exact h.traces.keep hc2 hS hM (hn2 hTb (by decide) (by decide))
end
end Go.Proofs.YtfkokppncipgnaaGreat
