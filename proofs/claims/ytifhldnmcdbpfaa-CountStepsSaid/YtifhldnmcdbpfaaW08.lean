/- Layer 6: how a play's relation to memory is carried over what a call's beginning writes. -/
import Derived.Test.YtifhldnmcdbpfaaW07
set_option maxRecDepth 100000
set_option linter.unusedVariables false
set_option linter.unusedSimpArgs false
set_option linter.unnecessarySimpa false
namespace Go.Proofs.Ytifhldnmcdbpfaa
open Go.RowKit
variable {S:Sys} {R:Real S}
theorem aL {α:Type} {l:List α} {p:Nat} {v d:α} (h:p<l.length):(l.set p v).getD p d=v:=by simp [List.getD_eq_getElem?_getD,h]
theorem aR {α:Type} {l:List α} {p q:Nat} {v d:α} (h:p≠q):(l.set p v).getD q d=l.getD q d:=by simp [List.getD_eq_getElem?_getD,h]
theorem gU {α:Type} {l:List α} {x d:α} {i:Nat} (h:i<l.length):(l++[x]).getD i d=l.getD i d:=by simp [List.getD_eq_getElem?_getD,List.getElem?_append_left h,h]
theorem dW {α:Type} {l:List α} {x d:α}:(l++[x]).getD l.length d=x:=by simp [List.getD_eq_getElem?_getD]
def rX (G:PG) (p gg:Nat) (ev':Value) (n:Nat):PG:={ G with Mut:=λb=>G.Mut b∨b=gg,hs:=G.hs.set p (.nilIface,n),ev:=ev',ers:=G.ers++[(.slice none 0 0,.slice none 0 0)],MB:=λq b=>q≠p/\G.MB q b }
theorem aK.begun (ok:dP R) {calls:List aF} {w w':World} {J:iZ} {ov cv:Value} {B0:Nat} {G:PG} {wd:WD} {o:S.ω} {fin:List Bool} {hands:List (Option (Mh S.σ)×Nat)} {evs:List EvD} {idle p i:Nat} {mks:List Value} {gg cap:Nat}
  (h:aK R calls w J ov cv B0 G wd o fin hands evs idle) (hp:p<16) (hev:evs.length<wd.now)
  (hmk:mks.length=16) (hmks:∀ q,q<16->Lst w G.Mut (mks.getD q undef) (wd.marks.getD q []))
  (hP:w'.heap[J.bP]?=some (.cells (aN J.W.bW J.bl ov cv G.turn (G.hs.set p (.nilIface,evs.length)) (.slice (some ⟨gg,0,none⟩) (evs.length+1) cap) idle) 128 (0,0)))
  (hW:w'.heap[J.W.bW]?=some (.cells (bF J.W.bm wd.now (wd.inv.set p wd.now) (mks.set p (.slice none 0 0)) J.W.bt) 121 (0,0)))
  (hrow:w'.ownsRow B0 44 8 (.slice (some ⟨gg,0,none⟩) (evs.length+1) cap) (evs.length+1) (gP evs G.ers++dM (dC i (wd.begin p)) (.slice none 0 0,.slice none 0 0)))
  (hch:Chg (λb=>b=J.W.bW∨b=J.bP∨G.ev.ownBlock=some b) w w') (hgg:G.ev.ownBlock=some gg∨w.heap.size<=gg) :
  aK R calls w' J ov cv B0 (rX G p gg (.slice (some ⟨gg,0,none⟩) (evs.length+1) cap) evs.length) (wd.begin p) o fin (hands.set p (none,evs.length)) (evs++[dC i (wd.begin p)]) idle:=by
 have hgl:gg<w'.heap.size:=(hrow.lt gg rfl).2
 have hup:aV G.Mut w (λb=>G.Mut b∨b=gg):=by
  rintro b (hb|rfl)
  ·exact .inl hb
  ·rcases hgg with hg|hg
   ·exact .inl (h.pmut b (.inr (.inr (.inr hg)))).1
   ·exact .inr hg
 have hQ:∀ b,(b=J.W.bW∨b=J.bP∨G.ev.ownBlock=some b)->G.Mut b:=by
  rintro b (rfl|rfl|hb)
  ·exact h.world.muts _ (.inl rfl)
  ·exact(h.pmut _ (.inl rfl)).1
  ·exact(h.pmut _ (.inr (.inr (.inr hb)))).1
 have hgW:∀ b,aW J.W b->b≠gg:=by
  rintro b hb rfl
  rcases hgg with hg|hg
  ·exact(h.pmut _ (.inr (.inr (.inr hg)))).2.1 hb
  ·have:=h.world.low b (h.world.muts b hb);omega
 have hgO:∀ b,R.OB b->b≠gg:=by
  rintro b hb rfl
  rcases hgg with hg|hg
  ·exact(h.pmut _ (.inr (.inr (.inr hg)))).2.2 hb
  ·have:=h.world.low b (ok.lowO _ _ _ h.obj b hb);omega
 have hgP:J.bP≠gg/\J.bl≠gg/\J.blm≠gg:=by
  have l1:=h.world.low _ (h.pmut J.bP (.inl rfl)).1
  have l2:=h.world.low _ (h.pmut J.bl (.inr (.inl rfl))).1
  have l3:=h.world.low _ (h.pmut J.blm (.inr (.inr (.inl rfl)))).1
  rcases hgg with hg|hg
  ·have:=h.psep
   exact⟨λe=>this.2.2.1 (by rw [e];exact hg),λe=>this.2.2.2.1 (by rw [e];exact hg),λe=>this.2.2.2.2 (by rw [e];exact hg)⟩
  ·omega
 have hPW:∀ b,aW J.W b->b≠J.bP:=λb hb e=>(h.pmut J.bP (.inl rfl)).2.1 (by rw [<-e];exact hb)
 have hlow:∀ b,(G.Mut b∨b=gg)->b<w'.heap.size:=by
  rintro b (hb|rfl)
  ·exact Nat.lt_of_lt_of_le (h.world.low b hb) hch.size
  ·exact hgl
 have CX:=h.world.inv16;have TF:=h.world.mk16
 have sep:=h.world.sep
 have nQ:∀ b,aW J.W b->b≠J.W.bW->¬ (b=J.W.bW∨b=J.bP∨G.ev.ownBlock=some b):=by
  rintro b hb hne (e|e|e)
  ·exact hne e
  ·exact hPW b hb e
  ·exact(h.pmut _ (.inr (.inr (.inr e)))).2.1 hb
 have hworld:aM w' (λb=>G.Mut b∨b=gg) J.W G.N (wd.begin p):=by
  obtain⟨n,M,t1,t2,t3⟩:=h.world.tr
  refine⟨⟨_,hW,by simpa using hmk,λq hq=>?_⟩,by simpa [WD.begin] using CX,by simpa [WD.begin] using TF,?_,⟨n,M,t1.block (hch.block _ t1.lt (nQ _ (.inr (.inr (.inl rfl))) (Ne.symm sep.2.1))),t2,λk=>(t3 k).keep hch hQ hup⟩,sep,λb hb=>.inl (h.world.muts b hb),hlow,h.world.nowlt,h.world.nlt⟩
  ·by_cases hqp:p=q
   ·subst hqp
    rw [aL (by omega)]
    show Lst _ _ _ ((wd.marks.set p []).getD p [])
    rw [aL (by omega)]
    exact Lst.nil _ _
   ·rw [aR hqp]
    show Lst _ _ _ ((wd.marks.set p []).getD q [])
    rw [aR hqp]
    exact(hmks q hq).keep hch hQ hup
  ·exact h.world.mem.chg hch (nQ _ (.inr (.inl rfl)) (Ne.symm sep.1)) (λq e=>nQ _ (.inr (.inr (.inr e.symm))) (λe2=>sep.2.2.2.1 (by rw [e,e2])))
 refine⟨hP,by simpa [rX] using h.h1,by simpa using h.h2,λq hq=>?_,hworld,?_,ok.invBegin _ _ _ h.inv,?_,h.flen,⟨?_,?_,?_⟩,?_,?_,h.imm.keep hch hQ hup,?_,h.ow,?_,?_,?_,h.cnt,h.nowb,h.nb,?_,λk=>?_,λb hb=>⟨.inl (h.oldm b hb).1,(h.oldm b hb).2⟩⟩
 ·by_cases hqp:p=q
  ·subst hqp
   show gH R w' _ _ p ((G.hs.set p (.nilIface,evs.length)).getD p (undef,0)) _
   rw [aL (by rw [h.h1];exact hp),aL (by rw [h.h2];exact hp)]
   exact⟨rfl,rfl⟩
  ·show gH R w' _ (λb=>q≠p/\G.MB q b) q ((G.hs.set p (.nilIface,evs.length)).getD q (undef,0)) _
   rw [aR hqp,aR hqp]
   have e1:(λb=>q≠p/\G.MB q b)=G.MB q:=by funext b;simp [Ne.symm hqp]
   rw [e1]
   refine(h.hand q hq).keep ok hch hQ (λb hb=>?_) hup
   have hm:=h.mb q b hq hb
   rintro(rfl|rfl|e)
   ·exact hm.2.1 (.inl rfl)
   ·exact hm.2.2.2 (.inl rfl)
   ·exact hm.2.2.2 (.inr (.inr (.inr e)))
 ·refine ok.keepO _ _ _ _ _ _ h.obj hch hQ (λb hb=>?_) hup (λb hb=>.inl (ok.lowO _ _ _ h.obj b hb))
  rintro(rfl|rfl|e)
  ·exact h.ow _ hb (.inl rfl)
  ·exact(h.pmut _ (.inl rfl)).2.2 hb
  ·exact(h.pmut _ (.inr (.inr (.inr e)))).2.2 hb
 ·obtain⟨n,M,left,t1,t2⟩:=h.line
  refine⟨n,M,left,t1.keepP hch hQ ?_ ?_ hup,t2⟩
  ·rintro(e|e|e)
   ·exact(h.pmut J.bl (.inr (.inl rfl))).2.1 (.inl e)
   ·exact h.psep.1 e.symm
   ·exact h.psep.2.2.2.1 e
  ·rintro(e|e|e)
   ·exact(h.pmut J.blm (.inr (.inr (.inl rfl)))).2.1 (.inl e)
   ·exact h.psep.2.1 e.symm
   ·exact h.psep.2.2.2.2 e
 ·show w'.ownsRow B0 _ 8 (.slice (some ⟨gg,0,none⟩) (evs.length+1) cap) (evs++[dC i (wd.begin p)]).length (gP (evs++[dC i (wd.begin p)]) (G.ers++[(.slice none 0 0,.slice none 0 0)]))
  rw [nV _ _ _ _ h.eva.elen.symm,List.length_append]
  simpa [gP] using hrow
 ·simp [rX,h.eva.elen]
 ·intro k hk
  show jK _ _ ((G.ers++[(Value.slice none 0 0,Value.slice none 0 0)]).getD k tQ).1 _/\Lst _ _ ((G.ers++[(Value.slice none 0 0,Value.slice none 0 0)]).getD k tQ).2 _
  rcases Nat.lt_or_ge k evs.length with hlt|hge
  ·rw [gU (by rw [h.eva.elen];exact hlt),gU hlt]
   exact⟨(h.eva.ans k hlt).1.keep hch hQ hup,(h.eva.ans k hlt).2.keep hch hQ hup⟩
  ·obtain rfl:k=evs.length:=by simp at hk;omega
   rw [dW]
   have e2:(G.ers++[(Value.slice none 0 0,Value.slice none 0 0)]).getD evs.length tQ=(.slice none 0 0,.slice none 0 0):=by rw [<-h.eva.elen];exact dW
   rw [e2]
   exact⟨jK.nil _ _,Lst.nil _ _⟩
 ·simp [WD.begin];omega
 ·intro q hq m hm
  by_cases hqp:p=q
  ·subst hqp
   rw [aL (by rw [h.h2];exact hp)] at hm
   cases hm
  ·rw [aR hqp] at hm ⊢
   have:=h.at_ q hq m hm
   rw [List.length_append];exact Nat.lt_of_lt_of_le this (Nat.le_add_right _ _)
 ·rintro b (rfl|rfl|rfl|e)
  ·exact⟨.inl (h.pmut _ (.inl rfl)).1,(h.pmut _ (.inl rfl)).2⟩
  ·exact⟨.inl (h.pmut _ (.inr (.inl rfl))).1,(h.pmut _ (.inr (.inl rfl))).2⟩
  ·exact⟨.inl (h.pmut _ (.inr (.inr (.inl rfl)))).1,(h.pmut _ (.inr (.inr (.inl rfl)))).2⟩
  ·obtain rfl:gg=b:=by simpa [rX,Value.ownBlock] using e
   exact⟨.inr rfl,λhb=>hgW _ hb rfl,λhb=>hgO _ hb rfl⟩
 ·refine⟨h.psep.1,h.psep.2.1,?_,?_,?_⟩
  ·intro e;exact hgP.1 (by simpa [rX,Value.ownBlock] using e.symm)
  ·intro e;exact hgP.2.1 (by simpa [rX,Value.ownBlock] using e.symm)
  ·intro e;exact hgP.2.2 (by simpa [rX,Value.ownBlock] using e.symm)
 ·rintro q b hq ⟨hqp,hb⟩
  have hm:=h.mb q b hq hb
  refine⟨.inl hm.1,hm.2.1,hm.2.2.1,?_⟩
  rintro(e|e|e|e)
  ·exact hm.2.2.2 (.inl e)
  ·exact hm.2.2.2 (.inr (.inl e))
  ·exact hm.2.2.2 (.inr (.inr (.inl e)))
  ·obtain rfl:gg=b:=by simpa [rX,Value.ownBlock] using e
   rcases hgg with hg|hg
   ·exact hm.2.2.2 (.inr (.inr (.inr hg)))
   ·have:=h.world.low _ hm.1;omega
 ·rintro q r b hq hr hqr ⟨_,hb⟩ ⟨_,hc⟩
  exact h.mbd q r b hq hr hqr hb hc
 ·obtain⟨g1,g2,g3,g4,g5,g6,g7⟩:=h.base
  exact⟨Nat.le_trans g1 hch.size,g2,g3,g4,g5,g6,λq b hq hb=>g7 q b hq hb.2⟩
 ·rcases Nat.lt_or_ge k evs.length with hlt|hge
  ·rw [gU hlt];exact h.stp k
  ·rcases Nat.eq_or_lt_of_le hge with rfl|hgt
   ·rw [dW];exact Nat.zero_le _
   ·have:(evs++[dC i (wd.begin p)]).getD k jY=jY:=by
     rw [List.getD_eq_getElem?_getD,List.getElem?_eq_none (by simp;omega)];rfl
    rw [this];exact Nat.zero_le _
end Go.Proofs.Ytifhldnmcdbpfaa
