/- Layer 6: how a play's relation to memory is carried over what a step writes. -/
import Derived.Test.YtifhldnmcdbpfaaW08
set_option maxRecDepth 100000
set_option linter.unusedVariables false
set_option linter.unusedSimpArgs false
set_option linter.unnecessarySimpa false
namespace Go.Proofs.Ytifhldnmcdbpfaa
open Go.RowKit
variable {S:Sys} {R:Real S}
variable {calls:List aF} {w w':World} {J:iZ} {ov cv:Value} {B0:Nat} {G:PG} {wd:WD} {o:S.ω} {fin:List Bool} {hands:List (Option (Mh S.σ)×Nat)} {evs:List EvD} {idle p:Nat}
theorem aK.pW (h:aK R calls w J ov cv B0 G wd o fin hands evs idle):∀ b,aW J.W b->¬ vQ J G.ev b:=λb hb hp=>(h.pmut b hp).2.1 hb
theorem aK.pO (h:aK R calls w J ov cv B0 G wd o fin hands evs idle):∀ b,R.OB b->¬ vQ J G.ev b:=λb hb hp=>(h.pmut b hp).2.2 hb
theorem aK.bPlt (h:aK R calls w J ov cv B0 G wd o fin hands evs idle):J.bP<w.heap.size:=aC h.blk
theorem aK.tick (ok:dP R) (h:aK R calls w J ov cv B0 G wd o fin hands evs idle) (hnow:wd.now<69999) :
  aK R calls (w.setCell ⟨J.W.bW,1,none⟩ (.int .i64 ((wd.now:Int)+1))) J ov cv B0 G wd.tick o fin hands evs idle:=by
 have hch:Chg (λb=>b=J.W.bW) w (w.setCell ⟨J.W.bW,1,none⟩ (.int .i64 ((wd.now:Int)+1))):=(Chg.refl (λb=>b=J.W.bW) w).setCell (p:=⟨J.W.bW,1,none⟩) (.inl rfl) _
 have hQ:∀ b,(λb=>b=J.W.bW) b->G.Mut b:=by rintro b rfl;exact h.world.muts _ (.inl rfl)
 have hup:=aV.refl G.Mut w
 have nP:∀ b,vQ J G.ev b->b≠J.W.bW:=λb hb e=>h.pW _ (.inl rfl) (by rw [<-e];exact hb)
 have hworld:aM (w.setCell ⟨J.W.bW,1,none⟩ (.int .i64 ((wd.now:Int)+1))) G.Mut J.W G.N wd.tick:=by
  obtain⟨mks,hb,hm,hk⟩:=h.world.blk
  obtain⟨n,M,t1,t2,t3⟩:=h.world.tr
  have sep:=h.world.sep
  refine⟨⟨mks,?_,hm,λq hq=>(hk q hq).keep hch hQ hup⟩,h.world.inv16,h.world.mk16,h.world.mem.chg hch (λe=>sep.1 e.symm) (λq e1 e2=>sep.2.2.2.1 (by rw [e1,e2])),⟨n,M,t1.block (hch.block _ t1.lt (λe=>sep.2.1 e.symm)),t2,λk=>(t3 k).keep hch hQ hup⟩,sep,h.world.muts,λb hb=>Nat.lt_of_lt_of_le (h.world.low b hb) hch.size,by simp [WD.tick];omega,h.world.nlt⟩
  rw [aH hb,show((wd.now:Int)+1)=((wd.now+1:Nat):Int) by omega,tY];rfl
 obtain⟨n,M,left,t1,t2⟩:=h.line
 refine⟨(hch.block _ h.bPlt (nP _ (.inl rfl))).trans h.blk,h.h1,h.h2,λq hq=>(h.hand q hq).keep ok hch hQ (λb hb e=>(h.mb q b hq hb).2.1 (by rw [e];exact .inl rfl)) hup,hworld,
  ok.keepO _ _ _ _ _ _ h.obj hch hQ (λb hb e=>h.ow b hb (by rw [e];exact .inl rfl)) hup (ok.lowO _ _ _ h.obj),ok.invTick _ _ h.inv,
  ⟨n,M,left,t1.keepP hch hQ (nP _ (.inr (.inl rfl))) (nP _ (.inr (.inr (.inl rfl)))) hup,t2⟩,h.flen,
  h.eva.keep hch hQ hup (λb hb=>nP _ (.inr (.inr (.inr hb)))),by have:=h.ele;simp [WD.tick];omega,h.at_,h.imm.keep hch hQ hup,h.pmut,h.ow,h.psep,h.mb,h.mbd,by have:=h.cnt;simp [WD.tick];omega,by simp [WD.tick];omega,?_,?_,λk=>Nat.le_succ_of_le (h.stp k),h.oldm⟩
 ·refine Nat.le_trans h.nb (Nat.mul_le_mul_left _ ?_);simp [WD.tick]
 ·obtain⟨g1,g2⟩:=h.base
  exact⟨Nat.le_trans g1 hch.size,g2⟩
def xR (G:PG) (p k:Nat) (T:TypeId) (x:Value) (B:Nat->Prop):PG:={ G with Mut:=aT G.Mut noB B,hs:=G.hs.set p (.iface T x,k),MB:=λq b=>(q=p/\B b)∨(q≠p/\G.MB q b) }
theorem CY {Mut B:Nat->Prop} {w:World} (h:∀ b,B b->w.heap.size<=b):aV Mut w (aT Mut noB B):=by
 rintro b (⟨h1,_⟩|h1)
 ·exact .inl h1
 ·exact .inr (h b h1)
theorem aK.armed (ok:dP R) (h:aK R calls w J ov cv B0 G wd o fin hands evs idle) {k:Nat} {B:Nat->Prop} {T:TypeId} {x:Value} {m:Mh S.σ} (hp:p<16) (hk:k<evs.length)
  (hat:(G.hs.getD p (undef,0)).2=k) (hb:Below w.heap.size w w') (hB:∀ b,B b->w.heap.size<=b/\b<w'.heap.size) (hm:jN R w' (aT G.Mut noB B) B T x p m) :
  aK R calls (w'.setCell ⟨J.bP,5+p*2,none⟩ (.iface T x)) J ov cv B0 (xR G p k T x B) wd o fin (hands.set p (some m,k)) evs idle:=by
 have hP1:=(hb.block _ h.bPlt).trans h.blk
 have hc0:Chg (λb=>b=J.bP) w w':=Chg.of_below hb
 have hcs:Chg (λb=>b=J.bP) w' (w'.setCell ⟨J.bP,5+p*2,none⟩ (.iface T x)):=(Chg.refl (λb=>b=J.bP) w').setCell (p:=⟨J.bP,5+p*2,none⟩) (.inl rfl) _
 have hch:=hc0.trans hcs
 have hQ:∀ b,(λb=>b=J.bP) b->G.Mut b:=by rintro b rfl;exact(h.pmut _ (.inl rfl)).1
 have hup:aV G.Mut w (aT G.Mut noB B):=CY (λb hb=>(hB b hb).1)
 have old:∀ b,G.Mut b->aT G.Mut noB B b:=λb hb=>.inl ⟨hb,λh=>h⟩
 have hnB:∀ b,G.Mut b->¬ B b:=λb hb hx=>by have:=(hB b hx).1;have:=h.world.low b hb;omega
 have hlow:∀ b,aT G.Mut noB B b->b<(w'.setCell ⟨J.bP,5+p*2,none⟩ (.iface T x)).heap.size:=by
  rintro b (⟨hb,_⟩|hb)
  ·exact Nat.lt_of_lt_of_le (h.world.low b hb) hch.size
  ·have:=(hB b hb).2;simpa using this
 have nW:∀ b,(λb=>b=J.bP) b->¬ aW J.W b:=by rintro b rfl hx;exact h.pW _ hx (.inl rfl)
 obtain⟨n,M,left,t1,t2⟩:=h.line
 refine⟨?_,by simpa [xR] using h.h1,by simpa using h.h2,λq hq=>?_,h.world.keep hch hQ nW hup hlow (λb hb=>old b (h.world.muts b hb)),ok.keepO _ _ _ _ _ _ h.obj hch hQ (λb hb e=>h.pO b hb (by rw [e];exact .inl rfl)) hup (λb hb=>old b (ok.lowO _ _ _ h.obj b hb)),h.inv,
  ⟨n,M,left,t1.keepP hch hQ (Ne.symm h.psep.1) (Ne.symm h.psep.2.1) hup,t2⟩,h.flen,h.eva.keep hch hQ hup (λb hb e=>h.psep.2.2.1 (by rw [<-e];exact hb)),h.ele,λq hq m' hm'=>?_,h.imm.keep hch hQ hup,
  λb hb=>⟨old b (h.pmut b hb).1,(h.pmut b hb).2⟩,h.ow,h.psep,?_,?_,h.cnt,h.nowb,h.nb,?_,h.stp,λb hb=>⟨old b (h.oldm b hb).1,(h.oldm b hb).2⟩⟩
 ·rw [aH hP1,kL h.h1 hp,hat];rfl
 ·by_cases hqp:p=q
  ·subst hqp
   show gH R _ _ _ p ((G.hs.set p (.iface T x,k)).getD p (undef,0)) _
   rw [aL (by rw [h.h1];exact hp),aL (by rw [h.h2];exact hp)]
   refine⟨rfl,T,x,rfl,?_⟩
   have e1:(xR G p k T x B).MB p=B:=by funext b;simp [xR]
   rw [e1]
   exact hm.keep ok hcs (λb hb=>old b (hQ b hb)) (λb hb e=>hnB J.bP (h.pmut _ (.inl rfl)).1 (by rw [<-e];exact hb)) (aV.refl _ _)
  ·show gH R _ _ ((xR G p k T x B).MB q) q ((G.hs.set p (.iface T x,k)).getD q (undef,0)) _
   rw [aR hqp,aR hqp]
   have e1:(xR G p k T x B).MB q=G.MB q:=by funext b;simp [xR,Ne.symm hqp]
   rw [e1]
   exact(h.hand q hq).keep ok hch hQ (λb hb e=>(h.mb q b hq hb).2.2.2 (by rw [e];exact .inl rfl)) hup
 ·by_cases hqp:p=q
  ·subst hqp
   rw [aL (by rw [h.h2];exact hp)];exact hk
  ·rw [aR hqp] at hm' ⊢
   exact h.at_ q hq m' hm'
 ·rintro q b hq (⟨rfl,hb2⟩|⟨hqp,hb2⟩)
  ·refine⟨.inr hb2,λhx=>hnB _ (h.world.muts _ hx) hb2,λhx=>hnB _ (ok.lowO _ _ _ h.obj _ hx) hb2,λhx=>hnB _ (h.pmut _ hx).1 hb2⟩
  ·have:=h.mb q b hq hb2
   exact⟨old b this.1,this.2⟩
 ·rintro q r b hq hr hqr (⟨h1,hb1⟩|⟨h1,hb1⟩) (⟨h2,hb2⟩|⟨h2,hb2⟩)
  ·exact hqr (h1.trans h2.symm)
  ·exact hnB b (h.mb r b hr hb2).1 hb1
  ·exact hnB b (h.mb q b hq hb1).1 hb2
  ·exact h.mbd q r b hq hr hqr hb1 hb2
 ·obtain⟨g1,g2,g3,g4,g5,g6,g7⟩:=h.base
  refine⟨Nat.le_trans g1 hch.size,g2,g3,g4,g5,g6,?_⟩
  rintro q b hq (⟨_,hb2⟩|⟨_,hb2⟩)
  ·exact Nat.le_trans g1 (hB b hb2).1
  ·exact g7 q b hq hb2
def stepG (G:PG) (p dN:Nat) (B':Nat->Prop):PG:={ G with Mut:=aT G.Mut (G.MB p) B',MB:=λq b=>(q=p/\B' b)∨(q≠p/\G.MB q b),N:=G.N+dN }
theorem aK.stepped (ok:dP R) (h:aK R calls w J ov cv B0 G wd o fin hands evs idle) {k:Nat} {T:TypeId} {x:Value} {m:Mh S.σ} (hp:p<16) (hd:hands.getD p (none,0)=(some m,k)) (hv:G.hs.getD p (undef,0)=(.iface T x,k)) (hnb:G.N+R.dN<=R.dN*wd.now) (hcnt:wd.mem.c.all+1<=wd.now) {e:Ending}
  (hm:JI R w G.Mut (G.MB p) J.W G.N wd o T x p m e w') :
  ∃ B',aK R calls w' J ov cv B0 (stepG G p R.dN B') (aP S o wd p m).2.1 (aP S o wd p m).1 fin (hands.set p (some (aP S o wd p m).2.2.1,k)) evs idle:=by
 obtain⟨_,hch,B',hB1,hB2,hw,ho,hr⟩:=hm
 refine⟨B',?_⟩
 have hQ:∀ b,(aW J.W b∨R.OB b∨G.MB p b)->G.Mut b:=by
  rintro b (hb|hb|hb)
  ·exact h.world.muts b hb
  ·exact ok.lowO _ _ _ h.obj b hb
  ·exact(h.mb p b hp hb).1
 have hup:aV G.Mut w (aT G.Mut (G.MB p) B'):=wM hB1 (λb hb=>(h.mb p b hp hb).1)
 have nP:∀ b,vQ J G.ev b->¬ (aW J.W b∨R.OB b∨G.MB p b):=by
  rintro b hb (hx|hx|hx)
  ·exact h.pW b hx hb
  ·exact h.pO b hx hb
  ·exact(h.mb p b hp hx).2.2.2 hb
 have hB3:∀ b,B' b->(G.Mut b/\¬ aW J.W b/\¬ R.OB b/\¬ vQ J G.ev b/\G.MB p b)∨w.heap.size<=b:=λb hb=>by
  rcases hB1 b hb with hx|hx
  ·have:=h.mb p b hp hx;exact .inl ⟨this.1,this.2.1,this.2.2.1,this.2.2.2,hx⟩
  ·exact .inr hx
 have old:∀ b,G.Mut b->¬ G.MB p b->aT G.Mut (G.MB p) B' b:=λb hb hx=>.inl ⟨hb,hx⟩
 have hnow:(aP S o wd p m).2.1.now=wd.now:=by cases m<;>first|rfl|exact ok.now _ _ _ _
 have hcn:(aP S o wd p m).2.1.mem.c.all<=wd.mem.c.all+1:=by cases m<;>first|exact Nat.le_succ _|exact ok.cnt _ _ _ _
 have hinv:R.inv (aP S o wd p m).1 (aP S o wd p m).2.1:=by cases m<;>first|exact h.inv|exact ok.invStep _ _ _ _ h.inv
 have hsz:=hch.size
 obtain⟨n,M,left,t1,t2⟩:=h.line
 refine⟨(hch.block _ h.bPlt (nP _ (.inl rfl))).trans h.blk,h.h1,by simpa using h.h2,λq hq=>?_,hw,ho,hinv,⟨n,M,left,t1.keepP hch hQ (nP _ (.inr (.inl rfl))) (nP _ (.inr (.inr (.inl rfl)))) hup,t2⟩,h.flen,
  h.eva.keep hch hQ hup (λb hb=>nP b (.inr (.inr (.inr hb)))),by rw [hnow];exact h.ele,λq hq m' hm'=>?_,h.imm.keep hch hQ hup,λb hb=>⟨old b (h.pmut b hb).1 (λhx=>(h.mb p b hp hx).2.2.2 hb),(h.pmut b hb).2⟩,h.ow,h.psep,?_,?_,by rw [hnow];omega,by rw [hnow];exact h.nowb,by rw [hnow];exact hnb,?_,by rw [hnow];exact h.stp,λb hb=>⟨old b (h.oldm b hb).1 (λhx=>by have h8:=h.base.2.2.2.2.2.2 p b hp hx;have h9:=(h.oldm b hb).2;omega),(h.oldm b hb).2⟩⟩
 ·by_cases hqp:p=q
  ·subst hqp
   rw [aL (by rw [h.h2];exact hp)]
   have e2:(stepG G p R.dN B').hs.getD p (undef,0)=(.iface T x,k):=hv
   rw [e2]
   refine⟨rfl,T,x,rfl,?_⟩
   have e1:(stepG G p R.dN B').MB p=B':=by funext b;simp [stepG]
   rw [e1]
   exact hr
  ·rw [aR hqp]
   have e1:(stepG G p R.dN B').MB q=G.MB q:=by funext b;simp [stepG,Ne.symm hqp]
   rw [e1]
   refine(h.hand q hq).keep ok hch hQ (λb hb=>?_) hup
   have hm:=h.mb q b hq hb
   rintro(hx|hx|hx)
   ·exact hm.2.1 hx
   ·exact hm.2.2.1 hx
   ·exact h.mbd p q b hp hq hqp hx hb
 ·by_cases hqp:p=q
  ·subst hqp
   rw [aL (by rw [h.h2];exact hp)]
   have:=h.at_ p hp m (by rw [hd])
   rw [hd] at this;exact this
  ·rw [aR hqp] at hm' ⊢
   exact h.at_ q hq m' hm'
 ·rintro q b hq (⟨rfl,hb2⟩|⟨hqp,hb2⟩)
  ·refine⟨.inr hb2,?_⟩
   rcases hB3 b hb2 with hx|hx
   ·exact⟨hx.2.1,hx.2.2.1,hx.2.2.2.1⟩
   ·refine⟨λhy=>?_,λhy=>?_,λhy=>?_⟩
    ·have:=h.world.low b (h.world.muts b hy);omega
    ·have:=h.world.low b (ok.lowO _ _ _ h.obj b hy);omega
    ·have:=h.world.low b (h.pmut b hy).1;omega
  ·have:=h.mb q b hq hb2
   exact⟨old b this.1 (λhx=>h.mbd p q b hp hq (Ne.symm hqp) hx hb2),this.2⟩
 ·have hd2:∀ r b,r<16->r≠p->B' b->¬ G.MB r b:=λr b hr hrp hb hx=>by
   rcases hB3 b hb with hy|hy
   ·exact h.mbd p r b hp hr (Ne.symm hrp) hy.2.2.2.2 hx
   ·have:=h.world.low b (h.mb r b hr hx).1;omega
  rintro q r b hq hr hqr (⟨h1,hb1⟩|⟨h1,hb1⟩) (⟨h2,hb2⟩|⟨h2,hb2⟩)
  ·exact hqr (h1.trans h2.symm)
  ·exact hd2 r b hr h2 hb1 hb2
  ·exact hd2 q b hq h1 hb2 hb1
  ·exact h.mbd q r b hq hr hqr hb1 hb2
 ·obtain⟨g1,g2,g3,g4,g5,g6,g7⟩:=h.base
  refine⟨Nat.le_trans g1 hsz,g2,g3,g4,g5,g6,?_⟩
  rintro q b hq (⟨_,hb2⟩|⟨_,hb2⟩)
  ·rcases hB3 b hb2 with hy|hy
   ·exact g7 p b hp hy.2.2.2.2
   ·exact Nat.le_trans g1 hy
  ·exact g7 q b hq hb2
theorem aK.evset (ok:dP R) (h:aK R calls w J ov cv B0 G wd o fin hands evs idle) {i:Nat} {e':EvD} {v':Value×Value} {g n c:Nat} (hev:G.ev=.slice (some ⟨g,0,none⟩) n c) (hi:i<evs.length)
  (hch:Chg (λb=>b=g) w w') (hrow:w'.ownsRow B0 44 8 G.ev evs.length (gP (evs.set i e') (G.ers.set i v'))) (hl:jK w' G.Mut v'.1 e'.ans.list) (hk:Lst w' G.Mut v'.2 e'.key) (hsp:e'.steps<=wd.now) :
  aK R calls w' J ov cv B0 { G with ers:=G.ers.set i v' } wd o fin hands (evs.set i e') idle:=by
 have hgP:vQ J G.ev g:=.inr (.inr (.inr (by rw [hev];rfl)))
 have hQ:∀ b,(λb=>b=g) b->G.Mut b:=by rintro b rfl;exact(h.pmut _ hgP).1
 have hup:=aV.refl G.Mut w
 have hown:G.ev.ownBlock=some g:=by rw [hev];rfl
 obtain⟨k1,M,left,t1,t2⟩:=h.line
 refine⟨(hch.block _ h.bPlt (λe=>h.psep.2.2.1 (by rw [hown,e]))).trans h.blk,h.h1,h.h2,λq hq=>(h.hand q hq).keep ok hch hQ (λb hb e=>(h.mb q b hq hb).2.2.2 (by rw [e];exact hgP)) hup,
  h.world.keep hch hQ (by rintro b rfl hb;exact h.pW _ hb hgP) hup (λb hb=>Nat.lt_of_lt_of_le (h.world.low b hb) hch.size) h.world.muts,ok.keepO _ _ _ _ _ _ h.obj hch hQ (λb hb e=>h.pO b hb (by rw [e];exact hgP)) hup (ok.lowO _ _ _ h.obj),h.inv,
  ⟨k1,M,left,t1.keepP hch hQ (λe=>h.psep.2.2.2.1 (by rw [hown,e])) (λe=>h.psep.2.2.2.2 (by rw [hown,e])) hup,t2⟩,h.flen,⟨by simpa using hrow,by simpa using h.eva.elen,λq hq=>?_⟩,by simpa using h.ele,λq hq m hm=>by simpa using h.at_ q hq m hm,h.imm.keep hch hQ hup,h.pmut,h.ow,h.psep,h.mb,h.mbd,h.cnt,h.nowb,h.nb,?_,λq=>?_,h.oldm⟩
 ·by_cases hqi:i=q
  ·subst hqi
   show jK _ _ ((G.ers.set i v').getD i tQ).1 _/\Lst _ _ ((G.ers.set i v').getD i tQ).2 _
   rw [aL (by rw [h.eva.elen];exact hi),aL hi]
   exact⟨hl,hk⟩
  ·show jK _ _ ((G.ers.set i v').getD q tQ).1 _/\Lst _ _ ((G.ers.set i v').getD q tQ).2 _
   rw [aR hqi,aR hqi]
   have:=h.eva.ans q (by simpa using hq)
   exact⟨this.1.keep hch hQ hup,this.2.keep hch hQ hup⟩
 ·obtain⟨g1,g2⟩:=h.base
  exact⟨Nat.le_trans g1 hch.size,g2⟩
 ·by_cases hqi:i=q
  ·subst hqi;rw [aL hi];exact hsp
  ·rw [aR hqi];exact h.stp q
theorem aK.cleared (ok:dP R) (h:aK R calls w J ov cv B0 G wd o fin hands evs idle) {k:Nat} (hp:p<16) (hat:(G.hs.getD p (undef,0)).2=k) :
  aK R calls (w.setCell ⟨J.bP,5+p*2,none⟩ .nilIface) J ov cv B0 { G with hs:=G.hs.set p (.nilIface,k) } wd o fin (hands.set p (none,k)) evs idle:=by
 have hch:Chg (λb=>b=J.bP) w (w.setCell ⟨J.bP,5+p*2,none⟩ .nilIface):=(Chg.refl (λb=>b=J.bP) w).setCell (p:=⟨J.bP,5+p*2,none⟩) (.inl rfl) _
 have hQ:∀ b,(λb=>b=J.bP) b->G.Mut b:=by rintro b rfl;exact(h.pmut _ (.inl rfl)).1
 have hup:=aV.refl G.Mut w
 obtain⟨n,M,left,t1,t2⟩:=h.line
 refine⟨?_,by simpa using h.h1,by simpa using h.h2,λq hq=>?_,h.world.keep hch hQ (by rintro b rfl hx;exact h.pW _ hx (.inl rfl)) hup (λb hb=>Nat.lt_of_lt_of_le (h.world.low b hb) hch.size) h.world.muts,ok.keepO _ _ _ _ _ _ h.obj hch hQ (λb hb e=>h.pO b hb (by rw [e];exact .inl rfl)) hup (ok.lowO _ _ _ h.obj),h.inv,
  ⟨n,M,left,t1.keepP hch hQ (Ne.symm h.psep.1) (Ne.symm h.psep.2.1) hup,t2⟩,h.flen,h.eva.keep hch hQ hup (λb hb e=>h.psep.2.2.1 (by rw [<-e];exact hb)),h.ele,λq hq m' hm'=>?_,h.imm.keep hch hQ hup,h.pmut,h.ow,h.psep,h.mb,h.mbd,h.cnt,h.nowb,h.nb,?_,h.stp,h.oldm⟩
 ·rw [aH h.blk,kL h.h1 hp,hat]
 ·by_cases hqp:p=q
  ·subst hqp
   show gH R _ _ _ p ((G.hs.set p (.nilIface,k)).getD p (undef,0)) _
   rw [aL (by rw [h.h1];exact hp),aL (by rw [h.h2];exact hp)]
   exact⟨rfl,rfl⟩
  ·show gH R _ _ (G.MB q) q ((G.hs.set p (.nilIface,k)).getD q (undef,0)) _
   rw [aR hqp,aR hqp]
   exact(h.hand q hq).keep ok hch hQ (λb hb e=>(h.mb q b hq hb).2.2.2 (by rw [e];exact .inl rfl)) hup
 ·by_cases hqp:p=q
  ·subst hqp
   rw [aL (by rw [h.h2];exact hp)] at hm'
   cases hm'
  ·rw [aR hqp] at hm' ⊢
   exact h.at_ q hq m' hm'
 ·obtain⟨g1,g2⟩:=h.base
  exact⟨Nat.le_trans g1 hch.size,g2⟩
theorem aK.grown (ok:dP R) (h:aK R calls w J ov cv B0 G wd o fin hands evs idle) (hb:Below w.heap.size w w'):aK R calls w' J ov cv B0 G wd o fin hands evs idle:=by
 have hch:Chg noB w w':=Chg.of_below hb
 have hQ:∀ b,noB b->G.Mut b:=λb hb=>hb.elim
 have hup:=aV.refl G.Mut w
 obtain⟨n,M,left,t1,t2⟩:=h.line
 refine⟨(hb.block _ h.bPlt).trans h.blk,h.h1,h.h2,λq hq=>(h.hand q hq).keep ok hch hQ (λb _ hb=>hb) hup,h.world.keep hch hQ (λb hb=>hb.elim) hup (λb hb=>Nat.lt_of_lt_of_le (h.world.low b hb) hch.size) h.world.muts,ok.keepO _ _ _ _ _ _ h.obj hch hQ (λb _ hb=>hb) hup (ok.lowO _ _ _ h.obj),h.inv,
  ⟨n,M,left,t1.keepP hch hQ (λh=>h) (λh=>h) hup,t2⟩,h.flen,h.eva.keep hch hQ hup (λb _ hb=>hb),h.ele,h.at_,h.imm.keep hch hQ hup,h.pmut,h.ow,h.psep,h.mb,h.mbd,h.cnt,h.nowb,h.nb,?_,h.stp,h.oldm⟩
 obtain⟨g1,g2⟩:=h.base
 exact⟨Nat.le_trans g1 hch.size,g2⟩
end Go.Proofs.Ytifhldnmcdbpfaa
