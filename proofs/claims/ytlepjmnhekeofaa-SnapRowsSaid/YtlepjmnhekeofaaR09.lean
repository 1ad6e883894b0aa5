/- Layer 6: machines whatever they are: how they step, and answer. -/
import Derived.Test.YtlepjmnhekeofaaR08
set_option maxRecDepth 100000
set_option linter.unusedVariables false
set_option linter.unusedSimpArgs false
set_option linter.unnecessarySimpa false
namespace Go.Proofs.Ytlepjmnhekeofaa
section
open Go.RowKit
inductive Mh (σ:Type) where
 | refuse (e:Int)
 | refused (e:Int)
 | run (s:σ)
def Mh.of {σ:Type}:Mc σ->Mh σ
 | .refuse e=>.refuse e
 | .run s=>.run s
def mhStep (S:Sys) (o:S.ω) (wd:WD) (p:Nat):Mh S.σ->S.ω×WD×Mh S.σ×Bool
 | .refuse e=>(o,wd,.refused e,true)
 | .refused e=>(o,wd,.refused e,true)
 | .run s=>let r:=S.step o wd p s;(r.1,r.2.1,.run r.2.2.1,r.2.2.2)
def mhAnswer (S:Sys):Mh S.σ->AnsD×List Int
 | .refuse e=>(⟨e,0,[]⟩,[])
 | .refused e=>(⟨e,0,[]⟩,[])
 | .run s=>S.answer s
def MhRep {S:Sys} (R:Real S) (w:World) (Mut B:Nat->Prop) (T:TypeId) (x:Value) (p:Nat):Mh S.σ->Prop
 | .refuse e=>T=164/\∃ b be,x=.pointer (some ⟨b,0,none⟩)/\RefuseAt w b be e/\B b/\¬ Mut be
 | .refused e=>T=164/\∃ b K cap,x=.pointer (some ⟨b,0,none⟩)/\w.heap[b]?=some (.cells (onceCells K cap e 0) 166 (0,0))/\B b
 | .run s=>R.MRep w Mut B T x p s
variable {S:Sys} {R:Real S}
theorem MhRep.of_mc {w:World} {Mut B:Nat->Prop} {T:TypeId} {x:Value} {p:Nat} {m:Mc S.σ} (h:McRep R w Mut B T x p m):MhRep R w Mut B T x p (Mh.of m):=by
 cases m<;>exact h
theorem MhRep.keep (ok:RealOk R) {w w':World} {Q Mut Mut' B:Nat->Prop} {T:TypeId} {x:Value} {p:Nat} {m:Mh S.σ} (h:MhRep R w Mut B T x p m) (hc:Chg Q w w') (hQ:∀ b,Q b->Mut b) (hB:∀ b,B b->¬ Q b) (hm:MutUp Mut w Mut'):MhRep R w' Mut' B T x p m:=by
 cases m with
 | run s=>exact ok.keepM _ _ _ _ _ _ _ _ _ _ h hc hQ hB hm
 | refuse e=>
  obtain⟨h1,b,be,h2,⟨h3,h4,h5⟩,h6,h7⟩:=h
  have hlt:=World.block_lt_of_cell? _ _ h4
  refine⟨h1,b,be,h2,⟨(hc.block _ (blk_lt h3) (hB b h6)).trans h3,box_keep hc (λhq=>h7 (hQ _ hq)) h4,h5⟩,h6,λhx=>?_⟩
  rcases hm _ hx with hy|hy
  ·exact h7 hy
  ·simp only at hlt;omega
 | refused e=>
  obtain⟨h1,b,K,cap,h2,h3,h6⟩:=h
  exact⟨h1,b,K,cap,h2,(hc.block _ (blk_lt h3) (hB b h6)).trans h3,h6⟩
def MhPost (R:Real S) (w:World) (Mut B:Nat->Prop) (I:WIds) (N:Nat) (wd:WD) (o:S.ω) (T:TypeId) (x:Value) (p:Nat) (m:Mh S.σ) (e:Ending) (w':World):Prop:=
 e=.returned (.bool (mhStep S o wd p m).2.2.2)/\Chg (λb=>WSet I b∨R.OB b∨B b) w w'/\∃ B',(∀ b,B' b->B b∨w.heap.size<=b)/\(∀ b,B' b->b<w'.heap.size)/\
  WorldAt w' (mutTo Mut B B') I (N+R.dN) (mhStep S o wd p m).2.1/\R.ORep w' (mutTo Mut B B') (mhStep S o wd p m).1/\MhRep R w' (mutTo Mut B B') B' T x p (mhStep S o wd p m).2.2.1
theorem mutTo_up {Mut B B':Nat->Prop} {w:World} (h:∀ b,B' b->B b∨w.heap.size<=b) (hB:∀ b,B b->Mut b):MutUp Mut w (mutTo Mut B B'):=by
 rintro b (⟨h1,_⟩|h1)
 ·exact .inl h1
 ·rcases h b h1 with h2|h2
  ·exact .inl (hB b h2)
  ·exact .inr h2
theorem WorldAt.more {w:World} {Mut:Nat->Prop} {I:WIds} {N N':Nat} {wd:WD} (h:WorldAt w Mut I N wd) (hN:N<=N') (hl:N'<1000000000):WorldAt w Mut I N' wd:=by
 obtain⟨h1,h4,h5,h6,⟨n,M,h7,h8,h9⟩,h10,h11,h12,h13,h14⟩:=h
 exact⟨h1,h4,h5,h6,⟨n,M,h7,by omega,h9⟩,h10,h11,h12,h13,hl⟩
theorem mh_step (ok:RealOk R) {w:World} {Mut B:Nat->Prop} {I:WIds} {N:Nat} {wd:WD} {o:S.ω} {T:TypeId} {x:Value} {p:Nat} {m:Mh S.σ} (hw:WorldAt w Mut I N wd) (ho:R.ORep w Mut o) (hm:MhRep R w Mut B T x p m) (hi:R.inv o wd) (hp:p<16)
  (hN:N+R.dN<1000000000) (hc:wd.mem.c.all+1<1000000000000) (hB:∀ b,B b->Mut b/\¬ WSet I b/\¬ R.OB b) (hr:∀ e,m≠.refused e) (how:∀ b,R.OB b->¬ WSet I b) (hlv:∀ s,m=.run s->R.live o wd p s) :
  ∃ K recv, Meth T x "Step" K recv ∧ Calls Try.prog K #[recv, .pointer (some ⟨I.bW, 0, none⟩)] w (MhPost R w Mut B I N wd o T x p m) := by
 cases m with
 | run s=>exact ok.step w Mut B I N wd o T x p s hw ho hm hi hp hN hc hB how (hlv s rfl)
 | refused e=>exact absurd rfl (hr e)
 | refuse e=>
  obtain⟨rfl,b,be,rfl,h3,h6,h7⟩:=hm
  refine⟨_,_,once_step_m _,?_⟩
  refine(once_step b _ _ (.pointer (some ⟨I.bW,0,none⟩)) w _ h3.1 enter_refuse (refuse_in b be e _ w h3)).mono ?_
  rintro e' w' ⟨rfl,er,vl,w1,⟨rfl,rfl,hb1⟩,hblk,hch⟩
  have hcb:Chg (λk=>k=b) w w':=(Chg.of_below hb1).trans hch
  have hlt:=blk_lt h3.1
  have hsub:∀ k,(λk=>k=b) k->Mut k:=by rintro k rfl;exact(hB _ h6).1
  have hup:MutUp Mut w (mutTo Mut B (λk=>k=b)):=mutTo_up (λk hk=>by cases hk;exact .inl h6) (λk hk=>(hB k hk).1)
  refine⟨rfl,hcb.mono (λk _ hk=>by cases hk;exact .inr (.inr h6)),λk=>k=b,(λk hk=>by cases hk;exact .inl h6),(λk hk=>by cases hk;exact Nat.lt_of_lt_of_le hlt hcb.size),?_,?_,rfl,b,_,_,rfl,hblk,rfl⟩
  ·refine(hw.keep hcb hsub (by rintro k rfl;exact(hB _ h6).2.1) hup ?_ ?_).more (by omega) hN
   ·rintro k (⟨h1,_⟩|h1)
    ·exact Nat.lt_of_lt_of_le (hw.low k h1) hcb.size
    ·cases h1;exact Nat.lt_of_lt_of_le hlt hcb.size
   ·intro k hk
    by_cases hkb:B k
    ·exact absurd hk (hB k hkb).2.1
    ·exact .inl ⟨hw.muts k hk,hkb⟩
  ·exact ok.keepO _ _ _ _ _ _ ho hcb hsub (by rintro k hk rfl;exact(hB _ h6).2.2 hk) hup (λb hb=>.inl ⟨ok.lowO _ _ _ ho b hb,λhx=>(hB b hx).2.2 hb⟩)
theorem mh_fin (ok:RealOk R) {o:S.ω} {wd:WD} {p:Nat} {m:Mh S.σ} {s:S.σ} (h:(mhStep S o wd p m).2.2.2=true) (hs:(mhStep S o wd p m).2.2.1=.run s):R.done s:=by
 cases m with
 | run s0=>
  have e:(S.step o wd p s0).2.2.1=s:=by injection hs
  rw [<-e];exact ok.fin o wd p s0 h
 | refuse e=>cases hs
 | refused e=>cases hs
theorem mh_answer (ok:RealOk R) {w:World} {Mut B:Nat->Prop} {T:TypeId} {x:Value} {p:Nat} {m:Mh S.σ} (hm:MhRep R w Mut B T x p m) (hr:∀ e,m≠.refuse e) (hd:∀ s,m=.run s->R.done s) :
  ∃ K recv, Meth T x "Answer" K recv ∧ Calls Try.prog K #[recv] w (AnswerPost w Mut (mhAnswer S m).1 (mhAnswer S m).2) := by
 cases m with
 | run s=>exact ok.answer w Mut B T x p s hm (hd s rfl)
 | refuse e=>exact absurd rfl (hr e)
 | refused e=>
  obtain⟨rfl,b,K,cap,rfl,h3,h6⟩:=hm
  refine⟨_,_,once_answer_m _,(once_answer b K cap e 0 w h3).mono ?_⟩
  rintro e' w' ⟨rfl,hb⟩
  exact⟨none,0,.slice none 0 0,rfl,LstU.nil _ _,Lst.nil _ _,hb⟩
end
section

/- Layer 6: where a play under way lies in memory. -/
open Go.RowKit
structure PIds where
 W:WIds
 bP:Nat
 bl:Nat
 blm:Nat
 old:Nat->Prop
structure PG where
 Mut:Nat->Prop
 MB:Nat->Nat->Prop
 hs:List (Value×Nat)
 ev:Value
 ers:List (Value×Value)
 turn:Int
 N:Nat
def PSet (J:PIds) (ev:Value) (b:Nat):Prop:=b=J.bP∨b=J.bl∨b=J.blm∨ev.ownBlock=some b
structure ImmAt {S:Sys} (R:Real S) (w:World) (Mut:Nat->Prop) (calls:List CallD) (ov cv:Value):Prop where
 cs:∃ ca cc,cv=.slice ca calls.length cc/\SlAt w ca calls.length 6 (callG calls)/\(0<calls.length->∀ b off,ca=some ⟨b,off,none⟩->¬ Mut b)
 ok:∀ x∈calls,CallOk x/\0<=x.thread/\x.thread<16
 clen:calls.length<=1000
 objs:∃ bo oo oc,ov=.slice (some ⟨bo,oo,none⟩) 1 oc/\w.cell? ⟨bo,oo,none⟩=some (.iface R.T R.x)/\¬ Mut bo
structure EvAt (w:World) (Mut:Nat->Prop) (B0:Nat) (ev:Value) (ers:List (Value×Value)) (evs:List EvD):Prop where
 row:w.ownsRow B0 44 8 ev evs.length (evRow evs ers)
 elen:ers.length=evs.length
 ans:∀ i,i<evs.length->LstU w Mut (ers.getD i vv0).1 (evs.getD i ev0).ans.list/\Lst w Mut (ers.getD i vv0).2 (evs.getD i ev0).key
variable {S:Sys} {R:Real S}
def HandRep (R:Real S) (w:World) (Mut B:Nat->Prop) (p:Nat) (hv:Value×Nat) (hd:Option (Mh S.σ)×Nat):Prop:=
 hv.2=hd.2/\match hd.1 with
 | none=>hv.1=.nilIface
 | some m=>∃ T x,hv.1=.iface T x/\MhRep R w Mut B T x p m
theorem ImmAt.keep {w w':World} {Q Mut Mut':Nat->Prop} {calls:List CallD} {ov cv:Value} (h:ImmAt R w Mut calls ov cv) (hc:Chg Q w w') (hQ:∀ b,Q b->Mut b) (hm:MutUp Mut w Mut'):ImmAt R w' Mut' calls ov cv:=by
 obtain⟨⟨ca,cc,h1,h2,h3⟩,h4,h9,⟨bo,oo,oc,h5,h6,h7⟩⟩:=h
 have hlt:=World.block_lt_of_cell? _ _ h6
 refine⟨⟨ca,cc,h1,?_,λhp b off e hx=>?_⟩,h4,h9,⟨bo,oo,oc,h5,box_keep hc (λhq=>h7 (hQ _ hq)) h6,λhx=>?_⟩⟩
 ·rcases Nat.eq_zero_or_pos calls.length with h0|h0
  ·rw [h0];exact SlAt.nil _ _ _ _
  ·exact h2.chg hc (λb off e hq=>h3 h0 b off e (hQ b hq))
 ·obtain⟨b0,off0,e0,hb0⟩:=h2.lt hp
  rw [e0] at e;cases e
  rcases hm _ hx with hy|hy
  ·exact h3 hp _ _ e0 hy
  ·omega
 ·rcases hm _ hx with hy|hy
  ·exact h7 hy
  ·simp only at hlt;omega
theorem EvAt.keep {w w':World} {Q Mut Mut':Nat->Prop} {B0:Nat} {ev:Value} {ers:List (Value×Value)} {evs:List EvD} (h:EvAt w Mut B0 ev ers evs) (hc:Chg Q w w') (hQ:∀ b,Q b->Mut b) (hm:MutUp Mut w Mut') (he:∀ b,ev.ownBlock=some b->¬ Q b):EvAt w' Mut' B0 ev ers evs:=
 ⟨row_chg h.row hc he,h.elen,λi hi=>⟨(h.ans i hi).1.keep hc hQ hm,(h.ans i hi).2.keep hc hQ hm⟩⟩
theorem HandRep.keep (ok:RealOk R) {w w':World} {Q Mut Mut' B:Nat->Prop} {p:Nat} {hv:Value×Nat} {hd:Option (Mh S.σ)×Nat} (h:HandRep R w Mut B p hv hd) (hc:Chg Q w w') (hQ:∀ b,Q b->Mut b) (hB:∀ b,B b->¬ Q b) (hm:MutUp Mut w Mut'):HandRep R w' Mut' B p hv hd:=by
 obtain⟨h1,h2⟩:=h
 refine⟨h1,?_⟩
 cases hd1:hd.1 with
 | none=>rw [hd1] at h2;exact h2
 | some m=>
  rw [hd1] at h2
  obtain⟨T,x,h3,h4⟩:=h2
  exact⟨T,x,h3,h4.keep ok hc hQ hB hm⟩
theorem LineAt.keepP {w w':World} {Q Mut Mut':Nat->Prop} {bl bm n:Nat} {M:Int->Value} {q:Int->List Nat} {left:Int} (h:LineAt w (λb=>b<w.heap.size/\¬ Mut b) bl bm n M q left) (hc:Chg Q w w') (hQ:∀ b,Q b->Mut b) (hl:¬ Q bl) (hb:¬ Q bm) (hm:MutUp Mut w Mut') :
  LineAt w' (λb=>b<w'.heap.size/\¬ Mut' b) bl bm n M q left:=by
 refine(h.chg hc hl hb (λb hz hq=>hz.2 (hQ b hq))).mono (λb hz=>⟨Nat.lt_of_lt_of_le hz.1 hc.size,λhx=>?_⟩)
 rcases hm b hx with hy|hy
 ·exact hz.2 hy
 ·omega
structure PlayAt (R:Real S) (calls:List CallD) (w:World) (J:PIds) (ov cv:Value) (B0:Nat) (G:PG) (wd:WD) (o:S.ω) (fin:List Bool) (hands:List (Option (Mh S.σ)×Nat)) (evs:List EvD) (idle:Nat):Prop where
 blk:w.heap[J.bP]?=some (.cells (playerCells J.W.bW J.bl ov cv G.turn G.hs G.ev idle) 120 (0,0))
 h1:G.hs.length=16
 h2:hands.length=16
 hand:∀ p,p<16->HandRep R w G.Mut (G.MB p) p (G.hs.getD p (undef,0)) (hands.getD p (none,0))
 world:WorldAt w G.Mut J.W G.N wd
 obj:R.ORep w G.Mut o
 inv:R.inv o wd
 line:∃ n M left,LineAt w (λb=>b<w.heap.size/\¬ G.Mut b) J.bl J.blm n M (qF calls fin) left/\n<=1000+fin.count true/\left=(calls.length:Int) - (fin.count true:Int)
 flen:fin.length=calls.length
 eva:EvAt w G.Mut B0 G.ev G.ers evs
 ele:evs.length<=wd.now
 at_:∀ p,p<16->∀ m,(hands.getD p (none,0)).1=some m->(hands.getD p (none,0)).2<evs.length
 imm:ImmAt R w G.Mut calls ov cv
 pmut:∀ b,PSet J G.ev b->G.Mut b/\¬ WSet J.W b/\¬ R.OB b
 ow:∀ b,R.OB b->¬ WSet J.W b
 psep:J.bP≠J.bl/\J.bP≠J.blm/\G.ev.ownBlock≠some J.bP/\G.ev.ownBlock≠some J.bl/\G.ev.ownBlock≠some J.blm
 mb:∀ p b,p<16->G.MB p b->G.Mut b/\¬ WSet J.W b/\¬ R.OB b/\¬ PSet J G.ev b
 mbd:∀ p q b,p<16->q<16->p≠q->G.MB p b->¬ G.MB q b
 cnt:wd.mem.c.all<=wd.now
 nowb:wd.now<=70000
 nb:G.N<=R.dN*wd.now
 base:B0<=w.heap.size/\B0<=J.bP/\(∀ b,WSet J.W b->B0<=b)/\B0<=J.bl/\B0<=J.blm/\(∀ b,R.OB b->PB R B0 b)/\(∀ p b,p<16->G.MB p b->B0<=b)
 stp:∀ i,(evs.getD i ev0).steps<=wd.now
 oldm:∀ b,J.old b->G.Mut b/\b<B0
end
end Go.Proofs.Ytlepjmnhekeofaa
