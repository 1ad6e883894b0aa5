/- Layer 6: machines of one step, whatever the step is. -/
import Derived.Test.YtifhldnmcdbpfaaV10
import Derived.Deep.MidRow
import Derived.Deep.Cut
import Derived.Stop.Asserts
set_option maxRecDepth 100000
set_option linter.unusedVariables false
set_option linter.unusedSimpArgs false
set_option linter.unnecessarySimpa false
namespace Go.Proofs.Ytifhldnmcdbpfaa
section
open Go.RowKit
theorem aM.mems {w w':World} {Mut:Nat->Prop} {I:dG} {N:Nat} {wd:WD} {m':fE} (h:aM w Mut I N wd) (hc:Chg (bY I.bm I.bw) w w') (hm:bZ w' I.bm I.bw m'):aM w' Mut I N { wd with mem:=m' }/\Chg (aW I) w w':=by
 obtain⟨⟨mks,h1,h2,h3⟩,h4,h5,h6,⟨n,M,h7,h8,h9⟩,h10,h11,h12,h13,h14⟩:=h
 have hS:∀ b,bY I.bm I.bw b->aW I b:=by
  rintro b (rfl|e)
  ·exact .inr (.inl rfl)
  ·exact .inr (.inr (.inr e))
 have hSM:∀ b,bY I.bm I.bw b->Mut b:=λb hb=>h11 b (hS b hb)
 have n1:¬ bY I.bm I.bw I.bW:=by
  rintro(e|e)
  ·exact h10.1 e
  ·exact h10.2.2.2.1 e.symm
 have n2:¬ bY I.bm I.bw I.bt:=by
  rintro(e|e)
  ·exact h10.2.2.1 e.symm
  ·exact h10.2.2.2.2 e.symm
 exact⟨⟨⟨mks,(hc.block _ (aC h1) n1).trans h1,h2,λp hp=>(h3 p hp).keep hc hSM (aV.refl _ _)⟩,h4,h5,hm,⟨n,M,h7.block (hc.block _ h7.lt n2),h8,λk=>(h9 k).keep hc hSM (aV.refl _ _)⟩,h10,h11,λb hb=>Nat.lt_of_lt_of_le (h12 b hb) hc.size,h13,h14⟩,hc.mono (λb _ hb=>hS b hb)⟩
abbrev zP:=World->(Nat->Prop)->FuncId->Array Value->aF->Prop
def IW (Cap:zP) (w:World) (Mut B:Nat->Prop) (T:TypeId) (x:Value) (c:aF) (r:Int×Nat):Prop:=
 T=181/\∃ b K cap,x=.pointer (some ⟨b,0,none⟩)/\w.heap[b]?=some (.cells (gL K cap r.1 r.2) 183 (0,0))/\B b/\
  (∀(args:Array Value) (u:World),(callFunc K args).run Try.prog u=.ok (.enter K args) u)/\Cap w Mut K cap c
structure QS (Cap:zP) (act:aF->WD->WD×(Int×Nat)):Prop where
 keep:∀ w w' Q Mut Mut' K cap c,Cap w Mut K cap c->Chg Q w w'->(∀ b,Q b->Mut b)->aV Mut w Mut'->Cap w' Mut' K cap c
 go:∀ w Mut I N wd b K cap c,aM w Mut I N wd->Cap w Mut K cap c->¬ aW I b->b<w.heap.size->wd.mem.c.all+1<1000000000000->
  Calls Try.prog K (#[.pointer (some ⟨I.bW,0,none⟩)]++cap) w (zQ b w λe v w1=>(act c wd).2=(e,v)/\Chg (aW I) w w1/\aM w1 Mut I N (act c wd).1)
variable {Cap:zP} {act:aF->WD->WD×(Int×Nat)}
theorem IW.keep (ck:QS Cap act) {w w':World} {Q Mut Mut' B:Nat->Prop} {T:TypeId} {x:Value} {c:aF} {r:Int×Nat} (h:IW Cap w Mut B T x c r) (hc:Chg Q w w') (hQ:∀ b,Q b->Mut b) (hB:∀ b,B b->¬ Q b) (hm:aV Mut w Mut'):IW Cap w' Mut' B T x c r:=by
 obtain⟨h1,b,K,cap,h2,h3,h4,h5,h6⟩:=h
 exact⟨h1,b,K,cap,h2,(hc.block _ (aC h3) (hB b h4)).trans h3,h4,h5,ck.keep _ _ _ _ _ _ _ _ h6 hc hQ hm⟩
end
section
open Go.RowKit
variable {S:Sys} {R:Real S}
def nZ {σ:Type} (l:List (Option σ×Nat)):List (Option (Mh σ)×Nat):=l.map λh=>(h.1.map Mh.run,h.2)
theorem fQ {σ:Type} (l:List (Option σ×Nat)) (p:Nat):(nZ l).getD p (none,0)=((l.getD p (none,0)).1.map Mh.run,(l.getD p (none,0)).2):=by
 simp only [nZ,List.getD_eq_getElem?_getD,List.getElem?_map]
 cases l[p]?<;>rfl
theorem sU {σ:Type} (l:List (Option σ×Nat)) (p:Nat) (h:Option σ×Nat):nZ (l.set p h)=(nZ l).set p (h.1.map Mh.run,h.2):=by
 simp [nZ,List.map_set]
theorem sJ (l:List EvD) (e:EvD) (f:EvD->EvD):cB (l++[e]) l.length f=l++[f e]:=by
 unfold cB
 rw [dW]
 simp [List.set_append_right]
theorem IU (calls:List aF) (st:aQ S) (p i:Nat) :
  nC S calls st.wd st.obj (nZ st.hands) st.evs p i=⟨(dJ S calls st p i).1.wd,(dJ S calls st p i).1.obj,nZ (dJ S calls st p i).1.hands,(dJ S calls st p i).1.evs,(dJ S calls st p i).2⟩:=by
 unfold nC dJ
 rw [fQ]
 cases hd:(st.hands.getD p (none,0)).1 with
 | some s=>
  simp only [Option.map_some]
  unfold goH eZ
  simp only [aP,bE]
  split<;>rename_i hb<;>simp [sU,hb]
 | none=>
  simp only [Option.map_none]
  cases hs:dH S st.obj (st.wd.tick.begin p) p (calls.getD i d0) with
  | refuse e=>
   simp only [Mh.of]
   unfold goH
   simp only [aP,bE,if_true]
   rw [sJ,sU,List.set_set]
   rfl
  | run s=>
   simp only [Mh.of]
   unfold goH eZ
   simp only [aP,bE]
   split<;>rename_i hb<;>simp [sU,hb]
theorem uP (calls:List aF) (st:aQ S) (p i:Nat):(dJ S calls st p i).1.fin=st.fin/\(dJ S calls st p i).1.idle=st.idle:=by
 unfold dJ
 cases (st.hands.getD p (none,0)).1 with
 | some s=>simp only;unfold eZ;simp only;split<;>exact⟨rfl,rfl⟩
 | none=>
  simp only
  cases dH S st.obj (st.wd.tick.begin p) p (calls.getD i d0) with
  | refuse e=>exact⟨rfl,rfl⟩
  | run s=>simp only;unfold eZ;simp only;split<;>exact⟨rfl,rfl⟩
def tX (R:Real S) (calls:List aF) (w:World) (J:jD) (ov cv:Value) (B0:Nat) (st:aQ S):Prop:=∃ G,aJ R calls w J ov cv B0 G st.wd st.obj st.fin (nZ st.hands) st.evs st.idle
section
variable {calls:List aF} {w w':World} {J:jD} {ov cv:Value} {B0:Nat} {G:PG} {wd:WD} {o:S.ω} {fin:List Bool} {hands:List (Option (Mh S.σ)×Nat)} {evs:List EvD} {idle p:Nat}
theorem aJ.player (ok:dQ R) (h:aJ R calls w J ov cv B0 G wd o fin hands evs idle) {k:Nat} {v:Value} {t:Int} {id':Nat}
  (hs:(aN J.W.bW J.bl ov cv G.turn G.hs G.ev idle).setIfInBounds k v=aN J.W.bW J.bl ov cv t G.hs G.ev id') :
  aJ R calls (w.setCell ⟨J.bP,k,none⟩ v) J ov cv B0 { G with turn:=t } wd o fin hands evs id':=by
 have hch:Chg (λb=>b=J.bP) w (w.setCell ⟨J.bP,k,none⟩ v):=(Chg.refl (λb=>b=J.bP) w).setCell (p:=⟨J.bP,k,none⟩) (.inl rfl) _
 have hQ:∀ b,(λb=>b=J.bP) b->G.Mut b:=by rintro b rfl;exact(h.pmut _ (.inl rfl)).1
 have hup:=aV.refl G.Mut w
 obtain⟨n,M,left,t1,t2⟩:=h.line
 refine⟨?_,h.h1,h.h2,λq hq=>(h.hand q hq).keep ok hch hQ (λb hb e=>(h.mb q b hq hb).2.2.2 (by rw [e];exact .inl rfl)) hup,h.world.keep hch hQ (by rintro b rfl hx;exact h.pW _ hx (.inl rfl)) hup (λb hb=>Nat.lt_of_lt_of_le (h.world.low b hb) hch.size) h.world.muts,ok.keepO _ _ _ _ _ _ h.obj hch hQ (λb hb e=>h.pO b hb (by rw [e];exact .inl rfl)) hup (ok.lowO _ _ _ h.obj),h.inv,
  ⟨n,M,left,t1.keepP hch hQ (Ne.symm h.psep.1) (Ne.symm h.psep.2.1) hup,t2⟩,h.flen,h.eva.keep hch hQ hup (λb hb e=>h.psep.2.2.1 (by rw [<-e];exact hb)),h.ele,h.at_,h.imm.keep hch hQ hup,h.pmut,h.ow,h.psep,h.mb,h.mbd,h.cnt,h.nowb,h.nb,?_,h.stp,h.oldm⟩
 ·rw [aH h.blk,hs]
 ·obtain⟨g1,g2⟩:=h.base
  exact⟨Nat.le_trans g1 hch.size,g2⟩
theorem aJ.finished (ok:dQ R) (h:aJ R calls w J ov cv B0 G wd o fin hands evs idle) {i n:Nat} {M:Int->Value} {left:Int} (hch:Chg (λb=>b=J.bl∨b=J.blm) w w')
  (hl:fD w' (λb=>b<w.heap.size/\¬ G.Mut b) J.bl J.blm n M (qF calls (fin.set i true)) left) (hn:n<=1000+(fin.set i true).count true) (hleft:left=(calls.length:Int) - ((fin.set i true).count true:Int)) :
  aJ R calls w' J ov cv B0 G wd o (fin.set i true) hands evs idle:=by
 have hP:∀ b,(b=J.bl∨b=J.blm)->wJ J G.ev b:=by rintro b (rfl|rfl);exact .inr (.inl rfl);exact .inr (.inr (.inl rfl))
 have hQ:∀ b,(λb=>b=J.bl∨b=J.blm) b->G.Mut b:=λb hb=>(h.pmut _ (hP b hb)).1
 have hup:=aV.refl G.Mut w
 refine⟨(hch.block _ h.bPlt ?_).trans h.blk,h.h1,h.h2,λq hq=>(h.hand q hq).keep ok hch hQ (λb hb e=>(h.mb q b hq hb).2.2.2 (hP b e)) hup,h.world.keep hch hQ (λb hb hx=>h.pW _ hx (hP b hb)) hup (λb hb=>Nat.lt_of_lt_of_le (h.world.low b hb) hch.size) h.world.muts,ok.keepO _ _ _ _ _ _ h.obj hch hQ (λb hb e=>h.pO b hb (hP b e)) hup (ok.lowO _ _ _ h.obj),h.inv,
  ⟨n,M,left,hl.mono (λb hb=>⟨Nat.lt_of_lt_of_le hb.1 hch.size,hb.2⟩),hn,hleft⟩,by simpa using h.flen,h.eva.keep hch hQ hup (λb hb e=>?_),h.ele,h.at_,h.imm.keep hch hQ hup,h.pmut,h.ow,h.psep,h.mb,h.mbd,h.cnt,h.nowb,h.nb,?_,h.stp,h.oldm⟩
 ·rintro(e|e)
  ·exact h.psep.1 e
  ·exact h.psep.2.1 e
 ·rcases e with e|e
  ·exact h.psep.2.2.2.1 (by rw [<-e];exact hb)
  ·exact h.psep.2.2.2.2 (by rw [<-e];exact hb)
 ·obtain⟨g1,g2⟩:=h.base
  exact⟨Nat.le_trans g1 hch.size,g2⟩
end
theorem EZ {fin:List Bool} {i:Nat} (hi:i<fin.length) (hf:fin.getD i false=false):(fin.set i true).count true=fin.count true+1:=by
 rw [List.count_set hi]
 have:fin[i]=false:=by simpa [List.getD_eq_getElem?_getD,hi] using hf
 simp [this]
def oW (R:Real S) (calls:List aF) (st:aQ S) (p:Int):Prop:=
 ∀ i,iI calls st.fin p=some i->(∀ s k,st.hands.getD p.toNat (none,0)=(some s,k)->R.live st.obj st.wd.tick p.toNat s)/\
  ((st.hands.getD p.toNat (none,0)).1=none->∀ s,dH S st.obj (st.wd.tick.begin p.toNat) p.toNat (calls.getD i d0)=.run s->R.live st.obj (st.wd.tick.begin p.toNat) p.toNat s)
def PK (R:Real S) (calls:List aF) (w w':World) (J:jD) (ov cv:Value) (B0:Nat) (st:aQ S):Prop:=Chg (PB R B0) w w'/\tX R calls w' J ov cv B0 st
theorem FM (ok:dQ R) (hdN:R.dN<=1000) (calls:List aF) (w:World) (J:jD) (ov cv:Value) (B0:Nat) (st:aQ S) (p:Int) (h:tX R calls w J ov cv B0 st) (hw:(Lit.int .i64 p).wf=true) (hsf:oW R calls st p) (hnow:st.wd.now<69999) (hid:st.idle<1000000) (hthr:∀ q:Nat,p=(q:Int)->iI calls st.fin p≠none->R.thr q) :
  Calls Try.prog 42 #[.pointer (some ⟨J.bP,0,none⟩),.int .i64 p] w λe w'=>(∃ b,e=.returned (.bool b))/\PK R calls w w' J ov cv B0 (gV S calls st p):=by
 obtain⟨G,h⟩:=h
 obtain⟨n,M,left,hl,hn,hleft⟩:=h.line
 have p3:w.cell? ⟨J.bP,3,none⟩=some (.pointer (some ⟨J.bl,0,none⟩)):=by rw [aA h.blk];exact qI
 have p4:w.cell? ⟨J.bP,4,none⟩=some (.int .i64 G.turn):=by rw [aA h.blk];exact xE
 have f4:w.frozen? ⟨J.bP,4,none⟩=false:=aB h.blk _
 have p45:w.cell? ⟨J.bP,45,none⟩=some (.int .i64 (st.idle:Int)):=by rw [aA h.blk];exact qJ h.h1
 have f45:w.frozen? ⟨J.bP,45,none⟩=false:=aB h.blk _
 have hB:=h.base.2.1
 have hi0:(st.idle:Int)<1000000:=by omega
 cases hN:iI calls st.fin p with
 | none=>
  have hq:(qF calls st.fin p).length=0:=by rw [iY] at hN;cases hq:qF calls st.fin p with|nil=>rfl|cons a b=>rw [hq] at hN;cases hN
  have A:=Lib.hid (OY _ _ _ _ _ _ _ p w hl hw hq)
  have hst:=aJ.player ok h (k:=45) (v:=.int .i64 ((st.idle+1:Nat):Int)) (t:=G.turn) (id':=st.idle+1) (qP h.h1 _)
  have Hst:=Lib.hid hst
  have hpd:gV S calls st p={ st with idle:=st.idle+1 }:=by unfold gV;rw [hN]
  have Hpd:=Lib.hid hpd
  clear h hl hN hq hn hleft hst hpd hsf hthr
  go_enter Try.func42,Try.ntmps42
  go_wp2_with (go_at_call 58;refine(A.out).mono ?_;rintro e w' ⟨rfl,rfl⟩)
  go_ret
  refine⟨⟨_,rfl⟩,(Chg.refl (PB R B0) w).setCell (p:=⟨J.bP,45,none⟩) (.inl (.inl hB)) _,?_⟩
  rw [Hpd.out]
  exact⟨_,Hst.out⟩
 | some i=>
  obtain⟨hi,hth,hfi⟩:=dO hN
  have hci:calls[i]=calls.getD i d0:=by simp [List.getD_eq_getElem?_getD,hi]
  obtain⟨hcok,ht0,ht1⟩:=h.imm.ok _ (List.getElem_mem hi)
  rw [hci,hth] at ht0 ht1
  obtain⟨q,rfl⟩:∃ q:Nat,p=(q:Int):=⟨p.toNat,by omega⟩
  have UL:q<16:=by omega
  obtain⟨r,hq⟩:∃ r,qF calls st.fin (q:Int)=i::r:=by
   rw [iY] at hN
   cases hq:qF calls st.fin (q:Int) with
   | nil=>rw [hq] at hN;cases hN
   | cons a b=>rw [hq] at hN;cases hN;exact⟨_,rfl⟩
  have A:=Lib.hid (CJ _ _ _ _ _ _ _ _ w hl hw i r hq)
  have hturn:=aJ.player ok h (k:=4) (v:=.int .i64 (q:Int)) (t:=(q:Int)) (id':=st.idle) (qX _)
  have C:=Lib.hid (GH ok calls _ J ov cv B0 _ st.wd st.obj st.fin (nZ st.hands) st.evs st.idle q i hturn UL hi (λm k hm=>by
   rw [fQ] at hm
   cases hs:(st.hands.getD q (none,0)).1 with
   | none=>rw [hs] at hm;cases hm
   | some s=>rw [hs] at hm;cases hm;exact⟨s,rfl⟩) (λs k hm=>by
   rw [fQ] at hm
   cases hs:st.hands.getD q (none,0) with
   | mk m k2=>
    rw [hs] at hm
    cases m with
    | none=>cases hm
    | some s2=>cases hm;exact(hsf i hN).1 _ _ hs) (λhm s hs2=>(hsf i hN).2 (by
   rw [fQ] at hm
   show(st.hands.getD q (none,0)).1=none
   cases hs:st.hands.getD q (none,0) with
   | mk m k2=>
    rw [hs] at hm
    cases m with
    | none=>rfl
    | some s2=>cases hm) s hs2) hnow hdN (hthr q rfl (by rw [hN];exact Option.some_ne_none i)))
  have hlen:=h.flen
  have hcl:=h.imm.clen
  have hcn:st.fin.count true<=1000:=by have:=List.count_le_length (a:=true) (l:=st.fin);omega
  have hcf:=EZ (by rw [hlen];exact hi) hfi
  have Hpd:=Lib.hid (show gV S calls st (q:Int)=if (dJ S calls st q i).2 then { (dJ S calls st q i).1 with fin:=(dJ S calls st q i).1.fin.set i true } else (dJ S calls st q i).1 by unfold gV;rw [hN];rfl)
  have Hq:=Lib.hid hq;have Hcf:=Lib.hid hcf;have Hlen:=Lib.hid hlen
  have PZ:Chg (PB R B0) w (w.setCell ⟨J.bP,4,none⟩ (.int .i64 (q:Int))):=(Chg.refl (PB R B0) w).setCell (p:=⟨J.bP,4,none⟩) (.inl (.inl hB)) _
  have Hch1:=Lib.hid PZ
  have hq2:(q:Int)<16:=by omega
  clear h hl hN hq hn hleft hturn hcok hci hcf hlen PZ hfi hth hsf hthr
  rw [IU] at C
  obtain⟨bX,hbX⟩:∃ bX,bX=(dJ S calls st q i).2:=⟨_,rfl⟩
  simp only at C
  rw [<-hbX] at C Hpd
  clear hbX
  go_enter Try.func42,Try.ntmps42
  go_wp2_with (go_at_call 58;refine(A.out).mono ?_;rintro e w' ⟨rfl,rfl⟩)
  refine C.out.mono ?_
  rintro e w2 ⟨rfl,yO,G2,h2⟩
  obtain⟨n2,M2,QP,hl2,hn2,zV⟩:=h2.line
  have A2:=Lib.hid (BI _ _ _ _ _ _ _ (q:Int) w2 hl2 (by unfold maxLen;omega) hw i r Hq.out (by omega) (by omega))
  have p3':w2.cell? ⟨J.bP,3,none⟩=some (.pointer (some ⟨J.bl,0,none⟩)):=by rw [aA h2.blk];exact qI
  have H2:=Lib.hid h2;have Hch2:=Lib.hid yO;have Hn2:=Lib.hid hn2;have Hleft2:=Lib.hid zV
  obtain⟨e1,e2⟩:=uP calls st q i (S:=S)
  have E1:=Lib.hid e1;have E2:=Lib.hid e2
  clear h2 yO hl2 hn2 zV e1 e2
  cases bX with
  | false=>
   go_wp2
   go_ret
   refine⟨⟨_,rfl⟩,Hch1.out.trans Hch2.out,?_⟩
   rw [Hpd.out,if_neg (by simp)]
   exact⟨G2,by rw [E1.out,E2.out];exact H2.out⟩
  | true=>
   go_wp2_with fail
   refine A2.out.mono ?_
   rintro e w3 ⟨rfl,zC,M3,hl3⟩
   have Hl3:=Lib.hid hl3;have Hch3:=Lib.hid zC
   clear hl3 zC
   go_wp2
   go_ret
   refine⟨⟨_,rfl⟩,(Hch1.out.trans Hch2.out).trans (Hch3.out.mono (λb _ hb=>?_)),?_⟩
   ·have h9:=H2.out.base
    rcases hb with rfl|rfl
    ·exact .inl h9.2.2.2.1
    ·exact .inl h9.2.2.2.2.1
   ·rw [Hpd.out,if_pos trivial]
    have UJ:fD w3 (λb=>b<w2.heap.size/\¬ G2.Mut b) J.bl J.blm (n2+1) M3 (qF calls (st.fin.set i true)) (QP - 1):=by rw [IJ Hlen.out Hq.out];exact Hl3.out
    have:=aJ.finished ok H2.out Hch3.out UJ (by rw [Hcf.out];have:=Hn2.out;omega) (by rw [Hcf.out];have:=Hleft2.out;omega)
    refine⟨G2,?_⟩
    show aJ R calls w3 J ov cv B0 G2 (dJ S calls st q i).1.wd (dJ S calls st q i).1.obj ((dJ S calls st q i).1.fin.set i true) (nZ (dJ S calls st q i).1.hands) (dJ S calls st q i).1.evs (dJ S calls st q i).1.idle
    rw [E1.out,E2.out]
    exact this
end
section
open Go.RowKit
variable {S:Sys} {R:Real S}
theorem lJ {P:Program} {ops:Array Oper} {rest:List Oper} {op:Oper} {a:Act} {w:World} {Q:Exit->Act->World->Prop} (hgd:op.guard=none) (ty:TypeId) (x i:Operand) (ho:op.op=.index ty x i) (v:Value)
  (hr:(Instr.index ty (a.eval x) (a.eval i)).run P w=.ok v w) (h:wpList P ops Q rest (a.put op.dst v) w):wpList P ops Q (op::rest) a w:=
 wpList_plain hgd λ_ hK=>by
  unfold Oper.wp execOp
  simp only [ho,hr,Sem.run_bind,Sem.run_pure,Result.andThen_ok]
  exact hK _ _ h
theorem qO {P:Program} {ops:Array Oper} {rest:List Oper} {op:Oper} {a:Act} {w:World} {Q:Exit->Act->World->Prop} (hgd:op.guard=none) (x:Operand) (xT T:TypeId) (c:Bool) (ho:op.op=.typeAssert x xT T c) (v:Value)
  (hr:(Instr.typeAssert (a.eval x) xT T c).run P w=.ok v w) (h:wpList P ops Q rest (a.put op.dst v) w):wpList P ops Q (op::rest) a w:=
 wpList_plain hgd λ_ hK=>by
  unfold Oper.wp execOp
  simp only [ho,hr,Sem.run_bind,Sem.run_pure,Result.andThen_ok]
  exact hK _ _ h
def jL (hs:List (Value×Nat)):List Value:=hs.flatMap (λh=>[h.1,fF h.2])
theorem oK:∀(hs:List (Value×Nat)) (q:Nat),q<hs.length->((jL hs).drop (q*2)).take 2=[(hs.getD q (undef,0)).1,fF (hs.getD q (undef,0)).2]
 | [],q,h=>by simp at h
 | x::hs,0,_=>by simp [jL]
 | x::hs,q+1,h=>by
  have:=oK hs q (by simpa using h)
  simp only [jL,List.flatMap_cons,List.cons_append,List.nil_append,List.getD_cons_succ] at this ⊢
  rw [show(q+1)*2=q*2+1+1 by omega,List.drop_succ_cons,List.drop_succ_cons]
  exact this
theorem yV (hs:List (Value×Nat)) (q:Nat) (hq:q<hs.length) (h16:hs.length=16) (w:World) :
  (Instr.index 126 (.agg (jL hs).toArray) (.int .i64 (q:Int))).run Try.prog w=.ok (.agg #[(hs.getD q (undef,0)).1,fF (hs.getD q (undef,0)).2]) w:=by
 have h1:(0:Int)<=(q:Int)/\(q:Int)<((16:Nat):Int):=by omega
 have h2:=oK hs q hq
 have h3:(jL hs).toArray.extract (q*2) (q*2+2)=#[(hs.getD q (undef,0)).1,fF (hs.getD q (undef,0)).2]:=by
  rw [List.extract_toArray,List.extract_eq_take_drop,show q*2+2 - q*2=2 by omega,h2]
 simp [Instr.index,run_underlying Try.underlying126,asIntOf,Sem.run_bind,h1,part,go_sem]
 rw [if_pos (by omega),h2]
 simp
structure pI (R:Real S):Prop where
 late:∀ o wd p s,S.late o wd p s=none
 kind:∀ w Mut B T x p s,R.MRep w Mut B T x p s->∀(v:Value) (u:World),(Instr.typeAssert (.iface T v) 123 158 true).run Try.prog u=.ok (.tuple #[.nilIface,.bool false]) u
theorem EE {bW bl:Nat} {ov cv:Value} {turn:Int} {hs:List (Value×Nat)} {ev:Value} {idle:Nat} (h16:hs.length=16) {j:Nat} {v:Value} (hv:(jL hs)[j]?=some v):(aN bW bl ov cv turn hs ev idle)[5+j]?=some v:=by
 simp only [aN,gY,List.getElem?_toArray]
 have hj:j<(jL hs).length:=(List.getElem?_eq_some_iff.1 hv).1
 rw [show 5+j=j+1+1+1+1+1 by omega]
 simp only [List.getElem?_cons_succ]
 rw [List.getElem?_append_left (by exact hj)]
 exact hv
def FQ (R:Real S) (calls:List aF) (w w':World) (J:jD) (ov cv:Value) (B0:Nat) (G:PG) (st:aQ S) (evs:List EvD):Prop:=
 Chg (λb=>G.ev.ownBlock=some b) w w'/\∃ ers,aJ R calls w' J ov cv B0 { G with ers:=ers } st.wd st.obj st.fin (nZ st.hands) evs st.idle
def fP (st:aQ S) (k:Nat):List EvD:=(List.range k).foldl (gF S st) st.evs
theorem wC (st:aQ S) (k:Nat):fP st (k+1)=gF S st (fP st k) k:=by unfold fP;rw [List.range_succ,List.foldl_append];rfl
set_option maxHeartbeats 4000000 in
theorem KI (ok:dQ R) (nl:pI R) (calls:List aF) (w:World) (J:jD) (ov cv:Value) (B0:Nat) (G:PG) (st:aQ S) (h:aJ R calls w J ov cv B0 G st.wd st.obj st.fin (nZ st.hands) st.evs st.idle) :
  Calls Try.prog 61 #[.pointer (some ⟨J.bP,0,none⟩)] w λe w'=>e=.returned (.tuple #[])/\FQ R calls w w' J ov cv B0 G st (pU S st):=by
 have hrange:w.rangeAt J.bP 5 (jL G.hs):=λj v hv=>by rw [aA h.blk];exact EE h.h1 hv
 have hflen:(jL G.hs).length=32:=by unfold jL;rw [gG,h.h1]
 have hinfo:(Try.prog.info? 126).map (·.size)=some (jL G.hs).length:=by rw [hflen];kernel_rfl
 have h16:=h.h1
 have hst:FQ R calls w w J ov cv B0 G st (fP st 0):=⟨Chg.refl _ _,G.ers,h⟩
 have Hst:=Lib.hid hst
 have Hidx:=Lib.hid (yV G.hs)
 obtain⟨arr,harr⟩:∃ arr,arr=(jL G.hs).toArray:=⟨_,rfl⟩
 rw [<-harr] at Hidx
 have Harr:=Lib.hid harr;have Hrange:=Lib.hid hrange;have Hinfo:=Lib.hid hinfo;have H16:=Lib.hid h16
 have Hmap:=Lib.hid h.h2
 clear h hrange hinfo h16 harr hst hflen
 go_enter Try.func61,Try.ntmps61
 go_wp2_with (refine wpList_load_mid rfl 126 _ rfl J.bP 5 rfl (jL G.hs) _ Hrange.out Try.underlying126 rfl Hinfo.out ?_;rw [<-Harr.out])
 go_loopw [11] (λi wr=>∃ k:Nat,k<=16/\i=.int .i64 k/\FQ R calls w wr J ov cv B0 G st (fP st k)) (λi _=>16 - (intOf i).toNat)
 case atStart=>exact⟨0,by omega,rfl,Hst.out⟩
 case round=>
  obtain⟨k,hk,rfl,hch,ers,h⟩:=hrel
  by_cases hlt:k<16
  ·have t1:(k:Int)<16:=by omega
   have hidx:=Hidx.out k (by rw [H16.out];exact hlt) H16.out
   have hup:=wC st k
   have hhk:=h.hand k hlt
   rw [fQ] at hhk
   obtain⟨hv,hhv⟩:∃ hv,hv=G.hs.getD k (undef,0):=⟨_,rfl⟩
   have hhk':gH R wr G.Mut (G.MB k) k hv ((st.hands.getD k (none,0)).1.map Mh.run,(st.hands.getD k (none,0)).2):=by rw [hhv];exact hhk
   rw [<-hhv] at hidx
   obtain⟨hv1,hv2⟩:=hv
   simp only [fF] at hidx
   clear hhk hhv
   obtain⟨hk1,hk2⟩:=hhk'
   simp only at hk1 hk2
   cases hs:(st.hands.getD k (none,0)).1 with
   | none=>
    rw [hs] at hk2
    simp only [Option.map_none] at hk2
    subst hk2
    have hnn:∀ u:World,(binOp .eql 123 .nilIface .nilIface).run Try.prog u=.ok (.bool true) u:=λu=>by first|rfl|kernel_rfl
    have hend:fP st (k+1)=fP st k:=by
     rw [hup];unfold gF
     split
     ·rfl
     ·rename_i h9;rw [h9] at hs;cases hs
    have Hend:=Lib.hid hend;have Hch:=Lib.hid hch;have Hh:=Lib.hid h;have Hi2:=Lib.hid hidx
    clear hup hch h hs hk1 hidx
    go_wp2_with (refine lJ rfl 126 _ _ rfl _ (Hi2.out _) ?_)
    go_roundw
    case rel=>exact⟨k+1,by omega,by go_num,by rw [Hend.out];exact⟨Hch.out.alloc _,ers,aJ.grown ok Hh.out (Gr.new _ _)⟩⟩
    case measure=>simp [intOf]<;>omega
   | some s=>
    rw [hs] at hk2
    simp only [Option.map_some] at hk2
    obtain⟨T,x,rfl,hm⟩:=hk2
    have hi:hv2<(fP st k).length:=by
     rw [hk1]
     have:=h.at_ k hlt (.run s) (by rw [fQ,hs];rfl)
     rwa [fQ] at this
    have hnn:∀ u:World,(binOp .eql 123 (.iface T x) .nilIface).run Try.prog u=.ok (.bool false) u:=λu=>by first|rfl|kernel_rfl
    have hkind:=nl.kind _ _ _ _ _ _ _ hm
    have hend:fP st (k+1)=(fP st k).set hv2 { (fP st k).getD hv2 jZ with key:=st.wd.marks.getD k [] }:=by
     rw [hup];unfold gF
     split
     ·rename_i h9;rw [h9] at hs;cases hs
     ·rename_i h9
      rw [h9] at hs hk1
      simp only at hk1
      rw [nl.late,<-hk1]
      rfl
    obtain⟨w4,hw4⟩:∃ w4,w4=wr.alloc (.cells #[.iface T x,.int .i64 (hv2:Int)] 125):=⟨_,rfl⟩
    have h4:=aJ.grown ok h (w':=w4) (by rw [hw4];exact Gr.new _ _)
    obtain⟨g,c,hev,hrow⟩:=aJ.ev_some h4 hi
    have a37:w4.cell? ⟨J.bP,37,none⟩=some (.slice (some ⟨g,0,none⟩) (fP st k).length c):=by rw [aA h4.blk,<-hev];exact iG h4.h1
    have b0:w4.cell? ⟨wr.heap.size,0,none⟩=some (.iface T x):=by rw [hw4,eF];rfl
    have b1:w4.cell? ⟨wr.heap.size,1,none⟩=some (.int .i64 (hv2:Int)):=by rw [hw4,eF];rfl
    obtain⟨n,hn⟩:∃ n,n=(fP st k).length:=⟨_,rfl⟩
    rw [<-hn] at a37
    have hil:(hv2:Int)<(n:Int):=by omega
    have hgs:g<wr.heap.size:=by
     obtain⟨g9,c9,rV,VP⟩:=h.eva.row.form (by omega)
     have e9:=rV.symm.trans hev
     simp only [Value.slice.injEq,Option.some.injEq,Addr.mk.injEq] at e9
     have:=h.eva.row.lt g (by rw [hev];rfl)
     exact this.2
    have Hi2:=Lib.hid hidx
    have Hend:=Lib.hid hend;have Hch:=Lib.hid hch;have H4:=Lib.hid h4;have Hw4:=Lib.hid hw4;have Hrow:=Lib.hid hrow;have Hev:=Lib.hid hev;have Hi:=Lib.hid hi;have Hkind:=Lib.hid hkind
    clear hup hch h hs hk1 hidx hm hkind hend h4 hw4 hrow hev hi hn
    go_upto_region 4 with(refine lJ rfl 126 _ _ rfl _ (Hi2.out _) ?_)
    rw [<-Hw4.out]
    go_wp2_with fail
    go_quiet (fail)
    have H4d:=Lib.hid (aJ.grown ok H4.out (below_drewN (Gr.refl w4) nq))
    obtain⟨mks,hwb,hmk,hmks⟩:=H4.out.world.blk
    obtain⟨ma,mc,hmv,hmn,hmsl,hmm⟩:=hmks k hlt
    have q0:(w4.drewN nq).cell? ⟨J.bP,0,none⟩=some (.pointer (some ⟨J.W.bW,0,none⟩)):=by
     have:=aA H4.out.blk 0
     exact this.trans cO
    have qm:(w4.drewN nq).cell? ⟨J.W.bW,18+k,none⟩=some (.slice ma (st.wd.marks.getD k []).length mc):=by
     have:=aA hwb (18+k)
     rw [kC H4.out.world.inv16 hmk hlt,hmv] at this
     exact this
    have q7:(w4.drewN nq).cell? ⟨g,hv2*8+7,none⟩=some ((ers.getD hv2 tO).2):=(Hrow.out 7 (by omega)).1
    have q7f:(w4.drewN nq).frozen? ⟨g,hv2*8+7,none⟩=false:=(Hrow.out 7 (by omega)).2
    have c0:(w4.drewN nq).cell? ⟨wr.heap.size,0,none⟩=some (.iface T x):=b0
    have hne1:g≠wr.heap.size:=by omega
    have hne2:wr.heap.size≠g:=by omega
    have Hl:=Lib.hid (show Lst (w4.drewN nq) G.Mut (.slice ma (st.wd.marks.getD k []).length mc) (st.wd.marks.getD k []) from⟨ma,mc,rfl,(λe=>by rw [<-hmv];exact hmn e),hmsl,hmm⟩)
    obtain⟨mn,QF⟩:∃ mn,mn=(st.wd.marks.getD k []).length:=⟨_,rfl⟩
    rw [<-QF] at qm Hl
    have hgB:B0<=g:=(H4.out.eva.row.lt g (by rw [Hev.out];rfl)).1
    clear hwb hmk hmks hmv hmn hmsl hmm QF a37 b0 b1
    go_wp2_with (refine qO rfl _ _ _ _ rfl _ (Hkind.out _ _) ?_)
    go_roundw
    case rel=>
     obtain⟨ers',_,hk⟩:=aJ.keyed ok H4d.out Hi.out Hev.out Hl.out
     refine⟨k+1,by omega,by go_num,?_⟩
     rw [Hend.out]
     exact⟨((by rw [Hw4.out];exact Hch.out.alloc _:Chg (λb=>G.ev.ownBlock=some b) w w4).drewN nq).setCell (by exact .inl (congrArg Value.ownBlock Hev.out)) _,ers',hk⟩
    case measure=>simp [intOf]<;>omega
  ·have t1:¬ (k:Int)<16:=by omega
   obtain rfl:k=16:=by omega
   have Hch:=Lib.hid hch;have Hh:=Lib.hid h
   clear hch h
   go_wp2
   go_end0
   exact⟨rfl,Hch.out,ers,Hh.out⟩
end
end Go.Proofs.Ytifhldnmcdbpfaa
