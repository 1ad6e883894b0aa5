/- Layer 6: machines of one step, whatever the step is. -/
import Derived.Test.YtifhldnmcdbpfaaW11
set_option maxRecDepth 100000
set_option linter.unusedVariables false
set_option linter.unusedSimpArgs false
set_option linter.unnecessarySimpa false
namespace Go.Proofs.Ytifhldnmcdbpfaa
section
open Go.RowKit
theorem aM.mems {w w':World} {Mut:Nat->Prop} {I:dG} {N:Nat} {wd:WD} {m':fE} (h:aM w Mut I N wd) (hc:Chg (bY I.bm I.bw) w w') (hm:cB w' I.bm I.bw m'):aM w' Mut I N { wd with mem:=m' }/\Chg (aW I) w w':=by
 obtain⟨⟨mks,h1,h2,h3⟩,h4,h5,h6,⟨n,M,h7,h8,h9⟩,h10,h11,h12,h13,h14⟩:=h
 have hS:∀ b,bY I.bm I.bw b->aW I b:=by
  rintro b (rfl|e)
  ·exact .inr (.inl rfl)
  ·exact .inr (.inr (.inr e))
 have hSM:∀ b,bY I.bm I.bw b->Mut b:=λb hb=>h11 b (hS b hb)
 have n1:¬ bY I.bm I.bw I.bW:=by
  rintro(e|e)
  ·exact h10.1 e
  ·exact h10.2.2.2.1 e.symm
 have n2:¬ bY I.bm I.bw I.bt:=by
  rintro(e|e)
  ·exact h10.2.2.1 e.symm
  ·exact h10.2.2.2.2 e.symm
 exact⟨⟨⟨mks,(hc.block _ (aC h1) n1).trans h1,h2,λp hp=>(h3 p hp).keep hc hSM (aV.refl _ _)⟩,h4,h5,hm,⟨n,M,h7.block (hc.block _ h7.lt n2),h8,λk=>(h9 k).keep hc hSM (aV.refl _ _)⟩,h10,h11,λb hb=>Nat.lt_of_lt_of_le (h12 b hb) hc.size,h13,h14⟩,hc.mono (λb _ hb=>hS b hb)⟩
abbrev zS:=World->(Nat->Prop)->FuncId->Array Value->aF->Prop
def FY (Cap:zS) (w:World) (Mut B:Nat->Prop) (T:TypeId) (x:Value) (c:aF) (r:Int×Nat):Prop:=
 T=181/\∃ b K cap,x=.pointer (some ⟨b,0,none⟩)/\w.heap[b]?=some (.cells (gN K cap r.1 r.2) 183 (0,0))/\B b/\
  (∀(args:Array Value) (u:World),(callFunc K args).run Try.prog u=.ok (.enter K args) u)/\Cap w Mut K cap c
structure QQ (Cap:zS) (act:aF->WD->WD×(Int×Nat)):Prop where
 keep:∀ w w' Q Mut Mut' K cap c,Cap w Mut K cap c->Chg Q w w'->(∀ b,Q b->Mut b)->aV Mut w Mut'->Cap w' Mut' K cap c
 go:∀ w Mut I N wd b K cap c,aM w Mut I N wd->Cap w Mut K cap c->¬ aW I b->b<w.heap.size->wd.mem.c.all+1<1000000000000->
  Calls Try.prog K (#[.pointer (some ⟨I.bW,0,none⟩)]++cap) w (AV b w λe v w1=>(act c wd).2=(e,v)/\Chg (aW I) w w1/\aM w1 Mut I N (act c wd).1)
variable {Cap:zS} {act:aF->WD->WD×(Int×Nat)}
theorem FY.keep (ck:QQ Cap act) {w w':World} {Q Mut Mut' B:Nat->Prop} {T:TypeId} {x:Value} {c:aF} {r:Int×Nat} (h:FY Cap w Mut B T x c r) (hc:Chg Q w w') (hQ:∀ b,Q b->Mut b) (hB:∀ b,B b->¬ Q b) (hm:aV Mut w Mut'):FY Cap w' Mut' B T x c r:=by
 obtain⟨h1,b,K,cap,h2,h3,h4,h5,h6⟩:=h
 exact⟨h1,b,K,cap,h2,(hc.block _ (aC h3) (hB b h4)).trans h3,h4,h5,ck.keep _ _ _ _ _ _ _ _ h6 hc hQ hm⟩
end
section
open Go.RowKit
variable {S:Sys} {R:Real S}
def oL {σ:Type} (l:List (Option σ×Nat)):List (Option (Mh σ)×Nat):=l.map λh=>(h.1.map Mh.run,h.2)
theorem fT {σ:Type} (l:List (Option σ×Nat)) (p:Nat):(oL l).getD p (none,0)=((l.getD p (none,0)).1.map Mh.run,(l.getD p (none,0)).2):=by
 simp only [oL,List.getD_eq_getElem?_getD,List.getElem?_map]
 cases l[p]?<;>rfl
theorem tK {σ:Type} (l:List (Option σ×Nat)) (p:Nat) (h:Option σ×Nat):oL (l.set p h)=(oL l).set p (h.1.map Mh.run,h.2):=by
 simp [oL,List.map_set]
theorem sQ (l:List EvD) (e:EvD) (f:EvD->EvD):cO (l++[e]) l.length f=l++[f e]:=by
 unfold cO
 rw [dW]
 simp [List.set_append_right]
theorem HV (calls:List aF) (st:aQ S) (p i:Nat) :
  mZ S calls st.wd st.obj (oL st.hands) st.evs p i=⟨(dF S calls st p i).1.wd,(dF S calls st p i).1.obj,oL (dF S calls st p i).1.hands,(dF S calls st p i).1.evs,(dF S calls st p i).2⟩:=by
 unfold mZ dF
 rw [fT]
 cases hd:(st.hands.getD p (none,0)).1 with
 | some s=>
  simp only [Option.map_some]
  unfold goH eY
  simp only [aP,bE]
  split<;>rename_i hb<;>simp [tK,hb]
 | none=>
  simp only [Option.map_none]
  cases hs:dI S st.obj (st.wd.tick.begin p) p (calls.getD i d0) with
  | refuse e=>
   simp only [Mh.of]
   unfold goH
   simp only [aP,bE,if_true]
   rw [sQ,tK,List.set_set]
   rfl
  | run s=>
   simp only [Mh.of]
   unfold goH eY
   simp only [aP,bE]
   split<;>rename_i hb<;>simp [tK,hb]
theorem uS (calls:List aF) (st:aQ S) (p i:Nat):(dF S calls st p i).1.fin=st.fin/\(dF S calls st p i).1.idle=st.idle:=by
 unfold dF
 cases (st.hands.getD p (none,0)).1 with
 | some s=>simp only;unfold eY;simp only;split<;>exact⟨rfl,rfl⟩
 | none=>
  simp only
  cases dI S st.obj (st.wd.tick.begin p) p (calls.getD i d0) with
  | refuse e=>exact⟨rfl,rfl⟩
  | run s=>simp only;unfold eY;simp only;split<;>exact⟨rfl,rfl⟩
def sU (R:Real S) (calls:List aF) (w:World) (J:iZ) (ov cv:Value) (B0:Nat) (st:aQ S):Prop:=∃ G,aK R calls w J ov cv B0 G st.wd st.obj st.fin (oL st.hands) st.evs st.idle
section
variable {calls:List aF} {w w':World} {J:iZ} {ov cv:Value} {B0:Nat} {G:PG} {wd:WD} {o:S.ω} {fin:List Bool} {hands:List (Option (Mh S.σ)×Nat)} {evs:List EvD} {idle p:Nat}
theorem aK.player (ok:dP R) (h:aK R calls w J ov cv B0 G wd o fin hands evs idle) {k:Nat} {v:Value} {t:Int} {id':Nat}
  (hs:(aN J.W.bW J.bl ov cv G.turn G.hs G.ev idle).setIfInBounds k v=aN J.W.bW J.bl ov cv t G.hs G.ev id') :
  aK R calls (w.setCell ⟨J.bP,k,none⟩ v) J ov cv B0 { G with turn:=t } wd o fin hands evs id':=by
 have hch:Chg (λb=>b=J.bP) w (w.setCell ⟨J.bP,k,none⟩ v):=(Chg.refl (λb=>b=J.bP) w).setCell (p:=⟨J.bP,k,none⟩) (.inl rfl) _
 have hQ:∀ b,(λb=>b=J.bP) b->G.Mut b:=by rintro b rfl;exact(h.pmut _ (.inl rfl)).1
 have hup:=aV.refl G.Mut w
 obtain⟨n,M,left,t1,t2⟩:=h.line
 refine⟨?_,h.h1,h.h2,λq hq=>(h.hand q hq).keep ok hch hQ (λb hb e=>(h.mb q b hq hb).2.2.2 (by rw [e];exact .inl rfl)) hup,h.world.keep hch hQ (by rintro b rfl hx;exact h.pW _ hx (.inl rfl)) hup (λb hb=>Nat.lt_of_lt_of_le (h.world.low b hb) hch.size) h.world.muts,ok.keepO _ _ _ _ _ _ h.obj hch hQ (λb hb e=>h.pO b hb (by rw [e];exact .inl rfl)) hup (ok.lowO _ _ _ h.obj),h.inv,
  ⟨n,M,left,t1.keepP hch hQ (Ne.symm h.psep.1) (Ne.symm h.psep.2.1) hup,t2⟩,h.flen,h.eva.keep hch hQ hup (λb hb e=>h.psep.2.2.1 (by rw [<-e];exact hb)),h.ele,h.at_,h.imm.keep hch hQ hup,h.pmut,h.ow,h.psep,h.mb,h.mbd,h.cnt,h.nowb,h.nb,?_,h.stp,h.oldm⟩
 ·rw [aH h.blk,hs]
 ·obtain⟨g1,g2⟩:=h.base
  exact⟨Nat.le_trans g1 hch.size,g2⟩
theorem aK.finished (ok:dP R) (h:aK R calls w J ov cv B0 G wd o fin hands evs idle) {i n:Nat} {M:Int->Value} {left:Int} (hch:Chg (λb=>b=J.bl∨b=J.blm) w w')
  (hl:fC w' (λb=>b<w.heap.size/\¬ G.Mut b) J.bl J.blm n M (qF calls (fin.set i true)) left) (hn:n<=1000+(fin.set i true).count true) (hleft:left=(calls.length:Int) - ((fin.set i true).count true:Int)) :
  aK R calls w' J ov cv B0 G wd o (fin.set i true) hands evs idle:=by
 have hP:∀ b,(b=J.bl∨b=J.blm)->vQ J G.ev b:=by rintro b (rfl|rfl);exact .inr (.inl rfl);exact .inr (.inr (.inl rfl))
 have hQ:∀ b,(λb=>b=J.bl∨b=J.blm) b->G.Mut b:=λb hb=>(h.pmut _ (hP b hb)).1
 have hup:=aV.refl G.Mut w
 refine⟨(hch.block _ h.bPlt ?_).trans h.blk,h.h1,h.h2,λq hq=>(h.hand q hq).keep ok hch hQ (λb hb e=>(h.mb q b hq hb).2.2.2 (hP b e)) hup,h.world.keep hch hQ (λb hb hx=>h.pW _ hx (hP b hb)) hup (λb hb=>Nat.lt_of_lt_of_le (h.world.low b hb) hch.size) h.world.muts,ok.keepO _ _ _ _ _ _ h.obj hch hQ (λb hb e=>h.pO b hb (hP b e)) hup (ok.lowO _ _ _ h.obj),h.inv,
  ⟨n,M,left,hl.mono (λb hb=>⟨Nat.lt_of_lt_of_le hb.1 hch.size,hb.2⟩),hn,hleft⟩,by simpa using h.flen,h.eva.keep hch hQ hup (λb hb e=>?_),h.ele,h.at_,h.imm.keep hch hQ hup,h.pmut,h.ow,h.psep,h.mb,h.mbd,h.cnt,h.nowb,h.nb,?_,h.stp,h.oldm⟩
 ·rintro(e|e)
  ·exact h.psep.1 e
  ·exact h.psep.2.1 e
 ·rcases e with e|e
  ·exact h.psep.2.2.2.1 (by rw [<-e];exact hb)
  ·exact h.psep.2.2.2.2 (by rw [<-e];exact hb)
 ·obtain⟨g1,g2⟩:=h.base
  exact⟨Nat.le_trans g1 hch.size,g2⟩
end
theorem DF {fin:List Bool} {i:Nat} (hi:i<fin.length) (hf:fin.getD i false=false):(fin.set i true).count true=fin.count true+1:=by
 rw [List.count_set hi]
 have:fin[i]=false:=by simpa [List.getD_eq_getElem?_getD,hi] using hf
 simp [this]
def oO (R:Real S) (calls:List aF) (st:aQ S) (p:Int):Prop:=
 ∀ i,iF calls st.fin p=some i->(∀ s k,st.hands.getD p.toNat (none,0)=(some s,k)->R.live st.obj st.wd.tick p.toNat s)/\
  ((st.hands.getD p.toNat (none,0)).1=none->∀ s,dI S st.obj (st.wd.tick.begin p.toNat) p.toNat (calls.getD i d0)=.run s->R.live st.obj (st.wd.tick.begin p.toNat) p.toNat s)
def OY (R:Real S) (calls:List aF) (w w':World) (J:iZ) (ov cv:Value) (B0:Nat) (st:aQ S):Prop:=Chg (PB R B0) w w'/\sU R calls w' J ov cv B0 st
theorem II (ok:dP R) (hdN:R.dN<=1000) (calls:List aF) (w:World) (J:iZ) (ov cv:Value) (B0:Nat) (st:aQ S) (p:Int) (h:sU R calls w J ov cv B0 st) (hw:(Lit.int .i64 p).wf=true) (hsf:oO R calls st p) (hnow:st.wd.now<69999) (hid:st.idle<1000000) (hthr:∀ q:Nat,p=(q:Int)->iF calls st.fin p≠none->R.thr q) :
  Calls Try.prog 42 #[.pointer (some ⟨J.bP,0,none⟩),.int .i64 p] w λe w'=>(∃ b,e=.returned (.bool b))/\OY R calls w w' J ov cv B0 (gV S calls st p):=by
 obtain⟨G,h⟩:=h
 obtain⟨n,M,left,hl,hn,hleft⟩:=h.line
 have p3:w.cell? ⟨J.bP,3,none⟩=some (.pointer (some ⟨J.bl,0,none⟩)):=by rw [aA h.blk];exact pX
 have p4:w.cell? ⟨J.bP,4,none⟩=some (.int .i64 G.turn):=by rw [aA h.blk];exact xZ
 have f4:w.frozen? ⟨J.bP,4,none⟩=false:=aB h.blk _
 have p45:w.cell? ⟨J.bP,45,none⟩=some (.int .i64 (st.idle:Int)):=by rw [aA h.blk];exact pV h.h1
 have f45:w.frozen? ⟨J.bP,45,none⟩=false:=aB h.blk _
 have hB:=h.base.2.1
 have hi0:(st.idle:Int)<1000000:=by omega
 cases hN:iF calls st.fin p with
 | none=>
  have hq:(qF calls st.fin p).length=0:=by rw [iW] at hN;cases hq:qF calls st.fin p with|nil=>rfl|cons a b=>rw [hq] at hN;cases hN
  have A:=Lib.hid (NQ _ _ _ _ _ _ _ p w hl hw hq)
  have hst:=aK.player ok h (k:=45) (v:=.int .i64 ((st.idle+1:Nat):Int)) (t:=G.turn) (id':=st.idle+1) (qM h.h1 _)
  have Hst:=Lib.hid hst
  have hpd:gV S calls st p={ st with idle:=st.idle+1 }:=by unfold gV;rw [hN]
  have Hpd:=Lib.hid hpd
  clear h hl hN hq hn hleft hst hpd hsf hthr
  go_enter Try.func42,Try.ntmps42
  go_wp2_with (go_at_call 58;refine(A.out).mono ?_;rintro e w' ⟨rfl,rfl⟩)
  go_ret
  refine⟨⟨_,rfl⟩,(Chg.refl (PB R B0) w).setCell (p:=⟨J.bP,45,none⟩) (.inl (.inl hB)) _,?_⟩
  rw [Hpd.out]
  exact⟨_,Hst.out⟩
 | some i=>
  obtain⟨hi,hth,hfi⟩:=dO hN
  have hci:calls[i]=calls.getD i d0:=by simp [List.getD_eq_getElem?_getD,hi]
  obtain⟨hcok,ht0,ht1⟩:=h.imm.ok _ (List.getElem_mem hi)
  rw [hci,hth] at ht0 ht1
  obtain⟨q,rfl⟩:∃ q:Nat,p=(q:Int):=⟨p.toNat,by omega⟩
  have SG:q<16:=by omega
  obtain⟨r,hq⟩:∃ r,qF calls st.fin (q:Int)=i::r:=by
   rw [iW] at hN
   cases hq:qF calls st.fin (q:Int) with
   | nil=>rw [hq] at hN;cases hN
   | cons a b=>rw [hq] at hN;cases hN;exact⟨_,rfl⟩
  have A:=Lib.hid (BQ _ _ _ _ _ _ _ _ w hl hw i r hq)
  have hturn:=aK.player ok h (k:=4) (v:=.int .i64 (q:Int)) (t:=(q:Int)) (id':=st.idle) (qU _)
  have C:=Lib.hid (JU ok calls _ J ov cv B0 _ st.wd st.obj st.fin (oL st.hands) st.evs st.idle q i hturn SG hi (λm k hm=>by
   rw [fT] at hm
   cases hs:(st.hands.getD q (none,0)).1 with
   | none=>rw [hs] at hm;cases hm
   | some s=>rw [hs] at hm;cases hm;exact⟨s,rfl⟩) (λs k hm=>by
   rw [fT] at hm
   cases hs:st.hands.getD q (none,0) with
   | mk m k2=>
    rw [hs] at hm
    cases m with
    | none=>cases hm
    | some s2=>cases hm;exact(hsf i hN).1 _ _ hs) (λhm s hs2=>(hsf i hN).2 (by
   rw [fT] at hm
   show(st.hands.getD q (none,0)).1=none
   cases hs:st.hands.getD q (none,0) with
   | mk m k2=>
    rw [hs] at hm
    cases m with
    | none=>rfl
    | some s2=>cases hm) s hs2) hnow hdN (hthr q rfl (by rw [hN];exact Option.some_ne_none i)))
  have hlen:=h.flen
  have hcl:=h.imm.clen
  have hcn:st.fin.count true<=1000:=by have:=List.count_le_length (a:=true) (l:=st.fin);omega
  have hcf:=DF (by rw [hlen];exact hi) hfi
  have Hpd:=Lib.hid (show gV S calls st (q:Int)=if (dF S calls st q i).2 then { (dF S calls st q i).1 with fin:=(dF S calls st q i).1.fin.set i true } else (dF S calls st q i).1 by unfold gV;rw [hN];rfl)
  have Hq:=Lib.hid hq;have Hcf:=Lib.hid hcf;have Hlen:=Lib.hid hlen
  have QY:Chg (PB R B0) w (w.setCell ⟨J.bP,4,none⟩ (.int .i64 (q:Int))):=(Chg.refl (PB R B0) w).setCell (p:=⟨J.bP,4,none⟩) (.inl (.inl hB)) _
  have Hch1:=Lib.hid QY
  have hq2:(q:Int)<16:=by omega
  clear h hl hN hq hn hleft hturn hcok hci hcf hlen QY hfi hth hsf hthr
  rw [HV] at C
  obtain⟨bX,hbX⟩:∃ bX,bX=(dF S calls st q i).2:=⟨_,rfl⟩
  simp only at C
  rw [<-hbX] at C Hpd
  clear hbX
  go_enter Try.func42,Try.ntmps42
  go_wp2_with (go_at_call 58;refine(A.out).mono ?_;rintro e w' ⟨rfl,rfl⟩)
  refine C.out.mono ?_
  rintro e w2 ⟨rfl,wV,G2,h2⟩
  obtain⟨n2,M2,RD,hl2,hn2,AQ⟩:=h2.line
  have A2:=Lib.hid (AY _ _ _ _ _ _ _ (q:Int) w2 hl2 (by unfold maxLen;omega) hw i r Hq.out (by omega) (by omega))
  have p3':w2.cell? ⟨J.bP,3,none⟩=some (.pointer (some ⟨J.bl,0,none⟩)):=by rw [aA h2.blk];exact pX
  have H2:=Lib.hid h2;have Hch2:=Lib.hid wV;have Hn2:=Lib.hid hn2;have Hleft2:=Lib.hid AQ
  obtain⟨e1,e2⟩:=uS calls st q i (S:=S)
  have E1:=Lib.hid e1;have E2:=Lib.hid e2
  clear h2 wV hl2 hn2 AQ e1 e2
  cases bX with
  | false=>
   go_wp2
   go_ret
   refine⟨⟨_,rfl⟩,Hch1.out.trans Hch2.out,?_⟩
   rw [Hpd.out,if_neg (by simp)]
   exact⟨G2,by rw [E1.out,E2.out];exact H2.out⟩
  | true=>
   go_wp2_with fail
   refine A2.out.mono ?_
   rintro e w3 ⟨rfl,wQ,M3,hl3⟩
   have Hl3:=Lib.hid hl3;have Hch3:=Lib.hid wQ
   clear hl3 wQ
   go_wp2
   go_ret
   refine⟨⟨_,rfl⟩,(Hch1.out.trans Hch2.out).trans (Hch3.out.mono (λb _ hb=>?_)),?_⟩
   ·have h9:=H2.out.base
    rcases hb with rfl|rfl
    ·exact .inl h9.2.2.2.1
    ·exact .inl h9.2.2.2.2.1
   ·rw [Hpd.out,if_pos trivial]
    have SQ:fC w3 (λb=>b<w2.heap.size/\¬ G2.Mut b) J.bl J.blm (n2+1) M3 (qF calls (st.fin.set i true)) (RD - 1):=by rw [IM Hlen.out Hq.out];exact Hl3.out
    have:=aK.finished ok H2.out Hch3.out SQ (by rw [Hcf.out];have:=Hn2.out;omega) (by rw [Hcf.out];have:=Hleft2.out;omega)
    refine⟨G2,?_⟩
    show aK R calls w3 J ov cv B0 G2 (dF S calls st q i).1.wd (dF S calls st q i).1.obj ((dF S calls st q i).1.fin.set i true) (oL (dF S calls st q i).1.hands) (dF S calls st q i).1.evs (dF S calls st q i).1.idle
    rw [E1.out,E2.out]
    exact this
end
end Go.Proofs.Ytifhldnmcdbpfaa
