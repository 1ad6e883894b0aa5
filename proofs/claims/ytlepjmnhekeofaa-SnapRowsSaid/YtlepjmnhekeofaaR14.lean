/- Layer 6: machines of one step, whatever the step is. -/
import Derived.Test.YtlepjmnhekeofaaR13
set_option maxRecDepth 100000
set_option linter.unusedVariables false
set_option linter.unusedSimpArgs false
set_option linter.unnecessarySimpa false
namespace Go.Proofs.Ytlepjmnhekeofaa
section
open Go.RowKit
theorem WorldAt.mems {w w':World} {Mut:Nat->Prop} {I:WIds} {N:Nat} {wd:WD} {m':MemD} (h:WorldAt w Mut I N wd) (hc:Chg (MemSet I.bm I.bw) w w') (hm:MemAt w' I.bm I.bw m'):WorldAt w' Mut I N { wd with mem:=m' }/\Chg (WSet I) w w':=by
 obtain⟨⟨mks,h1,h2,h3⟩,h4,h5,h6,⟨n,M,h7,h8,h9⟩,h10,h11,h12,h13,h14⟩:=h
 have hS:∀ b,MemSet I.bm I.bw b->WSet I b:=by
  rintro b (rfl|e)
  ·exact .inr (.inl rfl)
  ·exact .inr (.inr (.inr e))
 have hSM:∀ b,MemSet I.bm I.bw b->Mut b:=λb hb=>h11 b (hS b hb)
 have n1:¬ MemSet I.bm I.bw I.bW:=by
  rintro(e|e)
  ·exact h10.1 e
  ·exact h10.2.2.2.1 e.symm
 have n2:¬ MemSet I.bm I.bw I.bt:=by
  rintro(e|e)
  ·exact h10.2.2.1 e.symm
  ·exact h10.2.2.2.2 e.symm
 exact⟨⟨⟨mks,(hc.block _ (blk_lt h1) n1).trans h1,h2,λp hp=>(h3 p hp).keep hc hSM (MutUp.refl _ _)⟩,h4,h5,hm,⟨n,M,h7.block (hc.block _ h7.lt n2),h8,λk=>(h9 k).keep hc hSM (MutUp.refl _ _)⟩,h10,h11,λb hb=>Nat.lt_of_lt_of_le (h12 b hb) hc.size,h13,h14⟩,hc.mono (λb _ hb=>hS b hb)⟩
abbrev CapRep:=World->(Nat->Prop)->FuncId->Array Value->CallD->Prop
def OnceM (Cap:CapRep) (w:World) (Mut B:Nat->Prop) (T:TypeId) (x:Value) (c:CallD) (r:Int×Nat):Prop:=
 T=164/\∃ b K cap,x=.pointer (some ⟨b,0,none⟩)/\w.heap[b]?=some (.cells (onceCells K cap r.1 r.2) 166 (0,0))/\B b/\
  (∀(args:Array Value) (u:World),(callFunc K args).run Try.prog u=.ok (.enter K args) u)/\Cap w Mut K cap c
structure CapGo (Cap:CapRep) (act:CallD->WD->WD×(Int×Nat)):Prop where
 keep:∀ w w' Q Mut Mut' K cap c,Cap w Mut K cap c->Chg Q w w'->(∀ b,Q b->Mut b)->MutUp Mut w Mut'->Cap w' Mut' K cap c
 go:∀ w Mut I N wd b K cap c,WorldAt w Mut I N wd->Cap w Mut K cap c->¬ WSet I b->b<w.heap.size->wd.mem.c.all+1<1000000000000->
  Calls Try.prog K (#[.pointer (some ⟨I.bW,0,none⟩)]++cap) w (OnceIn b w λe v w1=>(act c wd).2=(e,v)/\Chg (WSet I) w w1/\WorldAt w1 Mut I N (act c wd).1)
variable {Cap:CapRep} {act:CallD->WD->WD×(Int×Nat)}
theorem OnceM.keep (ck:CapGo Cap act) {w w':World} {Q Mut Mut' B:Nat->Prop} {T:TypeId} {x:Value} {c:CallD} {r:Int×Nat} (h:OnceM Cap w Mut B T x c r) (hc:Chg Q w w') (hQ:∀ b,Q b->Mut b) (hB:∀ b,B b->¬ Q b) (hm:MutUp Mut w Mut'):OnceM Cap w' Mut' B T x c r:=by
 obtain⟨h1,b,K,cap,h2,h3,h4,h5,h6⟩:=h
 exact⟨h1,b,K,cap,h2,(hc.block _ (blk_lt h3) (hB b h4)).trans h3,h4,h5,ck.keep _ _ _ _ _ _ _ _ h6 hc hQ hm⟩
end
section

/- Layer 6: a pick: (*Player).Pick. -/
open Go.RowKit
variable {S:Sys} {R:Real S}
def mapH {σ:Type} (l:List (Option σ×Nat)):List (Option (Mh σ)×Nat):=l.map λh=>(h.1.map Mh.run,h.2)
theorem mapH_getD {σ:Type} (l:List (Option σ×Nat)) (p:Nat):(mapH l).getD p (none,0)=((l.getD p (none,0)).1.map Mh.run,(l.getD p (none,0)).2):=by
 simp only [mapH,List.getD_eq_getElem?_getD,List.getElem?_map]
 cases l[p]?<;>rfl
theorem mapH_set {σ:Type} (l:List (Option σ×Nat)) (p:Nat) (h:Option σ×Nat):mapH (l.set p h)=(mapH l).set p (h.1.map Mh.run,h.2):=by
 simp [mapH,List.map_set]
theorem modEv_snoc (l:List EvD) (e:EvD) (f:EvD->EvD):modEv (l++[e]) l.length f=l++[f e]:=by
 unfold modEv
 rw [getD_snoc_eq]
 simp [List.set_append_right]
theorem stepH_eq (calls:List CallD) (st:PlayD S) (p i:Nat) :
  stepH S calls st.wd st.obj (mapH st.hands) st.evs p i=⟨(stepD S calls st p i).1.wd,(stepD S calls st p i).1.obj,mapH (stepD S calls st p i).1.hands,(stepD S calls st p i).1.evs,(stepD S calls st p i).2⟩:=by
 unfold stepH stepD
 rw [mapH_getD]
 cases hd:(st.hands.getD p (none,0)).1 with
 | some s=>
  simp only [Option.map_some]
  unfold goH goStep
  simp only [mhStep,mhAnswer]
  split<;>rename_i hb<;>simp [mapH_set,hb]
 | none=>
  simp only [Option.map_none]
  cases hs:startD S st.obj (st.wd.tick.begin p) p (calls.getD i d0) with
  | refuse e=>
   simp only [Mh.of]
   unfold goH
   simp only [mhStep,mhAnswer,if_true]
   rw [modEv_snoc,mapH_set,List.set_set]
   rfl
  | run s=>
   simp only [Mh.of]
   unfold goH goStep
   simp only [mhStep,mhAnswer]
   split<;>rename_i hb<;>simp [mapH_set,hb]
theorem stepD_fin (calls:List CallD) (st:PlayD S) (p i:Nat):(stepD S calls st p i).1.fin=st.fin/\(stepD S calls st p i).1.idle=st.idle:=by
 unfold stepD
 cases (st.hands.getD p (none,0)).1 with
 | some s=>simp only;unfold goStep;simp only;split<;>exact⟨rfl,rfl⟩
 | none=>
  simp only
  cases startD S st.obj (st.wd.tick.begin p) p (calls.getD i d0) with
  | refuse e=>exact⟨rfl,rfl⟩
  | run s=>simp only;unfold goStep;simp only;split<;>exact⟨rfl,rfl⟩
def PlaySt (R:Real S) (calls:List CallD) (w:World) (J:PIds) (ov cv:Value) (B0:Nat) (st:PlayD S):Prop:=∃ G,PlayAt R calls w J ov cv B0 G st.wd st.obj st.fin (mapH st.hands) st.evs st.idle
section
variable {calls:List CallD} {w w':World} {J:PIds} {ov cv:Value} {B0:Nat} {G:PG} {wd:WD} {o:S.ω} {fin:List Bool} {hands:List (Option (Mh S.σ)×Nat)} {evs:List EvD} {idle p:Nat}
theorem PlayAt.player (ok:RealOk R) (h:PlayAt R calls w J ov cv B0 G wd o fin hands evs idle) {k:Nat} {v:Value} {t:Int} {id':Nat}
  (hs:(playerCells J.W.bW J.bl ov cv G.turn G.hs G.ev idle).setIfInBounds k v=playerCells J.W.bW J.bl ov cv t G.hs G.ev id') :
  PlayAt R calls (w.setCell ⟨J.bP,k,none⟩ v) J ov cv B0 { G with turn:=t } wd o fin hands evs id':=by
 have hch:Chg (λb=>b=J.bP) w (w.setCell ⟨J.bP,k,none⟩ v):=(Chg.refl (λb=>b=J.bP) w).setCell (p:=⟨J.bP,k,none⟩) (.inl rfl) _
 have hQ:∀ b,(λb=>b=J.bP) b->G.Mut b:=by rintro b rfl;exact(h.pmut _ (.inl rfl)).1
 have hup:=MutUp.refl G.Mut w
 obtain⟨n,M,left,t1,t2⟩:=h.line
 refine⟨?_,h.h1,h.h2,λq hq=>(h.hand q hq).keep ok hch hQ (λb hb e=>(h.mb q b hq hb).2.2.2 (by rw [e];exact .inl rfl)) hup,h.world.keep hch hQ (by rintro b rfl hx;exact h.pW _ hx (.inl rfl)) hup (λb hb=>Nat.lt_of_lt_of_le (h.world.low b hb) hch.size) h.world.muts,ok.keepO _ _ _ _ _ _ h.obj hch hQ (λb hb e=>h.pO b hb (by rw [e];exact .inl rfl)) hup (ok.lowO _ _ _ h.obj),h.inv,
  ⟨n,M,left,t1.keepP hch hQ (Ne.symm h.psep.1) (Ne.symm h.psep.2.1) hup,t2⟩,h.flen,h.eva.keep hch hQ hup (λb hb e=>h.psep.2.2.1 (by rw [<-e];exact hb)),h.ele,h.at_,h.imm.keep hch hQ hup,h.pmut,h.ow,h.psep,h.mb,h.mbd,h.cnt,h.nowb,h.nb,?_,h.stp,h.oldm⟩
 ·rw [blk_set h.blk,hs]
 ·obtain⟨g1,g2⟩:=h.base
  exact⟨Nat.le_trans g1 hch.size,g2⟩
theorem PlayAt.finished (ok:RealOk R) (h:PlayAt R calls w J ov cv B0 G wd o fin hands evs idle) {i n:Nat} {M:Int->Value} {left:Int} (hch:Chg (λb=>b=J.bl∨b=J.blm) w w')
  (hl:LineAt w' (λb=>b<w.heap.size/\¬ G.Mut b) J.bl J.blm n M (qF calls (fin.set i true)) left) (hn:n<=1000+(fin.set i true).count true) (hleft:left=(calls.length:Int) - ((fin.set i true).count true:Int)) :
  PlayAt R calls w' J ov cv B0 G wd o (fin.set i true) hands evs idle:=by
 have hP:∀ b,(b=J.bl∨b=J.blm)->PSet J G.ev b:=by rintro b (rfl|rfl);exact .inr (.inl rfl);exact .inr (.inr (.inl rfl))
 have hQ:∀ b,(λb=>b=J.bl∨b=J.blm) b->G.Mut b:=λb hb=>(h.pmut _ (hP b hb)).1
 have hup:=MutUp.refl G.Mut w
 refine⟨(hch.block _ h.bPlt ?_).trans h.blk,h.h1,h.h2,λq hq=>(h.hand q hq).keep ok hch hQ (λb hb e=>(h.mb q b hq hb).2.2.2 (hP b e)) hup,h.world.keep hch hQ (λb hb hx=>h.pW _ hx (hP b hb)) hup (λb hb=>Nat.lt_of_lt_of_le (h.world.low b hb) hch.size) h.world.muts,ok.keepO _ _ _ _ _ _ h.obj hch hQ (λb hb e=>h.pO b hb (hP b e)) hup (ok.lowO _ _ _ h.obj),h.inv,
  ⟨n,M,left,hl.mono (λb hb=>⟨Nat.lt_of_lt_of_le hb.1 hch.size,hb.2⟩),hn,hleft⟩,by simpa using h.flen,h.eva.keep hch hQ hup (λb hb e=>?_),h.ele,h.at_,h.imm.keep hch hQ hup,h.pmut,h.ow,h.psep,h.mb,h.mbd,h.cnt,h.nowb,h.nb,?_,h.stp,h.oldm⟩
 ·rintro(e|e)
  ·exact h.psep.1 e
  ·exact h.psep.2.1 e
 ·rcases e with e|e
  ·exact h.psep.2.2.2.1 (by rw [<-e];exact hb)
  ·exact h.psep.2.2.2.2 (by rw [<-e];exact hb)
 ·obtain⟨g1,g2⟩:=h.base
  exact⟨Nat.le_trans g1 hch.size,g2⟩
end
theorem count_fin {fin:List Bool} {i:Nat} (hi:i<fin.length) (hf:fin.getD i false=false):(fin.set i true).count true=fin.count true+1:=by
 rw [List.count_set hi]
 have:fin[i]=false:=by simpa [List.getD_eq_getElem?_getD,hi] using hf
 simp [this]
def SafeAt (R:Real S) (calls:List CallD) (st:PlayD S) (p:Int):Prop:=
 ∀ i,nowN calls st.fin p=some i->(∀ s k,st.hands.getD p.toNat (none,0)=(some s,k)->R.live st.obj st.wd.tick p.toNat s)/\
  ((st.hands.getD p.toNat (none,0)).1=none->∀ s,startD S st.obj (st.wd.tick.begin p.toNat) p.toNat (calls.getD i d0)=.run s->R.live st.obj (st.wd.tick.begin p.toNat) p.toNat s)
def PickTo (R:Real S) (calls:List CallD) (w w':World) (J:PIds) (ov cv:Value) (B0:Nat) (st:PlayD S):Prop:=Chg (PB R B0) w w'/\PlaySt R calls w' J ov cv B0 st
theorem pick_any (ok:RealOk R) (hdN:R.dN<=1000) (calls:List CallD) (w:World) (J:PIds) (ov cv:Value) (B0:Nat) (st:PlayD S) (p:Int) (h:PlaySt R calls w J ov cv B0 st) (hw:(Lit.int .i64 p).wf=true) (hsf:SafeAt R calls st p) (hnow:st.wd.now<69999) (hid:st.idle<1000000) :
  Calls Try.prog 43 #[.pointer (some ⟨J.bP,0,none⟩),.int .i64 p] w λe w'=>(∃ b,e=.returned (.bool b))/\PickTo R calls w w' J ov cv B0 (pickD S calls st p):=by
 obtain⟨G,h⟩:=h
 obtain⟨n,M,left,hl,hn,hleft⟩:=h.line
 have p3:w.cell? ⟨J.bP,3,none⟩=some (.pointer (some ⟨J.bl,0,none⟩)):=by rw [cell_blk h.blk];exact player_line
 have p4:w.cell? ⟨J.bP,4,none⟩=some (.int .i64 G.turn):=by rw [cell_blk h.blk];exact player_turn
 have f4:w.frozen? ⟨J.bP,4,none⟩=false:=frozen_blk h.blk _
 have p45:w.cell? ⟨J.bP,45,none⟩=some (.int .i64 (st.idle:Int)):=by rw [cell_blk h.blk];exact player_idle h.h1
 have f45:w.frozen? ⟨J.bP,45,none⟩=false:=frozen_blk h.blk _
 have hB:=h.base.2.1
 have hi0:(st.idle:Int)<1000000:=by omega
 cases hN:nowN calls st.fin p with
 | none=>
  have hq:(qF calls st.fin p).length=0:=by rw [nowN_head] at hN;cases hq:qF calls st.fin p with|nil=>rfl|cons a b=>rw [hq] at hN;cases hN
  have A:=Lib.hid (now_no _ _ _ _ _ _ _ p w hl hw hq)
  have hst:=PlayAt.player ok h (k:=45) (v:=.int .i64 ((st.idle+1:Nat):Int)) (t:=G.turn) (id':=st.idle+1) (player_set_idle h.h1 _)
  have Hst:=Lib.hid hst
  have hpd:pickD S calls st p={ st with idle:=st.idle+1 }:=by unfold pickD;rw [hN]
  have Hpd:=Lib.hid hpd
  clear h hl hN hq hn hleft hst hpd hsf
  go_enter Try.func43,Try.ntmps43
  go_wp2_with (go_at_call 57;refine(A.out).mono ?_;rintro e w' ⟨rfl,rfl⟩)
  go_ret
  refine⟨⟨_,rfl⟩,(Chg.refl (PB R B0) w).setCell (p:=⟨J.bP,45,none⟩) (.inl (.inl hB)) _,?_⟩
  rw [Hpd.out]
  exact⟨_,Hst.out⟩
 | some i=>
  obtain⟨hi,hth,hfi⟩:=nowN_spec hN
  have hci:calls[i]=calls.getD i d0:=by simp [List.getD_eq_getElem?_getD,hi]
  obtain⟨hcok,ht0,ht1⟩:=h.imm.ok _ (List.getElem_mem hi)
  rw [hci,hth] at ht0 ht1
  obtain⟨q,rfl⟩:∃ q:Nat,p=(q:Int):=⟨p.toNat,by omega⟩
  have hq16:q<16:=by omega
  obtain⟨r,hq⟩:∃ r,qF calls st.fin (q:Int)=i::r:=by
   rw [nowN_head] at hN
   cases hq:qF calls st.fin (q:Int) with
   | nil=>rw [hq] at hN;cases hN
   | cons a b=>rw [hq] at hN;cases hN;exact⟨_,rfl⟩
  have A:=Lib.hid (now_yes _ _ _ _ _ _ _ _ w hl hw i r hq)
  have hturn:=PlayAt.player ok h (k:=4) (v:=.int .i64 (q:Int)) (t:=(q:Int)) (id':=st.idle) (player_set_turn _)
  have C:=Lib.hid (step_any ok calls _ J ov cv B0 _ st.wd st.obj st.fin (mapH st.hands) st.evs st.idle q i hturn hq16 hi (λm k hm=>by
   rw [mapH_getD] at hm
   cases hs:(st.hands.getD q (none,0)).1 with
   | none=>rw [hs] at hm;cases hm
   | some s=>rw [hs] at hm;cases hm;exact⟨s,rfl⟩) (λs k hm=>by
   rw [mapH_getD] at hm
   cases hs:st.hands.getD q (none,0) with
   | mk m k2=>
    rw [hs] at hm
    cases m with
    | none=>cases hm
    | some s2=>cases hm;exact(hsf i hN).1 _ _ hs) (λhm s hs2=>(hsf i hN).2 (by
   rw [mapH_getD] at hm
   show(st.hands.getD q (none,0)).1=none
   cases hs:st.hands.getD q (none,0) with
   | mk m k2=>
    rw [hs] at hm
    cases m with
    | none=>rfl
    | some s2=>cases hm) s hs2) hnow hdN)
  have hlen:=h.flen
  have hcl:=h.imm.clen
  have hcn:st.fin.count true<=1000:=by have:=List.count_le_length (a:=true) (l:=st.fin);omega
  have hcf:=count_fin (by rw [hlen];exact hi) hfi
  have Hpd:=Lib.hid (show pickD S calls st (q:Int)=if (stepD S calls st q i).2 then { (stepD S calls st q i).1 with fin:=(stepD S calls st q i).1.fin.set i true } else (stepD S calls st q i).1 by unfold pickD;rw [hN];rfl)
  have Hq:=Lib.hid hq;have Hcf:=Lib.hid hcf;have Hlen:=Lib.hid hlen
  have hch1:Chg (PB R B0) w (w.setCell ⟨J.bP,4,none⟩ (.int .i64 (q:Int))):=(Chg.refl (PB R B0) w).setCell (p:=⟨J.bP,4,none⟩) (.inl (.inl hB)) _
  have Hch1:=Lib.hid hch1
  have hq2:(q:Int)<16:=by omega
  clear h hl hN hq hn hleft hturn hcok hci hcf hlen hch1 hfi hth hsf
  rw [stepH_eq] at C
  obtain⟨bX,hbX⟩:∃ bX,bX=(stepD S calls st q i).2:=⟨_,rfl⟩
  simp only at C
  rw [<-hbX] at C Hpd
  clear hbX
  go_enter Try.func43,Try.ntmps43
  go_wp2_with (go_at_call 57;refine(A.out).mono ?_;rintro e w' ⟨rfl,rfl⟩)
  refine C.out.mono ?_
  rintro e w2 ⟨rfl,hch2,G2,h2⟩
  obtain⟨n2,M2,left2,hl2,hn2,hleft2⟩:=h2.line
  have A2:=Lib.hid (finish_yes _ _ _ _ _ _ _ (q:Int) w2 hl2 (by unfold maxLen;omega) hw i r Hq.out (by omega) (by omega))
  have p3':w2.cell? ⟨J.bP,3,none⟩=some (.pointer (some ⟨J.bl,0,none⟩)):=by rw [cell_blk h2.blk];exact player_line
  have H2:=Lib.hid h2;have Hch2:=Lib.hid hch2;have Hn2:=Lib.hid hn2;have Hleft2:=Lib.hid hleft2
  obtain⟨e1,e2⟩:=stepD_fin calls st q i (S:=S)
  have E1:=Lib.hid e1;have E2:=Lib.hid e2
  clear h2 hch2 hl2 hn2 hleft2 e1 e2
  cases bX with
  | false=>
   go_wp2
   go_ret
   refine⟨⟨_,rfl⟩,Hch1.out.trans Hch2.out,?_⟩
   rw [Hpd.out,if_neg (by simp)]
   exact⟨G2,by rw [E1.out,E2.out];exact H2.out⟩
  | true=>
   go_wp2_with fail
   refine A2.out.mono ?_
   rintro e w3 ⟨rfl,hch3,M3,hl3⟩
   have Hl3:=Lib.hid hl3;have Hch3:=Lib.hid hch3
   clear hl3 hch3
   go_wp2
   go_ret
   refine⟨⟨_,rfl⟩,(Hch1.out.trans Hch2.out).trans (Hch3.out.mono (λb _ hb=>?_)),?_⟩
   ·have h9:=H2.out.base
    rcases hb with rfl|rfl
    ·exact .inl h9.2.2.2.1
    ·exact .inl h9.2.2.2.2.1
   ·rw [Hpd.out,if_pos trivial]
    have hfl3:LineAt w3 (λb=>b<w2.heap.size/\¬ G2.Mut b) J.bl J.blm (n2+1) M3 (qF calls (st.fin.set i true)) (left2 - 1):=by rw [qF_set Hlen.out Hq.out];exact Hl3.out
    have:=PlayAt.finished ok H2.out Hch3.out hfl3 (by rw [Hcf.out];have:=Hn2.out;omega) (by rw [Hcf.out];have:=Hleft2.out;omega)
    refine⟨G2,?_⟩
    show PlayAt R calls w3 J ov cv B0 G2 (stepD S calls st q i).1.wd (stepD S calls st q i).1.obj ((stepD S calls st q i).1.fin.set i true) (mapH (stepD S calls st q i).1.hands) (stepD S calls st q i).1.evs (stepD S calls st q i).1.idle
    rw [E1.out,E2.out]
    exact this
end
end Go.Proofs.Ytlepjmnhekeofaa
