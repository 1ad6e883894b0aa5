/- Layer 10: one that writes: down. -/
import Derived.Test.YtifhldnmcdbpfaaW23
import Derived.Test.YtifhldnmcdbpfaaW04
set_option maxRecDepth 100000
set_option linter.unusedVariables false
set_option linter.unusedSimpArgs false
set_option linter.unnecessarySimpa false
namespace Go.Proofs.Ytifhldnmcdbpfaa
section
open Go.RowKit
variable {w w':World} {Mut:Nat->Prop} {I:dG} {N:Nat} {wd:WD} {bm:Nat} {T:TypeId} {b m p:Nat} {kv:Value} {tv:Value}
theorem aU.gr {w2:World} {N':Nat} {wd':WD} {rest':List Value} {y':dQ} {tv':Value} (h:aU w w' Mut I N' wd' bm rest' T b m p tv y' tv') (hb:Below w'.heap.size w' w2):aU w w2 Mut I N' wd' bm rest' T b m p tv y' tv':=
 ⟨h.way.grown hb,lC h.world hb,h.chg.trans (Chg.of_below hb),h.sub,h.low,h.own⟩
theorem KE {v L:Nat} (hv:v<4096):bits BinOp.and IntKind.u64 ((v:Int) / 2^L) 1=((v / 2^L % 2:Nat):Int):=LD (x:=v) (a:=L) (s:=1) (by unfold U64;omega) (by decide)
def yB (bm:Nat) (u:World):Nat:=match u.cell? ⟨bm,4,none⟩ with
 | some v=>(intOf v).toNat
 | none=>0
theorem zZ {v:Nat} {y:dQ} {L:Nat} (h:y.left=L+1) (hb:v / 2^L % 2=1):downN v (y.turn true).left (y.turn true)=downN v y.left y:=by
 have e:(y.turn true).left=L:=by show y.left - 1=L;omega
 rw [e,h]
 show _=(if v / 2^L % 2=1 then downN v L (y.turn true) else y)
 rw [if_pos hb]
theorem sK {v:Nat} {y:dQ} (h:y.left=0∨∃ L,y.left=L+1/\¬ v / 2^L % 2=1):downN v y.left y=y:=by
 rcases h with h|⟨L,h,hb⟩
 ·rw [h];rfl
 ·rw [h]
  show(if v / 2^L % 2=1 then downN v L (y.turn true) else y)=y
  rw [if_neg hb]
set_option maxHeartbeats 4000000 in
theorem CW (x:WrD) (hw:aM w Mut I N wd) (h:bV w bm (bA x.v false x.nx kv) T b m p x.y tv) (hB:∀ k,bC bm tv k->Mut k/\¬ aW I k) (hok:fZ m x) (hu:x.up=false) (hm:m<=12) :
  Calls Try.prog 157 #[.pointer (some ⟨bm,0,none⟩)] w λe w'=>e=.returned (.tuple #[])/\∃ tv',aU w w' Mut I N wd bm (bA x.down.v x.down.up x.down.nx kv) T b m p tv x.down.y tv'/\Chg (bC bm tv) w w':=by
 have hst:=aU.refl hw h hB
 have Hst:=Lib.hid hst
 have hv:=hok.v
 have hv2:x.v<4096:=Nat.lt_of_lt_of_le hv (Nat.pow_le_pow_right (n:=2) (by decide) hm)
 have Hok:=Lib.hid hok
 obtain⟨v,hve⟩:∃ v,v=x.v:=⟨_,rfl⟩
 obtain⟨nx,hnx⟩:∃ nx,nx=x.nx:=⟨_,rfl⟩
 rw [<-hve,<-hnx] at Hst
 have Hve:=Lib.hid hve;have Hnx:=Lib.hid hnx;have Hu:=Lib.hid hu
 rw [<-hve] at hv2
 have Hm:=Lib.hid hm;have Hv2:=Lib.hid hv2
 obtain⟨X,hX⟩:∃ X,X=x.down:=⟨_,rfl⟩
 rw [<-hX]
 have HX:=Lib.hid hX
 clear hw h hB hok hu hst hve hnx hv hX hm
 go_enter Try.func157,Try.ntmps157
 go_wp2
 go_loopw [] (λwr=>∃ y' tv',aU w wr Mut I N wd bm (bA v false nx kv) T b m p tv y' tv'/\downN v y'.left y'=downN v x.y.left x.y/\fB m y'/\Chg (bC bm tv) w wr) (λwr=>yB bm wr)
 case atStart=>exact⟨_,_,Hst.out,rfl,Hok.out.way,Chg.refl _ _⟩
 case round=>
  obtain⟨y',tv',hto,hdn,hwok,hch⟩:=hrel
  have Hch:=Lib.hid hch
  clear hch
  have hbk:=hto.way.blk
  have c7:wr.cell? ⟨bm,7,none⟩=some (.int .u64 (v:Int)):=by rw [aA hbk];rfl
  obtain⟨L9,hL9⟩:∃ L9,L9=y'.left:=⟨_,rfl⟩
  have c4:wr.cell? ⟨bm,4,none⟩=some (.int .i64 (L9:Int)):=by rw [aA hbk,hL9];rfl
  have lenk:=hwok.len
  have hm:=Hm.out
  cases L9 with
  | zero=>
   have hxy:downN v x.y.left x.y=y':=by rw [<-hdn];exact sK (.inl hL9.symm)
   have hl12:y'.turns.length<=12:=by omega
   have WE:=Lib.hid hl12
   have Hto:=Lib.hid hto;have Hxy:=Lib.hid hxy;have HL:=Lib.hid hL9
   clear hbk hdn hwok lenk hto hxy hL9
   go_wp2_with fail
   go_quiet (fail)
   have WE2:=Lib.hid (show Calls Try.prog 159 #[.pointer (some ⟨bm,0,none⟩)] (wr.drewN nq) (λe w'=>e=.returned (.tuple #[])/\∃ kI,aU w w' Mut I N wd bm (bA X.v X.up X.nx kv) T b m p tv X.y kI/\Chg (bC bm tv) w w') from by
    have pJ:=Hto.out.gr (below_drewN (Gr.refl wr) nq)
    refine(JY hl12 pJ.way).mono ?_
    rintro e w3 ⟨rfl,h1,h2⟩
    have h3:=aU.of_put pJ.world pJ.way pJ.muts h1 h2 rfl
    have e9:X=({ x with y:=y' }:WrD).fin:=by
     rw [HX.out];unfold WrD.down
     have e8:downN x.v x.y.left x.y=y':=by rw [<-Hve.out];exact Hxy.out
     rw [e8,if_pos HL.out.symm]
    refine⟨rfl,tv',?_,(Hch.out.drewN nq).trans (h1.mono (λk _ e=>.inl e))⟩
    rw [e9]
    have h4:=pJ.trans h3
    rw [Hve.out] at h4
    exact h4)
   have q4:(wr.drewN nq).cell? ⟨bm,4,none⟩=some (.int .i64 0):=c4
   clear Hto WE
   go_wp2_with (go_at_call 159;refine(WE2.out).mono ?_;rintro e w3 ⟨rfl,h1⟩)
   go_end0
   exact⟨rfl,h1⟩
  | succ L=>
   have hLi:(L:Int)<=11:=by omega
   have e1:(((L+1:Nat):Int))=(L:Int)+1:=by omega
   rw [e1] at c4
   have w1:IntKind.i64.wrap ((L:Int)+1 - 1)=(L:Int):=by rw [IntKind.wrap_i64];omega
   have hbv:=KE (L:=L) Hv2.out
   have q4':wr.cell? ⟨bm,4,none⟩=some (.int .i64 ((L:Int)+1)):=c4
   by_cases hbit:v / 2^L % 2=1
   ·have t1:(bits BinOp.and IntKind.u64 ((v:Int) / 2^L) 1 == 1)=true:=by rw [hbv,hbit];rfl
    have hnext:=(zZ hL9.symm hbit).trans hdn
    have hok2:=hwok.turn (by omega) true
    have UI:=hwok.klt (by omega)
    have VQ:y'.k<4096:=Nat.lt_of_lt_of_le UI (Nat.pow_le_pow_right (n:=2) (by decide) hm)
    have Hto:=Lib.hid hto
    have TN:=Lib.hid (λ(nq:Nat)=>(by
     have pJ:=Hto.out.gr (below_drewN (Gr.refl wr) nq)
     refine(aU.turned2 true pJ.world pJ.way pJ.muts (by omega) (by omega) (by omega) (by omega)).mono ?_
     rintro e w3 ⟨rfl,kI,h2,h2c⟩
     exact⟨rfl,kI,pJ.trans h2,BS (Hch.out.drewN nq) h2c (λq hq hs=>(Hto.out.sub q hs).elim id (λh9=>absurd hq (Nat.not_lt.2 h9)))⟩:Calls Try.prog 158 #[.pointer (some ⟨bm,0,none⟩),.bool true] (wr.drewN nq) (λe w'=>e=.returned (.tuple #[])/\∃ kI,aU w w' Mut I N wd bm (bA v false nx kv) T b m p tv (y'.turn true) kI/\Chg (bC bm tv) w w')))
    have Hnext:=Lib.hid hnext;have Hok2:=Lib.hid hok2;have HL:=Lib.hid hL9
    clear hbk hdn hwok lenk hto hbv hbit hnext hok2 UI VQ hL9 Hto
    go_wp2_with fail
    go_quiet (fail)
    go_wp2_with (go_at_call 158;refine(TN.out nq).mono ?_;rintro e w3 ⟨rfl,kI,h3,hc3⟩)
    go_roundw
    case rel=>exact⟨_,kI,h3,Hnext.out,Hok2.out,hc3⟩
    case measure=>
     have e3:yB bm w3=(y'.turn true).left:=by unfold yB;rw [aA h3.way.blk];simp [jM,intOf]
     have e4:yB bm wr=L+1:=by unfold yB;rw [q4'];simp [intOf]
     have e5:(y'.turn true).left=L:=by show y'.left - 1=L;have:=HL.out;omega
     omega
   ·have t1:(bits BinOp.and IntKind.u64 ((v:Int) / 2^L) 1 == 1)=false:=by
     rw [hbv]
     have h9:v / 2^L % 2=0:=by omega
     rw [h9];rfl
    have hxy:downN v x.y.left x.y=y':=by rw [<-hdn];exact sK (.inr ⟨L,hL9.symm,hbit⟩)
    have e9:X={ x with y:=y' }:=by
     rw [HX.out];unfold WrD.down
     have e8:downN x.v x.y.left x.y=y':=by rw [<-Hve.out];exact hxy
     rw [e8,if_neg (by omega)]
    have Fin:=Lib.hid (λ(nq:Nat)=>(by
     have pJ:=hto.gr (below_drewN (Gr.refl wr) nq)
     rw [e9]
     rw [Hve.out,Hnx.out] at pJ
     show aU w (wr.drewN nq) Mut I N wd bm (bA x.v x.up x.nx kv) T b m p tv y' tv'
     rw [Hu.out];exact pJ:aU w (wr.drewN nq) Mut I N wd bm (bA X.v X.up X.nx kv) T b m p tv X.y tv'))
    clear hbk hdn hwok lenk hto hbv hbit hxy e9 hL9
    go_wp2_with fail
    go_quiet (fail)
    have q4:(wr.drewN nq).cell? ⟨bm,4,none⟩=some (.int .i64 ((L:Int)+1)):=q4'
    have l9:((L:Int)+1 == 0)=false:=by simp;omega
    have l8:¬ (L:Int)+1=0:=by omega
    go_wp2
    go_end0
    exact⟨rfl,tv',Fin.out nq,Hch.out.drewN nq⟩
end
section
open Go.RowKit
def gX (val:Nat) (kv:Value):List Value:=[.int .u64 (val:Int),kv]
variable {w w' w2:World} {Mut:Nat->Prop} {I:dG} {N N' N2:Nat} {wd wd' wd2:WD} {bm:Nat} {rest rest' mH:List Value} {T:TypeId} {b m p:Nat} {y y' y2:dQ} {tv tv' kI kv:Value}
theorem aU.mutUp (h:aU w w' Mut I N' wd' bm rest' T b m p tv y' tv') (hB:∀ k,bC bm tv k->Mut k/\¬ aW I k):aV Mut w (aT Mut (bC bm tv) (bC bm tv')):=λk hk=>by
 rcases hk with⟨h1,_⟩|h1
 ·exact .inl h1
 ·rcases h.sub k h1 with h9|h9
  ·exact .inl (hB k h9).1
  ·exact .inr h9
theorem aU.lst {l:List Int} (h:aU w w' Mut I N' wd' bm rest' T b m p tv y' tv') (hw:aM w Mut I N wd) (hB:∀ k,bC bm tv k->Mut k/\¬ aW I k) (hl:Lst w Mut kv l):Lst w' (aT Mut (bC bm tv) (bC bm tv')) kv l:=
 hl.keep h.chg (λk hk=>hk.elim (hw.muts k) (λh9=>(hB k h9).1)) (h.mutUp hB)
theorem aU.put (h:aU w w' Mut I N' wd' bm rest' T b m p tv y' tv') (hc:Chg (λk=>k=bm) w' w2) (hb:w2.heap[bm]?=some (.cells (jM b m p y' tv'++mH).toArray T (0,0))):aU w w2 Mut I N' wd' bm mH T b m p tv y' tv':=
 h.trans (by
  have h3:=aU.of_put h.world h.way h.muts hc hb rfl
  exact h3)
theorem aU.put_lst {l:List Int} (h:aU w w' Mut I N' wd' bm rest' T b m p tv y' tv') (hc:Chg (λk=>k=bm) w' w2) (hl:Lst w' (aT Mut (bC bm tv) (bC bm tv')) kv l):Lst w2 (aT Mut (bC bm tv) (bC bm tv')) kv l:=
 hl.keep hc (λk hk=>by cases hk;exact(h.muts bm (.inl rfl)).1) (aV.refl _ _)
structure nZ (m:Nat) (x:RdD):Prop where
 way:fB m x.y
 val:x.val<2^x.y.turns.length
theorem nZ.step {x:RdD} (h:nZ m x) (b p:Nat) (wd:WD) (hl:0<x.y.left):nZ m (rdStep b p wd x).2.1:=by
 have h1:=(h.way.look wd).turn hl (eF wd b x.y)
 have h2:2*x.val+(eF wd b x.y).toNat<2^((x.y.look wd).turn (eF wd b x.y)).turns.length:=by
  show _<2^(x.y.turns++[_]).length
  rw [List.length_append,List.length_singleton,Nat.pow_succ]
  have:=h.val
  have:(eF wd b x.y).toNat<=1:=by cases eF wd b x.y<;>decide
  omega
 unfold rdStep
 split
 ·exact⟨h1,h2⟩
 ·exact⟨h1,h2⟩
theorem nZ.init (m:Nat):nZ m ⟨eP m,0,[]⟩:=⟨fB.init m,by show 0<2^0;decide⟩
def SH (w w':World) (Mut:Nat->Prop) (I:dG) (N:Nat) (wd':WD) (bm:Nat) (T:TypeId) (b m p:Nat) (tv:Value) (x':RdD):Prop:=
 ∃ tv' kv',aU w w' Mut I N wd' bm (gX x'.val kv') T b m p tv x'.y tv'/\Lst w' (aT Mut (bC bm tv) (bC bm tv')) kv' x'.ky
set_option maxHeartbeats 4000000 in
theorem LH (x:RdD) (hw:aM w Mut I N wd) (h:bV w bm (gX x.val kv) T b m p x.y tv) (hkv:Lst w Mut kv x.ky) (hB:∀ k,bC bm tv k->Mut k/\¬ aW I k) (hok:nZ m x) (hl:0<x.y.left) (hm:m<=12) (kQ:b+2^m<=1000000) (hT:iT wd) (hnow:wd.now<=1000000) (hp:p<16) (hc:wd.mem.c.all+1<1000000000000) :
  Calls Try.prog 163 #[.pointer (some ⟨bm,0,none⟩),.pointer (some ⟨I.bW,0,none⟩)] w λe w'=>e=.returned (.bool (rdStep b p wd x).2.2)/\SH w w' Mut I N (rdStep b p wd x).1 bm T b m p tv (rdStep b p wd x).2.1:=by
 have hklt:=hok.way.klt hl
 have hlen:=hok.way.len
 have hk1:=hok.way.k1
 have AU:2^m<=4096:=Nat.pow_le_pow_right (n:=2) (by decide) hm
 have hval:x.val<4096:=Nat.lt_of_lt_of_le (Nat.lt_of_lt_of_le hok.val (Nat.pow_le_pow_right (n:=2) (by decide) (show x.y.turns.length<=m by omega))) AU
 have LK:=Lib.hid (wZ hw h hB hc hk1 (by omega))
 obtain⟨r,hr⟩:∃ r,r=eF wd b x.y:=⟨_,rfl⟩
 obtain⟨mP,nC⟩:∃ mP,mP=dJ wd (b+x.y.k - 1):=⟨_,rfl⟩
 rw [<-hr,<-nC] at LK
 have hT1:iT mP:=by rw [nC];exact hT.read _
 obtain⟨y1,hy1⟩:∃ y1,y1=(x.y.look wd).turn r:=⟨_,rfl⟩
 have hok1:fB m y1:=by rw [hy1];exact(hok.way.look wd).turn hl r
 have hlast:y1.last<=1000000:=by rw [hy1];exact hnow
 have TN:=Lib.hid (λ(u:World) (hu:aU w u Mut I N mP bm (gX x.val kv) T b m p tv (x.y.look wd) tv)=>(by
  refine(aU.turned r hu.world hu.way hu.muts (by show x.y.k<=_;omega) hl (by show x.y.left<=_;omega) (by show x.y.turns.length<=_;omega)).mono ?_
  rintro e w3 ⟨rfl,kI,h2⟩
  exact⟨rfl,kI,by rw [hy1];exact hu.trans h2⟩:Calls Try.prog 158 #[.pointer (some ⟨bm,0,none⟩),.bool r] u (λe w'=>e=.returned (.tuple #[])/\∃ kI,aU w w' Mut I N mP bm (gX x.val kv) T b m p tv y1 kI)))
 have KY:=Lib.hid (λ(u:World) (vl:Nat) (kI:Value) (hu:aU w u Mut I N mP bm (gX vl kv) T b m p tv y1 kI)=>CS hu.world hu.way hp hok1 hm kQ hT1 hlast)
 have Lk:=Lib.hid (λ(u:World) (vl:Nat) (kI:Value) (hu:aU w u Mut I N mP bm (gX vl kv) T b m p tv y1 kI)=>hu.lst hw hB hkv)
 have hstep:rdStep b p wd x=if 0<y1.left then (mP,⟨y1,2*x.val+r.toNat,x.ky⟩,false) else (mP,⟨y1,2*x.val+r.toNat,mV b p mP y1⟩,true):=by rw [hy1,nC,hr];rfl
 obtain⟨R,hR⟩:∃ R,R=rdStep b p wd x:=⟨_,rfl⟩
 rw [<-hR]
 rw [hstep] at hR
 obtain⟨vl,hvl⟩:∃ vl,vl=x.val:=⟨_,rfl⟩
 rw [<-hvl] at LK TN hval hR
 obtain⟨ky,hky⟩:∃ ky,ky=x.ky:=⟨_,rfl⟩
 rw [<-hky] at Lk hR
 have HR:=Lib.hid hR
 clear hw h hkv hB hok hl hm kQ hT hnow hp hc hklt hlen hk1 AU hr nC hT1 hy1 hok1 hlast hstep hvl hky hR
 have w2v:IntKind.u64.wrap ((vl:Int)*2)=(vl:Int)*2:=by rw [IntKind.wrap_u64];omega
 have w2v1:IntKind.u64.wrap ((vl:Int)*2+1)=(vl:Int)*2+1:=by rw [IntKind.wrap_u64];omega
 go_enter Try.func163,Try.ntmps163
 go_upto_region 3 with(first|(go_at_call 164;refine LK.out.mono ?_;rintro e w1 ⟨rfl,h1⟩)|(go_at_call 158;refine(TN.out _ h1).mono ?_;rintro e w2 ⟨rfl,kI,h2⟩))
 have hb2:=h2.way.blk
 have c7:w2.cell? ⟨bm,7,none⟩=some (.int .u64 (vl:Int)):=by rw [aA hb2];rfl
 have c4:w2.cell? ⟨bm,4,none⟩=some (.int .i64 (y1.left:Int)):=by rw [aA hb2];rfl
 have f7:=aB hb2 7
 obtain⟨v2,hv2⟩:∃ v2,v2=2*vl+r.toNat:=⟨_,rfl⟩
 obtain⟨w3,hw3⟩:∃ w3,w3=(if r=true then ((w2.setCell ⟨bm,7,none⟩ (.int .u64 ((vl:Int)*2))).setCell ⟨bm,7,none⟩ (.int .u64 ((vl:Int)*2+1))) else w2.setCell ⟨bm,7,none⟩ (.int .u64 ((vl:Int)*2))):=⟨_,rfl⟩
 have hb3:w3.heap[bm]?=some (.cells (jM b m p y1 kI++gX v2 kv).toArray T (0,0))/\Chg (λk=>k=bm) w2 w3:=by
  rw [hw3,hv2]
  cases r with
  | true=>
   rw [if_pos rfl]
   refine⟨?_,((Chg.refl (λk=>k=bm) w2).setCell (by exact .inl rfl) _).setCell (by exact .inl rfl) _⟩
   rw [aH (aH hb2 _ _)]
   unfold gX
   rw [show((2*vl+true.toNat:Nat):Int)=(vl:Int)*2+1 by simp;omega];rfl
  | false=>
   rw [if_neg Bool.false_ne_true]
   refine⟨?_,(Chg.refl (λk=>k=bm) w2).setCell (by exact .inl rfl) _⟩
   rw [aH hb2]
   unfold gX
   rw [show((2*vl+false.toNat:Nat):Int)=(vl:Int)*2 by simp;omega];rfl
 have h3:=h2.put hb3.2 hb3.1
 have K3:=Lib.hid (KY.out w3 v2 kI h3)
 have L3:=Lib.hid (Lk.out w3 v2 kI h3)
 have d4:w3.cell? ⟨bm,4,none⟩=some (.int .i64 (y1.left:Int)):=by rw [aA hb3.1];rfl
 have RP:=aC hb3.1
 have d8:w3.cell? ⟨bm,8,none⟩=some kv:=by rw [aA hb3.1];rfl
 have g8:=aB hb3.1 8
 have H3:=Lib.hid h3;have Hb3:=Lib.hid hb3.1
 have HR2:=HR.out
 rw [<-hv2] at HR2
 have HR3:=Lib.hid HR2
 clear h1 h2 hb2 hb3 h3 LK TN KY Lk hv2 HR HR2
 cases r with
 | true=>
  rw [if_pos rfl] at hw3
  have Hw3:=Lib.hid hw3
  clear hw3
  go_upto_region 6 with fail
  rw [<-Hw3.out]
  clear c7 c4 f7 Hw3
  by_cases hle:0<y1.left
  ·have l1:(0:Int)<(y1.left:Int):=by omega
   have e:=HR3.out
   rw [if_pos hle] at e
   have E:=Lib.hid e
   clear e
   go_wp2
   go_ret
   rw [E.out]
   exact⟨rfl,kI,kv,H3.out,L3.out⟩
  ·have l1:¬ (0:Int)<(y1.left:Int):=by omega
   have e:=HR3.out
   rw [if_neg hle] at e
   have E:=Lib.hid e
   clear e
   go_wp2_with (go_at_call 165;refine K3.out.mono ?_;rintro e w4 ⟨⟨va,vn,vc,rfl,hlv⟩,hb4⟩;have e8:=(hb4.cell (p:=⟨bm,8,none⟩) RP).trans d8;have ef:=(hb4.frozen (p:=⟨bm,8,none⟩) RP).trans g8)
   go_ret
   rw [E.out]
   have lY:Chg (λk=>k=bm) w4 (w4.setCell ⟨bm,8,none⟩ (.slice va vn vc)):=(Chg.refl (λk=>k=bm) w4).setCell (by exact .inl rfl) _
   have h4:=H3.out.gr hb4
   exact⟨rfl,kI,.slice va vn vc,h4.put lY (by rw [aH h4.way.blk];rfl),h4.put_lst lY hlv⟩
 | false=>
  rw [if_neg Bool.false_ne_true] at hw3
  have Hw3:=Lib.hid hw3
  clear hw3
  go_upto_region 6 with fail
  rw [<-Hw3.out]
  clear c7 c4 f7 Hw3
  by_cases hle:0<y1.left
  ·have l1:(0:Int)<(y1.left:Int):=by omega
   have e:=HR3.out
   rw [if_pos hle] at e
   have E:=Lib.hid e
   clear e
   go_wp2
   go_ret
   rw [E.out]
   exact⟨rfl,kI,kv,H3.out,L3.out⟩
  ·have l1:¬ (0:Int)<(y1.left:Int):=by omega
   have e:=HR3.out
   rw [if_neg hle] at e
   have E:=Lib.hid e
   clear e
   go_wp2_with (go_at_call 165;refine K3.out.mono ?_;rintro e w4 ⟨⟨va,vn,vc,rfl,hlv⟩,hb4⟩;have e8:=(hb4.cell (p:=⟨bm,8,none⟩) RP).trans d8;have ef:=(hb4.frozen (p:=⟨bm,8,none⟩) RP).trans g8)
   go_ret
   rw [E.out]
   have lY:Chg (λk=>k=bm) w4 (w4.setCell ⟨bm,8,none⟩ (.slice va vn vc)):=(Chg.refl (λk=>k=bm) w4).setCell (by exact .inl rfl) _
   have h4:=H3.out.gr hb4
   exact⟨rfl,kI,.slice va vn vc,h4.put lY (by rw [aH h4.way.blk];rfl),h4.put_lst lY hlv⟩
end
end Go.Proofs.Ytifhldnmcdbpfaa
