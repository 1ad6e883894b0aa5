/- Layer 10: one that writes makes a step. -/
import Derived.Test.YtifhldnmcdbpfaaW24
set_option maxRecDepth 100000
set_option linter.unusedVariables false
set_option linter.unusedSimpArgs false
set_option linter.unnecessarySimpa false
namespace Go.Proofs.Ytifhldnmcdbpfaa
open Go.RowKit
variable {w w' w2:World} {Mut:Nat->Prop} {I:dG} {N N' N2:Nat} {wd wd' wd2:WD} {bm:Nat} {rest rest' mH:List Value} {T:TypeId} {b m p:Nat} {y y' y2:dQ} {tv tv' kI kv:Value}
theorem aU.more (h:aU w w' Mut I N' wd' bm rest' T b m p tv y' tv') (hN:N'<=N2) (hl:N2<1000000000):aU w w' Mut I N2 wd' bm rest' T b m p tv y' tv':=⟨h.way,h.world.more hN hl,h.chg,h.sub,h.low,h.own⟩
def GJ (w w':World) (Mut:Nat->Prop) (I:dG) (N:Nat) (wd':WD) (bm:Nat) (T:TypeId) (b m p:Nat) (tv:Value) (x':WrD):Prop:=
 ∃ tv' kv',aU w w' Mut I N wd' bm (bA x'.v x'.up x'.nx kv') T b m p tv x'.y tv'/\Lst w' (aT Mut (bC bm tv) (bC bm tv')) kv' x'.ky
theorem vB {b p:Nat} {wd mP:WD} {x X:WrD} (h:dE b wd x=(mP,X)):aO b p wd x=if X.done=true then (mP,{ X with ky:=mV b p mP X.y },true) else (mP,X,false):=by
 unfold aO;rw [h]
theorem LM (b:Nat) (wd:WD) (x:WrD):(dE b wd x).2.ky=x.ky:=by
 unfold dE
 split
 ·rfl
 ·split
  ·rfl
  ·unfold WrD.down;split<;>rfl
theorem vX {x X:WrD} {mP:WD} (hg:dE b wd x=(mP,X)) (hw:aM w Mut I N wd) (hB:∀ k,bC bm tv k->Mut k/\¬ aW I k) (hkv:Lst w Mut kv x.ky) (hok:fZ m X) (hm:m<=12) (kQ:b+2^m<=1000000) (hT:iT mP) (hl:X.y.last<=1000000) (hp:p<16) :
  ∀(u:World) (tv':Value),aU w u Mut I (N+1) mP bm (bA X.v X.up X.nx kv) T b m p tv X.y tv'->
   (X.done=false->GJ w u Mut I (N+1) (aO b p wd x).1 bm T b m p tv (aO b p wd x).2.1/\(aO b p wd x).2.2=false)/\
   (X.done=true->Calls Try.prog 165 #[.pointer (some ⟨bm,0,none⟩),.pointer (some ⟨I.bW,0,none⟩)] u (λe w'=>∃ va vn vc,e=.returned (.slice va vn vc)/\Below u.heap.size u w'/\GJ w (w'.setCell ⟨bm,10,none⟩ (.slice va vn vc)) Mut I (N+1) (aO b p wd x).1 bm T b m p tv (aO b p wd x).2.1)/\(aO b p wd x).2.2=true):=by
 intro u tv' hu
 have hky:X.ky=x.ky:=by have:=LM b wd x;rw [hg] at this;exact this
 refine⟨λhd=>?_,λhd=>?_⟩
 ·rw [vB hg,if_neg (by rw [hd];exact Bool.false_ne_true)]
  exact⟨⟨tv',kv,hu,by rw [hky];exact hu.lst hw hB hkv⟩,rfl⟩
 ·rw [vB hg,if_pos hd]
  refine⟨(CS hu.world hu.way hp hok.way hm kQ hT hl).mono ?_,rfl⟩
  rintro e w4 ⟨⟨va,vn,vc,rfl,hlv⟩,hb4⟩
  have lY:Chg (λk=>k=bm) w4 (w4.setCell ⟨bm,10,none⟩ (.slice va vn vc)):=(Chg.refl (λk=>k=bm) w4).setCell (by exact .inl rfl) _
  have h4:=hu.gr hb4
  exact⟨va,vn,vc,rfl,hb4,tv',.slice va vn vc,h4.put lY (by rw [aH h4.way.blk];rfl),h4.put_lst lY hlv⟩
set_option maxHeartbeats 4000000 in
theorem vL (x:WrD) (hw:aM w Mut I N wd) (h:bV w bm (bA x.v x.up x.nx kv) T b m p x.y tv) (hkv:Lst w Mut kv x.ky) (hB:∀ k,bC bm tv k->Mut k/\¬ aW I k) (hok:fZ m x) (hm:m<=12) (kQ:b+2^m<=1000000) (hT:iT wd) (hnow:wd.now<=1000000) (hlast:x.y.last<=1000000) (hp:p<16) (hc:wd.mem.c.all+1<1000000000000) (hN:N+1<1000000000) (hu:x.up=false) (hl:0<x.y.left) :
  Calls Try.prog 196 #[.pointer (some ⟨bm,0,none⟩),.pointer (some ⟨I.bW,0,none⟩)] w λe w'=>e=.returned (.bool (aO b p wd x).2.2)/\GJ w w' Mut I (N+1) (aO b p wd x).1 bm T b m p tv (aO b p wd x).2.1:=by
 have hlen:=hok.way.len
 have AU:2^m<=4096:=Nat.pow_le_pow_right (n:=2) (by decide) hm
 have hklt:=hok.way.klt hl
 have hk1:=hok.way.k1
 have hgo:=hok.go b wd (λ_=>hl)
 have LK:=Lib.hid (wZ hw h hB hc hk1 (by omega))
 obtain⟨r,hr⟩:∃ r,r=eF wd b x.y:=⟨_,rfl⟩
 obtain⟨mP,nC⟩:∃ mP,mP=dJ wd (b+x.y.k - 1):=⟨_,rfl⟩
 rw [<-hr,<-nC] at LK
 have hT1:iT mP:=by rw [nC];exact hT.read _
 have c8:w.cell? ⟨bm,8,none⟩=some (.bool false):=by rw [aA h.blk,hu];rfl
 obtain⟨R,hR⟩:∃ R,R=aO b p wd x:=⟨_,rfl⟩
 rw [<-hR]
 cases r with
 | true=>
  have hg:dE b wd x=(mP,({ x with y:=x.y.look wd }:WrD).fin):=by
   unfold dE
   rw [if_neg (by rw [hu];exact Bool.false_ne_true),if_pos (by have:=hr.symm;unfold eF at this;simpa using this),<-nC]
  obtain⟨X,hX⟩:∃ X,X=({ x with y:=x.y.look wd }:WrD).fin:=⟨_,rfl⟩
  rw [<-hX] at hg
  rw [hg] at hgo
  have TL:=vX hg hw hB hkv hgo hm kQ hT1 (by rw [hX];exact hnow) hp (T:=T) (bm:=bm) (N:=N)
  rw [<-hR] at TL
  have EN:=Lib.hid (λ(u:World) (hu2:aU w u Mut I N mP bm (bA x.v x.up x.nx kv) T b m p tv (x.y.look wd) tv)=>(by
   refine(JY (by show x.y.turns.length<=12;omega) hu2.way).mono ?_
   rintro e w3 ⟨rfl,h1,h2⟩
   have h9:=(hu2.put h1 h2).more (Nat.le_succ N) hN
   exact⟨rfl,by rw [hX];exact h9⟩:Calls Try.prog 159 #[.pointer (some ⟨bm,0,none⟩)] u (λe w'=>e=.returned (.tuple #[])/\aU w w' Mut I (N+1) mP bm (bA X.v X.up X.nx kv) T b m p tv X.y tv)))
  have TL:=Lib.hid TL
  clear hw h hkv hB hok hm kQ hT hnow hlast hp hc hN hu hl hlen AU hklt hk1 hgo hr nC hT1 hR hg hX
  go_enter Try.func196,Try.ntmps196
  go_upto_region 12 with(first|(go_at_call 164;refine LK.out.mono ?_;rintro e w1 ⟨rfl,h1⟩)|(go_at_call 159;refine(EN.out _ h1).mono ?_;rintro e w2 ⟨rfl,h2⟩))
  clear h1 EN LK
  have hx:=TL.out _ _ h2
  have hbx:=h2.way.blk
  have c8:(w2).cell? ⟨bm,8,none⟩=some (.bool X.up):=by rw [aA hbx];rfl
  have c9:(w2).cell? ⟨bm,9,none⟩=some (.int .i64 ((X.nx:Int) - 1)):=by rw [aA hbx];rfl
  have c10:(w2).cell? ⟨bm,10,none⟩=some kv:=by rw [aA hbx];rfl
  have g10:=aB hbx 10
  have lbx:=aC hbx
  obtain⟨vT,mW⟩:∃ vT,vT=X.up:=⟨_,rfl⟩
  obtain⟨sS,mK⟩:∃ sS,sS=X.nx:=⟨_,rfl⟩
  rw [<-mW] at c8
  rw [<-mK] at c9
  have hdone:X.done=(vT && decide (sS=0)):=by rw [mW,mK];rfl
  rw [hdone] at hx
  obtain⟨hx1,hx2⟩:=hx
  clear hbx mW mK hdone h2
  cases vT with
  | false=>
   obtain⟨f1,f2⟩:=hx1 rfl
   have F1:=Lib.hid f1;have F2:=Lib.hid f2
   clear f1 f2 hx1 hx2
   go_wp2
   go_ret
   exact⟨by rw [F2.out];rfl,F1.out⟩
  | true=>
   by_cases h0:sS=0
   ·subst h0
    obtain⟨k1,f2⟩:=hx2 rfl
    have K1:=Lib.hid k1;have F2:=Lib.hid f2
    clear k1 f2 hx1 hx2
    have c9':(w2).cell? ⟨bm,9,none⟩=some (.int .i64 (-1)):=c9
    clear c9
    go_wp2_with (go_at_call 165;refine K1.out.mono ?_;rintro e w8 ⟨va,vn,vc,rfl,nI,f1⟩;have e8:=(nI.cell (p:=⟨bm,10,none⟩) lbx).trans c10;have ef:=(nI.frozen (p:=⟨bm,10,none⟩) lbx).trans g10;have F1:=Lib.hid f1;clear f1)
    go_ret
    exact⟨by rw [F2.out];rfl,F1.out⟩
   ·obtain⟨f1,f2⟩:=hx1 (by simp [h0])
    have F1:=Lib.hid f1;have F2:=Lib.hid f2
    have l9:(0:Int)<=(sS:Int) - 1:=by omega
    clear f1 f2 hx1 hx2
    go_wp2
    go_ret
    exact⟨by rw [F2.out];rfl,F1.out⟩
 | false=>
  have hg:dE b wd x=(mP,({ x with y:=(x.y.look wd).turn false }:WrD).down):=by
   unfold dE
   rw [if_neg (by rw [hu];exact Bool.false_ne_true),if_neg (by have:=hr.symm;unfold eF at this;simpa using this),<-nC]
  obtain⟨X1,hX1⟩:∃ X1,X1=({ x with y:=(x.y.look wd).turn false }:WrD):=⟨_,rfl⟩
  obtain⟨X,hX⟩:∃ X,X=X1.down:=⟨_,rfl⟩
  rw [<-hX1,<-hX] at hg
  rw [hg] at hgo
  have hok1:fZ m X1:=by rw [hX1];exact hok.way' hu ((hok.way.look wd).turn hl false) (by simp [dQ.turn,dQ.look])
  have hu1:X1.up=false:=by rw [hX1];exact hu
  have hlastX:X.y.last<=1000000:=by
   have e1:∀(v n:Nat) (y:dQ),(downN v n y).last=y.last:=λv n=>by
    induction n with
    | zero=>exact λy=>rfl
    | succ n ih=>
     intro y
     show(if v / 2^n % 2=1 then downN v n (y.turn true) else y).last=y.last
     split
     ·rw [ih];rfl
     ·rfl
   have e2:X.y.last=X1.y.last:=by
    rw [hX];unfold WrD.down
    split
    ·exact e1 _ _ _
    ·exact e1 _ _ _
   rw [e2,hX1];exact hnow
  have TL:=vX hg hw hB hkv hgo hm kQ hT1 hlastX hp (T:=T) (bm:=bm) (N:=N)
  rw [<-hR] at TL
  have TN:=Lib.hid (λ(u:World) (hu2:aU w u Mut I N mP bm (bA x.v x.up x.nx kv) T b m p tv (x.y.look wd) tv)=>(by
   refine(aU.turned false hu2.world hu2.way hu2.muts (by show x.y.k<=_;omega) hl (by show x.y.left<=_;omega) (by show x.y.turns.length<=_;omega)).mono ?_
   rintro e w3 ⟨rfl,kI,h2⟩
   exact⟨rfl,kI,by rw [hX1];exact hu2.trans h2⟩:Calls Try.prog 158 #[.pointer (some ⟨bm,0,none⟩),.bool false] u (λe w'=>e=.returned (.tuple #[])/\∃ kI,aU w w' Mut I N mP bm (bA X1.v X1.up X1.nx kv) T b m p tv X1.y kI)))
  have DN:=Lib.hid (λ(u:World) (kI:Value) (hu2:aU w u Mut I N mP bm (bA X1.v X1.up X1.nx kv) T b m p tv X1.y kI)=>(by
   have h9:=hu2.way
   rw [hu1] at h9
   refine(CW X1 hu2.world h9 hu2.muts hok1 hu1 hm).mono ?_
   rintro e w3 ⟨rfl,PM,h2,_⟩
   have h8:=(hu2.trans h2).more (Nat.le_succ N) hN
   exact⟨rfl,PM,by rw [hX];exact h8⟩:Calls Try.prog 157 #[.pointer (some ⟨bm,0,none⟩)] u (λe w'=>e=.returned (.tuple #[])/\∃ PM,aU w w' Mut I (N+1) mP bm (bA X.v X.up X.nx kv) T b m p tv X.y PM)))
  have TL:=Lib.hid TL
  clear hw h hkv hB hok hm kQ hT hnow hlast hp hc hN hu hl hlen AU hklt hk1 hgo hr nC hT1 hR hg hX hX1 hok1 hu1 hlastX
  go_enter Try.func196,Try.ntmps196
  go_upto_region 12 with(first|(go_at_call 164;refine LK.out.mono ?_;rintro e w1 ⟨rfl,h1⟩)|(go_at_call 158;refine(TN.out _ h1).mono ?_;rintro e w2 ⟨rfl,kI,h2⟩)|(go_at_call 157;refine(DN.out _ _ h2).mono ?_;rintro e w3 ⟨rfl,PM,h3⟩))
  clear h1 h2 LK TN DN
  have hx:=TL.out _ _ h3
  have hbx:=h3.way.blk
  have c8:(w3).cell? ⟨bm,8,none⟩=some (.bool X.up):=by rw [aA hbx];rfl
  have c9:(w3).cell? ⟨bm,9,none⟩=some (.int .i64 ((X.nx:Int) - 1)):=by rw [aA hbx];rfl
  have c10:(w3).cell? ⟨bm,10,none⟩=some kv:=by rw [aA hbx];rfl
  have g10:=aB hbx 10
  have lbx:=aC hbx
  obtain⟨vT,mW⟩:∃ vT,vT=X.up:=⟨_,rfl⟩
  obtain⟨sS,mK⟩:∃ sS,sS=X.nx:=⟨_,rfl⟩
  rw [<-mW] at c8
  rw [<-mK] at c9
  have hdone:X.done=(vT && decide (sS=0)):=by rw [mW,mK];rfl
  rw [hdone] at hx
  obtain⟨hx1,hx2⟩:=hx
  clear hbx mW mK hdone h3
  cases vT with
  | false=>
   obtain⟨f1,f2⟩:=hx1 rfl
   have F1:=Lib.hid f1;have F2:=Lib.hid f2
   clear f1 f2 hx1 hx2
   go_wp2
   go_ret
   exact⟨by rw [F2.out];rfl,F1.out⟩
  | true=>
   by_cases h0:sS=0
   ·subst h0
    obtain⟨k1,f2⟩:=hx2 rfl
    have K1:=Lib.hid k1;have F2:=Lib.hid f2
    clear k1 f2 hx1 hx2
    have c9':(w3).cell? ⟨bm,9,none⟩=some (.int .i64 (-1)):=c9
    clear c9
    go_wp2_with (go_at_call 165;refine K1.out.mono ?_;rintro e w8 ⟨va,vn,vc,rfl,nI,f1⟩;have e8:=(nI.cell (p:=⟨bm,10,none⟩) lbx).trans c10;have ef:=(nI.frozen (p:=⟨bm,10,none⟩) lbx).trans g10;have F1:=Lib.hid f1;clear f1)
    go_ret
    exact⟨by rw [F2.out];rfl,F1.out⟩
   ·obtain⟨f1,f2⟩:=hx1 (by simp [h0])
    have F1:=Lib.hid f1;have F2:=Lib.hid f2
    have l9:(0:Int)<=(sS:Int) - 1:=by omega
    clear f1 f2 hx1 hx2
    go_wp2
    go_ret
    exact⟨by rw [F2.out];rfl,F1.out⟩
end Go.Proofs.Ytifhldnmcdbpfaa
