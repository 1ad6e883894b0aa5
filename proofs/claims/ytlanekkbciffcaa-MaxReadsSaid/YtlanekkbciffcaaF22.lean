/- Layer 10: one that writes makes a step. -/
import Derived.Test.YtlanekkbciffcaaF21
set_option maxRecDepth 100000
set_option linter.unusedVariables false
set_option linter.unusedSimpArgs false
set_option linter.unnecessarySimpa false
namespace Go.Proofs.Ytlanekkbciffcaa
open Go.RowKit
variable {w w' w2:World} {Mut:Nat->Prop} {I:WIds} {N N' N2:Nat} {wd wd' wd2:WD} {bm:Nat} {rest rest' rest2:List Value} {T:TypeId} {b m p:Nat} {y y' y2:WayD} {tv tv' tv2 kv:Value}
theorem WayTo.more (h:WayTo w w' Mut I N' wd' bm rest' T b m p tv y' tv') (hN:N'<=N2) (hl:N2<1000000000):WayTo w w' Mut I N2 wd' bm rest' T b m p tv y' tv':=⟨h.way,h.world.more hN hl,h.chg,h.sub,h.low,h.own⟩
def WrTo (w w':World) (Mut:Nat->Prop) (I:WIds) (N:Nat) (wd':WD) (bm:Nat) (T:TypeId) (b m p:Nat) (tv:Value) (x':WrD):Prop:=
 ∃ tv' kv',WayTo w w' Mut I N wd' bm (wrRest x'.v x'.up x'.nx kv') T b m p tv x'.y tv'/\Lst w' (mutTo Mut (WayB bm tv) (WayB bm tv')) kv' x'.ky
theorem wrStep_go {b p:Nat} {wd wd1:WD} {x X:WrD} (h:wrGo b wd x=(wd1,X)):wrStep b p wd x=if X.done=true then (wd1,{ X with ky:=wayKey b p wd1 X.y },true) else (wd1,X,false):=by
 unfold wrStep;rw [h]
theorem wrGo_ky (b:Nat) (wd:WD) (x:WrD):(wrGo b wd x).2.ky=x.ky:=by
 unfold wrGo
 split
 ·rfl
 ·split
  ·rfl
  ·unfold WrD.down;split<;>rfl
theorem wr_tail {x X:WrD} {wd1:WD} (hg:wrGo b wd x=(wd1,X)) (hw:WorldAt w Mut I N wd) (hB:∀ k,WayB bm tv k->Mut k/\¬ WSet I k) (hkv:Lst w Mut kv x.ky) (hok:WrOk m X) (hm:m<=12) (hb9:b+2^m<=1000000) (hT:TrOk wd1) (hl:X.y.last<=1000000) (hp:p<16) :
  ∀(u:World) (tv':Value),WayTo w u Mut I (N+1) wd1 bm (wrRest X.v X.up X.nx kv) T b m p tv X.y tv'->
   (X.done=false->WrTo w u Mut I (N+1) (wrStep b p wd x).1 bm T b m p tv (wrStep b p wd x).2.1/\(wrStep b p wd x).2.2=false)/\
   (X.done=true->Calls Try.prog 187 #[.pointer (some ⟨bm,0,none⟩),.pointer (some ⟨I.bW,0,none⟩)] u (λe w'=>∃ va vn vc,e=.returned (.slice va vn vc)/\Below u.heap.size u w'/\WrTo w (w'.setCell ⟨bm,10,none⟩ (.slice va vn vc)) Mut I (N+1) (wrStep b p wd x).1 bm T b m p tv (wrStep b p wd x).2.1)/\(wrStep b p wd x).2.2=true):=by
 intro u tv' hu
 have hky:X.ky=x.ky:=by have:=wrGo_ky b wd x;rw [hg] at this;exact this
 refine⟨λhd=>?_,λhd=>?_⟩
 ·rw [wrStep_go hg,if_neg (by rw [hd];exact Bool.false_ne_true)]
  exact⟨⟨tv',kv,hu,by rw [hky];exact hu.lst hw hB hkv⟩,rfl⟩
 ·rw [wrStep_go hg,if_pos hd]
  refine⟨(way_key hu.world hu.way hp hok.way hm hb9 hT hl).mono ?_,rfl⟩
  rintro e w4 ⟨⟨va,vn,vc,rfl,hlv⟩,hb4⟩
  have hc5:Chg (λk=>k=bm) w4 (w4.setCell ⟨bm,10,none⟩ (.slice va vn vc)):=(Chg.refl (λk=>k=bm) w4).setCell (by exact .inl rfl) _
  have h4:=hu.gr hb4
  exact⟨va,vn,vc,rfl,hb4,tv',.slice va vn vc,h4.put hc5 (by rw [blk_set h4.way.blk];rfl),h4.put_lst hc5 hlv⟩
set_option maxHeartbeats 4000000 in
theorem wr_step_down (x:WrD) (hw:WorldAt w Mut I N wd) (h:WayAt w bm (wrRest x.v x.up x.nx kv) T b m p x.y tv) (hkv:Lst w Mut kv x.ky) (hB:∀ k,WayB bm tv k->Mut k/\¬ WSet I k) (hok:WrOk m x) (hm:m<=12) (hb9:b+2^m<=1000000) (hT:TrOk wd) (hnow:wd.now<=1000000) (hlast:x.y.last<=1000000) (hp:p<16) (hc:wd.mem.c.all+1<1000000000000) (hN:N+1<1000000000) (hu:x.up=false) (hl:0<x.y.left) :
  Calls Try.prog 192 #[.pointer (some ⟨bm,0,none⟩),.pointer (some ⟨I.bW,0,none⟩)] w λe w'=>e=.returned (.bool (wrStep b p wd x).2.2)/\WrTo w w' Mut I (N+1) (wrStep b p wd x).1 bm T b m p tv (wrStep b p wd x).2.1:=by
 have hlen:=hok.way.len
 have hp12:2^m<=4096:=Nat.pow_le_pow_right (n:=2) (by decide) hm
 have hklt:=hok.way.klt hl
 have hk1:=hok.way.k1
 have hgo:=hok.go b wd (λ_=>hl)
 have LK:=Lib.hid (way_look hw h hB hc hk1 (by omega))
 obtain⟨r,hr⟩:∃ r,r=rdTurn wd b x.y:=⟨_,rfl⟩
 obtain⟨wd1,hwd1⟩:∃ wd1,wd1=taRead wd (b+x.y.k - 1):=⟨_,rfl⟩
 rw [<-hr,<-hwd1] at LK
 have hT1:TrOk wd1:=by rw [hwd1];exact hT.read _
 have c8:w.cell? ⟨bm,8,none⟩=some (.bool false):=by rw [cell_blk h.blk,hu];rfl
 obtain⟨R,hR⟩:∃ R,R=wrStep b p wd x:=⟨_,rfl⟩
 rw [<-hR]
 cases r with
 | true=>
  have hg:wrGo b wd x=(wd1,({ x with y:=x.y.look wd }:WrD).fin):=by
   unfold wrGo
   rw [if_neg (by rw [hu];exact Bool.false_ne_true),if_pos (by have:=hr.symm;unfold rdTurn at this;simpa using this),<-hwd1]
  obtain⟨X,hX⟩:∃ X,X=({ x with y:=x.y.look wd }:WrD).fin:=⟨_,rfl⟩
  rw [<-hX] at hg
  rw [hg] at hgo
  have TL:=wr_tail hg hw hB hkv hgo hm hb9 hT1 (by rw [hX];exact hnow) hp (T:=T) (bm:=bm) (N:=N)
  rw [<-hR] at TL
  have EN:=Lib.hid (λ(u:World) (hu2:WayTo w u Mut I N wd1 bm (wrRest x.v x.up x.nx kv) T b m p tv (x.y.look wd) tv)=>(by
   refine(wr_end (by show x.y.turns.length<=12;omega) hu2.way).mono ?_
   rintro e w3 ⟨rfl,h1,h2⟩
   have h9:=(hu2.put h1 h2).more (Nat.le_succ N) hN
   exact⟨rfl,by rw [hX];exact h9⟩:Calls Try.prog 127 #[.pointer (some ⟨bm,0,none⟩)] u (λe w'=>e=.returned (.tuple #[])/\WayTo w w' Mut I (N+1) wd1 bm (wrRest X.v X.up X.nx kv) T b m p tv X.y tv)))
  have TL:=Lib.hid TL
  clear hw h hkv hB hok hm hb9 hT hnow hlast hp hc hN hu hl hlen hp12 hklt hk1 hgo hr hwd1 hT1 hR hg hX
  go_enter Try.func192,Try.ntmps192
  go_upto_region 12 with(first|(go_at_call 186;refine LK.out.mono ?_;rintro e w1 ⟨rfl,h1⟩)|(go_at_call 127;refine(EN.out _ h1).mono ?_;rintro e w2 ⟨rfl,h2⟩))
  clear h1 EN LK
  have hx:=TL.out _ _ h2
  have hbx:=h2.way.blk
  have c8:(w2).cell? ⟨bm,8,none⟩=some (.bool X.up):=by rw [cell_blk hbx];rfl
  have c9:(w2).cell? ⟨bm,9,none⟩=some (.int .i64 ((X.nx:Int) - 1)):=by rw [cell_blk hbx];rfl
  have c10:(w2).cell? ⟨bm,10,none⟩=some kv:=by rw [cell_blk hbx];rfl
  have g10:=frozen_blk hbx 10
  have lbx:=blk_lt hbx
  obtain⟨up9,hup9⟩:∃ up9,up9=X.up:=⟨_,rfl⟩
  obtain⟨nx9,hnx9⟩:∃ nx9,nx9=X.nx:=⟨_,rfl⟩
  rw [<-hup9] at c8
  rw [<-hnx9] at c9
  have hdone:X.done=(up9 && decide (nx9=0)):=by rw [hup9,hnx9];rfl
  rw [hdone] at hx
  obtain⟨hx1,hx2⟩:=hx
  clear hbx hup9 hnx9 hdone h2
  cases up9 with
  | false=>
   obtain⟨f1,f2⟩:=hx1 rfl
   have F1:=Lib.hid f1;have F2:=Lib.hid f2
   clear f1 f2 hx1 hx2
   go_wp2
   go_ret
   exact⟨by rw [F2.out];rfl,F1.out⟩
  | true=>
   by_cases h0:nx9=0
   ·subst h0
    obtain⟨k1,f2⟩:=hx2 rfl
    have K1:=Lib.hid k1;have F2:=Lib.hid f2
    clear k1 f2 hx1 hx2
    have c9':(w2).cell? ⟨bm,9,none⟩=some (.int .i64 (-1)):=c9
    clear c9
    go_wp2_with (go_at_call 187;refine K1.out.mono ?_;rintro e w8 ⟨va,vn,vc,rfl,hb8,f1⟩;have e8:=(hb8.cell (p:=⟨bm,10,none⟩) lbx).trans c10;have ef:=(hb8.frozen (p:=⟨bm,10,none⟩) lbx).trans g10;have F1:=Lib.hid f1;clear f1)
    go_ret
    exact⟨by rw [F2.out];rfl,F1.out⟩
   ·obtain⟨f1,f2⟩:=hx1 (by simp [h0])
    have F1:=Lib.hid f1;have F2:=Lib.hid f2
    have l9:(0:Int)<=(nx9:Int) - 1:=by omega
    clear f1 f2 hx1 hx2
    go_wp2
    go_ret
    exact⟨by rw [F2.out];rfl,F1.out⟩
 | false=>
  have hg:wrGo b wd x=(wd1,({ x with y:=(x.y.look wd).turn false }:WrD).down):=by
   unfold wrGo
   rw [if_neg (by rw [hu];exact Bool.false_ne_true),if_neg (by have:=hr.symm;unfold rdTurn at this;simpa using this),<-hwd1]
  obtain⟨X1,hX1⟩:∃ X1,X1=({ x with y:=(x.y.look wd).turn false }:WrD):=⟨_,rfl⟩
  obtain⟨X,hX⟩:∃ X,X=X1.down:=⟨_,rfl⟩
  rw [<-hX1,<-hX] at hg
  rw [hg] at hgo
  have hok1:WrOk m X1:=by rw [hX1];exact hok.way' hu ((hok.way.look wd).turn hl false) (by simp [WayD.turn,WayD.look])
  have hu1:X1.up=false:=by rw [hX1];exact hu
  have hlastX:X.y.last<=1000000:=by
   have e1:∀(v n:Nat) (y:WayD),(downN v n y).last=y.last:=λv n=>by
    induction n with
    | zero=>exact λy=>rfl
    | succ n ih=>
     intro y
     show(if v / 2^n % 2=1 then downN v n (y.turn true) else y).last=y.last
     split
     ·rw [ih];rfl
     ·rfl
   have e2:X.y.last=X1.y.last:=by
    rw [hX];unfold WrD.down
    split
    ·exact e1 _ _ _
    ·exact e1 _ _ _
   rw [e2,hX1];exact hnow
  have TL:=wr_tail hg hw hB hkv hgo hm hb9 hT1 hlastX hp (T:=T) (bm:=bm) (N:=N)
  rw [<-hR] at TL
  have TN:=Lib.hid (λ(u:World) (hu2:WayTo w u Mut I N wd1 bm (wrRest x.v x.up x.nx kv) T b m p tv (x.y.look wd) tv)=>(by
   refine(WayTo.turned false hu2.world hu2.way hu2.muts (by show x.y.k<=_;omega) hl (by show x.y.left<=_;omega) (by show x.y.turns.length<=_;omega)).mono ?_
   rintro e w3 ⟨rfl,tv2,h2⟩
   exact⟨rfl,tv2,by rw [hX1];exact hu2.trans h2⟩:Calls Try.prog 126 #[.pointer (some ⟨bm,0,none⟩),.bool false] u (λe w'=>e=.returned (.tuple #[])/\∃ tv2,WayTo w w' Mut I N wd1 bm (wrRest X1.v X1.up X1.nx kv) T b m p tv X1.y tv2)))
  have DN:=Lib.hid (λ(u:World) (tv2:Value) (hu2:WayTo w u Mut I N wd1 bm (wrRest X1.v X1.up X1.nx kv) T b m p tv X1.y tv2)=>(by
   have h9:=hu2.way
   rw [hu1] at h9
   refine(wr_down X1 hu2.world h9 hu2.muts hok1 hu1 hm).mono ?_
   rintro e w3 ⟨rfl,tv3,h2,_⟩
   have h8:=(hu2.trans h2).more (Nat.le_succ N) hN
   exact⟨rfl,tv3,by rw [hX];exact h8⟩:Calls Try.prog 125 #[.pointer (some ⟨bm,0,none⟩)] u (λe w'=>e=.returned (.tuple #[])/\∃ tv3,WayTo w w' Mut I (N+1) wd1 bm (wrRest X.v X.up X.nx kv) T b m p tv X.y tv3)))
  have TL:=Lib.hid TL
  clear hw h hkv hB hok hm hb9 hT hnow hlast hp hc hN hu hl hlen hp12 hklt hk1 hgo hr hwd1 hT1 hR hg hX hX1 hok1 hu1 hlastX
  go_enter Try.func192,Try.ntmps192
  go_upto_region 12 with(first|(go_at_call 186;refine LK.out.mono ?_;rintro e w1 ⟨rfl,h1⟩)|(go_at_call 126;refine(TN.out _ h1).mono ?_;rintro e w2 ⟨rfl,tv2,h2⟩)|(go_at_call 125;refine(DN.out _ _ h2).mono ?_;rintro e w3 ⟨rfl,tv3,h3⟩))
  clear h1 h2 LK TN DN
  have hx:=TL.out _ _ h3
  have hbx:=h3.way.blk
  have c8:(w3).cell? ⟨bm,8,none⟩=some (.bool X.up):=by rw [cell_blk hbx];rfl
  have c9:(w3).cell? ⟨bm,9,none⟩=some (.int .i64 ((X.nx:Int) - 1)):=by rw [cell_blk hbx];rfl
  have c10:(w3).cell? ⟨bm,10,none⟩=some kv:=by rw [cell_blk hbx];rfl
  have g10:=frozen_blk hbx 10
  have lbx:=blk_lt hbx
  obtain⟨up9,hup9⟩:∃ up9,up9=X.up:=⟨_,rfl⟩
  obtain⟨nx9,hnx9⟩:∃ nx9,nx9=X.nx:=⟨_,rfl⟩
  rw [<-hup9] at c8
  rw [<-hnx9] at c9
  have hdone:X.done=(up9 && decide (nx9=0)):=by rw [hup9,hnx9];rfl
  rw [hdone] at hx
  obtain⟨hx1,hx2⟩:=hx
  clear hbx hup9 hnx9 hdone h3
  cases up9 with
  | false=>
   obtain⟨f1,f2⟩:=hx1 rfl
   have F1:=Lib.hid f1;have F2:=Lib.hid f2
   clear f1 f2 hx1 hx2
   go_wp2
   go_ret
   exact⟨by rw [F2.out];rfl,F1.out⟩
  | true=>
   by_cases h0:nx9=0
   ·subst h0
    obtain⟨k1,f2⟩:=hx2 rfl
    have K1:=Lib.hid k1;have F2:=Lib.hid f2
    clear k1 f2 hx1 hx2
    have c9':(w3).cell? ⟨bm,9,none⟩=some (.int .i64 (-1)):=c9
    clear c9
    go_wp2_with (go_at_call 187;refine K1.out.mono ?_;rintro e w8 ⟨va,vn,vc,rfl,hb8,f1⟩;have e8:=(hb8.cell (p:=⟨bm,10,none⟩) lbx).trans c10;have ef:=(hb8.frozen (p:=⟨bm,10,none⟩) lbx).trans g10;have F1:=Lib.hid f1;clear f1)
    go_ret
    exact⟨by rw [F2.out];rfl,F1.out⟩
   ·obtain⟨f1,f2⟩:=hx1 (by simp [h0])
    have F1:=Lib.hid f1;have F2:=Lib.hid f2
    have l9:(0:Int)<=(nx9:Int) - 1:=by omega
    clear f1 f2 hx1 hx2
    go_wp2
    go_ret
    exact⟨by rw [F2.out];rfl,F1.out⟩
end Go.Proofs.Ytlanekkbciffcaa
