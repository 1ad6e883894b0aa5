/- Layer 15: a scan's parts: whose cells differed twice. -/
import Derived.Test.YtlepjmnhekeofaaW26
set_option maxRecDepth 100000
set_option linter.unusedVariables false
set_option linter.unusedSimpArgs false
set_option linter.unnecessarySimpa false
namespace Go.Proofs.Ytlepjmnhekeofaa
open Go.RowKit
def DiffTo (w w':World) (b bP:Nat) (s:ScD) (lv:Value) (r:List Bool×Option Nat) (e:Ending):Prop:=
 e=.returned (.tuple #[.int .u64 ((r.2.getD 0:Nat):Int),.bool r.2.isSome])/\Chg (λk=>k=b) w w'/\ScBlk w' b bP { s with diff:=r.1 } lv
set_option maxHeartbeats 4000000 in
theorem sc_differs_w (n:Nat) (hn:n<=16) (w:World) (b bP:Nat) (s:ScD) (lv:Value) (hb:ScBlk w b bP s lv) (hne:bP≠b) (hP:w.cell? ⟨bP,1,none⟩=some (.int .i64 (n:Int))) :
  Calls Try.prog 172 #[.pointer (some ⟨b,0,none⟩)] w λe w'=>DiffTo w w' b bP s lv (scDif s.old s.now n 0 s.diff) e:=by
 obtain⟨R,hR⟩:∃ R,R=scDif s.old s.now n 0 s.diff:=⟨_,rfl⟩
 have e0:=hb.ptr
 have HB:=Lib.hid hb;have HR:=Lib.hid hR;have Hne:=Lib.hid hne;have HP:=Lib.hid hP
 have hni:(n:Int)<=16:=by omega
 rw [<-hR]
 clear hb hR hne
 go_enter Try.func172,Try.ntmps172
 go_wp2
 clear e0 hP
 go_loopw [12] (λi wr=>∃(t:Nat) (d:List Bool),t<=n/\i=.int .i64 t/\Chg (λk=>k=b) w wr/\ScBlk wr b bP { s with diff:=d } lv/\scDif s.old s.now (n - t) t d=R) (λi _=>n - (intOf i).toNat)
 case atStart=>exact⟨0,s.diff,Nat.zero_le _,rfl,Chg.refl _ _,HB.out,HR.out.symm⟩
 case round=>
  obtain⟨t,d,ht,rfl,hc,hbk,hsd⟩:=hrel
  by_cases hlt:t<n
  ·have l1:(t:Int)<(n:Int):=by omega
   have l16:(t:Int)<16:=by omega
   have hsd:(if s.old.getD t 0=s.now.getD t 0 then scDif s.old s.now (n - (t+1)) (t+1) d else if d.getD t false=true then (d,some (s.now.getD t 0)) else scDif s.old s.now (n - (t+1)) (t+1) (d.set t true))=R:=by
    rw [<-hsd,show n - t=(n - (t+1))+1 by omega];rfl
   have eo:=hbk.old (t:=t) (by omega)
   have en:=hbk.now (t:=t) (by omega)
   have ed:=hbk.diff (t:=t) (by omega)
   have ef:=hbk.frozen (37+t)
   obtain⟨x,hx⟩:∃ x,x=s.old.getD t 0:=⟨_,rfl⟩
   obtain⟨y,hy⟩:∃ y,y=s.now.getD t 0:=⟨_,rfl⟩
   obtain⟨z,hz⟩:∃ z,z=d.getD t false:=⟨_,rfl⟩
   rw [<-hx,<-hy,<-hz] at hsd
   replace eo:wr.cell? ⟨b,4+t,none⟩=some (.int .u64 (x:Int)):=by rw [hx];exact eo
   replace en:wr.cell? ⟨b,20+t,none⟩=some (.int .u64 (y:Int)):=by rw [hy];exact en
   replace ed:wr.cell? ⟨b,37+t,none⟩=some (.bool z):=by rw [hz];exact ed
   have Hbk:=Lib.hid hbk;have Hc:=Lib.hid hc
   by_cases hxy:x=y
   ·rw [if_pos hxy] at hsd
    have t1:((x:Int) ==(y:Int))=true:=by rw [beq_iff_eq];omega
    have Hs:=Lib.hid hsd
    clear hsd hc hbk hx hy hz hxy
    go_wp2_with fail
    go_quiet (fail)
    go_wp2
    go_roundw
    case rel=>exact⟨t+1,d,by omega,by go_num,Hc.out.drewN nq,Hbk.out.chg ((Chg.refl (λ_=>False) wr).drewN nq) (λh=>h),Hs.out⟩
    case measure=>simp [intOf]<;>omega
   ·rw [if_neg hxy] at hsd
    have t1:((x:Int) ==(y:Int))=false:=by rw [beq_eq_false_iff_ne];omega
    cases z with
    | true=>
     rw [if_pos rfl] at hsd
     have F:=Lib.hid (λ(u:World) (hu:Chg (λ_=>False) wr u)=>show DiffTo w u b bP s lv R (.returned (.tuple #[.int .u64 (y:Int),.bool true])) from by
      rw [<-hsd]
      exact⟨rfl,hc.trans (hu.mono (λ_ _ h=>h.elim)),hbk.chg hu (λh=>h)⟩)
     clear hsd hc hbk hx hy hz hxy
     go_wp2_with fail
     go_quiet (fail)
     have dd:(wr.drewN nq).cell? ⟨b,37+t,none⟩=some (.bool true):=ed
     have dn:(wr.drewN nq).cell? ⟨b,20+t,none⟩=some (.int .u64 (y:Int)):=en
     have hcd:Chg (λ_=>False) wr (wr.drewN nq):=(Chg.refl _ _).drewN nq
     have Hcd:=Lib.hid hcd
     clear hcd eo en ed ef
     go_wp2
     go_ret2
     exact F.out _ Hcd.out
    | false=>
     rw [if_neg Bool.false_ne_true] at hsd
     have Hs:=Lib.hid hsd
     have F:=Lib.hid (λ(u:World) (hu:Chg (λ_=>False) wr u)=>show Chg (λk=>k=b) w (u.setCell ⟨b,37+t,none⟩ (.bool true))/\ScBlk (u.setCell ⟨b,37+t,none⟩ (.bool true)) b bP { s with diff:=d.set t true } lv from
      ⟨(hc.trans (hu.mono (λ_ _ h=>h.elim))).setCell (p:=⟨b,37+t,none⟩) (.inl rfl) _,(hbk.chg hu (λh=>h)).setDiff (t:=t) (by omega) true⟩)
     clear hsd hc hbk hx hy hz hxy
     go_wp2_with fail
     go_quiet (fail)
     have dd:(wr.drewN nq).cell? ⟨b,37+t,none⟩=some (.bool false):=ed
     have df:(wr.drewN nq).frozen? ⟨b,37+t,none⟩=false:=ef
     have hcd:Chg (λ_=>False) wr (wr.drewN nq):=(Chg.refl _ _).drewN nq
     obtain⟨wd,hwd⟩:∃ wd,wd=wr.drewN nq:=⟨_,rfl⟩
     rw [<-hwd] at dd df hcd ⊢
     have Hcd:=Lib.hid hcd
     clear hcd eo en ed ef hwd
     go_wp2
     go_roundw
     case rel=>exact⟨t+1,d.set t true,by omega,by go_num,(F.out _ Hcd.out).1,(F.out _ Hcd.out).2,Hs.out⟩
     case measure=>simp [intOf]<;>omega
  ·have l1:¬ (t:Int)<(n:Int):=by omega
   have hend:scDif s.old s.now (n - t) t d=(d,none):=by rw [show n - t=0 by omega];rfl
   have F:=Lib.hid (show DiffTo w wr b bP s lv R (.returned (.tuple #[.int .u64 0,.bool false])) from by
    rw [<-hsd,hend]
    exact⟨rfl,hc,hbk⟩)
   clear hsd hc hbk hend
   go_wp2
   go_ret2
   exact F.out
end Go.Proofs.Ytlepjmnhekeofaa
