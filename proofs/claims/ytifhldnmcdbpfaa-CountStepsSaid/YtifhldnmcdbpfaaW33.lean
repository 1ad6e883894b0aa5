/- Layer 11: one that counts: it passes what is not there; it climbs. -/
import Derived.Test.YtifhldnmcdbpfaaW32
set_option maxRecDepth 100000
set_option linter.unusedVariables false
set_option linter.unusedSimpArgs false
set_option linter.unnecessarySimpa false
namespace Go.Proofs.Ytifhldnmcdbpfaa
open Go.RowKit
def AdB (w:World) (Mut:Nat->Prop) (n m p b bP:Nat) (x:AdD) (lv rv:Value) (B:Nat->Prop):Prop:=
 ∃ wv,w.heap[b]?=some (.cells (bM bP p x.v x.pc lv rv wv) 205 (0,0))/\((x.pc≠3/\B=noB)∨(x.pc=3/\∃ bm tv kv,wv=.iface 243 (.pointer (some ⟨bm,0,none⟩))/\bV w bm (bA x.wr.v x.wr.up x.wr.nx kv) 246 (aG n m x.v) m p x.wr.y tv/\Lst w Mut kv x.wr.ky/\fZ m x.wr/\B=bC bm tv))
def jJ (w w':World) (Mut:Nat->Prop) (n m p b bP:Nat) (x:AdD) (lv rv:Value) (e:Ending):Prop:=
 e=.returned (.tuple #[])/\Chg (λk=>k=b) w w'/\∃ B,AdB w' Mut n m p b bP x lv rv B/\∀ k,B k->w.heap.size<=k
theorem jR (m s:Nat):(dB m s).ky=[]:=by unfold dB WrD.down;split<;>rfl
theorem qA.adB {w w':World} {Mut:Nat->Prop} {b bP n m p:Nat} {x:AdD} {lv rv:Value} {e:Ending} (h:qA w w' b bP n m p x.v lv rv (dB m (x.left.val+x.right.val)) e) (hs:x.left.val+x.right.val<2^m):jJ w w' Mut n m p b bP (x.sum m) lv rv e:=by
 obtain⟨h1,h2,bm,tv,h3,h4,h5⟩:=h
 refine⟨h1,h2,bC bm tv,⟨_,h3,.inr ⟨rfl,bm,tv,.slice none 0 0,rfl,h4,?_,fZ.init hs,rfl⟩⟩,h5⟩
 show Lst w' Mut (.slice none 0 0) (dB m (x.left.val+x.right.val)).ky
 rw [jR];exact Lst.nil _ _
set_option maxHeartbeats 8000000 in
theorem BK (n m p b bP bl br:Nat) (x:AdD) (wv ov:Value) (hpc:x.pc=1∨x.pc=2) (hn:n<=16) (hm:m<=8) (hv1:1<=x.v) (hv:x.v<=32) (w:World) (Mut BL BR:Nat->Prop) (I:dG) (N:Nat) (wd:WD) (hw:aM w Mut I N wd) (hbM:Mut b/\¬ aW I b)
  (hb:w.heap[b]?=some (.cells (bM bP p x.v x.pc (.pointer (some ⟨bl,0,none⟩)) (.pointer (some ⟨br,0,none⟩)) wv) 205 (0,0))) (hP:w.heap[bP]?=some (.cells (ctL n m (aJ n) ov) 80 (0,0)))
  (hl:dL w Mut n m p bl x.left BL) (hr:dL w Mut n m p br x.right BR) (hs:(x.pass m).pc=3->x.left.val+x.right.val<2^m) :
  Calls Try.prog 150 #[.pointer (some ⟨b,0,none⟩)] w λe w'=>jJ w w' Mut n m p b bP (x.pass m) (.pointer (some ⟨bl,0,none⟩)) (.pointer (some ⟨br,0,none⟩)) e:=by
 have nT:∀ {a c:Nat} {cs cs':Array Value} {T T':TypeId} {fz fz':Nat×Nat},w.heap[a]?=some (.cells cs T fz)->w.heap[c]?=some (.cells cs' T' fz')->T≠T'->a≠c:=λh1 h2 h3 e=>by
  subst e
  rw [h1] at h2
  exact h3 (Obj.cells.inj (Option.some.inj h2)).2.1
 have nP:bP≠b:=nT hP hb (by decide)
 have IL:=Lib.hid (CJ n m p bl x.left w Mut BL hl)
 have IR:=Lib.hid (λ(u:World) (h:Chg (λk=>k=b) w u) (h9:dL u Mut n m p br x.right BR)=>CJ n m p br x.right u Mut BR h9)
 have SUM:=Lib.hid (λ(u:World) (pc:Nat) (hu:Chg (λk=>k=b) w u) (kQ:u.heap[b]?=some (.cells (bM bP p x.v pc (.pointer (some ⟨bl,0,none⟩)) (.pointer (some ⟨br,0,none⟩)) wv) 205 (0,0))) (UA:dL u Mut n m p bl x.left BL) (VM:dL u Mut n m p br x.right BR) (FH:x.left.val+x.right.val<2^m)=>GG n m p b bP x.v pc bl br x.left x.right wv ov hn hm hv1 hv u Mut BL BR I N wd (fH hw hu (λk e=>by rw [show k=b from e];exact hbM)) hbM kQ ((hu.block bP (aC hP) nP).trans hP) UA VM FH)
 have nL:∀ k,BL k->k≠b:=λk hk e=>by
  rcases hl with⟨_,bm,tv,kv,h1,h2,_,_,rfl⟩|⟨_,h1,rfl⟩|⟨_,h1,rfl⟩
  ·rcases hk with h9|h9|h9
   ·exact nT h1 hb (by decide) (h9.symm.trans e)
   ·exact nT h2.blk hb (by decide) (h9.symm.trans e)
   ·rw [e] at h9;exact vK h2.row hb (by decide) h9
  ·exact nT h1 hb (by decide) ((show k=bl from hk).symm.trans e)
  ·exact nT h1 hb (by decide) ((show k=bl from hk).symm.trans e)
 have nR:∀ k,BR k->k≠b:=λk hk e=>by
  rcases hr with⟨_,bm,tv,kv,h1,h2,_,_,rfl⟩|⟨_,h1,rfl⟩|⟨_,h1,rfl⟩
  ·rcases hk with h9|h9|h9
   ·exact nT h1 hb (by decide) (h9.symm.trans e)
   ·exact nT h2.blk hb (by decide) (h9.symm.trans e)
   ·rw [e] at h9;exact vK h2.row hb (by decide) h9
  ·exact nT h1 hb (by decide) ((show k=br from hk).symm.trans e)
  ·exact nT h1 hb (by decide) ((show k=br from hk).symm.trans e)
 have LK:=Lib.hid (λ(u:World) (hu:Chg (λk=>k=b) w u)=>(show dL u Mut n m p bl x.left BL/\dL u Mut n m p br x.right BR from⟨hl.keep hu (λk e=>by rw [show k=b from e];exact hbM.1) (λk hk e=>nL k hk e) (aV.refl _ _),hr.keep hu (λk e=>by rw [show k=b from e];exact hbM.1) (λk hk e=>nR k hk e) (aV.refl _ _)⟩))
 have Hb:=Lib.hid hb;have Hs:=Lib.hid hs
 obtain⟨xv,pc,xl,xr,xw⟩:=x
 simp only at hpc hb IL IR SUM LK Hb Hs ⊢
 have x3:w.cell? ⟨b,3,none⟩=some (.int .i64 (pc:Int)):=by rw [aA hb];rfl
 have x4:w.cell? ⟨b,4,none⟩=some (.pointer (some ⟨bl,0,none⟩)):=by rw [aA hb];rfl
 have x5:w.cell? ⟨b,5,none⟩=some (.pointer (some ⟨br,0,none⟩)):=by rw [aA hb];rfl
 have PA:=Lib.hid (show(⟨xv,pc,xl,xr,xw⟩:AdD).pass m=((if pc=1/\xl.kind=2 then (⟨xv,2,xl,xr,xw⟩:AdD) else ⟨xv,pc,xl,xr,xw⟩).pass2 m) from rfl)
 clear hn hm hv1 hv hw hbM hb hP hl hr hs nT nP nL nR
 rcases hpc with rfl|rfl
 ·by_cases hkl:xl.kind=2
  ·have kl:decide (xl.kind=2)=true:=decide_eq_true hkl
   have Xe:=Lib.hid (show(if (1:Nat)=1/\xl.kind=2 then (⟨xv,2,xl,xr,xw⟩:AdD) else ⟨xv,1,xl,xr,xw⟩)=⟨xv,2,xl,xr,xw⟩ from if_pos ⟨rfl,hkl⟩)
   clear hkl
   go_enter Try.func150,Try.ntmps150
   go_wp2_with fail
   refine IL.out.mono ?_
   rintro e w1 ⟨rfl,hb1⟩
   rw [kl]
   have hB1:=(hb1.block b (aC Hb.out)).trans Hb.out
   obtain⟨w2,hw2⟩:∃ w2,w2=w1.setCell ⟨b,3,none⟩ (.int .i64 2):=⟨_,rfl⟩
   have hB2:w2.heap[b]?=some (.cells (bM bP p xv 2 (.pointer (some ⟨bl,0,none⟩)) (.pointer (some ⟨br,0,none⟩)) wv) 205 (0,0)):=by rw [hw2,aH hB1];rfl
   have hc2:Chg (λk=>k=b) w w2:=(Chg.of_below (S:=λk=>k=b) hb1).trans (by rw [hw2];exact(Chg.refl (λk=>k=b) w1).setCell (p:=⟨b,3,none⟩) (.inl rfl) _)
   have HB:=Lib.hid hB2;have Hc:=Lib.hid hc2
   have HR:=Lib.hid (LK.out _ hc2).2
   have y3:w1.cell? ⟨b,3,none⟩=some (.int .i64 1):=by rw [aA hB1];rfl
   have yf:=aB hB1 3
   have yl:=aC hB1
   have z3:w2.cell? ⟨b,3,none⟩=some (.int .i64 2):=by rw [aA hB2];rfl
   have z5:w2.cell? ⟨b,5,none⟩=some (.pointer (some ⟨br,0,none⟩)):=by rw [aA hB2];rfl
   have Hw2:=Lib.hid hw2
   clear hb1 hB1 hw2 hB2 hc2 x3 x4 x5
   go_upto_region 2 with fail
   rw [<-Hw2.out]
   clear y3 yf yl
   by_cases hk:xr.kind=2
   ·have hpa:(⟨xv,1,xl,xr,xw⟩:AdD).pass m=(⟨xv,2,xl,xr,xw⟩:AdD).sum m:=by rw [PA.out,Xe.out];exact if_pos ⟨rfl,hk⟩
    have FH:xl.val+xr.val<2^m:=Hs.out (by rw [hpa];rfl)
    have Hpa:=Lib.hid hpa;have Hs9:=Lib.hid FH
    have kd:decide (xr.kind=2)=true:=decide_eq_true hk
    clear hpa FH hk
    go_wp2_with fail
    refine(IR.out _ Hc.out HR.out).mono ?_
    rintro e w8 ⟨rfl,nI⟩
    rw [kd]
    have hc8:=Hc.out.trans (Chg.of_below (S:=λk=>k=b) nI)
    have hB8:=(nI.block b (aC HB.out)).trans HB.out
    have Hc8:=Lib.hid hc8;have HB8:=Lib.hid hB8;have Hb8:=Lib.hid nI
    clear hc8 hB8 nI
    go_wp2_with fail
    refine(SUM.out _ 2 Hc8.out HB8.out (LK.out _ Hc8.out).1 (LK.out _ Hc8.out).2 Hs9.out).mono ?_
    intro e w9 h9
    have h8:=qA.adB (x:=⟨xv,2,xl,xr,xw⟩) (Mut:=Mut) h9 Hs9.out
    obtain⟨rfl,zC,B,hA,hge⟩:=h8
    have F:=Lib.hid (show jJ w w9 Mut n m p b bP ((⟨xv,1,xl,xr,xw⟩:AdD).pass m) (.pointer (some ⟨bl,0,none⟩)) (.pointer (some ⟨br,0,none⟩)) (.returned (.tuple #[])) from⟨rfl,Hc8.out.trans zC,B,by rw [Hpa.out];exact hA,λk hk=>Nat.le_trans Hc8.out.size (hge k hk)⟩)
    clear h9 zC hA hge
    go_wp2
    (first|go_end0|((try simp only [Exit.inBlock,Exit.then]);refine bodyPost_ret (results_none rfl _ _ _) rfl ?_))
    exact F.out
   ·have hpa:(⟨xv,1,xl,xr,xw⟩:AdD).pass m=⟨xv,2,xl,xr,xw⟩:=by rw [PA.out,Xe.out];exact if_neg (λh=>hk h.2)
    have Hpa:=Lib.hid hpa
    have kd:decide (xr.kind=2)=false:=decide_eq_false hk
    clear hpa hk
    go_wp2_with fail
    refine(IR.out _ Hc.out HR.out).mono ?_
    rintro e w8 ⟨rfl,nI⟩
    rw [kd]
    have F:=Lib.hid (show jJ w w8 Mut n m p b bP ((⟨xv,1,xl,xr,xw⟩:AdD).pass m) (.pointer (some ⟨bl,0,none⟩)) (.pointer (some ⟨br,0,none⟩)) (.returned (.tuple #[])) from⟨rfl,Hc.out.trans (Chg.of_below nI),noB,by rw [Hpa.out];exact⟨wv,(nI.block b (aC HB.out)).trans HB.out,.inl ⟨(by decide:(2:Nat)≠3),rfl⟩⟩,λ_ h=>h.elim⟩)
    clear nI
    go_wp2
    (first|go_end0|((try simp only [Exit.inBlock,Exit.then]);refine bodyPost_ret (results_none rfl _ _ _) rfl ?_))
    exact F.out
  ·have kl:decide (xl.kind=2)=false:=decide_eq_false hkl
   have hpa:(⟨xv,1,xl,xr,xw⟩:AdD).pass m=⟨xv,1,xl,xr,xw⟩:=by rw [PA.out,if_neg (λh=>hkl h.2)];exact if_neg (λh=>absurd (show(1:Nat)=2 from h.1) (by decide))
   have Hpa:=Lib.hid hpa
   clear hkl hpa
   go_enter Try.func150,Try.ntmps150
   go_wp2_with fail
   refine IL.out.mono ?_
   rintro e w1 ⟨rfl,hb1⟩
   rw [kl]
   have hB1:=(hb1.block b (aC Hb.out)).trans Hb.out
   have y3:w1.cell? ⟨b,3,none⟩=some (.int .i64 1):=by rw [aA hB1];rfl
   have F:=Lib.hid (show jJ w w1 Mut n m p b bP ((⟨xv,1,xl,xr,xw⟩:AdD).pass m) (.pointer (some ⟨bl,0,none⟩)) (.pointer (some ⟨br,0,none⟩)) (.returned (.tuple #[])) from⟨rfl,Chg.of_below hb1,noB,by rw [Hpa.out];exact⟨wv,hB1,.inl ⟨(by decide:(1:Nat)≠3),rfl⟩⟩,λ_ h=>h.elim⟩)
   clear hb1 hB1 x3 x4 x5
   go_wp2
   (first|go_end0|((try simp only [Exit.inBlock,Exit.then]);refine bodyPost_ret (results_none rfl _ _ _) rfl ?_))
   exact F.out
 ·have Xe:=Lib.hid (show(if (2:Nat)=1/\xl.kind=2 then (⟨xv,2,xl,xr,xw⟩:AdD) else ⟨xv,2,xl,xr,xw⟩)=⟨xv,2,xl,xr,xw⟩ from if_neg (λh=>absurd h.1 (by decide)))
  have HB:=Hb;have Hc:=Lib.hid (Chg.refl (λk=>k=b) w)
  have HR:=Lib.hid (LK.out _ Hc.out).2
  go_enter Try.func150,Try.ntmps150
  go_upto_region 2 with fail
  by_cases hk:xr.kind=2
  ·have hpa:(⟨xv,2,xl,xr,xw⟩:AdD).pass m=(⟨xv,2,xl,xr,xw⟩:AdD).sum m:=by rw [PA.out,Xe.out];exact if_pos ⟨rfl,hk⟩
   have FH:xl.val+xr.val<2^m:=Hs.out (by rw [hpa];rfl)
   have Hpa:=Lib.hid hpa;have Hs9:=Lib.hid FH
   have kd:decide (xr.kind=2)=true:=decide_eq_true hk
   clear hpa FH hk
   go_wp2_with fail
   refine(IR.out _ Hc.out HR.out).mono ?_
   rintro e w8 ⟨rfl,nI⟩
   rw [kd]
   have hc8:=Hc.out.trans (Chg.of_below (S:=λk=>k=b) nI)
   have hB8:=(nI.block b (aC HB.out)).trans HB.out
   have Hc8:=Lib.hid hc8;have HB8:=Lib.hid hB8;have Hb8:=Lib.hid nI
   clear hc8 hB8 nI
   go_wp2_with fail
   refine(SUM.out _ 2 Hc8.out HB8.out (LK.out _ Hc8.out).1 (LK.out _ Hc8.out).2 Hs9.out).mono ?_
   intro e w9 h9
   have h8:=qA.adB (x:=⟨xv,2,xl,xr,xw⟩) (Mut:=Mut) h9 Hs9.out
   obtain⟨rfl,zC,B,hA,hge⟩:=h8
   have F:=Lib.hid (show jJ w w9 Mut n m p b bP ((⟨xv,2,xl,xr,xw⟩:AdD).pass m) (.pointer (some ⟨bl,0,none⟩)) (.pointer (some ⟨br,0,none⟩)) (.returned (.tuple #[])) from⟨rfl,Hc8.out.trans zC,B,by rw [Hpa.out];exact hA,λk hk=>Nat.le_trans Hc8.out.size (hge k hk)⟩)
   clear h9 zC hA hge
   go_wp2
   (first|go_end0|((try simp only [Exit.inBlock,Exit.then]);refine bodyPost_ret (results_none rfl _ _ _) rfl ?_))
   exact F.out
  ·have hpa:(⟨xv,2,xl,xr,xw⟩:AdD).pass m=⟨xv,2,xl,xr,xw⟩:=by rw [PA.out,Xe.out];exact if_neg (λh=>hk h.2)
   have Hpa:=Lib.hid hpa
   have kd:decide (xr.kind=2)=false:=decide_eq_false hk
   clear hpa hk
   go_wp2_with fail
   refine(IR.out _ Hc.out HR.out).mono ?_
   rintro e w8 ⟨rfl,nI⟩
   rw [kd]
   have F:=Lib.hid (show jJ w w8 Mut n m p b bP ((⟨xv,2,xl,xr,xw⟩:AdD).pass m) (.pointer (some ⟨bl,0,none⟩)) (.pointer (some ⟨br,0,none⟩)) (.returned (.tuple #[])) from⟨rfl,Hc.out.trans (Chg.of_below nI),noB,by rw [Hpa.out];exact⟨wv,(nI.block b (aC HB.out)).trans HB.out,.inl ⟨(by decide:(2:Nat)≠3),rfl⟩⟩,λ_ h=>h.elim⟩)
   clear nI
   go_wp2
   (first|go_end0|((try simp only [Exit.inBlock,Exit.then]);refine bodyPost_ret (results_none rfl _ _ _) rfl ?_))
   exact F.out
end Go.Proofs.Ytifhldnmcdbpfaa
