/- Layer 11: one that counts: it begins to write a sum; it passes what is not there. -/
import Derived.Test.YtifhldnmcdbpfaaV29
set_option maxRecDepth 100000
set_option linter.unusedVariables false
set_option linter.unusedSimpArgs false
set_option linter.unnecessarySimpa false
namespace Go.Proofs.Ytifhldnmcdbpfaa
section
open Go.RowKit
def bL (bP p v pc:Nat) (lv rv wv:Value):Array Value:=#[.pointer (some ⟨bP,0,none⟩),.int .i64 (p:Int),.int .i64 (v:Int),.int .i64 (pc:Int),lv,rv,wv]
def qC (w w':World) (b bP n m p v:Nat) (lv rv:Value) (x:WrD) (e:Ending):Prop:=
 e=.returned (.tuple #[])/\Chg (λk=>k=b) w w'/\∃ bm tv,w'.heap[b]?=some (.cells (bL bP p v 3 lv rv (.iface 243 (.pointer (some ⟨bm,0,none⟩)))) 205 (0,0))/\bV w' bm (bA x.v x.up x.nx (.slice none 0 0)) 246 (aG n m v) m p x.y tv/\∀ k,bC bm tv k->w.heap.size<=k
def OT (w w':World) (b bP B m p v:Nat) (lv rv:Value) (s:Nat) (x:WrD):Prop:=
 Chg (λk=>k=b) w w'/\∃ bm tv,w'.heap[b]?=some (.cells (bL bP p v 3 lv rv (.iface 243 (.pointer (some ⟨bm,0,none⟩)))) 205 (0,0))/\bV w' bm (bA s x.up x.nx (.slice none 0 0)) 246 B m p x.y tv/\∀ k,bC bm tv k->w.heap.size<=k
set_option maxHeartbeats 8000000 in
theorem GX (n m p b bP v pc bl br:Nat) (l r:LkD) (wv ov:Value) (hn:n<=16) (hm:m<=8) (hv1:1<=v) (hv:v<=32) (w:World) (Mut BL BR:Nat->Prop) (I:dG) (N:Nat) (wd:WD) (hw:aM w Mut I N wd) (hbM:Mut b/\¬ aW I b)
  (hb:w.heap[b]?=some (.cells (bL bP p v pc (.pointer (some ⟨bl,0,none⟩)) (.pointer (some ⟨br,0,none⟩)) wv) 205 (0,0))) (hP:w.heap[bP]?=some (.cells (ctL n m (aK n) ov) 80 (0,0)))
  (hl:dL w Mut n m p bl l BL) (hr:dL w Mut n m p br r BR) (hs:l.val+r.val<2^m) :
  Calls Try.prog 153 #[.pointer (some ⟨b,0,none⟩)] w λe w'=>qC w w' b bP n m p v (.pointer (some ⟨bl,0,none⟩)) (.pointer (some ⟨br,0,none⟩)) (dB m (l.val+r.val)) e:=by
 obtain⟨XO,lf1,a1,hlb⟩:=hl.blk
 obtain⟨XM,lf2,a2,hrb⟩:=hr.blk
 have hp2:2^m<=256:=Nat.pow_le_pow_right (n:=2) (by decide) hm
 have nT:∀ {x y:Nat} {cs cs':Array Value} {T T':TypeId} {fz fz':Nat×Nat},w.heap[x]?=some (.cells cs T fz)->w.heap[y]?=some (.cells cs' T' fz')->T≠T'->x≠y:=λh1 h2 h3 e=>by
  subst e
  rw [h1] at h2
  exact h3 (Obj.cells.inj (Option.some.inj h2)).2.1
 have n1:bl≠b:=nT hlb hb (by decide)
 have n2:br≠b:=nT hrb hb (by decide)
 have n3:bP≠b:=nT hP hb (by decide)
 obtain⟨w1,hw1⟩:∃ w1,w1=w.setCell ⟨b,3,none⟩ (.int .i64 3):=⟨_,rfl⟩
 have hb1:w1.heap[b]?=some (.cells (bL bP p v 3 (.pointer (some ⟨bl,0,none⟩)) (.pointer (some ⟨br,0,none⟩)) wv) 205 (0,0)):=by rw [hw1,aH hb];rfl
 have hc1:Chg (λk=>k=b) w w1:=by rw [hw1];exact(Chg.refl (λk=>k=b) w).setCell (p:=⟨b,3,none⟩) (.inl rfl) _
 have hz1:w1.heap.size=w.heap.size:=by rw [hw1];simp [World.setCell]
 have hP1:=(hc1.block bP (aC hP) n3).trans hP
 have hl1:=(hc1.block bl (aC hlb) n1).trans hlb
 have hr1:=(hc1.block br (aC hrb) n2).trans hrb
 have nX:=fG hw hc1 (λk e=>by rw [show k=b from e];exact hbM)
 obtain⟨s,FF⟩:∃ s,s=l.val+r.val:=⟨_,rfl⟩
 obtain⟨lv,hlv⟩:∃ lv,lv=l.val:=⟨_,rfl⟩
 obtain⟨rv,hrv⟩:∃ rv,rv=r.val:=⟨_,rfl⟩
 rw [<-hlv] at hl1
 rw [<-hrv] at hr1
 rw [<-FF] at hs ⊢
 have ws:IntKind.u64.wrap ((lv:Int)+(rv:Int))=(s:Int):=by rw [IntKind.wrap_u64];omega
 have c0:w1.cell? ⟨b,0,none⟩=some (.pointer (some ⟨bP,0,none⟩)):=by rw [aA hb1];rfl
 have c1:w1.cell? ⟨b,1,none⟩=some (.int .i64 (p:Int)):=by rw [aA hb1];rfl
 have c2:w1.cell? ⟨b,2,none⟩=some (.int .i64 (v:Int)):=by rw [aA hb1];rfl
 have c4:w1.cell? ⟨b,4,none⟩=some (.pointer (some ⟨bl,0,none⟩)):=by rw [aA hb1];rfl
 have c5:w1.cell? ⟨b,5,none⟩=some (.pointer (some ⟨br,0,none⟩)):=by rw [aA hb1];rfl
 have c6:w1.cell? ⟨bl,3,none⟩=some (.int .u64 (lv:Int)):=by rw [aA hl1];rfl
 have c7:w1.cell? ⟨br,3,none⟩=some (.int .u64 (rv:Int)):=by rw [aA hr1];rfl
 have ND:=Lib.hid (λ(u:World) (h:Below w1.heap.size w1 u)=>BV bP n m (aK n) v ov hn hm hv1 hv u ((h.block bP (aC hP1)).trans hP1))
 have NW:=Lib.hid (λ(u:World) (h:Below w1.heap.size w1 u)=>zH (I:=I) (N:=N) (wd:=wd) (Mut:=Mut) m s (kY nX h) hs (by omega) (aG n m v) p)
 have x3:w.cell? ⟨b,3,none⟩=some (.int .i64 (pc:Int)):=by rw [aA hb];rfl
 have xf:=aB hb 3
 have xl:=aC hb
 have Hw1:=Lib.hid hw1;have Hb1:=Lib.hid hb1;have Hc1:=Lib.hid hc1;have Hz1:=Lib.hid hz1
 have N1:=Lib.hid n1;have N2:=Lib.hid n2
 obtain⟨B,hB⟩:∃ B,B=aG n m v:=⟨_,rfl⟩
 rw [<-hB] at ND NW
 have hev:(dB m s).v=s:=by unfold dB WrD.down;split<;>rfl
 unfold qC
 rw [<-hB,hev]
 obtain⟨X,hX⟩:∃ X,X=dB m s:=⟨_,rfl⟩
 rw [<-hX] at NW ⊢
 clear hw hbM hb hP hl hr hs hlb hrb hp2 nT n1 n2 n3 hw1 hb1 hc1 hz1 hP1 hl1 hr1 nX FF hlv hrv hn hm hv1 hv hev hX hB
 go_enter Try.func153,Try.ntmps153
 go_upto_region 1 with fail
 rw [<-Hw1.out]
 clear x3 xf xl
 go_region_held3 (λu=>u.cell? ⟨b,0,none⟩=some (.pointer (some ⟨bP,0,none⟩))/\u.cell? ⟨b,1,none⟩=some (.int .i64 (p:Int))/\u.cell? ⟨b,2,none⟩=some (.int .i64 (v:Int))/\u.cell? ⟨b,4,none⟩=some (.pointer (some ⟨bl,0,none⟩))/\u.cell? ⟨b,5,none⟩=some (.pointer (some ⟨br,0,none⟩))/\u.cell? ⟨bl,3,none⟩=some (.int .u64 (lv:Int))/\u.cell? ⟨br,3,none⟩=some (.int .u64 (rv:Int)))
  (first|exact⟨c0,c1,c2,c4,c5,c6,c7⟩|exact⟨y0,y1,y2,y4,y5,y6,y7⟩|exact⟨z0,z1,z2,z4,z5,z6,z7⟩|exact⟨k0,k1,k2,k4,k5,k6,k7⟩)
  (first|(go_at_call 125;refine(ND.out _ ?_).mono ?_;(exact(Gr.refl w1).drew);rintro e w2 ⟨rfl,hb2⟩;have hb2':Below w1.heap.size w1 w2:=Gr.trans (Gr.refl w1).drew hb2;have y0:=(hb2'.cell (World.block_lt_of_cell? _ _ c0)).trans c0;have y1:=(hb2'.cell (World.block_lt_of_cell? _ _ c1)).trans c1;have y2:=(hb2'.cell (World.block_lt_of_cell? _ _ c2)).trans c2;have y4:=(hb2'.cell (World.block_lt_of_cell? _ _ c4)).trans c4;have y5:=(hb2'.cell (World.block_lt_of_cell? _ _ c5)).trans c5;have y6:=(hb2'.cell (World.block_lt_of_cell? _ _ c6)).trans c6;have y7:=(hb2'.cell (World.block_lt_of_cell? _ _ c7)).trans c7)|(go_at_call 156;refine(NW.out _ ?_).mono ?_;(exact hb2');rintro e w3 ⟨rfl,hb3,tv,hwr,hge⟩;have zS:Below w1.heap.size w1 w3:=Gr.trans hb2' hb3;have z0:=(hb3.cell (World.block_lt_of_cell? _ _ y0)).trans y0;have z1:=(hb3.cell (World.block_lt_of_cell? _ _ y1)).trans y1;have z2:=(hb3.cell (World.block_lt_of_cell? _ _ y2)).trans y2;have z4:=(hb3.cell (World.block_lt_of_cell? _ _ y4)).trans y4;have z5:=(hb3.cell (World.block_lt_of_cell? _ _ y5)).trans y5;have z6:=(hb3.cell (World.block_lt_of_cell? _ _ y6)).trans y6;have z7:=(hb3.cell (World.block_lt_of_cell? _ _ y7)).trans y7;have pM:=(zS.block b (aC Hb1.out)).trans Hb1.out;have q6:w3.cell? ⟨b,6,none⟩=some wv:=(by rw [aA pM];rfl);have qf:=aB pM 6;have ql:=aC pM;have qY:=aH pM 6 (.iface 243 (.pointer (some ⟨w2.heap.size+1,0,none⟩)));have hc4:=(Chg.refl (λk=>k=b) w3).setCell (p:=⟨b,6,none⟩) (.inl rfl) (.iface 243 (.pointer (some ⟨w2.heap.size+1,0,none⟩)));have k0:=(aA qY 0).trans (show _=some (Value.pointer (some ⟨bP,0,none⟩)) from rfl);have k1:=(aA qY 1).trans (show _=some (Value.int .i64 (p:Int)) from rfl);have k2:=(aA qY 2).trans (show _=some (Value.int .i64 (v:Int)) from rfl);have k4:=(aA qY 4).trans (show _=some (Value.pointer (some ⟨bl,0,none⟩)) from rfl);have k5:=(aA qY 5).trans (show _=some (Value.pointer (some ⟨br,0,none⟩)) from rfl);have k6:=aY hc4 N1.out z6;have k7:=aY hc4 N2.out z7))
 obtain⟨w4,hw4⟩:∃ w4,w4=w3.setCell ⟨b,6,none⟩ (.iface 243 (.pointer (some ⟨w2.heap.size+1,0,none⟩))):=⟨_,rfl⟩
 have F:=Lib.hid (show OT w w4 b bP B m p v (.pointer (some ⟨bl,0,none⟩)) (.pointer (some ⟨br,0,none⟩)) s X from by
  have h4:=qY
  rw [<-hw4] at h4
  have c4':=hc4
  rw [<-hw4] at c4'
  have hlow:∀ k,bC (w2.heap.size+1) tv k->w1.heap.size<=k:=λk hk=>Nat.le_trans hb2'.size (hge k hk)
  refine⟨(Hc1.out.trans (Chg.of_below (S:=λk=>k=b) zS)).trans c4',w2.heap.size+1,tv,?_,hwr.chg c4' (λk hk e=>by have:=hlow k hk;have:=aC Hb1.out;have e:k=b:=e;omega),λk hk=>by rw [<-Hz1.out];exact hlow k hk⟩
  rw [h4];rfl)
 have Hw4:=Lib.hid hw4
 clear hw4 hb2 hb2' hb3 zS hwr hge y0 y1 y2 y4 y5 y6 y7 z0 z1 z2 z4 z5 z6 z7 pM qY hc4 q6 qf ql k0 k1 k2 k4 k5 k6 k7
 go_wp2
 rw [<-Hw4.out]
 (first|go_end0|((try simp only [Exit.inBlock,Exit.then]);refine bodyPost_ret (results_none rfl _ _ _) rfl ?_))
 exact⟨rfl,F.out⟩
end
section
open Go.RowKit
def AdB (w:World) (Mut:Nat->Prop) (n m p b bP:Nat) (x:AdD) (lv rv:Value) (B:Nat->Prop):Prop:=
 ∃ wv,w.heap[b]?=some (.cells (bL bP p x.v x.pc lv rv wv) 205 (0,0))/\((x.pc≠3/\B=noB)∨(x.pc=3/\∃ bm tv kv,wv=.iface 243 (.pointer (some ⟨bm,0,none⟩))/\bV w bm (bA x.wr.v x.wr.up x.wr.nx kv) 246 (aG n m x.v) m p x.wr.y tv/\Lst w Mut kv x.wr.ky/\fZ m x.wr/\B=bC bm tv))
def jJ (w w':World) (Mut:Nat->Prop) (n m p b bP:Nat) (x:AdD) (lv rv:Value) (e:Ending):Prop:=
 e=.returned (.tuple #[])/\Chg (λk=>k=b) w w'/\∃ B,AdB w' Mut n m p b bP x lv rv B/\∀ k,B k->w.heap.size<=k
theorem jT (m s:Nat):(dB m s).ky=[]:=by unfold dB WrD.down;split<;>rfl
theorem qC.adB {w w':World} {Mut:Nat->Prop} {b bP n m p:Nat} {x:AdD} {lv rv:Value} {e:Ending} (h:qC w w' b bP n m p x.v lv rv (dB m (x.left.val+x.right.val)) e) (hs:x.left.val+x.right.val<2^m):jJ w w' Mut n m p b bP (x.sum m) lv rv e:=by
 obtain⟨h1,h2,bm,tv,h3,h4,h5⟩:=h
 refine⟨h1,h2,bC bm tv,⟨_,h3,.inr ⟨rfl,bm,tv,.slice none 0 0,rfl,h4,?_,fZ.init hs,rfl⟩⟩,h5⟩
 show Lst w' Mut (.slice none 0 0) (dB m (x.left.val+x.right.val)).ky
 rw [jT];exact Lst.nil _ _
set_option maxHeartbeats 8000000 in
theorem CG (n m p b bP bl br:Nat) (x:AdD) (wv ov:Value) (hpc:x.pc=1∨x.pc=2) (hn:n<=16) (hm:m<=8) (hv1:1<=x.v) (hv:x.v<=32) (w:World) (Mut BL BR:Nat->Prop) (I:dG) (N:Nat) (wd:WD) (hw:aM w Mut I N wd) (hbM:Mut b/\¬ aW I b)
  (hb:w.heap[b]?=some (.cells (bL bP p x.v x.pc (.pointer (some ⟨bl,0,none⟩)) (.pointer (some ⟨br,0,none⟩)) wv) 205 (0,0))) (hP:w.heap[bP]?=some (.cells (ctL n m (aK n) ov) 80 (0,0)))
  (hl:dL w Mut n m p bl x.left BL) (hr:dL w Mut n m p br x.right BR) (hs:(x.pass m).pc=3->x.left.val+x.right.val<2^m) :
  Calls Try.prog 150 #[.pointer (some ⟨b,0,none⟩)] w λe w'=>jJ w w' Mut n m p b bP (x.pass m) (.pointer (some ⟨bl,0,none⟩)) (.pointer (some ⟨br,0,none⟩)) e:=by
 have nT:∀ {a c:Nat} {cs cs':Array Value} {T T':TypeId} {fz fz':Nat×Nat},w.heap[a]?=some (.cells cs T fz)->w.heap[c]?=some (.cells cs' T' fz')->T≠T'->a≠c:=λh1 h2 h3 e=>by
  subst e
  rw [h1] at h2
  exact h3 (Obj.cells.inj (Option.some.inj h2)).2.1
 have nP:bP≠b:=nT hP hb (by decide)
 have IL:=Lib.hid (CV n m p bl x.left w Mut BL hl)
 have IR:=Lib.hid (λ(u:World) (h:Chg (λk=>k=b) w u) (h9:dL u Mut n m p br x.right BR)=>CV n m p br x.right u Mut BR h9)
 have SUM:=Lib.hid (λ(u:World) (pc:Nat) (hu:Chg (λk=>k=b) w u) (jO:u.heap[b]?=some (.cells (bL bP p x.v pc (.pointer (some ⟨bl,0,none⟩)) (.pointer (some ⟨br,0,none⟩)) wv) 205 (0,0))) (TD:dL u Mut n m p bl x.left BL) (XF:dL u Mut n m p br x.right BR) (FF:x.left.val+x.right.val<2^m)=>GX n m p b bP x.v pc bl br x.left x.right wv ov hn hm hv1 hv u Mut BL BR I N wd (fG hw hu (λk e=>by rw [show k=b from e];exact hbM)) hbM jO ((hu.block bP (aC hP) nP).trans hP) TD XF FF)
 have nL:∀ k,BL k->k≠b:=λk hk e=>by
  rcases hl with⟨_,bm,tv,kv,h1,h2,_,_,rfl⟩|⟨_,h1,rfl⟩|⟨_,h1,rfl⟩
  ·rcases hk with h9|h9|h9
   ·exact nT h1 hb (by decide) (h9.symm.trans e)
   ·exact nT h2.blk hb (by decide) (h9.symm.trans e)
   ·rw [e] at h9;exact vU h2.row hb (by decide) h9
  ·exact nT h1 hb (by decide) ((show k=bl from hk).symm.trans e)
  ·exact nT h1 hb (by decide) ((show k=bl from hk).symm.trans e)
 have nR:∀ k,BR k->k≠b:=λk hk e=>by
  rcases hr with⟨_,bm,tv,kv,h1,h2,_,_,rfl⟩|⟨_,h1,rfl⟩|⟨_,h1,rfl⟩
  ·rcases hk with h9|h9|h9
   ·exact nT h1 hb (by decide) (h9.symm.trans e)
   ·exact nT h2.blk hb (by decide) (h9.symm.trans e)
   ·rw [e] at h9;exact vU h2.row hb (by decide) h9
  ·exact nT h1 hb (by decide) ((show k=br from hk).symm.trans e)
  ·exact nT h1 hb (by decide) ((show k=br from hk).symm.trans e)
 have LK:=Lib.hid (λ(u:World) (hu:Chg (λk=>k=b) w u)=>(show dL u Mut n m p bl x.left BL/\dL u Mut n m p br x.right BR from⟨hl.keep hu (λk e=>by rw [show k=b from e];exact hbM.1) (λk hk e=>nL k hk e) (aV.refl _ _),hr.keep hu (λk e=>by rw [show k=b from e];exact hbM.1) (λk hk e=>nR k hk e) (aV.refl _ _)⟩))
 have Hb:=Lib.hid hb;have Hs:=Lib.hid hs
 obtain⟨xv,pc,xl,xr,xw⟩:=x
 simp only at hpc hb IL IR SUM LK Hb Hs ⊢
 have x3:w.cell? ⟨b,3,none⟩=some (.int .i64 (pc:Int)):=by rw [aA hb];rfl
 have x4:w.cell? ⟨b,4,none⟩=some (.pointer (some ⟨bl,0,none⟩)):=by rw [aA hb];rfl
 have x5:w.cell? ⟨b,5,none⟩=some (.pointer (some ⟨br,0,none⟩)):=by rw [aA hb];rfl
 have PA:=Lib.hid (show(⟨xv,pc,xl,xr,xw⟩:AdD).pass m=((if pc=1/\xl.kind=2 then (⟨xv,2,xl,xr,xw⟩:AdD) else ⟨xv,pc,xl,xr,xw⟩).pass2 m) from rfl)
 clear hn hm hv1 hv hw hbM hb hP hl hr hs nT nP nL nR
 rcases hpc with rfl|rfl
 ·by_cases hkl:xl.kind=2
  ·have kl:decide (xl.kind=2)=true:=decide_eq_true hkl
   have Xe:=Lib.hid (show(if (1:Nat)=1/\xl.kind=2 then (⟨xv,2,xl,xr,xw⟩:AdD) else ⟨xv,1,xl,xr,xw⟩)=⟨xv,2,xl,xr,xw⟩ from if_pos ⟨rfl,hkl⟩)
   clear hkl
   go_enter Try.func150,Try.ntmps150
   go_wp2_with fail
   refine IL.out.mono ?_
   rintro e w1 ⟨rfl,hb1⟩
   rw [kl]
   have hB1:=(hb1.block b (aC Hb.out)).trans Hb.out
   obtain⟨w2,hw2⟩:∃ w2,w2=w1.setCell ⟨b,3,none⟩ (.int .i64 2):=⟨_,rfl⟩
   have hB2:w2.heap[b]?=some (.cells (bL bP p xv 2 (.pointer (some ⟨bl,0,none⟩)) (.pointer (some ⟨br,0,none⟩)) wv) 205 (0,0)):=by rw [hw2,aH hB1];rfl
   have hc2:Chg (λk=>k=b) w w2:=(Chg.of_below (S:=λk=>k=b) hb1).trans (by rw [hw2];exact(Chg.refl (λk=>k=b) w1).setCell (p:=⟨b,3,none⟩) (.inl rfl) _)
   have HB:=Lib.hid hB2;have Hc:=Lib.hid hc2
   have HR:=Lib.hid (LK.out _ hc2).2
   have y3:w1.cell? ⟨b,3,none⟩=some (.int .i64 1):=by rw [aA hB1];rfl
   have yf:=aB hB1 3
   have yl:=aC hB1
   have z3:w2.cell? ⟨b,3,none⟩=some (.int .i64 2):=by rw [aA hB2];rfl
   have z5:w2.cell? ⟨b,5,none⟩=some (.pointer (some ⟨br,0,none⟩)):=by rw [aA hB2];rfl
   have Hw2:=Lib.hid hw2
   clear hb1 hB1 hw2 hB2 hc2 x3 x4 x5
   go_upto_region 2 with fail
   rw [<-Hw2.out]
   clear y3 yf yl
   by_cases hk:xr.kind=2
   ·have hpa:(⟨xv,1,xl,xr,xw⟩:AdD).pass m=(⟨xv,2,xl,xr,xw⟩:AdD).sum m:=by rw [PA.out,Xe.out];exact if_pos ⟨rfl,hk⟩
    have FF:xl.val+xr.val<2^m:=Hs.out (by rw [hpa];rfl)
    have Hpa:=Lib.hid hpa;have Hs9:=Lib.hid FF
    have kd:decide (xr.kind=2)=true:=decide_eq_true hk
    clear hpa FF hk
    go_wp2_with fail
    refine(IR.out _ Hc.out HR.out).mono ?_
    rintro e w8 ⟨rfl,oI⟩
    rw [kd]
    have hc8:=Hc.out.trans (Chg.of_below (S:=λk=>k=b) oI)
    have hB8:=(oI.block b (aC HB.out)).trans HB.out
    have Hc8:=Lib.hid hc8;have HB8:=Lib.hid hB8;have Hb8:=Lib.hid oI
    clear hc8 hB8 oI
    go_wp2_with fail
    refine(SUM.out _ 2 Hc8.out HB8.out (LK.out _ Hc8.out).1 (LK.out _ Hc8.out).2 Hs9.out).mono ?_
    intro e w9 h9
    have h8:=qC.adB (x:=⟨xv,2,xl,xr,xw⟩) (Mut:=Mut) h9 Hs9.out
    obtain⟨rfl,zF,B,hA,hge⟩:=h8
    have F:=Lib.hid (show jJ w w9 Mut n m p b bP ((⟨xv,1,xl,xr,xw⟩:AdD).pass m) (.pointer (some ⟨bl,0,none⟩)) (.pointer (some ⟨br,0,none⟩)) (.returned (.tuple #[])) from⟨rfl,Hc8.out.trans zF,B,by rw [Hpa.out];exact hA,λk hk=>Nat.le_trans Hc8.out.size (hge k hk)⟩)
    clear h9 zF hA hge
    go_wp2
    (first|go_end0|((try simp only [Exit.inBlock,Exit.then]);refine bodyPost_ret (results_none rfl _ _ _) rfl ?_))
    exact F.out
   ·have hpa:(⟨xv,1,xl,xr,xw⟩:AdD).pass m=⟨xv,2,xl,xr,xw⟩:=by rw [PA.out,Xe.out];exact if_neg (λh=>hk h.2)
    have Hpa:=Lib.hid hpa
    have kd:decide (xr.kind=2)=false:=decide_eq_false hk
    clear hpa hk
    go_wp2_with fail
    refine(IR.out _ Hc.out HR.out).mono ?_
    rintro e w8 ⟨rfl,oI⟩
    rw [kd]
    have F:=Lib.hid (show jJ w w8 Mut n m p b bP ((⟨xv,1,xl,xr,xw⟩:AdD).pass m) (.pointer (some ⟨bl,0,none⟩)) (.pointer (some ⟨br,0,none⟩)) (.returned (.tuple #[])) from⟨rfl,Hc.out.trans (Chg.of_below oI),noB,by rw [Hpa.out];exact⟨wv,(oI.block b (aC HB.out)).trans HB.out,.inl ⟨(by decide:(2:Nat)≠3),rfl⟩⟩,λ_ h=>h.elim⟩)
    clear oI
    go_wp2
    (first|go_end0|((try simp only [Exit.inBlock,Exit.then]);refine bodyPost_ret (results_none rfl _ _ _) rfl ?_))
    exact F.out
  ·have kl:decide (xl.kind=2)=false:=decide_eq_false hkl
   have hpa:(⟨xv,1,xl,xr,xw⟩:AdD).pass m=⟨xv,1,xl,xr,xw⟩:=by rw [PA.out,if_neg (λh=>hkl h.2)];exact if_neg (λh=>absurd (show(1:Nat)=2 from h.1) (by decide))
   have Hpa:=Lib.hid hpa
   clear hkl hpa
   go_enter Try.func150,Try.ntmps150
   go_wp2_with fail
   refine IL.out.mono ?_
   rintro e w1 ⟨rfl,hb1⟩
   rw [kl]
   have hB1:=(hb1.block b (aC Hb.out)).trans Hb.out
   have y3:w1.cell? ⟨b,3,none⟩=some (.int .i64 1):=by rw [aA hB1];rfl
   have F:=Lib.hid (show jJ w w1 Mut n m p b bP ((⟨xv,1,xl,xr,xw⟩:AdD).pass m) (.pointer (some ⟨bl,0,none⟩)) (.pointer (some ⟨br,0,none⟩)) (.returned (.tuple #[])) from⟨rfl,Chg.of_below hb1,noB,by rw [Hpa.out];exact⟨wv,hB1,.inl ⟨(by decide:(1:Nat)≠3),rfl⟩⟩,λ_ h=>h.elim⟩)
   clear hb1 hB1 x3 x4 x5
   go_wp2
   (first|go_end0|((try simp only [Exit.inBlock,Exit.then]);refine bodyPost_ret (results_none rfl _ _ _) rfl ?_))
   exact F.out
 ·have Xe:=Lib.hid (show(if (2:Nat)=1/\xl.kind=2 then (⟨xv,2,xl,xr,xw⟩:AdD) else ⟨xv,2,xl,xr,xw⟩)=⟨xv,2,xl,xr,xw⟩ from if_neg (λh=>absurd h.1 (by decide)))
  have HB:=Hb;have Hc:=Lib.hid (Chg.refl (λk=>k=b) w)
  have HR:=Lib.hid (LK.out _ Hc.out).2
  go_enter Try.func150,Try.ntmps150
  go_upto_region 2 with fail
  by_cases hk:xr.kind=2
  ·have hpa:(⟨xv,2,xl,xr,xw⟩:AdD).pass m=(⟨xv,2,xl,xr,xw⟩:AdD).sum m:=by rw [PA.out,Xe.out];exact if_pos ⟨rfl,hk⟩
   have FF:xl.val+xr.val<2^m:=Hs.out (by rw [hpa];rfl)
   have Hpa:=Lib.hid hpa;have Hs9:=Lib.hid FF
   have kd:decide (xr.kind=2)=true:=decide_eq_true hk
   clear hpa FF hk
   go_wp2_with fail
   refine(IR.out _ Hc.out HR.out).mono ?_
   rintro e w8 ⟨rfl,oI⟩
   rw [kd]
   have hc8:=Hc.out.trans (Chg.of_below (S:=λk=>k=b) oI)
   have hB8:=(oI.block b (aC HB.out)).trans HB.out
   have Hc8:=Lib.hid hc8;have HB8:=Lib.hid hB8;have Hb8:=Lib.hid oI
   clear hc8 hB8 oI
   go_wp2_with fail
   refine(SUM.out _ 2 Hc8.out HB8.out (LK.out _ Hc8.out).1 (LK.out _ Hc8.out).2 Hs9.out).mono ?_
   intro e w9 h9
   have h8:=qC.adB (x:=⟨xv,2,xl,xr,xw⟩) (Mut:=Mut) h9 Hs9.out
   obtain⟨rfl,zF,B,hA,hge⟩:=h8
   have F:=Lib.hid (show jJ w w9 Mut n m p b bP ((⟨xv,2,xl,xr,xw⟩:AdD).pass m) (.pointer (some ⟨bl,0,none⟩)) (.pointer (some ⟨br,0,none⟩)) (.returned (.tuple #[])) from⟨rfl,Hc8.out.trans zF,B,by rw [Hpa.out];exact hA,λk hk=>Nat.le_trans Hc8.out.size (hge k hk)⟩)
   clear h9 zF hA hge
   go_wp2
   (first|go_end0|((try simp only [Exit.inBlock,Exit.then]);refine bodyPost_ret (results_none rfl _ _ _) rfl ?_))
   exact F.out
  ·have hpa:(⟨xv,2,xl,xr,xw⟩:AdD).pass m=⟨xv,2,xl,xr,xw⟩:=by rw [PA.out,Xe.out];exact if_neg (λh=>hk h.2)
   have Hpa:=Lib.hid hpa
   have kd:decide (xr.kind=2)=false:=decide_eq_false hk
   clear hpa hk
   go_wp2_with fail
   refine(IR.out _ Hc.out HR.out).mono ?_
   rintro e w8 ⟨rfl,oI⟩
   rw [kd]
   have F:=Lib.hid (show jJ w w8 Mut n m p b bP ((⟨xv,2,xl,xr,xw⟩:AdD).pass m) (.pointer (some ⟨bl,0,none⟩)) (.pointer (some ⟨br,0,none⟩)) (.returned (.tuple #[])) from⟨rfl,Hc.out.trans (Chg.of_below oI),noB,by rw [Hpa.out];exact⟨wv,(oI.block b (aC HB.out)).trans HB.out,.inl ⟨(by decide:(2:Nat)≠3),rfl⟩⟩,λ_ h=>h.elim⟩)
   clear oI
   go_wp2
   (first|go_end0|((try simp only [Exit.inBlock,Exit.then]);refine bodyPost_ret (results_none rfl _ _ _) rfl ?_))
   exact F.out
end
end Go.Proofs.Ytifhldnmcdbpfaa
