/- The reference's play, whatever its object is: a thread begins a call: roundelayplain.begin. -/
import Derived.Test.YtfkokppncipgnaaGreatV17
import Derived.Deep.Cut
import Derived.Test.YtfkokppncipgnaaGreatV18
set_option maxRecDepth 100000
set_option linter.unusedVariables false
set_option linter.unusedSimpArgs false
set_option linter.unnecessarySimpa false
namespace Go.Proofs.YtfkokppncipgnaaGreat
section
open Go.RowKit
set_option maxHeartbeats 4000000 in
theorem begin_gen (w:World) (bH bW bM mc p ev now n:Nat) (pre post:List Value) (x0 x1 x2 x3 x4 x5 x6 x7 x8 x9 x10 x11 x12 x13 x14 x15:Value) (hH:w.heap[bH]?=some (.cells (pre++([x0,x1,x2,x3,x4,x5,x6,x7,x8,x9,x10,x11,x12,x13,x14,x15]++post)).toArray 100 (0,0))) (hWH:bW≠bH) (hMH:bM≠bH)
  (ms:Array Value) (hM:w.heap[bM]?=some (.cells ms 24 (0,0))) (hms:ms.size=n) (hp:p<n) (hn:n<=16) (c6:w.cell? ⟨bW,6,none⟩=some (.int .i64 (now:Int))) (c7:w.cell? ⟨bW,7,none⟩=some (.slice (some ⟨bM,0,none⟩) n mc)) :
  Calls Tryz.prog 41 #[.pointer (some ⟨bH,pre.length,none⟩),.pointer (some ⟨bW,0,none⟩),.int .i64 (p:Int),.int .i64 (ev:Int)] w λe w'=>e=.returned (.tuple #[])/\Chg (λb=>b=bH∨b=bM) w w'/\w'.heap[bM]?=some (.cells (ms.setIfInBounds p (.slice none 0 0)) 24 (0,0))/\w'.heap[bH]?=some (.cells (pre++(handL true ev bW (.slice none 0 0) (.slice none 0 0) (tapeB p now) x15++post)).toArray 100 (0,0)):=by
 have H0:=Lib.hid hH;have HM:=Lib.hid hM;have C6:=Lib.hid c6;have C7:=Lib.hid c7
 have lW:=World.block_lt_of_cell? _ _ c6
 have lM:=blk_lt hM
 obtain⟨y9,hy9⟩:∃ y,ms[p]?=some y:=⟨_,Array.getElem?_eq_getElem (by omega)⟩
 clear hM c6 c7 hms
 have c0:w.cell? ⟨bH,pre.length,none⟩=some (x0):=by rw [cell_blk hH];exact mid_get (i:=0) (by exact(by decide:0<16))
 have cf0:w.frozen? ⟨bH,pre.length,none⟩=false:=frozen_blk hH _
 clear hH
 go_enter Tryz.func41,Tryz.ntmps41
 go_upto_region 1 with fail
 obtain⟨w1,hw1⟩:∃ w1,w1=w.setCell ⟨bH,pre.length,none⟩ (.bool true):=⟨_,rfl⟩
 rw [<-hw1]
 have h1:w1.heap[bH]?=some (.cells (pre++([.bool true,x1,x2,x3,x4,x5,x6,x7,x8,x9,x10,x11,x12,x13,x14,x15]++post)).toArray 100 (0,0)):=by rw [hw1];exact hand_set (i:=0) H0.out (by exact(by decide:0<16)) _
 have g1:Chg (λb=>b=bH) w w1:=by rw [hw1];exact(Chg.refl (λb=>b=bH) w).setCell (p:=⟨bH,pre.length,none⟩) (.inl rfl) _
 have H1:=Lib.hid h1;have G1:=Lib.hid g1
 clear c0 cf0 hw1 g1
 have c1:w1.cell? ⟨bH,pre.length+1,none⟩=some (x1):=by rw [cell_blk h1];exact mid_get (i:=1) (by exact(by decide:1<16))
 have cf1:w1.frozen? ⟨bH,pre.length+1,none⟩=false:=frozen_blk h1 _
 clear h1
 go_upto_region 2 with fail
 obtain⟨w2,hw2⟩:∃ w2,w2=w1.setCell ⟨bH,pre.length+1,none⟩ (.int .i64 (ev:Int)):=⟨_,rfl⟩
 rw [<-hw2]
 have h2:w2.heap[bH]?=some (.cells (pre++([.bool true,.int .i64 (ev:Int),x2,x3,x4,x5,x6,x7,x8,x9,x10,x11,x12,x13,x14,x15]++post)).toArray 100 (0,0)):=by rw [hw2];exact hand_set (i:=1) H1.out (by exact(by decide:1<16)) _
 have g2:Chg (λb=>b=bH) w w2:=by rw [hw2];exact G1.out.setCell (p:=⟨bH,pre.length+1,none⟩) (.inl rfl) _
 have k6:w2.cell? ⟨bW,6,none⟩=some (.int .i64 (now:Int)):=(g2.cell lW hWH).trans C6.out
 have H2:=Lib.hid h2;have G2:=Lib.hid g2
 clear c1 cf1 hw2 g2
 have c2:w2.cell? ⟨bH,pre.length+2,none⟩=some (x2):=by rw [cell_blk h2];exact mid_get (i:=2) (by exact(by decide:2<16))
 have cf2:w2.frozen? ⟨bH,pre.length+2,none⟩=false:=frozen_blk h2 _
 have c3:w2.cell? ⟨bH,pre.length+3,none⟩=some (x3):=by rw [cell_blk h2];exact mid_get (i:=3) (by exact(by decide:3<16))
 have cf3:w2.frozen? ⟨bH,pre.length+3,none⟩=false:=frozen_blk h2 _
 have c4:w2.cell? ⟨bH,pre.length+4,none⟩=some (x4):=by rw [cell_blk h2];exact mid_get (i:=4) (by exact(by decide:4<16))
 have cf4:w2.frozen? ⟨bH,pre.length+4,none⟩=false:=frozen_blk h2 _
 have c5:w2.cell? ⟨bH,pre.length+5,none⟩=some (x5):=by rw [cell_blk h2];exact mid_get (i:=5) (by exact(by decide:5<16))
 have cf5:w2.frozen? ⟨bH,pre.length+5,none⟩=false:=frozen_blk h2 _
 have c6:w2.cell? ⟨bH,pre.length+6,none⟩=some (x6):=by rw [cell_blk h2];exact mid_get (i:=6) (by exact(by decide:6<16))
 have cf6:w2.frozen? ⟨bH,pre.length+6,none⟩=false:=frozen_blk h2 _
 have c7:w2.cell? ⟨bH,pre.length+7,none⟩=some (x7):=by rw [cell_blk h2];exact mid_get (i:=7) (by exact(by decide:7<16))
 have cf7:w2.frozen? ⟨bH,pre.length+7,none⟩=false:=frozen_blk h2 _
 have c8:w2.cell? ⟨bH,pre.length+8,none⟩=some (x8):=by rw [cell_blk h2];exact mid_get (i:=8) (by exact(by decide:8<16))
 have cf8:w2.frozen? ⟨bH,pre.length+8,none⟩=false:=frozen_blk h2 _
 have c9:w2.cell? ⟨bH,pre.length+9,none⟩=some (x9):=by rw [cell_blk h2];exact mid_get (i:=9) (by exact(by decide:9<16))
 have cf9:w2.frozen? ⟨bH,pre.length+9,none⟩=false:=frozen_blk h2 _
 have c10:w2.cell? ⟨bH,pre.length+10,none⟩=some (x10):=by rw [cell_blk h2];exact mid_get (i:=10) (by exact(by decide:10<16))
 have cf10:w2.frozen? ⟨bH,pre.length+10,none⟩=false:=frozen_blk h2 _
 have c11:w2.cell? ⟨bH,pre.length+11,none⟩=some (x11):=by rw [cell_blk h2];exact mid_get (i:=11) (by exact(by decide:11<16))
 have cf11:w2.frozen? ⟨bH,pre.length+11,none⟩=false:=frozen_blk h2 _
 have c12:w2.cell? ⟨bH,pre.length+12,none⟩=some (x12):=by rw [cell_blk h2];exact mid_get (i:=12) (by exact(by decide:12<16))
 have cf12:w2.frozen? ⟨bH,pre.length+12,none⟩=false:=frozen_blk h2 _
 have c13:w2.cell? ⟨bH,pre.length+13,none⟩=some (x13):=by rw [cell_blk h2];exact mid_get (i:=13) (by exact(by decide:13<16))
 have cf13:w2.frozen? ⟨bH,pre.length+13,none⟩=false:=frozen_blk h2 _
 have c14:w2.cell? ⟨bH,pre.length+14,none⟩=some (x14):=by rw [cell_blk h2];exact mid_get (i:=14) (by exact(by decide:14<16))
 have cf14:w2.frozen? ⟨bH,pre.length+14,none⟩=false:=frozen_blk h2 _
 clear h2
 go_upto_region 3 with fail
 obtain⟨w3,hw3⟩:∃ w3,w3=((((((((((((w2.setCell ⟨bH,pre.length+2,none⟩ (.pointer (some ⟨bW,0,none⟩))).setCell ⟨bH,pre.length+3,none⟩ (.int .i64 (p:Int))).setCell ⟨bH,pre.length+4,none⟩ (.int .i64 (now:Int))).setCell ⟨bH,pre.length+5,none⟩ (.slice none 0 0)).setCell ⟨bH,pre.length+6,none⟩ (.slice none 0 0)).setCell ⟨bH,pre.length+7,none⟩ (.int .i64 0)).setCell ⟨bH,pre.length+8,none⟩ (.bool false)).setCell ⟨bH,pre.length+9,none⟩ (.bool false)).setCell ⟨bH,pre.length+10,none⟩ (.slice none 0 0)).setCell ⟨bH,pre.length+11,none⟩ (.int .i64 0)).setCell ⟨bH,pre.length+12,none⟩ (.int .u64 0)).setCell ⟨bH,pre.length+13,none⟩ (.slice none 0 0)).setCell ⟨bH,pre.length+14,none⟩ (.slice none 0 0):=⟨_,rfl⟩
 rw [<-hw3]
 have h3:w3.heap[bH]?=some (.cells (pre++([.bool true,.int .i64 (ev:Int),.pointer (some ⟨bW,0,none⟩),.int .i64 (p:Int),.int .i64 (now:Int),.slice none 0 0,.slice none 0 0,.int .i64 0,.bool false,.bool false,.slice none 0 0,.int .i64 0,.int .u64 0,.slice none 0 0,.slice none 0 0,x15]++post)).toArray 100 (0,0)):=by rw [hw3];exact(hand_set (i:=14) (hand_set (i:=13) (hand_set (i:=12) (hand_set (i:=11) (hand_set (i:=10) (hand_set (i:=9) (hand_set (i:=8) (hand_set (i:=7) (hand_set (i:=6) (hand_set (i:=5) (hand_set (i:=4) (hand_set (i:=3) (hand_set (i:=2) H2.out (by exact(by decide:2<16)) (.pointer (some ⟨bW,0,none⟩))) (by exact(by decide:3<16)) (.int .i64 (p:Int))) (by exact(by decide:4<16)) (.int .i64 (now:Int))) (by exact(by decide:5<16)) (.slice none 0 0)) (by exact(by decide:6<16)) (.slice none 0 0)) (by exact(by decide:7<16)) (.int .i64 0)) (by exact(by decide:8<16)) (.bool false)) (by exact(by decide:9<16)) (.bool false)) (by exact(by decide:10<16)) (.slice none 0 0)) (by exact(by decide:11<16)) (.int .i64 0)) (by exact(by decide:12<16)) (.int .u64 0)) (by exact(by decide:13<16)) (.slice none 0 0)) (by exact(by decide:14<16)) (.slice none 0 0))
 have g3:Chg (λb=>b=bH) w w3:=by rw [hw3];exact(((((((((((((G2.out.setCell (p:=⟨bH,pre.length+2,none⟩) (by exact .inl rfl) _).setCell (p:=⟨bH,pre.length+3,none⟩) (by exact .inl rfl) _).setCell (p:=⟨bH,pre.length+4,none⟩) (by exact .inl rfl) _).setCell (p:=⟨bH,pre.length+5,none⟩) (by exact .inl rfl) _).setCell (p:=⟨bH,pre.length+6,none⟩) (by exact .inl rfl) _).setCell (p:=⟨bH,pre.length+7,none⟩) (by exact .inl rfl) _).setCell (p:=⟨bH,pre.length+8,none⟩) (by exact .inl rfl) _).setCell (p:=⟨bH,pre.length+9,none⟩) (by exact .inl rfl) _).setCell (p:=⟨bH,pre.length+10,none⟩) (by exact .inl rfl) _).setCell (p:=⟨bH,pre.length+11,none⟩) (by exact .inl rfl) _).setCell (p:=⟨bH,pre.length+12,none⟩) (by exact .inl rfl) _).setCell (p:=⟨bH,pre.length+13,none⟩) (by exact .inl rfl) _).setCell (p:=⟨bH,pre.length+14,none⟩) (by exact .inl rfl) _)
 have k7:w3.cell? ⟨bW,7,none⟩=some (.slice (some ⟨bM,0,none⟩) n mc):=(g3.cell (by simpa using lW) hWH).trans C7.out
 have hM3:w3.heap[bM]?=some (.cells ms 24 (0,0)):=(g3.block _ lM hMH).trans HM.out
 have m1:w3.cell? ⟨bM,p,none⟩=some y9:=by rw [cell_blk hM3];exact hy9
 have mf:w3.frozen? ⟨bM,p,none⟩=false:=frozen_blk hM3 _
 have l1:(p:Int)<(n:Int):=by omega
 have lw:IntKind.i64.wrap (p:Int)=(p:Int):=by rw [IntKind.wrap_i64];omega
 have fin:Chg (λb=>b=bH∨b=bM) w (w3.setCell ⟨bM,p,none⟩ (.slice none 0 0))/\(w3.setCell ⟨bM,p,none⟩ (.slice none 0 0)).heap[bM]?=some (.cells (ms.setIfInBounds p (.slice none 0 0)) 24 (0,0))/\(w3.setCell ⟨bM,p,none⟩ (.slice none 0 0)).heap[bH]?=some (.cells (pre++(handL true ev bW (.slice none 0 0) (.slice none 0 0) (tapeB p now) x15++post)).toArray 100 (0,0)):=
  ⟨(g3.mono (λ_ _ e=>.inl e)).setCell (p:=⟨bM,p,none⟩) (.inl (.inr rfl)) _,blk_set hM3 _ _,by rw [blk_set_other hMH.symm];exact h3⟩
 have Fin:=Lib.hid fin
 clear h3 g3 hM3 fin hw3 k6 hy9 c2 cf2 c3 cf3 c4 cf4 c5 cf5 c6 cf6 c7 cf7 c8 cf8 c9 cf9 c10 cf10 c11 cf11 c12 cf12 c13 cf13 c14 cf14
 go_wp2
 (go_end0)
 exact⟨rfl,Fin.out.1,Fin.out.2.1,Fin.out.2.2⟩
end
section

/- A reference's play under way: a hand is opened, and shut. -/
open Go.RowKit
variable {w0 w w':World} {J:RJ} {s s':RefS} {hl hl':List Value} {vs vs':List HV} {G K L:Value} {ea ea':Option Addr} {ec ec':Nat} {ers ers':List (Value×Value)} {Mut Mut':Nat->Prop} {P:Nat->Prop} {p:Nat} {t:TapeP} {r:RWD}
def nilV:Value:=.slice none 0 0
theorem lmut_nil {EV:Value} {b:Nat} (hp:p<vs.length) (hb:LMut J (vs.set p (nilV,nilV,(vs.getD p hv0).2.2)) L EV b):LMut J vs L EV b:=by
 rcases hb with e|e|e|e|e|e|e|e|e|⟨q,hq,e⟩
 ·exact .inl e
 ·exact .inr (.inl e)
 ·exact .inr (.inr (.inl e))
 ·exact .inr (.inr (.inr (.inl e)))
 ·exact .inr (.inr (.inr (.inr (.inl e))))
 ·exact .inr (.inr (.inr (.inr (.inr (.inl e)))))
 ·exact .inr (.inr (.inr (.inr (.inr (.inr (.inl e))))))
 ·exact .inr (.inr (.inr (.inr (.inr (.inr (.inr (.inl e)))))))
 ·exact .inr (.inr (.inr (.inr (.inr (.inr (.inr (.inr (.inl e))))))))
 ·refine .inr (.inr (.inr (.inr (.inr (.inr (.inr (.inr (.inr ⟨q,hq,?_⟩))))))))
  by_cases hqp:q=p
  ·subst hqp
   rw [getD_set_eq hp] at e
   rcases e with e|e|e
   ·exact .inl e
   ·cases e
   ·cases e
  ·rw [getD_set_neq (Ne.symm hqp)] at e;exact e
theorem LogA.turnH (h:LogA w0 w J s hl vs L ea ec ers) (hp:p<J.nt) (h':RHand) (mk':List (List Int)) (hc:Chg (λb=>b=J.bH∨b=J.bM) w w') (hb':w'.heap[J.bH]?=some (.cells hl'.toArray 100 (0,0))) (hlen':hl'.length=16*J.nt)
  (hoth:∀ q j,q≠p->j<16->hl'[16*q+j]?=hl[16*q+j]?) (c0':hl'[16*p]?=some (.bool h'.opn)) (c1':h'.opn=true->hl'[16*p+1]?=some (.int .i64 (h'.ev:Int))) (c15':hl'[16*p+15]?=hl[16*p+15]?) (hown:h'.own=(s.hands.getD p rh0).own)
  (hH:HandAt w' (LMut J (vs.set p (nilV,nilV,(vs.getD p hv0).2.2)) L (.slice ea s.evs.length ec)) J.bW hl' p h' (nilV,nilV,(vs.getD p hv0).2.2)) (hmk:ListsAt w' (LMut J (vs.set p (nilV,nilV,(vs.getD p hv0).2.2)) L (.slice ea s.evs.length ec)) J.bM J.nt mk') :
  LogA w0 w' J { s with rw:={ s.rw with marks:=mk' },hands:=s.hands.set p h' } hl' (vs.set p (nilV,nilV,(vs.getD p hv0).2.2)) L ea ec ers:=by
 have hpl:p<s.hands.length:=by rw [h.rest.lens.2.2.1];exact hp
 have hpv:p<vs.length:=by rw [h.rest.lens.2.1];exact hp
 have ty:=h.ty
 obtain⟨_,hHb⟩:=ty.H
 obtain⟨_,hMb⟩:=ty.M
 have hS:∀ x,(x=J.bH∨x=J.bM)->LMut J vs L (.slice ea s.evs.length ec) x:=λx e=>by
  rcases e with e|e
  ·exact .inr (.inr (.inr (.inr (.inl e))))
  ·exact .inr (.inl e)
 have hM:MutUp (LMut J vs L (.slice ea s.evs.length ec)) w (LMut J (vs.set p (nilV,nilV,(vs.getD p hv0).2.2)) L (.slice ea s.evs.length ec)):=λx e=>.inl (lmut_nil hpv e)
 have hn:∀ {b':Nat} {c:Array Value} {T:TypeId} {fz:Nat×Nat},w.heap[b']?=some (.cells c T fz)->T≠100->T≠24->¬ (b'=J.bH∨b'=J.bM):=λh9 hT hT2 e=>by
  rcases e with e|e
  ·rw [e] at h9;exact blk_ne9 h9 hHb hT rfl
  ·rw [e] at h9;exact blk_ne9 h9 hMb hT2 rfl
 have hh:∀ q,q≠p->(s.hands.set p h').getD q rh0=s.hands.getD q rh0:=λq hq=>getD_set_neq (Ne.symm hq)
 have hpp:(s.hands.set p h').getD p rh0=h':=getD_set_eq hpl
 have hvq:∀ q,q≠p->(vs.set p (nilV,nilV,(vs.getD p hv0).2.2)).getD q hv0=vs.getD q hv0:=λq hq=>getD_set_neq (Ne.symm hq)
 have hvp:(vs.set p (nilV,nilV,(vs.getD p hv0).2.2)).getD p hv0=(nilV,nilV,(vs.getD p hv0).2.2):=getD_set_eq hpv
 have hvo:∀ q,((vs.set p (nilV,nilV,(vs.getD p hv0).2.2)).getD q hv0).2.2=(vs.getD q hv0).2.2:=λq=>by
  by_cases e:q=p
  ·subst e;rw [hvp]
  ·rw [hvq q e]
 have hnil:∀ b,nilV.ownBlock≠some b:=λb e=>by cases e
 have hct:=hc
 obtain⟨n,xs,hnn,hl9⟩:=h.log
 obtain⟨_,hW⟩:=ty.W
 obtain⟨_,hTb⟩:=ty.T
 have hMH:J.bM≠J.bH:=blk_ne9 hMb hHb (by decide)
 refine⟨⟨h.rest.below.trans (hc.below (λb e=>by
   rcases e with e|e
   ·rw [e];exact h.rest.ge.2.2.1
   ·rw [e];exact h.rest.ge.2.2.2.2.1) h.rest.below.size),(hc.block _ (blk_lt h.rest.fin) (hn h.rest.fin (by decide) (by decide))).trans h.rest.fin,h.rest.flen,⟨hlen',by simpa using h.rest.lens.2.1,by simpa using h.rest.lens.2.2.1,h.rest.lens.2.2.2⟩,λq hq=>?_,λq hq e=>?_,λq hq=>?_,λq hq=>?_,λq hq _=>?_,
   (hc.block _ (blk_lt h.rest.out) (hn h.rest.out (by decide) (by decide))).trans h.rest.out,row_chg h.rest.evs hc (λb e=>by obtain⟨_,_,h9⟩:=ty.E b e;exact hn h9 (by decide) (by decide)),h.rest.lies hc (λx _ e=>hS x e) hM,λa b ha hb _ _ hab c e1 e2=>?_,λa b ha hb _ _ hab c e1 e2=>?_,λa b ha hb hab=>?_,
   ⟨h.rest.ge.1,h.rest.ge.2.1,h.rest.ge.2.2.1,h.rest.ge.2.2.2.1,h.rest.ge.2.2.2.2.1,h.rest.ge.2.2.2.2.2.1,h.rest.ge.2.2.2.2.2.2.1,λq hq=>?_⟩,λb hb=>?_,λb hb q hq _ e=>?_,h.rest.res⟩,
  hb',h.mem.chg hc (hn hW (by decide) (by decide)) (λq e9=>by obtain⟨_,_,h9⟩:=ty.U q e9;exact hn h9 (by decide) (by decide)),⟨n,xs,hnn,row_chg hl9 hc (λb e9=>by obtain⟨_,_,h9⟩:=ty.L b e9;exact hn h9 (by decide) (by decide))⟩,h.logge,hmk,h.traces.keep hc hS hM (λe=>by
   rcases e with e|e
   ·rw [e] at hTb;exact blk_ne9 hTb hHb (by decide) rfl
   ·exact h.mt e.symm),h.mt⟩
 ·show hl'[16*q]?=some (.bool ((s.hands.set p h').getD q rh0).opn)
  by_cases e:q=p
  ·subst e;rw [hpp];exact c0'
  ·rw [hh q e]
   have:=hoth q 0 e (by omega)
   rw [Nat.add_zero] at this
   rw [this];exact h.rest.c0 q hq
 ·have e':((s.hands.set p h').getD q rh0).opn=true:=e
  show hl'[16*q+1]?=some (.int .i64 ((((s.hands.set p h').getD q rh0).ev:Nat):Int))
  by_cases e:q=p
  ·subst e;rw [hpp] at e' ⊢;exact c1' e'
  ·rw [hh q e] at e' ⊢;rw [hoth q 1 e (by omega)];exact h.rest.c1 q hq e'
 ·rw [hvo]
  by_cases e:q=p
  ·subst e;rw [c15'];exact h.rest.c15 q hq
  ·rw [hoth q 15 e (by omega)];exact h.rest.c15 q hq
 ·obtain⟨OV,h1,h2⟩:=h.rest.own q hq
  refine⟨OV,by rw [hvo];exact(hc.block _ (blk_lt h1) (hn h1 (by decide) (by decide))).trans h1,?_⟩
  show LstU w' _ OV ((s.hands.set p h').getD q rh0).own
  have e9:((s.hands.set p h').getD q rh0).own=(s.hands.getD q rh0).own:=by
   by_cases e:q=p
   ·subst e;rw [hpp];exact hown
   ·rw [hh q e]
  rw [e9]
  exact h2.keep hc hS hM
 ·show HandAt w' _ J.bW hl' q ((s.hands.set p h').getD q rh0) _
  by_cases e:q=p
  ·subst e;rw [hpp,hvp];exact hH
  ·rw [hh q e,hvq q e]
   have H:=(h.rest.hand q hq trivial).keep hc hS hM (λb e=>by obtain⟨_,_,h9⟩:=(h.rest.hand q hq trivial).ty.1 b e;exact hn h9 (by decide) (by decide)) (λb e=>by obtain⟨_,_,h9⟩:=(h.rest.hand q hq trivial).ty.2 b e;exact hn h9 (by decide) (by decide))
   refine⟨λe1=>?_,H.cl⟩
   obtain⟨⟨a,f,ha,PV',er,vl,LV',KV',pl,ll,kl,h1,h6,h5,h7,h8⟩,h2,h3,h4⟩:=H.opn e1
   exact⟨⟨a,f,ha,PV',er,vl,LV',KV',pl,ll,kl,λj hj=>by rw [show 16*q+2+j=16*q+(2+j) by omega,hoth q (2+j) e (by omega),<-h1 j hj,Nat.add_assoc],h6,h5,h7,h8⟩,h2,h3,h4⟩
 ·by_cases ea9:a=p
  ·subst ea9;rw [hvp] at e1;exact hnil _ e1
  ·rw [hvq a ea9] at e1
   by_cases eb9:b=p
   ·subst eb9;rw [hvp] at e2;exact hnil _ e2
   ·rw [hvq b eb9] at e2;exact h.rest.gg a b ha hb trivial trivial hab c e1 e2
 ·by_cases ea9:a=p
  ·subst ea9;rw [hvp] at e1;exact hnil _ e1
  ·rw [hvq a ea9] at e1
   by_cases eb9:b=p
   ·subst eb9;rw [hvp] at e2;exact hnil _ e2
   ·rw [hvq b eb9] at e2;exact h.rest.kk a b ha hb trivial trivial hab c e1 e2
 ·rw [hvo,hvo];exact h.rest.oo a b ha hb hab
 ·refine⟨by rw [hvo];exact(h.rest.ge.2.2.2.2.2.2.2 q hq).1,λ_=>?_⟩
  by_cases e:q=p
  ·subst e;rw [hvp];exact⟨λb e=>absurd e (hnil b),λb e=>absurd e (hnil b)⟩
  ·rw [hvq q e];exact(h.rest.ge.2.2.2.2.2.2.2 q hq).2 trivial
 ·obtain⟨cs,fz,h9⟩:=ty.U b hb
  exact⟨cs,fz,(hc.block _ (blk_lt h9) (hn h9 (by decide) (by decide))).trans h9⟩
 ·by_cases e9:q=p
  ·subst e9;rw [hvp] at e;exact hnil _ e
  ·rw [hvq q e9] at e;exact h.rest.wg b hb q hq trivial e
theorem LogA.shut (h:LogA w0 w J s hl vs L ea ec ers) (hp:p<J.nt):LogA w0 (w.setCell ⟨J.bH,16*p,none⟩ (.bool false)) J { s with hands:=s.hands.set p { s.hands.getD p rh0 with opn:=false } } (hl.set (16*p) (.bool false)) (vs.set p (nilV,nilV,(vs.getD p hv0).2.2)) L ea ec ers:=by
 have hlen:=h.rest.lens.1
 have hc:Chg (λb=>b=J.bH∨b=J.bM) w (w.setCell ⟨J.bH,16*p,none⟩ (.bool false)):=(Chg.refl (λb=>b=J.bH∨b=J.bM) w).setCell (p:=⟨J.bH,16*p,none⟩) (.inl (.inl rfl)) _
 have hpv:p<vs.length:=by rw [h.rest.lens.2.1];exact hp
 obtain⟨_,hMb⟩:=h.ty.M
 obtain⟨_,hHb⟩:=h.ty.H
 refine h.turnH hp { s.hands.getD p rh0 with opn:=false } s.rw.marks hc (by rw [blk_set h.hb];simp) (by simpa using hlen) (λq j hq hj=>by rw [List.getElem?_set_ne (by omega)]) (by rw [List.getElem?_set_self (by omega)]) (λe=>by cases e) (by rw [List.getElem?_set_ne (by omega)]) rfl ⟨λe=>by(cases e),λ_=>⟨rfl,rfl⟩⟩ ?_
 have hc1:Chg (λb=>b=J.bH) w (w.setCell ⟨J.bH,16*p,none⟩ (.bool false)):=(Chg.refl (λb=>b=J.bH) w).setCell (p:=⟨J.bH,16*p,none⟩) (.inl rfl) _
 exact h.marks.keep hc1 (λx e=>.inr (.inr (.inr (.inr (.inl e))))) (λx e=>.inl (lmut_nil hpv e)) (blk_ne9 hMb hHb (by decide))
set_option maxHeartbeats 1000000 in
theorem begin_r (h:LogA w0 w J s hl vs L ea ec ers) (hp:p<J.nt) (hn:J.nt<=16) (ev:Nat) :
  Calls Tryz.prog 41 #[.pointer (some ⟨J.bH,16*p,none⟩),.pointer (some ⟨J.bW,0,none⟩),.int .i64 (p:Int),.int .i64 (ev:Int)] w λe w'=>e=.returned (.tuple #[])/\Chg (λb=>b=J.bH∨b=J.bM) w w'/\∃ hl' vs',LogA w0 w' J { s with rw:=s.rw.begin p,hands:=s.hands.set p ⟨true,ev,s.rw.now,[],[],(s.hands.getD p rh0).own⟩ } hl' vs' L ea ec ers:=by
 have hlen:=h.rest.lens.1
 have hpv:p<vs.length:=by rw [h.rest.lens.2.1];exact hp
 have ty:=h.ty
 obtain⟨ms,hM,hml,hms⟩:=h.marks.blk
 obtain⟨wa,cap,_,hW,_⟩:=h.mem.blk
 obtain⟨X,hX⟩:∃ X,X=(hl.drop (16*p)).take 16:=⟨_,rfl⟩
 have hXl:X.length=16:=by rw [hX];simp;omega
 have hXg:∀ j,j<X.length->hl[16*p+j]?=X[j]?:=λj hj=>by rw [hX,List.getElem?_take_of_lt (by omega),List.getElem?_drop]
 have hput:=put_ext (hl:=hl) (a:=16*p) (X:=X) (by omega) hXg
 obtain⟨x0,x1,x2,x3,x4,x5,x6,x7,x8,x9,x10,x11,x12,x13,x14,x15,rfl⟩:∃ x0 x1 x2 x3 x4 x5 x6 x7 x8 x9 x10 x11 x12 x13 x14 x15,X=[x0,x1,x2,x3,x4,x5,x6,x7,x8,x9,x10,x11,x12,x13,x14,x15]:=by
  match X,hXl with
  | [x0,x1,x2,x3,x4,x5,x6,x7,x8,x9,x10,x11,x12,x13,x14,x15],_=>exact⟨_,_,_,_,_,_,_,_,_,_,_,_,_,_,_,_,rfl⟩
 have hpre:(hl.take (16*p)).length=16*p:=by simp;omega
 have hb:=h.hb
 rw [hput] at hb
 have hx15:hl[16*p+15]?=some x15:=by have:=hXg 15 (by rw [hXl];omega);rw [this];rfl
 obtain⟨_,hHb⟩:=ty.H
 have C:=begin_gen w J.bH J.bW J.bM J.nt p ev s.rw.now J.nt (hl.take (16*p)) (hl.drop (16*p+16)) x0 x1 x2 x3 x4 x5 x6 x7 x8 x9 x10 x11 x12 x13 x14 x15 hb (blk_ne9 hW hHb (by decide)) (blk_ne9 hM hHb (by decide)) ms.toArray hM (by simpa using hml) hp hn (by rw [cell_blk hW];rfl) (by rw [cell_blk hW];rfl)
 rw [hpre] at C
 refine C.mono ?_
 rintro e w' ⟨rfl,hc,hM',hH'⟩
 refine⟨rfl,hc,_,_,h.turnH (hl':=hl.take (16*p)++(handL true ev J.bW (.slice none 0 0) (.slice none 0 0) (tapeB p s.rw.now) x15++hl.drop (16*p+16))) hp ⟨true,ev,s.rw.now,[],[],(s.hands.getD p rh0).own⟩ (s.rw.marks.set p []) hc hH' ?_ (λq j hq hj=>?_) ?_ (λ_=>?_) ?_ rfl ⟨λ_=>⟨⟨0,false,false,.slice none 0 0,0,0,.slice none 0 0,.slice none 0 0,[],[],[],λj hj=>?_,Nat.le_refl _,LstU.nil _ _,LstV.nil _ _,Lst.nil _ _⟩,⟨rfl,.inl ⟨rfl,rfl⟩⟩,⟨rfl,.inl ⟨rfl,rfl⟩⟩,rfl⟩,λe=>by cases e⟩ ?_⟩
 ·simp [handL,tapeL];omega
 ·have:=put_get (hl:=hl) (a:=16*p) (X:=handL true ev J.bW (.slice none 0 0) (.slice none 0 0) (tapeB p s.rw.now) x15) (by show 16*p+16<=_;omega) (16*q+j)
  rw [show(handL true ev J.bW (.slice none 0 0) (.slice none 0 0) (tapeB p s.rw.now) x15).length=16 from rfl] at this
  rw [this,if_neg (by omega)]
 ·rw [List.getElem?_append_right (by omega),hpre,Nat.sub_self];rfl
 ·rw [List.getElem?_append_right (by omega),hpre,Nat.add_sub_cancel_left];rfl
 ·rw [hx15,List.getElem?_append_right (by omega),hpre,Nat.add_sub_cancel_left];rfl
 ·rw [List.getElem?_append_right (by omega),hpre,show 16*p+2+j - 16*p=j+1+1 by omega]
  show(tapeL J.bW (.slice none 0 0) (.slice none 0 0) (tapeB p s.rw.now)++[x15]++hl.drop (16*p+16))[j]?=_
  rw [List.append_assoc,List.getElem?_append_left (by exact hj)]
  rfl
 ·refine⟨by simpa using h.marks.len,ms.set p (.slice none 0 0),by simpa using hM',by simpa using hml,λi hi=>?_⟩
  by_cases e:p=i
  ·subst e
   rw [getD_set_eq (by omega),getD_set_eq (by rw [h.marks.len];exact hi)]
   exact Lst.nil _ _
  ·rw [getD_set_neq e,getD_set_neq e]
   exact(hms i hi).keep hc (λx e=>by
    rcases e with e|e
    ·exact .inr (.inr (.inr (.inr (.inl e))))
    ·exact .inr (.inl e)) (λx e=>.inl (lmut_nil hpv e))
end
end Go.Proofs.YtfkokppncipgnaaGreat
