/- A reference's play, whatever its object is: roundelayplain.Log. -/
import Derived.Test.YtfkokppncipgnaaGreatW27
import Derived.Test.YtfkokppncipgnaaGreatW25
import Derived.Test.YtfkokppncipgnaaGreatW26
import Derived.Test.YtfkokppncipgnaaGreatW21
import Derived.Test.YtfkokppncipgnaaGreatW11
import Derived.Test.YtfkokppncipgnaaGreatW14
import Derived.Test.YtfkokppncipgnaaGreatW18
import Derived.Laws.CopyOwn
set_option maxRecDepth 100000
set_option linter.unusedVariables false
set_option linter.unusedSimpArgs false
set_option linter.unnecessarySimpa false
namespace Go.Proofs.YtfkokppncipgnaaGreat
open List renaming getElem_toArray → zq1, getElem_cons_zero → zq2, getElem_cons_succ → zq3, setIfInBounds_toArray → zq4, set_cons_zero → zq5, set_cons_succ → zq6
section
open Go.RowKit
set_option maxHeartbeats 8000000 in
theorem Qp (X9:Nat->Prop) (dO:aD->aJ->RWD->aJ×RWD) (late:aD->Nat->dW->RWD->List Int) (Pre:aD->aJ->RWD->Prop) (D:DoB dO) (nt sz:Nat) (kd P Q:Int) (calls:List aD) (picks:List Int) (ca pa:Option Addr) (cc pc bS:Nat) (w:World) (hX9:∀ b,X9 b->b<w.heap.size) (hk:¬ kd=8) (hsz:sz<=65536) (hs0:0<sz) (hck:checkN (nt:Int) calls picks.length=0) (hS:kM w bS kd P Q) (hc:jD noB w ca calls) (hp:jU w pa picks)
  (Oj:∀ c,c<calls.length->0<=(calls.getD c d0).thread/\(calls.getD c d0).thread<(nt:Int)) (SC:∀ u:World,Calls Tryz.prog 55 #[.int .i64 (nt:Int),.agg #[.int .i64 kd,.int .i64 P,.int .i64 Q]] u λe w'=>e=.returned (.int .i64 (sz:Int))/\Below u.heap.size u w')
  (DC:DoC kd P Q nt Pre dO) (LC:QZ kd P Q nt late) (hR:∀ k,kS nt sz calls (dL dO calls (gQ nt sz calls) (picks.take k)))
  (hpre:∀ k i,k<picks.length->gF calls (dL dO calls (gQ nt sz calls) (picks.take k)).fin (picks.getD k 0)=some i->(calls.getD i d0).obj=0->∀ s1,s1=dM { dL dO calls (gQ nt sz calls) (picks.take k) with rw:=(dL dO calls (gQ nt sz calls) (picks.take k)).rw.tick } (picks.getD k 0).toNat i->Pre (calls.getD i d0) ((s1.hands.getD (picks.getD k 0).toNat aY).tape (picks.getD k 0).toNat) s1.rw) :
  Calls Tryz.prog 22 #[.int .i64 (nt:Int),.slice (some ⟨bS,0,none⟩) 1 1,.slice ca calls.length cc,.slice pa picks.length pc] w λe w'=>SI X9 w w' (Ld late calls (dL dO calls (gQ nt sz calls) picks) nt) e:=by
 obtain⟨RP,hRP⟩:∃ RP,RP=Ld late calls (dL dO calls (gQ nt sz calls) picks) nt:=⟨_,rfl⟩
 rw [<-hRP]
 have HRP:=Lib.hid hRP
 clear hRP
 have HX9:=Lib.hid hX9
 clear hX9
 have W:=BI (nt:Int) calls picks.length ca pa cc pc (w.alloc (.cells #[.slice none 0 0,.slice none 0 0,.int .i64 0,.int .i64 0,.int .i64 0,.int .i64 0,.int .i64 0,.int .i64 0,.int .i64 0] 32)) (hc.grown (Gr.new _ _)).sl hp.sl.1
 rw [hck] at W
 have HW:=Lib.hid W;have HS:=Lib.hid hS;have HCa:=Lib.hid hc;have Hp:=Lib.hid hp;have Hck:=Lib.hid hck
 have HB:=Lib.hid (λ(u:World) (h:Below w.heap.size w u)=>Cg (nt:Int) kd P Q sz hsz bS u (hS.grown h) SC)
 obtain⟨z1,z2,z3,_⟩:=gZ (eD hck).1
 have hnt:nt<=16:=by omega
 have hmkM:=NQ nt (by omega)
 have hmkT:=NQ sz (by omega)
 have HDC:=Lib.hid DC;have HLC:=Lib.hid LC;have HR:=Lib.hid hR;have HPre:=Lib.hid hpre;have Hthr:=Lib.hid Oj
 clear W SC hS hc hp hck DC LC hR hpre Oj
 go_enter Tryz.func22,Tryz.ntmps22
 go_wp2_with fail
 refine HW.out.mono ?_
 rintro e w1 ⟨rfl,hb1⟩
 have HR1:=Lib.hid ((hb1.block w.heap.size (by simp)).trans (heap_alloc_new w _))
 have Hb1:=Lib.hid (Gr.trans (Gr.new _ _) hb1)
 clear hb1
 go_wp2_with fail
 refine(HB.out _ Hb1.out).mono ?_
 rintro e w2 ⟨g,gc,rfl,hg0,hgl,hb2⟩
 have Hb2:=Lib.hid (Gr.trans Hb1.out hb2);have Hg0:=Lib.hid hg0
 have HR2:=Lib.hid ((hb2.block w.heap.size (by have h9:=HR1.out;exact aC h9)).trans HR1.out)
 have HRl:=Lib.hid (aC HR2.out)
 have WD:=Lib.hid (λ(u:World) (h:Below w2.heap.size w2 u)=>(Dq (nt:Int) kd P Q sz g gc hk (by omega) bS u (HS.out.grown (Gr.trans Hb2.out h))).mono (λe w' (h9:_/\_)=>(⟨u.heap.size,h9.1,by rw [h9.2];exact heap_alloc_new _ _,by rw [h9.2];exact Gr.new _ _⟩:∃ b,e=.returned (.slice (some ⟨b,0,none⟩) sz sz)/\w'.heap[b]?=some (.cells (madeCells #[.int .u64 0] sz) 46 (0,0))/\Below u.heap.size u w')))
 have OF:=Lib.hid (λ(u:World) (h:Below w2.heap.size w2 u) (b:Nat) (hb:u.heap[b]?=some (.cells (madeCells #[.int .u64 0] sz) 46 (0,0)))=>(Pz (some ⟨b,0,none⟩) sz (List.replicate sz 0) u (Cv hb (by omega)) (by rw [List.length_replicate];omega) (λe=>by cases e)).mono (λe w' (h9:∃ v,e=.returned (.agg #[v,.int .i64 0,.int .i64 0,.int .i64 0,.int .i64 0,.int .i64 0])/\w'.ownsRow (u.heap.size+1) 46 1 v (List.replicate sz 0).length ((List.replicate sz 0).map bI)/\Below u.heap.size u w')=>by
  obtain⟨v,h1,h2,h3⟩:=h9
  rw [List.length_replicate] at h2
  obtain⟨wa,wc,rfl⟩:=dX h2
  exact(⟨wa,wc,h1,WA h2 (Nat.le_succ_of_le h.size),h3⟩:∃ wa wc,e=.returned (.agg #[.slice wa sz wc,.int .i64 0,.int .i64 0,.int .i64 0,.int .i64 0,.int .i64 0])/\w'.ownsRow w2.heap.size 46 1 (.slice wa sz wc) sz ((List.replicate sz 0).map bI)/\Below u.heap.size u w')))
 simp only [List.length_replicate] at OF
 clear hb2 hg0 hgl
 go_upto_region 7 with fail
 refine Sd (by kernel_rfl) (λ_ d _ a _ h=>by cases d<;>exact h) hmkM hmkT WD.out OF.out ?_
 rintro y46 y47 y48 y49 y50 y51 y52 y53 y54 y55 y56 y57 bW wx ⟨bM,bT,wa,wc,hL⟩
 ·have HL:=Lib.hid hL
  have hmkF:=GR calls.length (by omega)
  have hmkH:=UG nt hnt
  have hmkO:=Ap
  clear hL hmkM hmkT HB WD OF
  go_upto_region 10 with fail
  obtain⟨w3,hw3⟩:∃ w3,w3=(wx.alloc (.cells (Array.replicate calls.length (Value.bool false)) 4)).alloc (.cells (madeCells hand0 (nt*16)) 100):=⟨_,rfl⟩
  rw [<-hw3]
  have hb3:Below wx.heap.size wx w3:=by rw [hw3];exact Gr.alloc (Gr.new _ _) _
  have hF3:w3.heap[wx.heap.size]?=some (.cells (Array.replicate calls.length (Value.bool false)) 4 (0,0)):=by rw [hw3,Below.heap_alloc _ _ _ (by simp)];exact heap_alloc_new _ _
  have hH3:w3.heap[wx.heap.size+1]?=some (.cells (madeCells hand0 (nt*16)) 100 (0,0)):=by
   rw [hw3]
   have:=heap_alloc_new (wx.alloc (.cells (Array.replicate calls.length (Value.bool false)) 4)) (.cells (madeCells hand0 (nt*16)) 100 (0,0))
   simp only [World.size_alloc] at this
   exact this
  have K3:vD w2 w3 (wx.heap.size+1) nt 0:=⟨(madeCells hand0 (nt*16)).toList,λ_=>0,⟨Aw nt,by rw [hH3],λq hq=>by have:=Df nt q 0 hq (by decide);rw [Nat.add_zero] at this;rw [this];rfl,λq hq=>absurd hq (Nat.not_lt_zero q),λq _ hq=>absurd hq (Nat.not_lt_zero q)⟩⟩
  have HB3:=Lib.hid hb3;have HF3:=Lib.hid hF3;have HK3:=Lib.hid K3
  have hH3l:=aC hH3
  have h2x:=HL.out.below.size
  clear hb3 hF3 hH3 K3 hw3 hmkF hmkH
  obtain⟨bH,hbH⟩:∃ bH,bH=wx.heap.size+1:=⟨_,rfl⟩
  rw [<-hbH] at HK3 hH3l ⊢
  have hbHg:w2.heap.size<=bH:=by omega
  have HbH:=Lib.hid hbH
  clear hbH
  go_wp2
  go_loopw [65] (λi wr=>∃ p:Nat,p<=nt/\i=.int .i64 p/\Chg (λb=>b=bH) w3 wr/\vD w2 wr bH nt p) (λi _=>nt - (intOf i).toNat)
  case atStart=>exact⟨0,Nat.zero_le _,rfl,Chg.refl _ _,HK3.out⟩
  case round=>
   obtain⟨p,hp,rfl,hc,hk⟩:=hrel
   by_cases hlt:p<nt
   ·obtain⟨hl,os,y0⟩:=id hk
    have y1:=y0.len
    obtain⟨y,hy⟩:∃ y,hl[16*p+15]?=some y:=⟨_,List.getElem?_eq_getElem (by omega)⟩
    have l1:(p:Int)<(nt:Int):=by omega
    have lw:IntKind.i64.wrap (p:Int)=(p:Int):=by rw [IntKind.wrap_i64];omega
    have q1:wr.cell? ⟨bH,p*16+15,none⟩=some y:=by rw [aA y0.blk,Nat.mul_comm];simpa using hy
    have q2:wr.frozen? ⟨bH,p*16+15,none⟩=false:=aB y0.blk _
    have hHl:=aC y0.blk
    have Hc:=Lib.hid hc;have Hk:=Lib.hid hk
    clear hc hk y0 y1 hy
    as_aux_lemma=>
     go_wp2
     go_roundw
     case rel=>
      have hal:Below wr.heap.size wr (wr.alloc (.cells #[.slice none 0 0] 28)):=Gr.new _ _
      have hcx:Chg (λb=>b=bH) (wr.alloc (.cells #[.slice none 0 0] 28)) ((wr.setCell ⟨bH,p*16+15,none⟩ (.slice (some ⟨wr.heap.size,0,none⟩) 1 1)).alloc (.cells #[.slice none 0 0] 28)):=by
       have e1:Chg (λb=>b=bH) wr ((wr.setCell ⟨bH,p*16+15,none⟩ (.slice (some ⟨wr.heap.size,0,none⟩) 1 1)).alloc (.cells #[.slice none 0 0] 28)):=((Chg.refl (λb=>b=bH) wr).setCell (p:=⟨bH,p*16+15,none⟩) (.inl rfl) _).alloc _
       refine⟨e1.os,e1.tape,e1.output,by simp,λb hb hn=>?_⟩
       by_cases hbw:b<wr.heap.size
       ·exact(e1.block b hbw hn).trans (hal.block b hbw).symm
       ·simp only [World.size_alloc] at hb
        obtain rfl:b=wr.heap.size:=by omega
        have h1:=heap_alloc_new (wr.setCell ⟨bH,p*16+15,none⟩ (.slice (some ⟨wr.heap.size,0,none⟩) 1 1)) (.cells #[.slice none 0 0] 28 (0,0))
        rw [show(wr.setCell ⟨bH,p*16+15,none⟩ (.slice (some ⟨wr.heap.size,0,none⟩) 1 1)).heap.size=wr.heap.size from by simp [World.setCell]] at h1
        rw [h1]
        exact(heap_alloc_new wr _).symm
      refine⟨p+1,by omega,by go_num,Hc.out.trans (((Chg.refl (λb=>b=bH) wr).setCell (p:=⟨bH,p*16+15,none⟩) (.inl rfl) _).alloc _),Hk.out.own hlt hal (heap_alloc_new _ _) (Nat.le_refl _) (Nat.le_trans h2x (Nat.le_trans HB3.out.size Hc.out.size)) hcx ?_⟩
      rw [Below.heap_alloc _ _ _ (by simpa [World.setCell] using hHl),Nat.mul_comm 16 p]
      obtain⟨ZM,_,y9⟩:=Hk.out
      rw [aG y9.blk,aG ((hal.block _ hHl).trans y9.blk)]
     case measure=>simp [intOf]<;>omega
   ·have l1:¬ (p:Int)<(nt:Int):=by omega
    obtain rfl:nt=p:=by omega
    have Hc:=Lib.hid hc;have Hk:=Lib.hid hk
    clear hc hk
    obtain⟨w4,hw4⟩:∃ w4,w4=wr.alloc (.cells #[.slice none 0 0,.slice none 0 0,.int .i64 0,.int .i64 0,.int .i64 0,.int .i64 0,.int .i64 0,.int .i64 0,.int .i64 0] 32):=⟨_,rfl⟩
    have hb4:Below wr.heap.size wr w4:=by rw [hw4];exact Gr.new _ _
    obtain⟨bO,hbO⟩:∃ bO,bO=wr.heap.size:=⟨_,rfl⟩
    have hO4:w4.heap[bO]?=some (.cells #[.slice none 0 0,.slice none 0 0,.int .i64 0,.int .i64 0,.int .i64 0,.int .i64 0,.int .i64 0,.int .i64 0,.int .i64 0] 32 (0,0)):=by rw [hw4,hbO];exact heap_alloc_new _ _
    obtain⟨bF,hbF⟩:∃ bF,bF=wx.heap.size:=⟨_,rfl⟩
    have hL:=HL.out
    have hbH9:=HbH.out
    have hx4:Chg (λb=>b=bH) wx w4:=xZ (S:=λb=>b=bH) (Chg.of_below HB3.out) (Hc.out.trans (Chg.of_below hb4)) (λ_ _ h=>h)
    have A0:∃ bq,jA w2 w4 ⟨bW,bM,bT,bF,bH,bO,some bq,nt,sz,calls.length,λb=>b=w.heap.size∨X9 b⟩ (gQ nt sz calls):=by
     refine jA.init (bq:=0) (nc:=0) calls hL hs0 hsz hx4 (by omega) (Hk.out.grown hb4) ?_ (by omega) hO4 (by have:=Hc.out.size;have:=HB3.out.size;omega) (λb e=>by rcases e with rfl|e;exact HRl.out;have:=HX9.out b e;have:=HRl.out;omega)
     rw [hb4.block _ (by have:=Hc.out.size;have:=HB3.out.size;have:=aC HF3.out;omega),Hc.out.block _ (by have:=aC HF3.out;omega) (by omega),hbF,HF3.out]
     simp
    obtain⟨bq,A0⟩:=A0
    have HA0:=Lib.hid A0;have Hw4:=Lib.hid (show w4=wr.alloc (.cells #[.slice none 0 0,.slice none 0 0,.int .i64 0,.int .i64 0,.int .i64 0,.int .i64 0,.int .i64 0,.int .i64 0,.int .i64 0] 32) from hw4)
    have HbO:=Lib.hid hbO;have HbF:=Lib.hid hbF
    clear hL hbH9 hx4 A0 hb4 hO4 hw4 l1 hbO hbF
    have l1:¬ (nt:Int)<(nt:Int):=by omega
    go_upto_region 16 with fail
    rw [<-Hw4.out,<-HbO.out,<-HbF.out]
    clear l1
    go_wp2
    have HA0':=HA0.out
    have hpm:=(eD Hck.out).2
    have X:OG dO late Pre nt sz kd P Q calls picks ca pa bS g w2 ⟨bW,bM,bT,bF,bH,bO,some bq,nt,sz,calls.length,λb=>b=w.heap.size∨X9 b⟩:=⟨D,hnt,z3,hpm,hs0,Hthr.out,HS.out.grown Hb2.out,Hg0.out,HCa.out.grown Hb2.out,Hp.out.grown Hb2.out,HDC.out,HLC.out,HR.out,HPre.out,rfl,rfl,rfl⟩
    have HX:=Lib.hid X
    clear X HB3 HF3 HK3 HL Hc Hk HbH Hw4 HbO HbF hmkO HDC HLC HR HPre
    go_loopw [78] (λi wv=>∃ k:Nat,k<=picks.length/\i=.int .i64 k/\jA w2 wv ⟨bW,bM,bT,bF,bH,bO,some bq,nt,sz,calls.length,λb=>b=w.heap.size∨X9 b⟩ (dL dO calls (gQ nt sz calls) (picks.take k))) (λi _=>picks.length - (intOf i).toNat)
    case atStart=>exact⟨0,Nat.zero_le _,rfl,HA0.out⟩
    case round=>
     obtain⟨k,hk,rfl,hA⟩:=hrel
     by_cases hlt:k<picks.length
     ·cases hN:gF calls (dL dO calls (gQ nt sz calls) (picks.take k)).fin (picks.getD k 0) with
      | none=>
       refine Ji (J:=⟨bW,bM,bT,bF,bH,bO,some bq,nt,sz,calls.length,λb=>b=w.heap.size∨X9 b⟩) HX.out (by kernel_rfl) hlt (λ_ d _ _ _ h=>by cases d<;>exact h) hA hN ?_
       intros
       rename_i wz hz
       go_roundw
       case rel=>exact⟨_,_,_,_,_,_,_,_,_,_,_,_,_,_,_,_,_,_,_,_,_,_,_,_,_,_,_,_,_,_,_,_,_,_,_,_,_,_,_,_,_,_,_,_,_,_,_,_,_,_,_,_,_,_,_,_,_,_,_,_,_,_,_,_,_,_,_,_,_,_,_,_,_,_,_,_,_,_,_,_,_,_,_,_,_,_,_,_,_,_,_,_,_,_,_,_,_,_,_,_,_,_,_,_,_,_,_,_,_,_,_,_,_,_,_,_,_,_,_,_,_,_,_,_,_,_,_,_,_,_,_,_,_,⟨k+1,hlt,rfl,hz⟩,rfl⟩
       case measure=>simp [intOf]<;>omega
      | some i=>
       refine Ff (J:=⟨bW,bM,bT,bF,bH,bO,some bq,nt,sz,calls.length,λb=>b=w.heap.size∨X9 b⟩) HX.out (by kernel_rfl) hlt (λ_ d _ _ _ h=>by cases d<;>exact h) hA hN ?_
       intros
       rename_i wz hz
       go_roundw
       case rel=>exact⟨_,_,_,_,_,_,_,_,_,_,_,_,_,_,_,_,_,_,_,_,_,_,_,_,_,_,_,_,_,_,_,_,_,_,_,_,_,_,_,_,_,_,_,_,_,_,_,_,_,_,_,_,_,_,_,_,_,_,_,_,_,_,_,_,_,_,_,_,_,_,_,_,_,_,_,_,_,_,_,_,_,_,_,_,_,_,_,_,_,_,_,_,_,_,_,_,_,_,_,_,_,_,_,_,_,_,_,_,_,_,_,_,_,_,_,_,_,_,_,_,_,_,_,_,_,_,_,_,_,_,_,_,_,⟨k+1,hlt,rfl,hz⟩,rfl⟩
       case measure=>simp [intOf]<;>omega
     ·have l1:¬ (k:Int)<(picks.length:Int):=by omega
      obtain rfl:k=picks.length:=by omega
      rw [List.take_length] at hA
      have hG:=HX.out.R picks.length
      rw [List.take_length] at hG
      have hct:=jM HX.out.D calls picks (gQ nt sz calls)
      rw [show(gQ nt sz calls).rw.now=0 from rfl,show(gQ nt sz calls).idle=0 from rfl] at hct
      obtain⟨s,hs⟩:∃ s,s=dL dO calls (gQ nt sz calls) picks:=⟨_,rfl⟩
      rw [<-hs] at hA hG hct
      have hnow:s.rw.now<=1000000:=by have:=HX.out.np;omega
      have HG:=Lib.hid hG;have Hnow:=Lib.hid hnow
      have HA:=Lib.hid (show jA w2 _ ⟨bW,bM,bT,bF,bH,bO,some bq,nt,sz,calls.length,λb=>b=w.heap.size∨X9 b⟩ (gW late calls s 0) from hA)
      have Hs:=Lib.hid hs
      clear hA hG hct hnow hs HA0 HA0'
      have lnz:IntKind.i64.wrap (0:Int)=0:=by decide
      go_wp2
      clear l1
      go_loopw [209] (λi wr=>∃ p:Nat,p<=nt/\i=.int .i64 p/\jA w2 wr ⟨bW,bM,bT,bF,bH,bO,some bq,nt,sz,calls.length,λb=>b=w.heap.size∨X9 b⟩ (gW late calls s p)) (λi _=>nt - (intOf i).toNat)
      case atStart=>exact⟨0,Nat.zero_le _,rfl,HA.out⟩
      case round=>
       clear HA
       obtain⟨p,hp,rfl,hA⟩:=hrel
       by_cases hlt:p<nt
       ·cases hO:(s.hands.getD p aY).opn with
        | false=>
         refine Kj (J:=⟨bW,bM,bT,bF,bH,bO,some bq,nt,sz,calls.length,λb=>b=w.heap.size∨X9 b⟩) HX.out (by kernel_rfl) hlt (λ_ d _ _ _ h=>by cases d<;>exact h) hA HG.out Hnow.out hO ?_
         intros
         rename_i wz hz
         go_roundw
         case rel=>exact⟨_,_,_,_,_,_,_,_,_,_,_,_,_,_,_,_,_,_,_,_,_,_,_,_,_,_,_,_,_,_,_,_,_,_,_,_,_,_,_,_,_,_,_,_,_,_,_,_,_,_,⟨p+1,hlt,rfl,hz⟩,rfl⟩
         case measure=>simp [intOf]<;>omega
        | true=>
         refine Dx (J:=⟨bW,bM,bT,bF,bH,bO,some bq,nt,sz,calls.length,λb=>b=w.heap.size∨X9 b⟩) HX.out (by kernel_rfl) hlt (λ_ d _ _ _ h=>by cases d<;>exact h) hA HG.out Hnow.out hO ?_
         intros
         rename_i wz hz
         go_roundw
         case rel=>exact⟨_,_,_,_,_,_,_,_,_,_,_,_,_,_,_,_,_,_,_,_,_,_,_,_,_,_,_,_,_,_,_,_,_,_,_,_,_,_,_,_,_,_,_,_,_,_,_,_,_,_,⟨p+1,hlt,rfl,hz⟩,rfl⟩
         case measure=>simp [intOf]<;>omega
       ·have l1:¬ (p:Int)<(nt:Int):=by omega
        obtain rfl:nt=p:=by omega
        obtain⟨hl,vs,L,ea,ec,ers,hA⟩:=hA
        obtain⟨E,hE⟩:∃ E,E=gW late calls s nt:=⟨_,rfl⟩
        have hRP:RP=⟨E.evs,E.rw.mem.ws,E.rw.mem.c,E.rw.now,E.idle⟩:=by rw [HRP.out,<-Hs.out,hE];rfl
        rw [<-hE] at hA
        clear hE
        obtain⟨wa,wcap,_,hWb,hwq⟩:=hA.mem.blk
        obtain⟨ln,_,_,hlog⟩:=hA.log
        obtain⟨la,lc,rfl⟩:=dX hlog
        have hO:wr.heap[bO]?=some (.cells #[.slice ea E.evs.length ec,.slice none 0 0,.int .i64 0,.int .i64 0,.int .i64 0,.int .i64 0,.int .i64 0,.int .i64 0,.int .i64 (E.idle:Int)] 32 (0,0)):=hA.rest.out
        have hW:wr.heap[bW]?=some (.cells #[.slice wa E.rw.mem.ws.length wcap,.int .i64 (E.rw.mem.c.read:Int),.int .i64 (E.rw.mem.c.write:Int),.int .i64 (E.rw.mem.c.swap:Int),.int .i64 (E.rw.mem.c.add:Int),.int .i64 (E.rw.mem.c.fault:Int),.int .i64 (E.rw.now:Int),.slice (some ⟨bM,0,none⟩) nt nt,.slice (some ⟨bT,0,none⟩) sz sz,.slice la ln lc] 93 (0,0)):=hWb
        have hR:wr.heap[w.heap.size]?=_:=(hA.rest.below.block w.heap.size HRl.out).trans HR2.out
        have hOge:w2.heap.size<=bO:=hA.rest.ge.2.1
        have hWge:w2.heap.size<=bW:=hA.rest.ge.2.2.2.1
        have hOR:w.heap.size≠bO:=by have:=HRl.out;omega
        have hWR:w.heap.size≠bW:=by have:=HRl.out;omega
        have hWO:bW≠bO:=dB hW hO (by decide)
        have x0:wr.cell? ⟨bW,0,none⟩=some (.slice wa E.rw.mem.ws.length wcap):=by rw [aA hW];rfl
        have x1:wr.cell? ⟨bW,1,none⟩=some (.int .i64 (E.rw.mem.c.read:Int)):=by rw [aA hW];rfl
        have x2:wr.cell? ⟨bW,2,none⟩=some (.int .i64 (E.rw.mem.c.write:Int)):=by rw [aA hW];rfl
        have x3:wr.cell? ⟨bW,3,none⟩=some (.int .i64 (E.rw.mem.c.swap:Int)):=by rw [aA hW];rfl
        have x4:wr.cell? ⟨bW,4,none⟩=some (.int .i64 (E.rw.mem.c.add:Int)):=by rw [aA hW];rfl
        have x5:wr.cell? ⟨bW,5,none⟩=some (.int .i64 (E.rw.mem.c.fault:Int)):=by rw [aA hW];rfl
        have x6:wr.cell? ⟨bW,6,none⟩=some (.int .i64 (E.rw.now:Int)):=by rw [aA hW];rfl
        have x9:wr.cell? ⟨bW,9,none⟩=some (.slice la ln lc):=by rw [aA hW];rfl
        have o1:wr.cell? ⟨bO,1,none⟩=some (.slice none 0 0):=by rw [aA hO];rfl
        have of1:wr.frozen? ⟨bO,1,none⟩=false:=aB hO _
        have o2:wr.cell? ⟨bO,2,none⟩=some (.int .i64 0):=by rw [aA hO];rfl
        have of2:wr.frozen? ⟨bO,2,none⟩=false:=aB hO _
        have o3:wr.cell? ⟨bO,3,none⟩=some (.int .i64 0):=by rw [aA hO];rfl
        have of3:wr.frozen? ⟨bO,3,none⟩=false:=aB hO _
        have o4:wr.cell? ⟨bO,4,none⟩=some (.int .i64 0):=by rw [aA hO];rfl
        have of4:wr.frozen? ⟨bO,4,none⟩=false:=aB hO _
        have o5:wr.cell? ⟨bO,5,none⟩=some (.int .i64 0):=by rw [aA hO];rfl
        have of5:wr.frozen? ⟨bO,5,none⟩=false:=aB hO _
        have o6:wr.cell? ⟨bO,6,none⟩=some (.int .i64 0):=by rw [aA hO];rfl
        have of6:wr.frozen? ⟨bO,6,none⟩=false:=aB hO _
        have o7:wr.cell? ⟨bO,7,none⟩=some (.int .i64 0):=by rw [aA hO];rfl
        have of7:wr.frozen? ⟨bO,7,none⟩=false:=aB hO _
        obtain⟨w5,ML⟩:∃ w5,w5=((((((wr.setCell ⟨bO,7,none⟩ (.int .i64 (E.rw.now:Int))).setCell ⟨bO,1,none⟩ (.slice wa E.rw.mem.ws.length wcap)).setCell ⟨bO,2,none⟩ (.int .i64 (E.rw.mem.c.read:Int))).setCell ⟨bO,3,none⟩ (.int .i64 (E.rw.mem.c.write:Int))).setCell ⟨bO,4,none⟩ (.int .i64 (E.rw.mem.c.swap:Int))).setCell ⟨bO,5,none⟩ (.int .i64 (E.rw.mem.c.add:Int))).setCell ⟨bO,6,none⟩ (.int .i64 (E.rw.mem.c.fault:Int)):=⟨_,rfl⟩
        have OX:Chg (λb=>b=bO) wr w5:=by rw [ML];exact(((((((Chg.refl (λb=>b=bO) wr).setCell (p:=⟨bO,7,none⟩) (.inl rfl) _).setCell (p:=⟨bO,1,none⟩) (.inl rfl) _).setCell (p:=⟨bO,2,none⟩) (.inl rfl) _).setCell (p:=⟨bO,3,none⟩) (.inl rfl) _).setCell (p:=⟨bO,4,none⟩) (.inl rfl) _).setCell (p:=⟨bO,5,none⟩) (.inl rfl) _).setCell (p:=⟨bO,6,none⟩) (.inl rfl) _
        have hO5:w5.heap[bO]?=some (.cells #[.slice ea E.evs.length ec,.slice wa E.rw.mem.ws.length wcap,.int .i64 (E.rw.mem.c.read:Int),.int .i64 (E.rw.mem.c.write:Int),.int .i64 (E.rw.mem.c.swap:Int),.int .i64 (E.rw.mem.c.add:Int),.int .i64 (E.rw.mem.c.fault:Int),.int .i64 (E.rw.now:Int),.int .i64 (E.idle:Int)] 32 (0,0)):=by
         rw [ML,aG (aG (aG (aG (aG (aG (aG hO _ _) _ _) _ _) _ _) _ _) _ _) _ _]
         simp only [zq4,zq5,zq6]
        have hR5:=(OX.block w.heap.size (aC hR) hOR).trans hR
        have hL5:=(OX.cell (p:=⟨bW,9,none⟩) (aC hW) hWO).trans x9
        have HA5:=Lib.hid hA;have Hw5:=Lib.hid ML;have HO5:=Lib.hid hO5;have HR5:=Lib.hid hR5;have HL5:=Lib.hid hL5;have Hc5:=Lib.hid OX;have HRP5:=Lib.hid hRP;have Hwq:=Lib.hid hwq;have HWO:=Lib.hid hWO;have HOR:=Lib.hid hOR;have HWR:=Lib.hid hWR;have HOge:=Lib.hid hOge
        clear hA ML hO5 hR5 hL5 OX hRP hwq hlog hWb hO hW hR hOge hWge hOR hWR x9 HX HG Hnow
        go_upto_region 48 with fail
        rw [<-Hw5.out]
        clear x0 x1 x2 x3 x4 x5 x6 o1 of1 o2 of2 o3 of3 o4 of4 o5 of5 o6 of6 o7 of7
        refine Lx (rp:=⟨E.evs,E.rw.mem.ws,E.rw.mem.c,E.rw.now,E.idle⟩) (bR:=w.heap.size) (by kernel_rfl) (λ_ d _ a _ h=>by cases d<;>exact h) HO5.out HR5.out HOR.out HWR.out HL5.out ?_
        rintro y9 Zm Yg Tz Wn Xv w6 ⟨cs,hcs,hsz,hblk,hchg⟩
        go_wp2
        have hld:=lQ w6 w.heap.size cs hblk hsz
        refine bodyPost_ret (v:=.tuple #[.agg cs,y9,.int .i64 0]) (by simp [results,Tryz.results22 ,Sem.run_bind,Sem.run_pure,asAddr,hld]) rfl ?_
        exact Nr HA5.out (λ_=>Iff.rfl) Hb2.out HRP5.out Hwq.out Hc5.out hchg hcs
end
section
open Go.RowKit
variable {S:Sys} {M:vO S} {n:Nat} {dO:aD->aJ->RWD->aJ×RWD} {late:aD->Nat->dW->RWD->List Int} {calls:List aD} {Good:aP S->Prop}
theorem Ol (o:S.ω) (sz:Nat) (hs0:0<sz) (ho:∀ p,p<n->M.Own o p []):BQ M n calls (gQ n sz calls) (dG S o (List.replicate sz 0) calls):=by
 have h16:∀ p,(List.replicate 16 ((none:Option S.σ),0)).getD p (none,0)=(none,0):=λp=>fU 16 p _
 have hr0:∀ p,(List.replicate n aY).getD p aY=aY:=λp=>fU n p _
 refine⟨⟨rfl,rfl,List.length_replicate ..,λp hp=>?_,λa=>?_,⟨(by show 0<(List.replicate sz ([]:List Int)).length;rw [List.length_replicate];exact hs0),(by show(List.replicate sz ([]:List Int)).length=(List.replicate sz 0).length;rw [List.length_replicate,List.length_replicate])⟩⟩,⟨List.length_replicate ..,List.length_replicate ..⟩,rfl,rfl,rfl,List.length_replicate ..,λp hp=>?_⟩
 ·show(List.replicate n ([]:List Int)).getD p []=(List.replicate 16 ([]:List Int)).getD p []
  rw [fU,fU]
 ·unfold gN
  split
  ·rfl
  ·exact fU sz _ _
 ·show vG M calls o (cZ _) _ [] p ((List.replicate n aY).getD p aY) ((List.replicate 16 (none,0)).getD p (none,0))
  rw [hr0,h16]
  exact⟨ho p hp,rfl,λh=>by(cases h),λh=>by(cases h),λσ e=>by cases e⟩
theorem QQ {s:dS} {st:aP S} (h:BQ M n calls s st) (hg:bQ calls st):∀ p,p<n->(s.hands.getD p aY).opn=true->gF calls s.fin (p:Int)=some (aF s.evs (s.hands.getD p aY).ev).call:=λp hp ho=>by
 have H:=h.hand p hp
 rw [H.opn] at ho
 have hh:fQ st.hands p=some (st.hands.getD p (none,0)).2:=by unfold fQ;rw [if_pos ho]
 obtain⟨k1,k2,k3,k4⟩:=hg.ev.hand p _ hh
 rw [h.fin,h.evs,H.ev (by rw [H.opn];exact ho)]
 exact k4
theorem WM (ok:CX S M n dO late calls Good) (D:DoB dO) (hnow:∀ o wd p s,(S.step o wd p s).2.1.now=wd.now) (hn:n<=16) (hthr:∀ c,c<calls.length->0<=(calls.getD c d0).thread/\(calls.getD c d0).thread<(n:Int)) {sz:Nat} :
  ∀(picks:List Int) {s:dS} {st:aP S},bQ calls st->(∀ k,Good (eF S calls st (picks.take k)))->BQ M n calls s st->kS n sz calls s->BQ M n calls (dL dO calls s picks) (eF S calls st picks)/\bQ calls (eF S calls st picks)/\kS n sz calls (dL dO calls s picks)/\Good (eF S calls st picks)
 | [],_,_,hg,hG,h,hr=>⟨h,hg,hr,hG 0⟩
 | p::ps,s,st,hg,hG,h,hr=>WM ok D hnow hn hthr ps (zT hnow (λc hc=>⟨(hthr c hc).1,by have:=(hthr c hc).2;omega⟩) hg p) (λk=>hG (k+1)) (QF ok hn hthr hg (hG 0) h p) (hr.pick D hthr (QQ h hg) p)
def DoT (dO:aD->aJ->RWD->aJ×RWD):Prop:=∀ c t r x,x∈(dO c t r).1.ticks->x∈t.ticks∨x=(r.now:Int)
theorem NB (kd a:Int) (x y:Nat) (t:aJ) (r:RWD):∀ z,z∈(aX kd a x y t r).2.1.ticks->z∈t.ticks∨z=(r.now:Int):=by
 intro z hz
 unfold aX at hz
 split at hz
 ·exact .inl hz
 ·split at hz
  ·exact .inl hz
  ·split at hz
   ·have h9:z∈t.ticks++[(r.now:Int)]:=hz
    simpa using h9
   ·exact .inl hz
def zJ (n:Nat) (s:dS):Prop:=∀ p,p<n->(s.hands.getD p aY).opn=true->(s.hands.getD p aY).inv<=s.rw.now/\∀ x,x∈(s.hands.getD p aY).ticks->0<=x/\x<=(s.rw.now:Int)
theorem zJ.open_ {s:dS} (h:zJ n s) (hl:s.hands.length=n) (q i:Nat) (hq:q<n):zJ n (dM { s with rw:=s.rw.tick } q i)/\(dM { s with rw:=s.rw.tick } q i).rw.now=s.rw.now+1:=by
 unfold dM
 split
 ·refine⟨λp hp ho=>?_,rfl⟩
  obtain⟨a,b⟩:=h p hp ho
  exact⟨Nat.le_succ_of_le a,λx hx=>⟨(b x hx).1,by have:=(b x hx).2;show x<=((s.rw.now+1:Nat):Int);omega⟩⟩
 ·refine⟨λp hp ho=>?_,rfl⟩
  have e0:(iW { s with rw:=s.rw.tick } q i).hands=s.hands.set q ⟨true,s.evs.length,s.rw.now+1,[],[],(s.hands.getD q aY).own⟩:=rfl
  have e1:(iW { s with rw:=s.rw.tick } q i).rw.now=s.rw.now+1:=rfl
  rw [e0] at ho
  rw [e0,e1]
  by_cases e:q=p
  ·subst e
   rw [aI (by omega)]
   exact⟨Nat.le_refl _,λx hx=>by cases hx⟩
  ·rw [aK e] at ho ⊢
   obtain⟨a,b⟩:=h p hp ho
   exact⟨Nat.le_succ_of_le a,λx hx=>⟨(b x hx).1,by have:=(b x hx).2;omega⟩⟩
theorem zJ.pick (D:DoB dO) (DT:DoT dO) {s:dS} (h:zJ n s) (hl:s.hands.length=n) (hthr:∀ c,c<calls.length->0<=(calls.getD c d0).thread/\(calls.getD c d0).thread<(n:Int)) (x:Int):zJ n (oQ dO calls s x):=by
 unfold oQ
 split
 ·exact h
 ·rename_i i hN
  obtain⟨n1,n2,n3⟩:=fC hN
  obtain⟨t1,t2⟩:=hthr i n1
  obtain⟨q,rfl⟩:∃ q:Nat,x=(q:Int):=⟨x.toNat,by omega⟩
  simp only [Int.toNat_natCast]
  have hq:q<n:=by omega
  obtain⟨h1,h2⟩:=h.open_ hl q i hq
  obtain⟨s1,hs1⟩:∃ s1,s1=dM { s with rw:=s.rw.tick } q i:=⟨_,rfl⟩
  have hl1:s1.hands.length=n:=by
   rw [hs1];unfold dM
   split
   ·exact hl
   ·show(s.hands.set q _).length=n;rw [List.length_set];exact hl
  have ho1:(s1.hands.getD q aY).opn=true:=by
   rw [hs1];unfold dM
   split
   ·assumption
   ·show((s.hands.set q _).getD q aY).opn=true
    rw [aI (by omega)]
  rw [<-hs1] at h1 h2 ⊢
  obtain⟨c,hc⟩:∃ c,c=calls.getD i d0:=⟨_,rfl⟩
  rw [<-hc]
  obtain⟨R,hR⟩:∃ R,R=rdo dO c ((s1.hands.getD q aY).tape q) s1.rw:=⟨_,rfl⟩
  have hRn:R.2.now=s1.rw.now:=by
   rw [hR];unfold rdo
   split
   ·rfl
   ·exact(D.runs _ _ _).now
  have hRt:∀ z,z∈R.1.ticks->z∈(s1.hands.getD q aY).ticks∨z=(s1.rw.now:Int):=λz hz=>by
   rw [hR] at hz
   unfold rdo at hz
   split at hz
   ·exact .inl hz
   ·exact DT _ _ _ _ hz
  obtain⟨a9,b9⟩:=h1 q hq ho1
  unfold rgo
  rw [<-hR]
  split
  ·intro p hp ho
   simp only at ho ⊢
   rw [hRn]
   by_cases e:q=p
   ·subst e
    rw [aI (by omega)]
    exact⟨a9,λz hz=>by
     rcases hRt z hz with h9|h9
     ·exact b9 z h9
     ·rw [h9];omega⟩
   ·rw [aK e] at ho ⊢
    exact h1 p hp ho
  ·intro p hp ho
   simp only at ho ⊢
   rw [hRn]
   by_cases e:q=p
   ·subst e
    rw [aI (by omega)] at ho
    cases ho
   ·rw [aK e] at ho ⊢
    exact h1 p hp ho
theorem QJ (D:DoB dO) (DT:DoT dO) (hthr:∀ c,c<calls.length->0<=(calls.getD c d0).thread/\(calls.getD c d0).thread<(n:Int)):∀(picks:List Int) {s:dS},zJ n s->s.hands.length=n->zJ n (dL dO calls s picks)
 | [],_,h,_=>h
 | p::ps,s,h,hl=>QJ D DT hthr ps (h.pick D DT hl hthr p) (by
   unfold oQ
   split
   ·exact hl
   ·unfold rgo
    have e9:∀ q i,(dM { s with rw:=s.rw.tick } q i).hands.length=n:=λq i=>by
     unfold dM
     split
     ·exact hl
     ·show(s.hands.set q _).length=n;rw [List.length_set];exact hl
    split<;>(simp only [List.length_set];exact e9 _ _))
theorem Bu (X:Nat->Prop) (sz:Nat) (kd P Q:Int) (picks:List Int) (ca pa:Option Addr) (cc pc bS:Nat) (w:World) (o:S.ω) (Pre:aD->aJ->RWD->Prop) (hX:∀ b,X b->b<w.heap.size) (hk:¬ kd=8) (hsz:sz<=65536) (hs0:0<sz) (hck:checkN (n:Int) calls picks.length=0) (hS:kM w bS kd P Q) (hc:jD noB w ca calls) (hp:jU w pa picks)
  (SC:∀ u:World,Calls Tryz.prog 55 #[.int .i64 (n:Int),.agg #[.int .i64 kd,.int .i64 P,.int .i64 Q]] u λe w'=>e=.returned (.int .i64 (sz:Int))/\Below u.heap.size u w') (D:DoB dO) (DT:DoT dO) (DC:DoC kd P Q n Pre dO) (LC:QZ kd P Q n late)
  (ok:CX S M n dO late calls Good) (hnow:∀ o wd p s,(S.step o wd p s).2.1.now=wd.now) (ho:∀ p,p<n->M.Own o p []) (hG:∀ k,Good (eF S calls (dG S o (List.replicate sz 0) calls) (picks.take k)))
  (hPre:∀(s:dS) (st:aP S) (q i:Nat),BQ M n calls s st->bQ calls st->Good st->kS n sz calls s->zJ n s->s.rw.now<=65536->q<n->gF calls s.fin (q:Int)=some i->(calls.getD i d0).obj=0->∀ s1,s1=dM { s with rw:=s.rw.tick } q i->Pre (calls.getD i d0) ((s1.hands.getD q aY).tape q) s1.rw) :
  Calls Tryz.prog 10 #[.int .i64 (n:Int),.slice (some ⟨bS,0,none⟩) 1 1,.slice ca calls.length cc,.slice pa picks.length pc] w λe w'=>xQ X w w' 0 (uY S o (List.replicate sz 0) calls picks) true e:=by
 have hthr:=zH hck
 obtain⟨z1,z2,z3,_⟩:=gZ (eD hck).1
 have hn:n<=16:=by omega
 have hst:∀ k,BQ M n calls (dL dO calls (gQ n sz calls) (picks.take k)) (eF S calls (dG S o (List.replicate sz 0) calls) (picks.take k))/\bQ calls (eF S calls (dG S o (List.replicate sz 0) calls) (picks.take k))/\kS n sz calls (dL dO calls (gQ n sz calls) (picks.take k))/\Good (eF S calls (dG S o (List.replicate sz 0) calls) (picks.take k)):=λk=>
  WM ok D hnow hn hthr (picks.take k) (vR (S:=S) calls o _) (λj=>by rw [List.take_take];exact hG _) (Ol o sz hs0 ho) (Ku n sz calls)
 refine LU X (n:Int) 0 _ _ _ _ w (λu hu hul=>?_)
 have L:=Qp (λb=>X b∨b=w.heap.size) dO late Pre D n sz kd P Q calls picks ca pa cc pc bS u (λb e=>by rcases e with e|e;have:=hX b e;have:=hu.size;omega;omega) hk hsz hs0 hck (hS.grown hu) (hc.grown hu) (hp.grown hu) hthr SC DC LC (λk=>(hst k).2.2.1) (λk i hk9 hN hob s1 hs1=>by
  obtain⟨n1,n2,n3⟩:=fC hN
  obtain⟨t1,t2⟩:=hthr i n1
  obtain⟨q,hq⟩:∃ q:Nat,picks.getD k 0=(q:Int):=⟨(picks.getD k 0).toNat,by omega⟩
  rw [hq] at hN hs1 n2 ⊢
  simp only [Int.toNat_natCast] at hs1 ⊢
  exact hPre _ _ q i (hst k).1 (hst k).2.1 (hst k).2.2.2 (hst k).2.2.1 (QJ D DT hthr (picks.take k) (λp hp ho=>by(have e9:((gQ n sz calls).hands.getD p aY)=aY:=fU n p _);rw [e9] at ho;cases ho) (List.length_replicate ..)) (by(have h9:=jM D calls (picks.take k) (gQ n sz calls));rw [show(gQ n sz calls).rw.now=0 from rfl,show(gQ n sz calls).idle=0 from rfl,List.length_take] at h9;have:=(eD hck).2;omega) (by omega) hN hob s1 hs1)
 refine L.mono ?_
 intro e w' h
 rw [<-QM ok hnow hn hthr o sz hs0 ho picks hG]
 exact h.any
theorem Gj (late:aD->Nat->dW->RWD->List Int) (calls:List aD) (s:dS) (n:Nat):(rend late calls s n).length=s.evs.length:=(wG late calls s n).1
theorem Fv (sz:Nat) (picks:List Int) (o:S.ω) (hs0:0<sz) (hck:checkN (n:Int) calls picks.length=0) (D:DoB dO) (ok:CX S M n dO late calls Good) (hnow:∀ o wd p s,(S.step o wd p s).2.1.now=wd.now) (ho:∀ p,p<n->M.Own o p []) (hG:∀ k,Good (eF S calls (dG S o (List.replicate sz 0) calls) (picks.take k))) :
  (uY S o (List.replicate sz 0) calls picks).evs.length<=65536/\(uY S o (List.replicate sz 0) calls picks).words.length=sz:=by
 have hthr:=zH hck
 obtain⟨z1,z2,z3,_⟩:=gZ (eD hck).1
 have hn:n<=16:=by omega
 have hnp:=(eD hck).2
 obtain⟨_,_,R,_⟩:=WM ok D hnow hn hthr picks (vR (S:=S) calls o _) hG (Ol o sz hs0 ho) (Ku n sz calls)
 rw [<-QM ok hnow hn hthr o sz hs0 ho picks hG]
 have hct:=jM D calls picks (gQ n sz calls)
 rw [show(gQ n sz calls).rw.now=0 from rfl,show(gQ n sz calls).idle=0 from rfl] at hct
 refine⟨?_,R.ws⟩
 show(rend late calls _ n).length<=_
 rw [Gj]
 have:=R.el
 omega
end
section
open Go.RowKit
structure Ou (t:aJ):Prop where
 got:t.got=[]
 at_:t.at_=0
 fresh:t.fresh=true
 halt:t.halt=false
 err:t.err=0
 val:t.val=0
 list:t.list=[]
 key:t.key=[]
theorem PX (kd a:Int) (x y:Nat) (t:aJ) (r:RWD):(aX kd a x y t r).2.1.priv=t.priv:=by
 unfold aX
 split
 ·rfl
 ·split
  ·rfl
  ·split<;>rfl
structure aAK (ref:aD->Option Int) (act:aD->WD->WD×(Int×Nat)) (Ln:Nat) (dO:aD->aJ->RWD->aJ×RWD):Prop where
 refuse:∀ c t r e,ref c=some e->Ou t->dO c t r=({ t with err:=e },r)
 go:∀ c t r wd,ref c=none->Ou t->r.mem=wd.mem->wd.mem.ws.length=Ln->(dO c t r).2={ r with mem:=(act c wd).1.mem }/\(dO c t r).1.halt=false/\(dO c t r).1.err=(act c wd).2.1/\(dO c t r).1.val=(act c wd).2.2/\(dO c t r).1.list=[]/\(dO c t r).1.key=[]
 keep:∀ c wd,(act c wd).1.inv=wd.inv/\(act c wd).1.marks=wd.marks/\(act c wd).1.now=wd.now/\(act c wd).1.traces=wd.traces
 len:∀ c wd,(act c wd).1.mem.ws.length=wd.mem.ws.length
def Yw (_:aD) (p:Nat) (_:dW) (r:RWD):List Int:=r.marks.getD p []
theorem WJ (m:dR) (a:Int):(bL m a).1.ws.length=m.ws.length:=by unfold bL dR.fault;split<;>rfl
theorem TJ (m:dR) (a:Int) (x:Nat):(fJ m a x).ws.length=m.ws.length:=by unfold fJ dR.fault;split<;>simp
end
section
open Go.RowKit
variable {S:Sys} {M:vO S} {n:Nat} {calls:List aD}
structure Mw (M:vO S) (n:Nat) (calls:List aD) (s:dS) (st:aP S) (q i:Nat) (h:dW) (r:RWD):Prop where
 inv:h.inv<=65537
 now:r.now<=65537
 ticks:∀ x,x∈h.ticks->0<=x/\x<=65537
 mlen:r.marks.length=n
 mem:r.mem=s.rw.mem
 traces:r.traces=s.rw.traces
 own:h.own=(s.hands.getD q aY).own
 how:(h.got=[]/\h.ticks=[]/\(s.hands.getD q aY).opn=false)∨∃ σ,st.hands.getD q (none,0)=(some σ,h.ev)/\M.Rel st.obj s.rw q (calls.getD i d0) h σ/\h=s.hands.getD q aY
theorem Fj {sz:Nat} {s:dS} {st:aP S} {q i:Nat} (hP:BQ M n calls s st) (hg:bQ calls st) (hR:kS n sz calls s) (hT:zJ n s) (hnow:s.rw.now<=65536) (hq:q<n) (hN:gF calls s.fin (q:Int)=some i) (s1:dS) (hs1:s1=dM { s with rw:=s.rw.tick } q i) :
  Mw M n calls s st q i (s1.hands.getD q aY) s1.rw:=by
 obtain⟨n1,_,_⟩:=fC hN
 obtain⟨t1,t2⟩:=hT.open_ hR.hl q i hq
 rw [<-hs1] at t1 t2
 have hql:q<s.hands.length:=by rw [hR.hl];exact hq
 by_cases ho:(s.hands.getD q aY).opn=true
 ·have e:s1={ s with rw:=s.rw.tick }:=by rw [hs1];unfold dM;rw [if_pos ho]
  have ho1:(s1.hands.getD q aY).opn=true:=by rw [e];exact ho
  obtain⟨a,b⟩:=t1 q hq ho1
  have H:=hP.hand q hq
  rw [H.opn] at ho
  cases hs:(st.hands.getD q (none,0)).1 with
  | none=>rw [hs] at ho;cases ho
  | some σ=>
   have hc:=QQ hP hg q hq (by rw [H.opn,hs];rfl)
   rw [hN] at hc
   cases hc
   have hev:=H.ev (by rw [H.opn,hs];rfl)
   refine⟨by omega,by omega,λx hx=>⟨(b x hx).1,by have:=(b x hx).2;omega⟩,by rw [e];exact hP.rw.mlen,by rw [e];rfl,by rw [e];rfl,by rw [e],.inr ⟨σ,?_,?_,by rw [e]⟩⟩
   ·rw [e];exact Prod.ext hs hev.symm
   ·rw [e]
    have h9:=(H.rel σ hs).1
    rw [<-hev,<-hP.evs] at h9
    exact h9
 ·have e:s1=iW { s with rw:=s.rw.tick } q i:=by rw [hs1];unfold dM;rw [if_neg ho]
  have hb:s1.hands.getD q aY=⟨true,s.evs.length,s.rw.now+1,[],[],(s.hands.getD q aY).own⟩:=by rw [e];exact aI hql
  rw [hb]
  refine⟨by show s.rw.now+1<=_;omega,by omega,(λx hx=>by cases hx),?_,by rw [e];rfl,by rw [e];rfl,rfl,.inl ⟨rfl,rfl,by simpa using ho⟩⟩
  rw [e]
  show(s.rw.marks.set q []).length=n
  rw [List.length_set];exact hP.rw.mlen
end
section
open Go.RowKit
theorem xW {t:aJ} (hh:t.halt=false) (ha:¬ t.at_<t.got.length) (hf:t.fresh=true) (kd a:Int) (x y:Nat) (r:RWD):aX kd a x y t r=((bA r.mem kd a x y).2,{ t with got:=t.got++[(bA r.mem kd a x y).2],ticks:=t.ticks++[(r.now:Int)],at_:=t.at_+1,fresh:=false },{ r with mem:=(bA r.mem kd a x y).1 }):=by
 unfold aX
 rw [if_neg (by rw [hh];exact Bool.false_ne_true),if_neg ha,if_pos hf]
theorem DK {t:aJ} (hh:t.halt=false) (ha:t.at_<t.got.length) (kd a:Int) (x y:Nat) (r:RWD):aX kd a x y t r=(t.got.getD t.at_ 0,{ t with at_:=t.at_+1 },r):=by
 unfold aX
 rw [if_neg (by rw [hh];exact Bool.false_ne_true),if_pos ha]
theorem CJ {t:aJ} (hh:t.halt=false) (ha:¬ t.at_<t.got.length) (hf:t.fresh=false) (kd a:Int) (x y:Nat) (r:RWD):aX kd a x y t r=(0,{ t with halt:=true },r):=by
 unfold aX
 rw [if_neg (by rw [hh];exact Bool.false_ne_true),if_neg ha,if_neg (by rw [hf];exact Bool.false_ne_true)]
theorem AJ {t:aJ} (hh:t.halt=true) (kd a:Int) (x y:Nat) (r:RWD):aX kd a x y t r=(0,t,r):=by
 unfold aX
 rw [if_pos hh]
theorem Br (p k:Int) (t:aJ) (r:RWD) (l:List Int):(QU p l t r).now=r.now/\(QU p l t r).mem=r.mem/\(QU p l t r).traces=r.traces/\(QU p l t r).marks.length=r.marks.length:=by
 unfold QU
 split
 ·exact⟨rfl,rfl,rfl,by simp⟩
 ·exact⟨rfl,rfl,rfl,rfl⟩
theorem lG.mark {t t':aJ} {r r':RWD} (h:lG t r t' r') (p:Int) (l:List Int) (u:aJ):lG t r t' (QU p l u r'):=by
 obtain⟨h1,h2,h3,h4⟩:=Br p 0 u r' l
 exact⟨by rw [h2];exact h.ws,h1.trans h.now,by rw [h2];exact h.all,h.got,h.thread,h.inv⟩
end
section
open Go.RowKit
inductive TaS where
 | count (seen:Bool) (v:Nat)
 | read (at_ sum:Nat) (key:List Int)
def Rm (ticks:List Int) (inv s:Nat):Int:=if 0<s/\s<=ticks.length then max (inv:Int) (ticks.getD (s - 1) 0) else (inv:Int)
def eY (wd:WD) (a:Nat):WD:={ wd with mem:=(bL wd.mem (a:Int)).1 }
def Oe (wd:WD) (p v:Nat):WD:={ wd with mem:=fJ wd.mem (p:Int) (v+1),traces:=BF wd.traces 0 (wd.traces 0++[(wd.now:Int)]) }
def dZ (wd:WD) (a:Nat):Nat:=(bL wd.mem (a:Int)).2
def Ye (wd:WD) (p s:Nat):List Int:=[2*Rm (wd.traces 0) (wd.inv.getD p 0) s,2*(wd.now:Int)]
def Km (n:Nat):Sys where
 σ:=TaS
 ω:=Unit
 start:=λ_ _ _ c=>if c.kind=0 then .run (.count false 0) else if c.kind=1 then .run (.read 0 0 []) else .refuse 9
 step:=λ_ wd p s=>match s with
  | .count false _=>((),eY wd p,.count true (dZ wd p),false)
  | .count true v=>((),Oe wd p v,.count true v,true)
  | .read a s k=>if a+1<n then ((),eY wd a,.read (a+1) (s+dZ wd a) k,false) else ((),eY wd a,.read (a+1) (s+dZ wd a) (Ye wd p (s+dZ wd a)),true)
 answer:=λs=>match s with
  | .count _ _=>(⟨0,0,[]⟩,[])
  | .read _ s k=>(⟨0,s,[]⟩,k)
 late:=λ_ _ _ _=>none
def Kb (w w':World) (Mut B:Nat->Prop) (I:iM) (N:Nat) (wd:WD) (b:Nat) (cells:Array Value) (T:TypeId) (done:Bool) (e:Ending):Prop:=
 e=.returned (.bool done)/\Chg (λk=>cK I k∨B k) w w'/\bJ w' (jE Mut B (λk=>k=b)) I N wd/\w'.heap[b]?=some (.cells cells T (0,0))
theorem Kb.drewN {w w':World} {Mut B:Nat->Prop} {I:iM} {N:Nat} {wd:WD} {b:Nat} {cells:Array Value} {T:TypeId} {done:Bool} {e:Ending} (h:Kb w w' Mut B I N wd b cells T done e) (n:Nat):Kb w (w'.drewN n) Mut B I N wd b cells T done e:=
 ⟨h.1,h.2.1.drewN n,h.2.2.1.keep (S:=noB) ((Chg.refl _ _).drewN n) (λ_ h=>h.elim) (λ_ h=>h.elim) (aN.refl _ _) (λk hk=>h.2.2.1.low k hk) h.2.2.1.muts,h.2.2.2⟩
theorem GD {w:World} {bm:Nat} {bw:Option Nat} {m:dR} (h:fO w bm bw m) (a:Int):(bL m a).2<18446744073709551616:=by
 unfold bL
 split
 ·simp only;omega
 ·simp only
  rw [List.getD_eq_getElem?_getD]
  cases h9:m.ws[a.toNat]? with
  | none=>simp
  | some z=>exact h.val z (List.mem_of_getElem? h9)
end
section
open Go.RowKit
end
section
open Go.RowKit
end
section
open Go.RowKit
end
end Go.Proofs.YtfkokppncipgnaaGreat
