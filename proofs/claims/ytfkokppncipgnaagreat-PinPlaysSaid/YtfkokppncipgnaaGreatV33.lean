/- A reference's play, whatever its object is: roundelayplain.Log. -/
import Derived.Test.YtfkokppncipgnaaGreatV32
import Derived.Test.YtfkokppncipgnaaGreatV30
import Derived.Test.YtfkokppncipgnaaGreatV24
import Derived.Test.YtfkokppncipgnaaGreatV12
set_option maxRecDepth 100000
set_option linter.unusedVariables false
set_option linter.unusedSimpArgs false
set_option linter.unnecessarySimpa false
namespace Go.Proofs.YtfkokppncipgnaaGreat
open List renaming getElem_toArray → zq1, getElem_cons_zero → zq2, getElem_cons_succ → zq3, setIfInBounds_toArray → zq4, set_cons_zero → zq5, set_cons_succ → zq6
section
open Go.RowKit
set_option maxHeartbeats 8000000 in
theorem rlog_r (X9:Nat->Prop) (dO:CallD->TapeP->RWD->TapeP×RWD) (late:CallD->Nat->RHand->RWD->List Int) (Pre:CallD->TapeP->RWD->Prop) (D:DoB dO) (nt sz:Nat) (kd P Q:Int) (calls:List CallD) (picks:List Int) (ca pa:Option Addr) (cc pc bS:Nat) (w:World) (hX9:∀ b,X9 b->b<w.heap.size) (hk:¬ kd=8) (hsz:sz<=65536) (hs0:0<sz) (hck:checkN (nt:Int) calls picks.length=0) (hS:SpecAt w bS kd P Q) (hc:CallsAt noB w ca calls) (hp:PicksAt w pa picks)
  (hthr9:∀ c,c<calls.length->0<=(calls.getD c d0).thread/\(calls.getD c d0).thread<(nt:Int)) (SC:∀ u:World,Calls Tryz.prog 55 #[.int .i64 (nt:Int),.agg #[.int .i64 kd,.int .i64 P,.int .i64 Q]] u λe w'=>e=.returned (.int .i64 (sz:Int))/\Below u.heap.size u w')
  (DC:DoC kd P Q nt Pre dO) (LC:LateC kd P Q nt late) (hR:∀ k,RGood nt sz calls (rpicks dO calls (ref0 nt sz calls) (picks.take k)))
  (hpre:∀ k i,k<picks.length->nowN calls (rpicks dO calls (ref0 nt sz calls) (picks.take k)).fin (picks.getD k 0)=some i->(calls.getD i d0).obj=0->∀ s1,s1=ropen { rpicks dO calls (ref0 nt sz calls) (picks.take k) with rw:=(rpicks dO calls (ref0 nt sz calls) (picks.take k)).rw.tick } (picks.getD k 0).toNat i->Pre (calls.getD i d0) ((s1.hands.getD (picks.getD k 0).toNat rh0).tape (picks.getD k 0).toNat) s1.rw) :
  Calls Tryz.prog 22 #[.int .i64 (nt:Int),.slice (some ⟨bS,0,none⟩) 1 1,.slice ca calls.length cc,.slice pa picks.length pc] w λe w'=>RefRet X9 w w' (rrep late calls (rpicks dO calls (ref0 nt sz calls) picks) nt) e:=by
 obtain⟨RP,hRP⟩:∃ RP,RP=rrep late calls (rpicks dO calls (ref0 nt sz calls) picks) nt:=⟨_,rfl⟩
 rw [<-hRP]
 have HRP:=Lib.hid hRP
 clear hRP
 have HX9:=Lib.hid hX9
 clear hX9
 have W:=rcheck_any (nt:Int) calls picks.length ca pa cc pc (w.alloc (.cells #[.slice none 0 0,.slice none 0 0,.int .i64 0,.int .i64 0,.int .i64 0,.int .i64 0,.int .i64 0,.int .i64 0,.int .i64 0] 32)) (hc.grown (Gr.new _ _)).sl hp.sl.1
 rw [hck] at W
 have HW:=Lib.hid W;have HS:=Lib.hid hS;have HCa:=Lib.hid hc;have Hp:=Lib.hid hp;have Hck:=Lib.hid hck
 have HB:=Lib.hid (λ(u:World) (h:Below w.heap.size w u)=>bases_one (nt:Int) kd P Q sz hsz bS u (hS.grown h) SC)
 obtain⟨z1,z2,z3,_⟩:=wrongN_zero (checkN_zero hck).1
 have hnt:nt<=16:=by omega
 have hmkM:=make_lists nt (by omega)
 have hmkT:=make_lists sz (by omega)
 have HDC:=Lib.hid DC;have HLC:=Lib.hid LC;have HR:=Lib.hid hR;have HPre:=Lib.hid hpre;have Hthr:=Lib.hid hthr9
 clear W SC hS hc hp hck DC LC hR hpre hthr9
 go_enter Tryz.func22,Tryz.ntmps22
 go_wp2_with fail
 refine HW.out.mono ?_
 rintro e w1 ⟨rfl,hb1⟩
 have HR1:=Lib.hid ((hb1.block w.heap.size (by simp)).trans (heap_alloc_new w _))
 have Hb1:=Lib.hid (Gr.trans (Gr.new _ _) hb1)
 clear hb1
 go_wp2_with fail
 refine(HB.out _ Hb1.out).mono ?_
 rintro e w2 ⟨g,gc,rfl,hg0,hgl,hb2⟩
 have Hb2:=Lib.hid (Gr.trans Hb1.out hb2);have Hg0:=Lib.hid hg0
 have HR2:=Lib.hid ((hb2.block w.heap.size (by have h9:=HR1.out;exact blk_lt h9)).trans HR1.out)
 have HRl:=Lib.hid (blk_lt HR2.out)
 have WD:=Lib.hid (λ(u:World) (h:Below w2.heap.size w2 u)=>(words_one (nt:Int) kd P Q sz g gc hk (by omega) bS u (HS.out.grown (Gr.trans Hb2.out h))).mono (λe w' (h9:_/\_)=>(⟨u.heap.size,h9.1,by rw [h9.2];exact heap_alloc_new _ _,by rw [h9.2];exact Gr.new _ _⟩:∃ b,e=.returned (.slice (some ⟨b,0,none⟩) sz sz)/\w'.heap[b]?=some (.cells (madeCells #[.int .u64 0] sz) 46 (0,0))/\Below u.heap.size u w')))
 have OF:=Lib.hid (λ(u:World) (h:Below w2.heap.size w2 u) (b:Nat) (hb:u.heap[b]?=some (.cells (madeCells #[.int .u64 0] sz) 46 (0,0)))=>(of_any (some ⟨b,0,none⟩) sz (List.replicate sz 0) u (zeros_sl3 hb (by omega)) (by rw [List.length_replicate];omega) (λe=>by cases e)).mono (λe w' (h9:∃ v,e=.returned (.agg #[v,.int .i64 0,.int .i64 0,.int .i64 0,.int .i64 0,.int .i64 0])/\w'.ownsRow (u.heap.size+1) 46 1 v (List.replicate sz 0).length ((List.replicate sz 0).map u64V)/\Below u.heap.size u w')=>by
  obtain⟨v,h1,h2,h3⟩:=h9
  rw [List.length_replicate] at h2
  obtain⟨wa,wc,rfl⟩:=row_form h2
  exact(⟨wa,wc,h1,row_base h2 (Nat.le_succ_of_le h.size),h3⟩:∃ wa wc,e=.returned (.agg #[.slice wa sz wc,.int .i64 0,.int .i64 0,.int .i64 0,.int .i64 0,.int .i64 0])/\w'.ownsRow w2.heap.size 46 1 (.slice wa sz wc) sz ((List.replicate sz 0).map u64V)/\Below u.heap.size u w')))
 simp only [List.length_replicate] at OF
 clear hb2 hg0 hgl
 go_upto_region 7 with fail
 refine log_r7 (by kernel_rfl) (λ_ d _ a _ h=>by cases d<;>exact h) hmkM hmkT WD.out OF.out ?_
 rintro y46 y47 y48 y49 y50 y51 y52 y53 y54 y55 y56 y57 bW wx ⟨bM,bT,wa,wc,hL⟩
 ·have HL:=Lib.hid hL
  have hmkF:=make_bools9 calls.length (by omega)
  have hmkH:=make_hands9 nt hnt
  have hmkO:=make_own9
  clear hL hmkM hmkT HB WD OF
  go_upto_region 10 with fail
  obtain⟨w3,hw3⟩:∃ w3,w3=(wx.alloc (.cells (Array.replicate calls.length (Value.bool false)) 4)).alloc (.cells (madeCells hand0 (nt*16)) 100):=⟨_,rfl⟩
  rw [<-hw3]
  have hb3:Below wx.heap.size wx w3:=by rw [hw3];exact Gr.alloc (Gr.new _ _) _
  have hF3:w3.heap[wx.heap.size]?=some (.cells (Array.replicate calls.length (Value.bool false)) 4 (0,0)):=by rw [hw3,Below.heap_alloc _ _ _ (by simp)];exact heap_alloc_new _ _
  have hH3:w3.heap[wx.heap.size+1]?=some (.cells (madeCells hand0 (nt*16)) 100 (0,0)):=by
   rw [hw3]
   have:=heap_alloc_new (wx.alloc (.cells (Array.replicate calls.length (Value.bool false)) 4)) (.cells (madeCells hand0 (nt*16)) 100 (0,0))
   simp only [World.size_alloc] at this
   exact this
  have K3:HandsK2 w2 w3 (wx.heap.size+1) nt 0:=⟨(madeCells hand0 (nt*16)).toList,λ_=>0,⟨hands_len nt,by rw [hH3],λq hq=>by have:=hands_get nt q 0 hq (by decide);rw [Nat.add_zero] at this;rw [this];rfl,λq hq=>absurd hq (Nat.not_lt_zero q),λq _ hq=>absurd hq (Nat.not_lt_zero q)⟩⟩
  have HB3:=Lib.hid hb3;have HF3:=Lib.hid hF3;have HK3:=Lib.hid K3
  have hH3l:=blk_lt hH3
  have h2x:=HL.out.below.size
  clear hb3 hF3 hH3 K3 hw3 hmkF hmkH
  obtain⟨bH,hbH⟩:∃ bH,bH=wx.heap.size+1:=⟨_,rfl⟩
  rw [<-hbH] at HK3 hH3l ⊢
  have hbHg:w2.heap.size<=bH:=by omega
  have HbH:=Lib.hid hbH
  clear hbH
  go_wp2
  go_loopw [65] (λi wr=>∃ p:Nat,p<=nt/\i=.int .i64 p/\Chg (λb=>b=bH) w3 wr/\HandsK2 w2 wr bH nt p) (λi _=>nt - (intOf i).toNat)
  case atStart=>exact⟨0,Nat.zero_le _,rfl,Chg.refl _ _,HK3.out⟩
  case round=>
   obtain⟨p,hp,rfl,hc,hk⟩:=hrel
   by_cases hlt:p<nt
   ·obtain⟨hl,os,y0⟩:=id hk
    have y1:=y0.len
    obtain⟨y,hy⟩:∃ y,hl[16*p+15]?=some y:=⟨_,List.getElem?_eq_getElem (by omega)⟩
    have l1:(p:Int)<(nt:Int):=by omega
    have lw:IntKind.i64.wrap (p:Int)=(p:Int):=by rw [IntKind.wrap_i64];omega
    have q1:wr.cell? ⟨bH,p*16+15,none⟩=some y:=by rw [cell_blk y0.blk,Nat.mul_comm];simpa using hy
    have q2:wr.frozen? ⟨bH,p*16+15,none⟩=false:=frozen_blk y0.blk _
    have hHl:=blk_lt y0.blk
    have Hc:=Lib.hid hc;have Hk:=Lib.hid hk
    clear hc hk y0 y1 hy
    as_aux_lemma=>
     go_wp2
     go_roundw
     case rel=>
      have hal:Below wr.heap.size wr (wr.alloc (.cells #[.slice none 0 0] 28)):=Gr.new _ _
      have hcx:Chg (λb=>b=bH) (wr.alloc (.cells #[.slice none 0 0] 28)) ((wr.setCell ⟨bH,p*16+15,none⟩ (.slice (some ⟨wr.heap.size,0,none⟩) 1 1)).alloc (.cells #[.slice none 0 0] 28)):=by
       have e1:Chg (λb=>b=bH) wr ((wr.setCell ⟨bH,p*16+15,none⟩ (.slice (some ⟨wr.heap.size,0,none⟩) 1 1)).alloc (.cells #[.slice none 0 0] 28)):=((Chg.refl (λb=>b=bH) wr).setCell (p:=⟨bH,p*16+15,none⟩) (.inl rfl) _).alloc _
       refine⟨e1.os,e1.tape,e1.output,by simp,λb hb hn=>?_⟩
       by_cases hbw:b<wr.heap.size
       ·exact(e1.block b hbw hn).trans (hal.block b hbw).symm
       ·simp only [World.size_alloc] at hb
        obtain rfl:b=wr.heap.size:=by omega
        have h1:=heap_alloc_new (wr.setCell ⟨bH,p*16+15,none⟩ (.slice (some ⟨wr.heap.size,0,none⟩) 1 1)) (.cells #[.slice none 0 0] 28 (0,0))
        rw [show(wr.setCell ⟨bH,p*16+15,none⟩ (.slice (some ⟨wr.heap.size,0,none⟩) 1 1)).heap.size=wr.heap.size from by simp [World.setCell]] at h1
        rw [h1]
        exact(heap_alloc_new wr _).symm
      refine⟨p+1,by omega,by go_num,Hc.out.trans (((Chg.refl (λb=>b=bH) wr).setCell (p:=⟨bH,p*16+15,none⟩) (.inl rfl) _).alloc _),Hk.out.own hlt hal (heap_alloc_new _ _) (Nat.le_refl _) (Nat.le_trans h2x (Nat.le_trans HB3.out.size Hc.out.size)) hcx ?_⟩
      rw [Below.heap_alloc _ _ _ (by simpa [World.setCell] using hHl),Nat.mul_comm 16 p]
      obtain⟨hl9,_,y9⟩:=Hk.out
      rw [blk_set y9.blk,blk_set ((hal.block _ hHl).trans y9.blk)]
     case measure=>simp [intOf]<;>omega
   ·have l1:¬ (p:Int)<(nt:Int):=by omega
    obtain rfl:nt=p:=by omega
    have Hc:=Lib.hid hc;have Hk:=Lib.hid hk
    clear hc hk
    obtain⟨w4,hw4⟩:∃ w4,w4=wr.alloc (.cells #[.slice none 0 0,.slice none 0 0,.int .i64 0,.int .i64 0,.int .i64 0,.int .i64 0,.int .i64 0,.int .i64 0,.int .i64 0] 32):=⟨_,rfl⟩
    have hb4:Below wr.heap.size wr w4:=by rw [hw4];exact Gr.new _ _
    obtain⟨bO,hbO⟩:∃ bO,bO=wr.heap.size:=⟨_,rfl⟩
    have hO4:w4.heap[bO]?=some (.cells #[.slice none 0 0,.slice none 0 0,.int .i64 0,.int .i64 0,.int .i64 0,.int .i64 0,.int .i64 0,.int .i64 0,.int .i64 0] 32 (0,0)):=by rw [hw4,hbO];exact heap_alloc_new _ _
    obtain⟨bF,hbF⟩:∃ bF,bF=wx.heap.size:=⟨_,rfl⟩
    have hL:=HL.out
    have hbH9:=HbH.out
    have hx4:Chg (λb=>b=bH) wx w4:=chg_trans2 (S:=λb=>b=bH) (Chg.of_below HB3.out) (Hc.out.trans (Chg.of_below hb4)) (λ_ _ h=>h)
    have A0:∃ bq,LogAt w2 w4 ⟨bW,bM,bT,bF,bH,bO,some bq,nt,sz,calls.length,λb=>b=w.heap.size∨X9 b⟩ (ref0 nt sz calls):=by
     refine LogAt.init (bq:=0) (nc:=0) calls hL hs0 hsz hx4 (by omega) (Hk.out.grown hb4) ?_ (by omega) hO4 (by have:=Hc.out.size;have:=HB3.out.size;omega) (λb e=>by rcases e with rfl|e;exact HRl.out;have:=HX9.out b e;have:=HRl.out;omega)
     rw [hb4.block _ (by have:=Hc.out.size;have:=HB3.out.size;have:=blk_lt HF3.out;omega),Hc.out.block _ (by have:=blk_lt HF3.out;omega) (by omega),hbF,HF3.out]
     simp
    obtain⟨bq,A0⟩:=A0
    have HA0:=Lib.hid A0;have Hw4:=Lib.hid (show w4=wr.alloc (.cells #[.slice none 0 0,.slice none 0 0,.int .i64 0,.int .i64 0,.int .i64 0,.int .i64 0,.int .i64 0,.int .i64 0,.int .i64 0] 32) from hw4)
    have HbO:=Lib.hid hbO;have HbF:=Lib.hid hbF
    clear hL hbH9 hx4 A0 hb4 hO4 hw4 l1 hbO hbF
    have l1:¬ (nt:Int)<(nt:Int):=by omega
    go_upto_region 16 with fail
    rw [<-Hw4.out,<-HbO.out,<-HbF.out]
    clear l1
    go_wp2
    have HA0':=HA0.out
    have hpm:=(checkN_zero Hck.out).2
    have X:LogCtx dO late Pre nt sz kd P Q calls picks ca pa bS g w2 ⟨bW,bM,bT,bF,bH,bO,some bq,nt,sz,calls.length,λb=>b=w.heap.size∨X9 b⟩:=⟨D,hnt,z3,hpm,hs0,Hthr.out,HS.out.grown Hb2.out,Hg0.out,HCa.out.grown Hb2.out,Hp.out.grown Hb2.out,HDC.out,HLC.out,HR.out,HPre.out,rfl,rfl,rfl⟩
    have HX:=Lib.hid X
    clear X HB3 HF3 HK3 HL Hc Hk HbH Hw4 HbO HbF hmkO HDC HLC HR HPre
    go_loopw [78] (λi wv=>∃ k:Nat,k<=picks.length/\i=.int .i64 k/\LogAt w2 wv ⟨bW,bM,bT,bF,bH,bO,some bq,nt,sz,calls.length,λb=>b=w.heap.size∨X9 b⟩ (rpicks dO calls (ref0 nt sz calls) (picks.take k))) (λi _=>picks.length - (intOf i).toNat)
    case atStart=>exact⟨0,Nat.zero_le _,rfl,HA0.out⟩
    case round=>
     obtain⟨k,hk,rfl,hA⟩:=hrel
     by_cases hlt:k<picks.length
     ·cases hN:nowN calls (rpicks dO calls (ref0 nt sz calls) (picks.take k)).fin (picks.getD k 0) with
      | none=>
       refine log_none (J:=⟨bW,bM,bT,bF,bH,bO,some bq,nt,sz,calls.length,λb=>b=w.heap.size∨X9 b⟩) HX.out (by kernel_rfl) hlt (λ_ d _ _ _ h=>by cases d<;>exact h) hA hN ?_
       intros
       rename_i wz hz
       go_roundw
       case rel=>exact⟨_,_,_,_,_,_,_,_,_,_,_,_,_,_,_,_,_,_,_,_,_,_,_,_,_,_,_,_,_,_,_,_,_,_,_,_,_,_,_,_,_,_,_,_,_,_,_,_,_,_,_,_,_,_,_,_,_,_,_,_,_,_,_,_,_,_,_,_,_,_,_,_,_,_,_,_,_,_,_,_,_,_,_,_,_,_,_,_,_,_,_,_,_,_,_,_,_,_,_,_,_,_,_,_,_,_,_,_,_,_,_,_,_,_,_,_,_,_,_,_,_,_,_,_,_,_,_,_,_,_,_,_,_,⟨k+1,hlt,rfl,hz⟩,rfl⟩
       case measure=>simp [intOf]<;>omega
      | some i=>
       refine log_some (J:=⟨bW,bM,bT,bF,bH,bO,some bq,nt,sz,calls.length,λb=>b=w.heap.size∨X9 b⟩) HX.out (by kernel_rfl) hlt (λ_ d _ _ _ h=>by cases d<;>exact h) hA hN ?_
       intros
       rename_i wz hz
       go_roundw
       case rel=>exact⟨_,_,_,_,_,_,_,_,_,_,_,_,_,_,_,_,_,_,_,_,_,_,_,_,_,_,_,_,_,_,_,_,_,_,_,_,_,_,_,_,_,_,_,_,_,_,_,_,_,_,_,_,_,_,_,_,_,_,_,_,_,_,_,_,_,_,_,_,_,_,_,_,_,_,_,_,_,_,_,_,_,_,_,_,_,_,_,_,_,_,_,_,_,_,_,_,_,_,_,_,_,_,_,_,_,_,_,_,_,_,_,_,_,_,_,_,_,_,_,_,_,_,_,_,_,_,_,_,_,_,_,_,_,⟨k+1,hlt,rfl,hz⟩,rfl⟩
       case measure=>simp [intOf]<;>omega
     ·have l1:¬ (k:Int)<(picks.length:Int):=by omega
      obtain rfl:k=picks.length:=by omega
      rw [List.take_length] at hA
      have hG:=HX.out.R picks.length
      rw [List.take_length] at hG
      have hct:=rpicks_count HX.out.D calls picks (ref0 nt sz calls)
      rw [show(ref0 nt sz calls).rw.now=0 from rfl,show(ref0 nt sz calls).idle=0 from rfl] at hct
      obtain⟨s,hs⟩:∃ s,s=rpicks dO calls (ref0 nt sz calls) picks:=⟨_,rfl⟩
      rw [<-hs] at hA hG hct
      have hnow:s.rw.now<=1000000:=by have:=HX.out.np;omega
      have HG:=Lib.hid hG;have Hnow:=Lib.hid hnow
      have HA:=Lib.hid (show LogAt w2 _ ⟨bW,bM,bT,bF,bH,bO,some bq,nt,sz,calls.length,λb=>b=w.heap.size∨X9 b⟩ (rendTo late calls s 0) from hA)
      have Hs:=Lib.hid hs
      clear hA hG hct hnow hs HA0 HA0'
      have lnz:IntKind.i64.wrap (0:Int)=0:=by decide
      go_wp2
      clear l1
      go_loopw [209] (λi wr=>∃ p:Nat,p<=nt/\i=.int .i64 p/\LogAt w2 wr ⟨bW,bM,bT,bF,bH,bO,some bq,nt,sz,calls.length,λb=>b=w.heap.size∨X9 b⟩ (rendTo late calls s p)) (λi _=>nt - (intOf i).toNat)
      case atStart=>exact⟨0,Nat.zero_le _,rfl,HA.out⟩
      case round=>
       clear HA
       obtain⟨p,hp,rfl,hA⟩:=hrel
       by_cases hlt:p<nt
       ·cases hO:(s.hands.getD p rh0).opn with
        | false=>
         refine log_shut (J:=⟨bW,bM,bT,bF,bH,bO,some bq,nt,sz,calls.length,λb=>b=w.heap.size∨X9 b⟩) HX.out (by kernel_rfl) hlt (λ_ d _ _ _ h=>by cases d<;>exact h) hA HG.out Hnow.out hO ?_
         intros
         rename_i wz hz
         go_roundw
         case rel=>exact⟨_,_,_,_,_,_,_,_,_,_,_,_,_,_,_,_,_,_,_,_,_,_,_,_,_,_,_,_,_,_,_,_,_,_,_,_,_,_,_,_,_,_,_,_,_,_,_,_,_,_,⟨p+1,hlt,rfl,hz⟩,rfl⟩
         case measure=>simp [intOf]<;>omega
        | true=>
         refine log_late (J:=⟨bW,bM,bT,bF,bH,bO,some bq,nt,sz,calls.length,λb=>b=w.heap.size∨X9 b⟩) HX.out (by kernel_rfl) hlt (λ_ d _ _ _ h=>by cases d<;>exact h) hA HG.out Hnow.out hO ?_
         intros
         rename_i wz hz
         go_roundw
         case rel=>exact⟨_,_,_,_,_,_,_,_,_,_,_,_,_,_,_,_,_,_,_,_,_,_,_,_,_,_,_,_,_,_,_,_,_,_,_,_,_,_,_,_,_,_,_,_,_,_,_,_,_,_,⟨p+1,hlt,rfl,hz⟩,rfl⟩
         case measure=>simp [intOf]<;>omega
       ·have l1:¬ (p:Int)<(nt:Int):=by omega
        obtain rfl:nt=p:=by omega
        obtain⟨hl,vs,L,ea,ec,ers,hA⟩:=hA
        obtain⟨E,hE⟩:∃ E,E=rendTo late calls s nt:=⟨_,rfl⟩
        have hRP:RP=⟨E.evs,E.rw.mem.ws,E.rw.mem.c,E.rw.now,E.idle⟩:=by rw [HRP.out,<-Hs.out,hE];rfl
        rw [<-hE] at hA
        clear hE
        obtain⟨wa,wcap,_,hWb,hwq⟩:=hA.mem.blk
        obtain⟨ln,_,_,hlog⟩:=hA.log
        obtain⟨la,lc,rfl⟩:=row_form hlog
        have hO:wr.heap[bO]?=some (.cells #[.slice ea E.evs.length ec,.slice none 0 0,.int .i64 0,.int .i64 0,.int .i64 0,.int .i64 0,.int .i64 0,.int .i64 0,.int .i64 (E.idle:Int)] 32 (0,0)):=hA.rest.out
        have hW:wr.heap[bW]?=some (.cells #[.slice wa E.rw.mem.ws.length wcap,.int .i64 (E.rw.mem.c.read:Int),.int .i64 (E.rw.mem.c.write:Int),.int .i64 (E.rw.mem.c.swap:Int),.int .i64 (E.rw.mem.c.add:Int),.int .i64 (E.rw.mem.c.fault:Int),.int .i64 (E.rw.now:Int),.slice (some ⟨bM,0,none⟩) nt nt,.slice (some ⟨bT,0,none⟩) sz sz,.slice la ln lc] 93 (0,0)):=hWb
        have hR:wr.heap[w.heap.size]?=_:=(hA.rest.below.block w.heap.size HRl.out).trans HR2.out
        have hOge:w2.heap.size<=bO:=hA.rest.ge.2.1
        have hWge:w2.heap.size<=bW:=hA.rest.ge.2.2.2.1
        have hOR:w.heap.size≠bO:=by have:=HRl.out;omega
        have hWR:w.heap.size≠bW:=by have:=HRl.out;omega
        have hWO:bW≠bO:=blk_ne9 hW hO (by decide)
        have x0:wr.cell? ⟨bW,0,none⟩=some (.slice wa E.rw.mem.ws.length wcap):=by rw [cell_blk hW];rfl
        have x1:wr.cell? ⟨bW,1,none⟩=some (.int .i64 (E.rw.mem.c.read:Int)):=by rw [cell_blk hW];rfl
        have x2:wr.cell? ⟨bW,2,none⟩=some (.int .i64 (E.rw.mem.c.write:Int)):=by rw [cell_blk hW];rfl
        have x3:wr.cell? ⟨bW,3,none⟩=some (.int .i64 (E.rw.mem.c.swap:Int)):=by rw [cell_blk hW];rfl
        have x4:wr.cell? ⟨bW,4,none⟩=some (.int .i64 (E.rw.mem.c.add:Int)):=by rw [cell_blk hW];rfl
        have x5:wr.cell? ⟨bW,5,none⟩=some (.int .i64 (E.rw.mem.c.fault:Int)):=by rw [cell_blk hW];rfl
        have x6:wr.cell? ⟨bW,6,none⟩=some (.int .i64 (E.rw.now:Int)):=by rw [cell_blk hW];rfl
        have x9:wr.cell? ⟨bW,9,none⟩=some (.slice la ln lc):=by rw [cell_blk hW];rfl
        have o1:wr.cell? ⟨bO,1,none⟩=some (.slice none 0 0):=by rw [cell_blk hO];rfl
        have of1:wr.frozen? ⟨bO,1,none⟩=false:=frozen_blk hO _
        have o2:wr.cell? ⟨bO,2,none⟩=some (.int .i64 0):=by rw [cell_blk hO];rfl
        have of2:wr.frozen? ⟨bO,2,none⟩=false:=frozen_blk hO _
        have o3:wr.cell? ⟨bO,3,none⟩=some (.int .i64 0):=by rw [cell_blk hO];rfl
        have of3:wr.frozen? ⟨bO,3,none⟩=false:=frozen_blk hO _
        have o4:wr.cell? ⟨bO,4,none⟩=some (.int .i64 0):=by rw [cell_blk hO];rfl
        have of4:wr.frozen? ⟨bO,4,none⟩=false:=frozen_blk hO _
        have o5:wr.cell? ⟨bO,5,none⟩=some (.int .i64 0):=by rw [cell_blk hO];rfl
        have of5:wr.frozen? ⟨bO,5,none⟩=false:=frozen_blk hO _
        have o6:wr.cell? ⟨bO,6,none⟩=some (.int .i64 0):=by rw [cell_blk hO];rfl
        have of6:wr.frozen? ⟨bO,6,none⟩=false:=frozen_blk hO _
        have o7:wr.cell? ⟨bO,7,none⟩=some (.int .i64 0):=by rw [cell_blk hO];rfl
        have of7:wr.frozen? ⟨bO,7,none⟩=false:=frozen_blk hO _
        obtain⟨w5,hw5⟩:∃ w5,w5=((((((wr.setCell ⟨bO,7,none⟩ (.int .i64 (E.rw.now:Int))).setCell ⟨bO,1,none⟩ (.slice wa E.rw.mem.ws.length wcap)).setCell ⟨bO,2,none⟩ (.int .i64 (E.rw.mem.c.read:Int))).setCell ⟨bO,3,none⟩ (.int .i64 (E.rw.mem.c.write:Int))).setCell ⟨bO,4,none⟩ (.int .i64 (E.rw.mem.c.swap:Int))).setCell ⟨bO,5,none⟩ (.int .i64 (E.rw.mem.c.add:Int))).setCell ⟨bO,6,none⟩ (.int .i64 (E.rw.mem.c.fault:Int)):=⟨_,rfl⟩
        have hc5:Chg (λb=>b=bO) wr w5:=by rw [hw5];exact(((((((Chg.refl (λb=>b=bO) wr).setCell (p:=⟨bO,7,none⟩) (.inl rfl) _).setCell (p:=⟨bO,1,none⟩) (.inl rfl) _).setCell (p:=⟨bO,2,none⟩) (.inl rfl) _).setCell (p:=⟨bO,3,none⟩) (.inl rfl) _).setCell (p:=⟨bO,4,none⟩) (.inl rfl) _).setCell (p:=⟨bO,5,none⟩) (.inl rfl) _).setCell (p:=⟨bO,6,none⟩) (.inl rfl) _
        have hO5:w5.heap[bO]?=some (.cells #[.slice ea E.evs.length ec,.slice wa E.rw.mem.ws.length wcap,.int .i64 (E.rw.mem.c.read:Int),.int .i64 (E.rw.mem.c.write:Int),.int .i64 (E.rw.mem.c.swap:Int),.int .i64 (E.rw.mem.c.add:Int),.int .i64 (E.rw.mem.c.fault:Int),.int .i64 (E.rw.now:Int),.int .i64 (E.idle:Int)] 32 (0,0)):=by
         rw [hw5,blk_set (blk_set (blk_set (blk_set (blk_set (blk_set (blk_set hO _ _) _ _) _ _) _ _) _ _) _ _) _ _]
         simp only [zq4,zq5,zq6]
        have hR5:=(hc5.block w.heap.size (blk_lt hR) hOR).trans hR
        have hL5:=(hc5.cell (p:=⟨bW,9,none⟩) (blk_lt hW) hWO).trans x9
        have HA5:=Lib.hid hA;have Hw5:=Lib.hid hw5;have HO5:=Lib.hid hO5;have HR5:=Lib.hid hR5;have HL5:=Lib.hid hL5;have Hc5:=Lib.hid hc5;have HRP5:=Lib.hid hRP;have Hwq:=Lib.hid hwq;have HWO:=Lib.hid hWO;have HOR:=Lib.hid hOR;have HWR:=Lib.hid hWR;have HOge:=Lib.hid hOge
        clear hA hw5 hO5 hR5 hL5 hc5 hRP hwq hlog hWb hO hW hR hOge hWge hOR hWR x9 HX HG Hnow
        go_upto_region 48 with fail
        rw [<-Hw5.out]
        clear x0 x1 x2 x3 x4 x5 x6 o1 of1 o2 of2 o3 of3 o4 of4 o5 of5 o6 of6 o7 of7
        refine log_r48 (rp:=⟨E.evs,E.rw.mem.ws,E.rw.mem.c,E.rw.now,E.idle⟩) (bR:=w.heap.size) (by kernel_rfl) (λ_ d _ a _ h=>by cases d<;>exact h) HO5.out HR5.out HOR.out HWR.out HL5.out ?_
        rintro y9 y273 y274 y275 y276 y277 w6 ⟨cs,hcs,hsz,hblk,hchg⟩
        go_wp2
        have hld:=rep_load w6 w.heap.size cs hblk hsz
        refine bodyPost_ret (v:=.tuple #[.agg cs,y9,.int .i64 0]) (by simp [results,Tryz.results22 ,Sem.run_bind,Sem.run_pure,asAddr,hld]) rfl ?_
        exact log_ret HA5.out (λ_=>Iff.rfl) Hb2.out HRP5.out Hwq.out Hc5.out hchg hcs
end
section

/- A reference's play is the loom's, whatever the object is: roundelayplain.Play. -/
open Go.RowKit
variable {S:Sys} {M:RefSim S} {n:Nat} {dO:CallD->TapeP->RWD->TapeP×RWD} {late:CallD->Nat->RHand->RWD->List Int} {calls:List CallD} {Good:PlayD S->Prop}
theorem psim0 (o:S.ω) (sz:Nat) (hs0:0<sz) (ho:∀ p,p<n->M.Own o p []):PSim M n calls (ref0 n sz calls) (play0 S o (List.replicate sz 0) calls):=by
 have h16:∀ p,(List.replicate 16 ((none:Option S.σ),0)).getD p (none,0)=(none,0):=λp=>rep_getD9 16 p _
 have hr0:∀ p,(List.replicate n rh0).getD p rh0=rh0:=λp=>rep_getD9 n p _
 refine⟨⟨rfl,rfl,List.length_replicate ..,λp hp=>?_,λa=>?_,⟨(by show 0<(List.replicate sz ([]:List Int)).length;rw [List.length_replicate];exact hs0),(by show(List.replicate sz ([]:List Int)).length=(List.replicate sz 0).length;rw [List.length_replicate,List.length_replicate])⟩⟩,⟨List.length_replicate ..,List.length_replicate ..⟩,rfl,rfl,rfl,List.length_replicate ..,λp hp=>?_⟩
 ·show(List.replicate n ([]:List Int)).getD p []=(List.replicate 16 ([]:List Int)).getD p []
  rw [rep_getD9,rep_getD9]
 ·unfold traceP
  split
  ·rfl
  ·exact rep_getD9 sz _ _
 ·show HandSim M calls o (wd0 _) _ [] p ((List.replicate n rh0).getD p rh0) ((List.replicate 16 (none,0)).getD p (none,0))
  rw [hr0,h16]
  exact⟨ho p hp,rfl,λh=>by(cases h),λh=>by(cases h),λσ e=>by cases e⟩
theorem psim_call {s:RefS} {st:PlayD S} (h:PSim M n calls s st) (hg:StGood calls st):∀ p,p<n->(s.hands.getD p rh0).opn=true->nowN calls s.fin (p:Int)=some (evAt s.evs (s.hands.getD p rh0).ev).call:=λp hp ho=>by
 have H:=h.hand p hp
 rw [H.opn] at ho
 have hh:hndOf st.hands p=some (st.hands.getD p (none,0)).2:=by unfold hndOf;rw [if_pos ho]
 obtain⟨k1,k2,k3,k4⟩:=hg.ev.hand p _ hh
 rw [h.fin,h.evs,H.ev (by rw [H.opn];exact ho)]
 exact k4
theorem rstand (ok:RefOk S M n dO late calls Good) (D:DoB dO) (hnow:∀ o wd p s,(S.step o wd p s).2.1.now=wd.now) (hn:n<=16) (hthr:∀ c,c<calls.length->0<=(calls.getD c d0).thread/\(calls.getD c d0).thread<(n:Int)) {sz:Nat} :
  ∀(picks:List Int) {s:RefS} {st:PlayD S},StGood calls st->(∀ k,Good (picksD S calls st (picks.take k)))->PSim M n calls s st->RGood n sz calls s->PSim M n calls (rpicks dO calls s picks) (picksD S calls st picks)/\StGood calls (picksD S calls st picks)/\RGood n sz calls (rpicks dO calls s picks)/\Good (picksD S calls st picks)
 | [],_,_,hg,hG,h,hr=>⟨h,hg,hr,hG 0⟩
 | p::ps,s,st,hg,hG,h,hr=>rstand ok D hnow hn hthr ps (pick_good hnow (λc hc=>⟨(hthr c hc).1,by have:=(hthr c hc).2;omega⟩) hg p) (λk=>hG (k+1)) (rsim_pick ok hn hthr hg (hG 0) h p) (hr.pick D hthr (psim_call h hg) p)
def DoT (dO:CallD->TapeP->RWD->TapeP×RWD):Prop:=∀ c t r x,x∈(dO c t r).1.ticks->x∈t.ticks∨x=(r.now:Int)
theorem accP_ticks (kd a:Int) (x y:Nat) (t:TapeP) (r:RWD):∀ z,z∈(accP kd a x y t r).2.1.ticks->z∈t.ticks∨z=(r.now:Int):=by
 intro z hz
 unfold accP at hz
 split at hz
 ·exact .inl hz
 ·split at hz
  ·exact .inl hz
  ·split at hz
   ·have h9:z∈t.ticks++[(r.now:Int)]:=hz
    simpa using h9
   ·exact .inl hz
def RTick (n:Nat) (s:RefS):Prop:=∀ p,p<n->(s.hands.getD p rh0).opn=true->(s.hands.getD p rh0).inv<=s.rw.now/\∀ x,x∈(s.hands.getD p rh0).ticks->0<=x/\x<=(s.rw.now:Int)
theorem RTick.open_ {s:RefS} (h:RTick n s) (hl:s.hands.length=n) (q i:Nat) (hq:q<n):RTick n (ropen { s with rw:=s.rw.tick } q i)/\(ropen { s with rw:=s.rw.tick } q i).rw.now=s.rw.now+1:=by
 unfold ropen
 split
 ·refine⟨λp hp ho=>?_,rfl⟩
  obtain⟨a,b⟩:=h p hp ho
  exact⟨Nat.le_succ_of_le a,λx hx=>⟨(b x hx).1,by have:=(b x hx).2;show x<=((s.rw.now+1:Nat):Int);omega⟩⟩
 ·refine⟨λp hp ho=>?_,rfl⟩
  have e0:(rbegin { s with rw:=s.rw.tick } q i).hands=s.hands.set q ⟨true,s.evs.length,s.rw.now+1,[],[],(s.hands.getD q rh0).own⟩:=rfl
  have e1:(rbegin { s with rw:=s.rw.tick } q i).rw.now=s.rw.now+1:=rfl
  rw [e0] at ho
  rw [e0,e1]
  by_cases e:q=p
  ·subst e
   rw [getD_set_eq (by omega)]
   exact⟨Nat.le_refl _,λx hx=>by cases hx⟩
  ·rw [getD_set_neq e] at ho ⊢
   obtain⟨a,b⟩:=h p hp ho
   exact⟨Nat.le_succ_of_le a,λx hx=>⟨(b x hx).1,by have:=(b x hx).2;omega⟩⟩
theorem RTick.pick (D:DoB dO) (DT:DoT dO) {s:RefS} (h:RTick n s) (hl:s.hands.length=n) (hthr:∀ c,c<calls.length->0<=(calls.getD c d0).thread/\(calls.getD c d0).thread<(n:Int)) (x:Int):RTick n (rpick dO calls s x):=by
 unfold rpick
 split
 ·exact h
 ·rename_i i hN
  obtain⟨n1,n2,n3⟩:=nowN_spec hN
  obtain⟨t1,t2⟩:=hthr i n1
  obtain⟨q,rfl⟩:∃ q:Nat,x=(q:Int):=⟨x.toNat,by omega⟩
  simp only [Int.toNat_natCast]
  have hq:q<n:=by omega
  obtain⟨h1,h2⟩:=h.open_ hl q i hq
  obtain⟨s1,hs1⟩:∃ s1,s1=ropen { s with rw:=s.rw.tick } q i:=⟨_,rfl⟩
  have hl1:s1.hands.length=n:=by
   rw [hs1];unfold ropen
   split
   ·exact hl
   ·show(s.hands.set q _).length=n;rw [List.length_set];exact hl
  have ho1:(s1.hands.getD q rh0).opn=true:=by
   rw [hs1];unfold ropen
   split
   ·assumption
   ·show((s.hands.set q _).getD q rh0).opn=true
    rw [getD_set_eq (by omega)]
  rw [<-hs1] at h1 h2 ⊢
  obtain⟨c,hc⟩:∃ c,c=calls.getD i d0:=⟨_,rfl⟩
  rw [<-hc]
  obtain⟨R,hR⟩:∃ R,R=rdo dO c ((s1.hands.getD q rh0).tape q) s1.rw:=⟨_,rfl⟩
  have hRn:R.2.now=s1.rw.now:=by
   rw [hR];unfold rdo
   split
   ·rfl
   ·exact(D.runs _ _ _).now
  have hRt:∀ z,z∈R.1.ticks->z∈(s1.hands.getD q rh0).ticks∨z=(s1.rw.now:Int):=λz hz=>by
   rw [hR] at hz
   unfold rdo at hz
   split at hz
   ·exact .inl hz
   ·exact DT _ _ _ _ hz
  obtain⟨a9,b9⟩:=h1 q hq ho1
  unfold rgo
  rw [<-hR]
  split
  ·intro p hp ho
   simp only at ho ⊢
   rw [hRn]
   by_cases e:q=p
   ·subst e
    rw [getD_set_eq (by omega)]
    exact⟨a9,λz hz=>by
     rcases hRt z hz with h9|h9
     ·exact b9 z h9
     ·rw [h9];omega⟩
   ·rw [getD_set_neq e] at ho ⊢
    exact h1 p hp ho
  ·intro p hp ho
   simp only at ho ⊢
   rw [hRn]
   by_cases e:q=p
   ·subst e
    rw [getD_set_eq (by omega)] at ho
    cases ho
   ·rw [getD_set_neq e] at ho ⊢
    exact h1 p hp ho
theorem rtick_all (D:DoB dO) (DT:DoT dO) (hthr:∀ c,c<calls.length->0<=(calls.getD c d0).thread/\(calls.getD c d0).thread<(n:Int)):∀(picks:List Int) {s:RefS},RTick n s->s.hands.length=n->RTick n (rpicks dO calls s picks)
 | [],_,h,_=>h
 | p::ps,s,h,hl=>rtick_all D DT hthr ps (h.pick D DT hl hthr p) (by
   unfold rpick
   split
   ·exact hl
   ·unfold rgo
    have e9:∀ q i,(ropen { s with rw:=s.rw.tick } q i).hands.length=n:=λq i=>by
     unfold ropen
     split
     ·exact hl
     ·show(s.hands.set q _).length=n;rw [List.length_set];exact hl
    split<;>(simp only [List.length_set];exact e9 _ _))
theorem rplay_any (X:Nat->Prop) (sz:Nat) (kd P Q:Int) (picks:List Int) (ca pa:Option Addr) (cc pc bS:Nat) (w:World) (o:S.ω) (Pre:CallD->TapeP->RWD->Prop) (hX:∀ b,X b->b<w.heap.size) (hk:¬ kd=8) (hsz:sz<=65536) (hs0:0<sz) (hck:checkN (n:Int) calls picks.length=0) (hS:SpecAt w bS kd P Q) (hc:CallsAt noB w ca calls) (hp:PicksAt w pa picks)
  (SC:∀ u:World,Calls Tryz.prog 55 #[.int .i64 (n:Int),.agg #[.int .i64 kd,.int .i64 P,.int .i64 Q]] u λe w'=>e=.returned (.int .i64 (sz:Int))/\Below u.heap.size u w') (D:DoB dO) (DT:DoT dO) (DC:DoC kd P Q n Pre dO) (LC:LateC kd P Q n late)
  (ok:RefOk S M n dO late calls Good) (hnow:∀ o wd p s,(S.step o wd p s).2.1.now=wd.now) (ho:∀ p,p<n->M.Own o p []) (hG:∀ k,Good (picksD S calls (play0 S o (List.replicate sz 0) calls) (picks.take k)))
  (hPre:∀(s:RefS) (st:PlayD S) (q i:Nat),PSim M n calls s st->StGood calls st->Good st->RGood n sz calls s->RTick n s->s.rw.now<=65536->q<n->nowN calls s.fin (q:Int)=some i->(calls.getD i d0).obj=0->∀ s1,s1=ropen { s with rw:=s.rw.tick } q i->Pre (calls.getD i d0) ((s1.hands.getD q rh0).tape q) s1.rw) :
  Calls Tryz.prog 10 #[.int .i64 (n:Int),.slice (some ⟨bS,0,none⟩) 1 1,.slice ca calls.length cc,.slice pa picks.length pc] w λe w'=>RefAny X w w' 0 (playD S o (List.replicate sz 0) calls picks) true e:=by
 have hthr:=thr_ok hck
 obtain⟨z1,z2,z3,_⟩:=wrongN_zero (checkN_zero hck).1
 have hn:n<=16:=by omega
 have hst:∀ k,PSim M n calls (rpicks dO calls (ref0 n sz calls) (picks.take k)) (picksD S calls (play0 S o (List.replicate sz 0) calls) (picks.take k))/\StGood calls (picksD S calls (play0 S o (List.replicate sz 0) calls) (picks.take k))/\RGood n sz calls (rpicks dO calls (ref0 n sz calls) (picks.take k))/\Good (picksD S calls (play0 S o (List.replicate sz 0) calls) (picks.take k)):=λk=>
  rstand ok D hnow hn hthr (picks.take k) (play0_good (S:=S) calls o _) (λj=>by rw [List.take_take];exact hG _) (psim0 o sz hs0 ho) (rgood0 n sz calls)
 refine rplay_of X (n:Int) 0 _ _ _ _ w (λu hu hul=>?_)
 have L:=rlog_r (λb=>X b∨b=w.heap.size) dO late Pre D n sz kd P Q calls picks ca pa cc pc bS u (λb e=>by rcases e with e|e;have:=hX b e;have:=hu.size;omega;omega) hk hsz hs0 hck (hS.grown hu) (hc.grown hu) (hp.grown hu) hthr SC DC LC (λk=>(hst k).2.2.1) (λk i hk9 hN hob s1 hs1=>by
  obtain⟨n1,n2,n3⟩:=nowN_spec hN
  obtain⟨t1,t2⟩:=hthr i n1
  obtain⟨q,hq⟩:∃ q:Nat,picks.getD k 0=(q:Int):=⟨(picks.getD k 0).toNat,by omega⟩
  rw [hq] at hN hs1 n2 ⊢
  simp only [Int.toNat_natCast] at hs1 ⊢
  exact hPre _ _ q i (hst k).1 (hst k).2.1 (hst k).2.2.2 (hst k).2.2.1 (rtick_all D DT hthr (picks.take k) (λp hp ho=>by(have e9:((ref0 n sz calls).hands.getD p rh0)=rh0:=rep_getD9 n p _);rw [e9] at ho;cases ho) (List.length_replicate ..)) (by(have h9:=rpicks_count D calls (picks.take k) (ref0 n sz calls));rw [show(ref0 n sz calls).rw.now=0 from rfl,show(ref0 n sz calls).idle=0 from rfl,List.length_take] at h9;have:=(checkN_zero hck).2;omega) (by omega) hN hob s1 hs1)
 refine L.mono ?_
 intro e w' h
 rw [<-rsim_play ok hnow hn hthr o sz hs0 ho picks hG]
 exact h.any
theorem rend_len (late:CallD->Nat->RHand->RWD->List Int) (calls:List CallD) (s:RefS) (n:Nat):(rend late calls s n).length=s.evs.length:=(rendTo_spec late calls s n).1
theorem rlen_any (sz:Nat) (picks:List Int) (o:S.ω) (hs0:0<sz) (hck:checkN (n:Int) calls picks.length=0) (D:DoB dO) (ok:RefOk S M n dO late calls Good) (hnow:∀ o wd p s,(S.step o wd p s).2.1.now=wd.now) (ho:∀ p,p<n->M.Own o p []) (hG:∀ k,Good (picksD S calls (play0 S o (List.replicate sz 0) calls) (picks.take k))) :
  (playD S o (List.replicate sz 0) calls picks).evs.length<=65536/\(playD S o (List.replicate sz 0) calls picks).words.length=sz:=by
 have hthr:=thr_ok hck
 obtain⟨z1,z2,z3,_⟩:=wrongN_zero (checkN_zero hck).1
 have hn:n<=16:=by omega
 have hnp:=(checkN_zero hck).2
 obtain⟨_,_,R,_⟩:=rstand ok D hnow hn hthr picks (play0_good (S:=S) calls o _) hG (psim0 o sz hs0 ho) (rgood0 n sz calls)
 rw [<-rsim_play ok hnow hn hthr o sz hs0 ho picks hG]
 have hct:=rpicks_count D calls picks (ref0 n sz calls)
 rw [show(ref0 n sz calls).rw.now=0 from rfl,show(ref0 n sz calls).idle=0 from rfl] at hct
 refine⟨?_,R.ws⟩
 show(rend late calls _ n).length<=_
 rw [rend_len]
 have:=R.el
 omega
end
section

/- Objects whose operations have one step, in the reference's play: plain numbers. -/
open Go.RowKit
structure Tape0 (t:TapeP):Prop where
 got:t.got=[]
 at_:t.at_=0
 fresh:t.fresh=true
 halt:t.halt=false
 err:t.err=0
 val:t.val=0
 list:t.list=[]
 key:t.key=[]
theorem accP_priv (kd a:Int) (x y:Nat) (t:TapeP) (r:RWD):(accP kd a x y t r).2.1.priv=t.priv:=by
 unfold accP
 split
 ·rfl
 ·split
  ·rfl
  ·split<;>rfl
structure OneDo (ref:CallD->Option Int) (act:CallD->WD->WD×(Int×Nat)) (Ln:Nat) (dO:CallD->TapeP->RWD->TapeP×RWD):Prop where
 refuse:∀ c t r e,ref c=some e->Tape0 t->dO c t r=({ t with err:=e },r)
 go:∀ c t r wd,ref c=none->Tape0 t->r.mem=wd.mem->wd.mem.ws.length=Ln->(dO c t r).2={ r with mem:=(act c wd).1.mem }/\(dO c t r).1.halt=false/\(dO c t r).1.err=(act c wd).2.1/\(dO c t r).1.val=(act c wd).2.2/\(dO c t r).1.list=[]/\(dO c t r).1.key=[]
 keep:∀ c wd,(act c wd).1.inv=wd.inv/\(act c wd).1.marks=wd.marks/\(act c wd).1.now=wd.now/\(act c wd).1.traces=wd.traces
 len:∀ c wd,(act c wd).1.mem.ws.length=wd.mem.ws.length
def lateM (_:CallD) (p:Nat) (_:RHand) (r:RWD):List Int:=r.marks.getD p []
theorem memRead_len (m:MemD) (a:Int):(memRead m a).1.ws.length=m.ws.length:=by unfold memRead MemD.fault;split<;>rfl
theorem memWrite_len (m:MemD) (a:Int) (x:Nat):(memWrite m a x).ws.length=m.ws.length:=by unfold memWrite MemD.fault;split<;>simp
end
end Go.Proofs.YtfkokppncipgnaaGreat
