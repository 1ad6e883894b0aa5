/- A max register in the reference's play: one that writes. -/
import Derived.Test.YteffgpcjfnjlkaaGreatX39
import Derived.Test.YteffgpcjfnjlkaaGreatX18
import Derived.Test.YteffgpcjfnjlkaaGreatX24
import Derived.Test.YteffgpcjfnjlkaaGreatX37
set_option maxRecDepth 100000
set_option linter.unusedVariables false
set_option linter.unusedSimpArgs false
set_option linter.unnecessarySimpa false
namespace Go.Proofs.YteffgpcjfnjlkaaGreat
section
open Go.RowKit
variable {B:RBase} {w w':World} {t:TapeP} {r:RWD}
theorem upRun_halt (b:Nat) (ts:List (Nat×Bool)) (n:Nat) (t:TapeP) (r:RWD) (h:t.halt=true):upRun b ts n t r=(t,r):=by
 cases n with
 | zero=>rfl
 | succ n=>unfold upRun;rw [if_pos h]
theorem wy_get {R:Prop} {u:World} {bR bY:Nat} {ta:Option Addr} {tn tc:Nat} {ts:List (Nat×Bool)} {last:Int} {val:Nat} (h:WyAt R u bR bY (.slice ta tn tc) ts last val) (htn:tn=ts.length) (hl:tn<=100) (j:Nat) (hj:j<tn):∃ g o,ta=some ⟨g,o,none⟩/\u.cell? ⟨g,o+j,none⟩=some (.int .i64 (if (ts.getD j (0,false)).2=true then -((ts.getD j (0,false)).1:Int) else ((ts.getD j (0,false)).1:Int))):=by
 have hrow:=h.row
 rw [<-htn] at hrow
 have hsl:=(row_sl hrow (by unfold maxLen;omega) (g:=intG (tnI ts)) (λq hq=>by
  have hq':q<(tnI ts).length:=by rw [tnI,List.length_map,<-htn];exact hq
  simp only [intG,List.getElem?_map,List.getD_eq_getElem?_getD,List.getElem?_eq_getElem hq'];rfl)).1
 obtain⟨b0,o0,e0,_,hc0⟩:=hsl.2 j hj
 refine⟨b0,o0,e0,?_⟩
 have h9:=hc0 0 (by omega)
 rw [Nat.mul_one,Nat.add_zero] at h9
 rw [show intG (tnI ts) j 0=Value.int .i64 ((tnI ts).getD j 0) from rfl,tnI_get ts j (by omega)] at h9
 exact h9
set_option maxHeartbeats 8000000 in
theorem write_w (h:RAt B w t r) (b:Nat) (hb9:b<=500000) (m:Nat) (hm:m<=12) (v:Nat) (hv:v<18446744073709551616) :
  Calls Tryz.prog 111 #[.pointer (some ⟨B.I.tb,B.I.pre.length,none⟩),.int .i64 (b:Int),.int .i64 (m:Int),.int .u64 (v:Int)] w λe w'=>e=.returned (.tuple #[])/\RAt B w' (mxWriteP b m v t r).1 (mxWriteP b m v t r).2:=by
 have DC:=down_w h b hb9 m hm v hv
 obtain⟨Z,hZ⟩:∃ Z,Z=dnRun b v m 1 [] (t.inv:Int) t r:=⟨_,rfl⟩
 have hE:mxWriteP b m v t r=wrMid b Z:=by rw [hZ];rfl
 rw [hE]
 rw [<-hZ] at DC
 obtain⟨E,hE2⟩:∃ E,E=wrMid b Z:=⟨_,rfl⟩
 rw [<-hE2]
 obtain⟨⟨ts,last⟩,t1,r1⟩:=Z
 obtain⟨tn,htn⟩:∃ tn,tn=ts.length:=⟨_,rfl⟩
 obtain⟨U,hU⟩:∃ U,U=upRun b ts tn t1 r1:=⟨_,rfl⟩
 have hEU:E=wrEnd b (ts,last) U:=by rw [hE2,hU,htn];rfl
 have HDC:=Lib.hid DC;have HEU:=Lib.hid hEU;have HU:=Lib.hid hU;have Htn:=Lib.hid htn
 clear DC hE hE2 hEU hU htn hZ h
 go_enter Tryz.func111,Tryz.ntmps111
 go_upto_region 1 with(go_at_call 96;refine HDC.out.mono ?_;rintro e w1 ⟨tv,rfl,hO1,hrow1,hl1,hts1⟩;obtain⟨ta,tc,rfl⟩:=row_form hrow1;have HO1:=Lib.hid hO1;have Hrow1:=Lib.hid hrow1;have Hl1:=Lib.hid hl1;have Hts:=Lib.hid hts1;clear hO1 hrow1 hl1 hts1 HDC)
 --CUT
 rw [<-Htn.out]
 obtain⟨w2,hw2⟩:∃ w2,w2=w1.alloc (.cells #[.slice ta tn tc,.int .i64 last,.int .u64 0] 175):=⟨_,rfl⟩
 rw [<-hw2]
 obtain⟨bY,hbY⟩:∃ bY,bY=w1.heap.size:=⟨_,rfl⟩
 rw [<-hbY]
 have hY:w2.heap[bY]?=some (.cells #[.slice ta tn tc,.int .i64 last,.int .u64 ((0:Nat):Int)] 175 (0,0)):=by rw [hw2,hbY];exact heap_alloc_new _ _
 have hb12:Below w1.heap.size w1 w2:=by rw [hw2];exact Gr.new _ _
 have hrow2:=row_below Hrow1.out hb12
 have hl2:ts.length<=m:=Hl1.out
 have hts2:∀ x,x∈ts->1<=x.1/\x.1<=100000:=Hts.out
 have hW0:WyAt False w2 0 bY (.slice ta tn tc) ts last 0:=⟨λz=>z.elim,λz=>z.elim,hY,by rw [Htn.out];exact hrow2⟩
 have hO0:RAtO B w2 t1 r1 (WyX False 0 bY (.slice ta tn tc)):=by
  have hO:=HO1.out
  rw [<-Htn.out] at hO
  refine RAtO.turn hO (Chg.of_below hb12) (λq hq=>?_)
  have hsz:w2.heap.size=w1.heap.size+1:=by rw [hw2];simp
  rcases hq with⟨e,_⟩|e|e
  ·exact e.elim
  ·exact .inr (by omega)
  ·exact .inl e
 have y0:w2.cell? ⟨bY,0,none⟩=some (.slice ta tn tc):=by rw [cell_blk hY];rfl
 have htm:tn<=12:=by have:=Htn.out;omega
 have wtn:IntKind.i64.wrap ((tn:Int) - 1)=(tn:Int) - 1:=by rw [IntKind.wrap_i64];omega
 have HW0:=Lib.hid hW0;have HO0:=Lib.hid hO0;have Hts:=Lib.hid hts2
 clear hw2 hbY hY hb12 hrow2 hl2 hts2 hW0 hO0 HO1 Hrow1 Hl1
 go_wp2
 go_loopw [9] (λi wr=>∃(n:Nat) (tt:TapeP) (rr:RWD),i=.int .i64 ((n:Int) - 1)/\n<=tn/\U=upRun b ts n tt rr/\RAtO B wr tt rr (WyX False 0 bY (.slice ta tn tc))/\WyAt False wr 0 bY (.slice ta tn tc) ts last 0) (λi _=>(intOf i+1).toNat)
 case atStart=>exact⟨tn,t1,r1,rfl,Nat.le_refl _,HU.out,HO0.out,HW0.out⟩
 case round=>
  obtain⟨n,tt,rr,rfl,hn,hz,hO,hW⟩:=hrel
  have hA:=hO.at
  have x7:=hA.cHalt
  have y0:wr.cell? ⟨bY,0,none⟩=some (.slice ta tn tc):=by rw [cell_blk hW.blk];rfl
  by_cases hx:n=0∨tt.halt=true
  ·have hz0:U=(tt,rr):=by
    rcases hx with e|e
    ·rw [hz,e];rfl
    ·rw [hz];exact upRun_halt _ _ _ _ _ e
   cases hh:tt.halt with
   | true=>
    rw [hh] at x7
    have Fin:=Lib.hid (show RAt B wr E.1 E.2 from by rw [HEU.out,hz0];unfold wrEnd;rw [if_pos hh];exact hA)
    clear hz hz0 hO hW hA hh hx
    by_cases h0:(0:Int)<=(n:Int) - 1
    ·go_wp2
     (go_end0)
     exact⟨rfl,Fin.out⟩
    ·go_wp2
     (go_end0)
     exact⟨rfl,Fin.out⟩
   | false=>
    obtain rfl:n=0:=by rcases hx with e|e;exact e;rw [hh] at e;cases e
    rw [hh] at x7
    have hRe:E=({ tt with key:=mxKeyW (rSet rr b) ts last },rr):=by
     rw [HEU.out,hz0]
     unfold wrEnd
     rw [if_neg (by rw [hh];exact Bool.false_ne_true)]
    have y1:wr.cell? ⟨bY,1,none⟩=some (.int .i64 last):=by rw [cell_blk hW.blk];rfl
    have y2:wr.cell? ⟨bY,2,none⟩=some (.int .u64 0):=by rw [cell_blk hW.blk];rfl
    obtain⟨z12,x12⟩:∃ z,wr.cell? ⟨B.I.tb,B.I.pre.length+12,none⟩=some z:=by obtain⟨_,_,_,_,KV,h9⟩:=hA.get (i:=12) (by omega);exact⟨_,h9⟩
    have xf:=hA.frozen (B.I.pre.length+12)
    have ltb3:=hA.lt
    have hrow:=hW.row
    rw [<-Htn.out] at hrow
    have hsl:=(row_sl hrow (by unfold maxLen;omega) (g:=intG (tnI ts)) (λq hq=>by
     have hq':q<(tnI ts).length:=by rw [tnI,List.length_map,<-Htn.out];exact hq
     simp only [intG,List.getElem?_map,List.getD_eq_getElem?_getD,List.getElem?_eq_getElem hq'];rfl)).1
    have KC:=key_w hA b hb9 ts Hts.out (by have:=Htn.out;omega) last 0 ta tc (by rw [<-Htn.out];exact hsl)
    rw [<-Htn.out] at KC
    obtain⟨ky,hky⟩:∃ ky,ky=mxKeyW (rSet rr b) ts last:=⟨_,rfl⟩
    have hkl:=mxKeyW_len (rSet rr b) last ts
    rw [<-hky] at KC hkl hRe
    have HKC:=Lib.hid KC;have HA3:=Lib.hid hA;have HRe:=Lib.hid hRe
    obtain⟨kn,hkn⟩:∃ kn,kn=ky.length:=⟨_,rfl⟩
    rw [<-hkn] at HKC
    have NEW:=Lib.hid (λ(g c:Nat) (w4:World) (hs:SlAt w4 (some ⟨g,0,none⟩) kn 1 (intG ky)) (hg:wr.heap.size<=g) (hb:Below wr.heap.size wr w4)=>(by
     have h9:=(HA3.out.newL hb (a:=some ⟨g,0,none⟩) (c:=c) (l:=ky) (by rw [<-hkn];exact hs) (λe=>by rw [e] at hkl;exact absurd hkl.1 (by decide)) (λb' off e=>by cases e;exact hg)).putKey
     rw [<-hkn] at h9;exact h9:RAt B (w4.setCell ⟨B.I.tb,B.I.pre.length+12,none⟩ (.slice (some ⟨g,0,none⟩) kn c)) { tt with key:=ky } rr))
    clear hW hO hA hrow hsl KC hky hkn hkl Hts HA3 hRe hz hz0 hx hh
    rw [show(((0:Nat):Int) - 1)=-1 from rfl]
    go_wp2_with (go_at_call 98;refine HKC.out.mono ?_;rintro e w4 ⟨g,c,rfl,hs4,hg4,hb4⟩;have x4:=(hb4.cell (p:=⟨B.I.tb,B.I.pre.length+12,none⟩) ltb3).trans x12;have xf4:=(hb4.frozen (p:=⟨B.I.tb,B.I.pre.length+12,none⟩) ltb3).trans xf;have N4:=Lib.hid (NEW.out g c w4 hs4 hg4 hb4);clear hs4 hg4 hb4 NEW)
    (go_end0)
    exact⟨rfl,by rw [HRe.out];exact N4.out⟩
  ·cases n with
   | zero=>exact absurd (.inl rfl) hx
   | succ n=>
    have hh:tt.halt=false:=by cases e:tt.halt with
     | true=>exact absurd (.inr e) hx
     | false=>rfl
    rw [hh] at x7
    unfold upRun at hz
    rw [if_neg (by rw [hh];exact Bool.false_ne_true)] at hz
    have ej:(((n+1:Nat):Int) - 1)=(n:Int):=by omega
    rw [ej]
    have i1:(0:Int)<=(n:Int):=by omega
    have i2:¬ (n:Int)<0:=by omega
    have i3:(n:Int)<(tn:Int):=by omega
    have wn:IntKind.i64.wrap ((n:Int) - 1)=(n:Int) - 1:=by rw [IntKind.wrap_i64];omega
    obtain⟨q,o,rfl,c0⟩:=wy_get hW Htn.out (by omega) n (by omega)
    have tk:=Hts.out (ts.getD n (0,false)) (by
     have hn':n<ts.length:=by have:=Htn.out;omega
     rw [List.getD_eq_getElem?_getD,List.getElem?_eq_getElem hn'];exact List.getElem_mem _)
    obtain⟨kr,hkr⟩:∃ kr,kr=ts.getD n (0,false):=⟨_,rfl⟩
    rw [<-hkr] at c0 tk hz
    clear hkr hx
    obtain⟨k,rt⟩:=kr
    simp only at c0 tk hz
    obtain⟨tk1,tk2⟩:=tk
    cases rt with
    | false=>
     rw [if_neg Bool.false_ne_true] at hz c0
     have k1:(0:Int)<(k:Int):=by omega
     have Un:=Lib.hid (show ∃(n2:Nat) (t2:TapeP) (r2:RWD),Value.int .i64 ((n:Int) - 1)=.int .i64 ((n2:Int) - 1)/\n2<=tn/\U=upRun b ts n2 t2 r2/\RAtO B wr t2 r2 (WyX False 0 bY (.slice (some ⟨q,o,none⟩) tn tc))/\WyAt False wr 0 bY (.slice (some ⟨q,o,none⟩) tn tc) ts last 0 from⟨n,tt,rr,rfl,by omega,hz,hO,hW⟩)
     clear hz hO hW hA hh hn tk1 tk2
     go_wp2
     go_roundw
     case rel=>exact Un.out
     case measure=>simp [intOf]<;>omega
    | true=>
     rw [if_pos rfl] at hz c0
     have k1:¬ (0:Int) < -(k:Int):=by omega
     have wa0:IntKind.i64.wrap ((b:Int) - -(k:Int))=(b:Int)+(k:Int):=by rw [IntKind.wrap_i64];omega
     have wa1:IntKind.i64.wrap ((b:Int)+(k:Int))=(b:Int)+(k:Int):=by rw [IntKind.wrap_i64];omega
     have wa2:IntKind.i64.wrap ((b:Int)+(k:Int) - 1)=(b:Int)+(k:Int) - 1:=by rw [IntKind.wrap_i64];omega
     have ea:((b+k - 1:Nat):Int)=(b:Int)+(k:Int) - 1:=by omega
     have ha9:b+k - 1<=1000000:=by omega
     obtain⟨a,haa⟩:∃ a,a=b+k - 1:=⟨_,rfl⟩
     rw [<-haa] at hz ea ha9
     have RC:=hO.call (R:=λe _=>e=.returned (.tuple #[])) (F:=103) (args:=#[.pointer (some ⟨B.I.tb,B.I.pre.length,none⟩),.int .i64 (a:Int),.int .u64 1]) (t':=(accP 1 (a:Int) 1 0 tt rr).2.1) (r':=(accP 1 (a:Int) 1 0 tt rr).2.2) (λB' e1 e2 hB'=>by
      have h9:=twrite_r hB' (a:Int) 1 (by decide)
      rw [e1,e2] at h9;exact h9)
     unfold upAcc at hz
     obtain⟨g,tt1,rr1,hg⟩:∃ g tt1 rr1,(g,tt1,rr1)=accP 1 (a:Int) 1 0 tt rr:=⟨_,_,_,rfl⟩
     rw [<-hg] at hz RC
     simp only at hz RC
     obtain⟨la,hla⟩:∃ la,la=lastP tt1:=⟨_,rfl⟩
     rw [<-hla] at hz
     obtain⟨tl,htl⟩:∃ tl,tl=traceP (a:Int) rr1:=⟨_,rfl⟩
     rw [<-htl] at hz
     have HLA:=Lib.hid (λ(u:World) (hu:RAt B u tt1 rr1)=>(by have h9:=last_r hu;rw [<-hla] at h9;exact h9:Calls Tryz.prog 107 #[.pointer (some ⟨B.I.tb,B.I.pre.length,none⟩)] u λe w'=>e=.returned (.int .i64 la)/\Below u.heap.size u w'))
     have HTR:=Lib.hid (λ(u:World) (hu:RAt B u tt1 rr1)=>(by have h9:=trace_every hu a ha9;rw [<-htl] at h9;exact h9:Calls Tryz.prog 109 #[.pointer (some ⟨B.I.tb,B.I.pre.length,none⟩),.int .i64 (a:Int)] u λe w'=>∃ xa xc,e=.returned (.slice xa tl.length xc)/\u=w'/\SlAt u xa tl.length 1 (intG tl)))
     have HNT:=Lib.hid (λ(u u':World) (hO:RAtO B u tt1 rr1 (WyX False 0 bY (.slice (some ⟨q,o,none⟩) tn tc))) (hb:Below u.heap.size u u')=>(by
      refine RAtO.callL (w:=u'.alloc (.cells #[.int .i64 la] 3)) (a:=some ⟨u'.heap.size,0,none⟩) (c:=1) (l:=[la]) (t':=tt1) (r':=noteP (a:Int) [la] tt1 rr1) (R:=λe _=>e=.returned (.tuple #[])) hO (hb.alloc hb.size _) ⟨by unfold maxLen;simp,λj hj=>⟨u'.heap.size,0,rfl,by simp,λf hf=>?_⟩⟩ (λe=>by cases e) (λb' off e=>by cases e;exact hb.size) (λB' e1 e2 hB'=>?_)
      ·obtain rfl:f=0:=by omega
       obtain rfl:j=0:=by simp at hj;omega
       rw [cell_new];rfl
      ·have h9:=note_every hB' a ha9
       rw [e1,e2] at h9;exact h9:Calls Tryz.prog 108 #[.pointer (some ⟨B.I.tb,B.I.pre.length,none⟩),.int .i64 (a:Int),.slice (some ⟨u'.heap.size,0,none⟩) 1 1] (u'.alloc (.cells #[.int .i64 la] 3)) λe w'=>e=.returned (.tuple #[])/\RAtO B w' tt1 (noteP (a:Int) [la] tt1 rr1) (WyX False 0 bY (.slice (some ⟨q,o,none⟩) tn tc))/\(u'.alloc (.cells #[.int .i64 la] 3)).heap.size<=w'.heap.size/\∀ b,WyX False 0 bY (.slice (some ⟨q,o,none⟩) tn tc) b->w'.heap[b]?=(u'.alloc (.cells #[.int .i64 la] 3)).heap[b]?))
     rw [ea] at RC HTR HNT
     have HRC:=Lib.hid RC;have HW:=Lib.hid hW;have Hz:=Lib.hid hz;have HEA:=Lib.hid ea
     clear hz RC hO hA hh hg hla htl hW tk1 tk2 ea haa
     go_upto_region 7 with(go_at_call 103;refine HRC.out.mono ?_;rintro e w1 ⟨rfl,hO1,hsz,hkp⟩;have hW1:=HW.out.keep hsz hkp;have HO1:=Lib.hid hO1;have HW1:=Lib.hid hW1;clear hsz hkp hO1 hW1 HRC HW)
     have TR:=Lib.hid (HTR.out w1 HO1.out.at)
     have LA:=Lib.hid (HLA.out w1 HO1.out.at)
     clear HTR HLA
     cases tl with
     | nil=>
      have Hz2:=Lib.hid (show U=upRun b ts n tt1 (noteP ((b:Int)+(k:Int) - 1) [la] tt1 rr1) from by have h9:=Hz.out;rw [<-HEA.out];exact h9)
      clear Hz
      go_wp2_with (first|(go_at_call 109;refine TR.out.mono ?_;rintro e w2 ⟨xa,xc,rfl,rfl,hsl⟩;clear hsl)|(go_at_call 107;refine LA.out.mono ?_;rintro e w2 ⟨rfl,hb2⟩;have N2:=Lib.hid (HNT.out w1 w2 HO1.out hb2);have HW2:=Lib.hid ((HW1.out.grown hb2).grown (Gr.new w2 (.cells #[.int .i64 la] 3)));clear hb2 HNT)|(go_at_call 108;refine N2.out.mono ?_;rintro e w5 ⟨rfl,hO5,hsz5,hkp5⟩;have hW5:=HW2.out.keep hsz5 hkp5;have HO5:=Lib.hid hO5;have HW5:=Lib.hid hW5;clear hO5 hW5 hsz5 hkp5))
      go_roundw
      case rel=>exact⟨n,tt1,_,rfl,by omega,Hz2.out,HO5.out,HW5.out⟩
      case measure=>simp [intOf]<;>omega
     | cons x tl=>
      have hz:=Hz.out
      rw [if_neg (by simp)] at hz
      have Hz:=Lib.hid hz
      obtain⟨tln,htln⟩:∃ tln,tln=(x::tl).length:=⟨_,rfl⟩
      rw [<-htln] at TR
      have l0:((tln:Int) == 0)=false:=by simp [htln];omega
      have l1:¬ (tln:Int)=0:=by rw [htln,List.length_cons];omega
      clear hz htln
      go_wp2_with (go_at_call 109;refine TR.out.mono ?_;rintro e w2 ⟨xa,xc,rfl,rfl,hsl⟩;clear hsl)
      go_roundw
      case rel=>exact⟨n,tt1,rr1,rfl,by omega,Hz.out,HO1.out,HW1.out⟩
      case measure=>simp [intOf]<;>omega
end
section

/- The reference's Do at each kind of object. -/
open Go.RowKit
theorem do_boxes (w:World) (kd sP sQ th kn:Int) (xa xb xc:Nat):∃ wb,wb=(w.alloc (.cells #[.int .i64 kd,.int .i64 sP,.int .i64 sQ] 39)).alloc (.cells #[.int .i64 th,.int .i64 0,.int .i64 kn,.int .u64 (xa:Int),.int .u64 (xb:Int),.int .u64 (xc:Int)] 48)/\Below w.heap.size w wb/\
  wb.heap[w.heap.size]?=some (.cells #[.int .i64 kd,.int .i64 sP,.int .i64 sQ] 39 (0,0))/\wb.heap[w.heap.size+1]?=some (.cells #[.int .i64 th,.int .i64 0,.int .i64 kn,.int .u64 (xa:Int),.int .u64 (xb:Int),.int .u64 (xc:Int)] 48 (0,0)):=by
 refine⟨_,rfl,Gr.alloc (Gr.new _ _) _,?_,?_⟩
 ·rw [Below.heap_alloc _ _ _ (by simp)];exact heap_alloc_new _ _
 ·have:=heap_alloc_new (w.alloc (.cells #[.int .i64 kd,.int .i64 sP,.int .i64 sQ] 39)) (.cells #[.int .i64 th,.int .i64 0,.int .i64 kn,.int .u64 (xa:Int),.int .u64 (xb:Int),.int .u64 (xc:Int)] 48 (0,0))
  simp only [World.size_alloc] at this
  exact this
set_option maxHeartbeats 4000000 in
theorem do_max {B:RBase} {w:World} {t:TapeP} {r:RWD} (P:World->Prop) (n:Nat) (sP sQ th kn:Int) (xa xb xc:Nat) (h:RAt B w t r) (FC:∀ u,RAt B u t r->Calls Tryz.prog 82 #[.pointer (some ⟨B.I.tb,B.I.pre.length,none⟩),.int .i64 0,.agg #[.int .i64 4,.int .i64 sP,.int .i64 sQ],.agg #[.int .i64 th,.int .i64 0,.int .i64 kn,.int .u64 (xa:Int),.int .u64 (xb:Int),.int .u64 (xc:Int)]] u λe u'=>e=.returned (.tuple #[])/\P u') :
  Calls Tryz.prog 70 #[.pointer (some ⟨B.I.tb,B.I.pre.length,none⟩),.int .i64 (n:Int),.int .i64 0,.agg #[.int .i64 4,.int .i64 sP,.int .i64 sQ],.agg #[.int .i64 th,.int .i64 0,.int .i64 kn,.int .u64 (xa:Int),.int .u64 (xb:Int),.int .u64 (xc:Int)]] w λe u'=>e=.returned (.tuple #[])/\P u':=by
 obtain⟨wb,hwb,hg,hS,hC⟩:=do_boxes w 4 sP sQ th kn xa xb xc
 have HC:=Lib.hid (FC wb (h.grown hg));have Hwb:=Lib.hid hwb
 clear FC h hg hwb
 have s0:wb.cell? ⟨w.heap.size,0,none⟩=some (.int .i64 4):=by rw [cell_blk hS];rfl
 have s1:wb.cell? ⟨w.heap.size,1,none⟩=some (.int .i64 sP):=by rw [cell_blk hS];rfl
 have s2:wb.cell? ⟨w.heap.size,2,none⟩=some (.int .i64 sQ):=by rw [cell_blk hS];rfl
 have y0:wb.cell? ⟨w.heap.size+1,0,none⟩=some (.int .i64 th):=by rw [cell_blk hC];rfl
 have y1:wb.cell? ⟨w.heap.size+1,1,none⟩=some (.int .i64 0):=by rw [cell_blk hC];rfl
 have y2:wb.cell? ⟨w.heap.size+1,2,none⟩=some (.int .i64 kn):=by rw [cell_blk hC];rfl
 have y3:wb.cell? ⟨w.heap.size+1,3,none⟩=some (.int .u64 (xa:Int)):=by rw [cell_blk hC];rfl
 have y4:wb.cell? ⟨w.heap.size+1,4,none⟩=some (.int .u64 (xb:Int)):=by rw [cell_blk hC];rfl
 have y5:wb.cell? ⟨w.heap.size+1,5,none⟩=some (.int .u64 (xc:Int)):=by rw [cell_blk hC];rfl
 clear hS hC
 go_enter Tryz.func70,Tryz.ntmps70
 go_upto_region 1 with fail
 rw [<-Hwb.out]
 go_wp2_with (go_at_call 82;refine HC.out.mono ?_;rintro e w2 ⟨rfl,h2⟩)
 (go_end0)
 exact⟨rfl,h2⟩
end
section

/- The key of an operation that has not responded: its mark: roundelayplain.Late, but for a max register. -/
open Go.RowKit
end
section

/- A max register in the reference's play: what its function does. -/
open Go.RowKit
variable {B : RBase} {w w' : World} {t : TapeP} {r : RWD}
set_option maxHeartbeats 4000000 in
theorem rmax_fn (m : Nat) (hm : m ≤ 12) (sQ : Int) (c : CallD) (hc : CallOk c) (h : RAt B w t r) :
    Calls Tryz.prog 82 #[.pointer (some ⟨B.I.tb, B.I.pre.length, none⟩), .int .i64 0, .agg #[.int .i64 4, .int .i64 (m : Int), .int .i64 sQ], .agg #[.int .i64 c.thread, .int .i64 0, .int .i64 c.kind, .int .u64 (c.a : Int), .int .u64 (c.b : Int), .int .u64 (c.c : Int)]] w fun e u => e = .returned (.tuple #[]) ∧ RAt B u (rmaxDo m c t r).1 (rmaxDo m c t r).2 := by
  obtain ⟨wb, hwb, hg, hS, hC⟩ := do_boxes w 4 (m : Int) sQ c.thread c.kind c.a c.b c.c
  have hA := h.grown hg
  have s1 : wb.cell? ⟨w.heap.size, 1, none⟩ = some (.int .i64 (m : Int)) := by rw [cell_blk hS]; rfl
  have y2 : wb.cell? ⟨w.heap.size + 1, 2, none⟩ = some (.int .i64 c.kind) := by rw [cell_blk hC]; rfl
  have y3 : wb.cell? ⟨w.heap.size + 1, 3, none⟩ = some (.int .u64 (c.a : Int)) := by rw [cell_blk hC]; rfl
  obtain ⟨E, hE⟩ : ∃ E, E = rmaxDo m c t r := ⟨_, rfl⟩
  rw [← hE]
  have hb3 := hc
  obtain ⟨th, ob, kd, xa, xb, xc⟩ := c
  simp only at *
  have Hwb := Lib.hid hwb
  have f9 := hA.frozen (B.I.pre.length + 9)
  have e9 := hA.cErr
  have f10 := hA.frozen (B.I.pre.length + 10)
  by_cases h1 : kd = 1
  · have hE1 : E = ({ (mxReadP 0 m t r).2.1 with val := (mxReadP 0 m t r).1 }, (mxReadP 0 m t r).2.2) := by rw [hE]; unfold rmaxDo; rw [if_pos h1]
    have RC := read_w hA 0 (by omega) m hm
    obtain ⟨Z, hZ⟩ : ∃ Z, Z = mxReadP 0 m t r := ⟨_, rfl⟩
    rw [← hZ] at RC hE1
    obtain ⟨v, t1, r1⟩ := Z
    simp only at RC hE1
    have HR := Lib.hid (show Calls Tryz.prog 110 #[.pointer (some ⟨B.I.tb, B.I.pre.length, none⟩), .int .i64 0, .int .i64 (m : Int)] wb fun e w' => e = .returned (.int .u64 (v : Int)) ∧ RAt B w' t1 r1 from RC)
    have HE := Lib.hid hE1
    subst h1
    clear hwb hg hS hC h hA hE hE1 RC hZ hc hb3 e9 f9 f10
    go_enter Tryz.func82, Tryz.ntmps82
    go_upto_region 1 with fail
    rw [← Hwb.out]
    go_wp2_with (go_at_call 110; refine HR.out.mono ?_; rintro e w1 ⟨rfl, hA1⟩; have HA1 := Lib.hid hA1; have x10 := hA1.cVal; have f10 := hA1.frozen (B.I.pre.length + 10); clear hA1)
    ((refine bodyPost_ret (results_none rfl _ _ _) rfl ?_))
    exact ⟨rfl, by rw [HE.out]; exact HA1.out.putVal v⟩
  · by_cases h0 : kd = 0
    · by_cases hz : xa / 2 ^ m = 0
      · have hE1 : E = mxWriteP 0 m xa t r := by rw [hE]; unfold rmaxDo; rw [if_neg h1, if_neg (fun x => x h0), if_neg (fun x => x hz)]
        have WC := write_w hA 0 (by omega) m hm xa (hc.a)
        rw [← hE1] at WC
        have HW := Lib.hid (show Calls Tryz.prog 111 #[.pointer (some ⟨B.I.tb, B.I.pre.length, none⟩), .int .i64 0, .int .i64 (m : Int), .int .u64 (xa : Int)] wb fun e w' => e = .returned (.tuple #[]) ∧ RAt B w' E.1 E.2 from WC)
        have z1 : (xa : Int) / 2 ^ m = 0 := by have : (xa : Int) / 2 ^ m = ((xa / 2 ^ m : Nat) : Int) := by simp
                                               rw [this, hz]; rfl
        subst h0
        clear hwb hg hS hC h hA hE hE1 WC hc hb3 e9 f9 f10 h1 hz
        go_enter Tryz.func82, Tryz.ntmps82
        go_upto_region 1 with fail
        rw [← Hwb.out]
        go_wp2_with (go_at_call 111; refine HW.out.mono ?_; rintro e w1 ⟨rfl, hA1⟩; have HA1 := Lib.hid hA1; clear hA1)
        (go_end0)
        exact ⟨rfl, HA1.out⟩
      · have hE1 : E = ({ t with err := 10 }, r) := by rw [hE]; unfold rmaxDo; rw [if_neg h1, if_neg (fun x => x h0), if_pos hz]
        have Fin := Lib.hid (hA.putErr 10)
        have HE := Lib.hid hE1
        have z1 : ¬ (xa : Int) / 2 ^ m = 0 := by have : (xa : Int) / 2 ^ m = ((xa / 2 ^ m : Nat) : Int) := by simp
                                                 rw [this]; omega
        subst h0
        clear hwb hg hS hC h hA hE hE1 hc hb3 f10 h1 hz
        go_enter Tryz.func82, Tryz.ntmps82
        go_upto_region 1 with fail
        rw [← Hwb.out]
        go_wp2
        ((refine bodyPost_ret (results_none rfl _ _ _) rfl ?_))
        exact ⟨rfl, by rw [HE.out]; exact Fin.out⟩
    · have hE1 : E = ({ t with err := 9 }, r) := by rw [hE]; unfold rmaxDo; rw [if_neg h1, if_pos h0]
      have Fin := Lib.hid (hA.putErr 9)
      have HE := Lib.hid hE1
      have l1 : (kd == 1) = false := by simp [h1]
      have l0 : (kd == 0) = false := by simp [h0]
      clear hwb hg hS hC h hA hE hE1 hc hb3 f10
      go_enter Tryz.func82, Tryz.ntmps82
      go_upto_region 1 with fail
      rw [← Hwb.out]
      go_wp2
      ((refine bodyPost_ret (results_none rfl _ _ _) rfl ?_))
      exact ⟨rfl, by rw [HE.out]; exact Fin.out⟩
def rmaxLate (m : Nat) (c : CallD) (p : Nat) (h : RHand) (r : RWD) : List Int := if c.kind ≠ 0 then [] else lateEnd 0 (dnRun 0 c.a m 1 [] (h.inv : Int) { h.tape p with fresh := false } r)
theorem accP_out (kd a : Int) (x y : Nat) (t : TapeP) (r : RWD) (o : OutP) : accP kd a x y (t.out o) r = ((accP kd a x y t r).1, (accP kd a x y t r).2.1.out o, (accP kd a x y t r).2.2) := by
  unfold accP
  by_cases h1 : t.halt = true
  · rw [if_pos h1, if_pos (show (t.out o).halt = true from h1)]
  · rw [if_neg h1, if_neg (show ¬ (t.out o).halt = true from h1)]
    by_cases h2 : t.at_ < t.got.length
    · rw [if_pos h2, if_pos (show (t.out o).at_ < (t.out o).got.length from h2)]; rfl
    · rw [if_neg h2, if_neg (show ¬ (t.out o).at_ < (t.out o).got.length from h2)]
      by_cases h3 : t.fresh = true
      · rw [if_pos h3, if_pos (show (t.out o).fresh = true from h3)]; rfl
      · rw [if_neg h3, if_neg (show ¬ (t.out o).fresh = true from h3)]; rfl
theorem dnRun_out (b v : Nat) (o : OutP) : ∀ (n k : Nat) (ts : List (Nat × Bool)) (last : Int) (t : TapeP) (r : RWD), dnRun b v n k ts last (t.out o) r = ((dnRun b v n k ts last t r).1, (dnRun b v n k ts last t r).2.1.out o, (dnRun b v n k ts last t r).2.2)
  | 0, _, _, _, _, _ => rfl
  | n + 1, k, ts, last, t, r => by
    unfold dnRun
    by_cases h1 : t.halt = true
    · rw [if_pos h1, if_pos (show (t.out o).halt = true from h1)]
    · rw [if_neg h1, if_neg (show ¬ (t.out o).halt = true from h1)]
      by_cases h2 : v / 2 ^ n % 2 = 1
      · rw [if_pos h2, if_pos h2]; exact dnRun_out b v o n _ _ _ _ _
      · rw [if_neg h2, if_neg h2, accP_out]
        by_cases h3 : (accP 0 ((b + k - 1 : Nat) : Int) 0 0 t r).1 = 1
        · rw [if_pos h3, if_pos h3]; rfl
        · rw [if_neg h3, if_neg h3]; exact dnRun_out b v o n _ _ _ _ _
structure OldTo (t t' : TapeP) : Prop where
  got : t'.got = t.got
  ticks : t'.ticks = t.ticks
  thread : t'.thread = t.thread
  inv : t'.inv = t.inv
  fresh : t'.fresh = false
theorem accP_oldto (kd a : Int) (x y : Nat) {t : TapeP} (r : RWD) (hf : t.fresh = false) : OldTo t (accP kd a x y t r).2.1 ∧ (accP kd a x y t r).2.2 = r := by
  unfold accP
  split
  · exact ⟨⟨rfl, rfl, rfl, rfl, hf⟩, rfl⟩
  · split
    · exact ⟨⟨rfl, rfl, rfl, rfl, hf⟩, rfl⟩
    · rw [if_neg (by rw [hf]; exact Bool.false_ne_true)]
      exact ⟨⟨rfl, rfl, rfl, rfl, hf⟩, rfl⟩
theorem dnRun_oldto (b v : Nat) : ∀ (n k : Nat) (ts : List (Nat × Bool)) (last : Int) {t : TapeP} (r : RWD), t.fresh = false → OldTo t (dnRun b v n k ts last t r).2.1 ∧ (dnRun b v n k ts last t r).2.2 = r
  | 0, _, _, _, _, _, hf => ⟨⟨rfl, rfl, rfl, rfl, hf⟩, rfl⟩
  | n + 1, k, ts, last, t, r, hf => by
    unfold dnRun
    split
    · exact ⟨⟨rfl, rfl, rfl, rfl, hf⟩, rfl⟩
    · split
      · exact dnRun_oldto b v n _ _ _ r hf
      · obtain ⟨h1, h2⟩ := accP_oldto 0 ((b + k - 1 : Nat) : Int) 0 0 r hf
        split
        · exact ⟨h1, h2⟩
        · rw [h2]
          obtain ⟨h3, h4⟩ := dnRun_oldto b v n (2 * k) (ts ++ [(k, false)]) (lastP (accP 0 ((b + k - 1 : Nat) : Int) 0 0 t r).2.1) r h1.fresh
          exact ⟨⟨h3.got.trans h1.got, h3.ticks.trans h1.ticks, h3.thread.trans h1.thread, h3.inv.trans h1.inv, h3.fresh⟩, h4⟩
theorem any_at {α : Type} (f : α → Bool) (l : List α) (x : α) (j : Nat) (hj : j < l.length) (h : f (l.getD j x) = true) : l.any f = true := by
  rw [List.any_eq_true]
  refine ⟨l.getD j x, ?_, h⟩
  rw [List.getD_eq_getElem?_getD, List.getElem?_eq_getElem hj]; exact List.getElem_mem _
theorem any_none {α : Type} (f : α → Bool) (l : List α) (x : α) (h : ∀ j, j < l.length → f (l.getD j x) = false) : l.any f = false := by
  rw [List.any_eq_false]
  intro y hy
  obtain ⟨j, hj, rfl⟩ := List.getElem_of_mem hy
  have := h j hj
  rw [List.getD_eq_getElem?_getD, List.getElem?_eq_getElem hj] at this
  have e : f l[j] = false := this
  rw [e]; exact Bool.false_ne_true
theorem RAt.nilL (h : RAt B w t r) : RAtL B w t r (.slice none 0 0) [] := h.newL (Below.refl _ _) (a := none) (c := 0) (l := []) ⟨Nat.zero_le _, fun j hj => absurd hj (Nat.not_lt_zero j)⟩ (fun _ => ⟨rfl, rfl⟩) (fun b off e => by cases e)
end
section

/- A max register in the reference's play: its machines stand to its operations' tapes. -/
open Go.RowKit
theorem Pg.res_acc:∀(gs:List Nat) (P:Pg) (g:Nat) {kd a:Int} {x y:Nat} {eff:RWD->RWD} {k:Nat->Pg},P.res gs=.acc kd a x y eff k->P.res (gs++[g])=k g
 | [],P,g,kd,a,x,y,eff,k,h=>by
  rw [Pg.res_nil] at h
  subst h
  exact Pg.res_nil _
 | g0::gs,P,g,kd,a,x,y,eff,k,h=>by
  cases P with
  | ret f=>cases h
  | acc kd' a' x' y' eff' k'=>exact Pg.res_acc gs (k' g0) g h
theorem Pg.res_ret:∀(gs:List Nat) (P:Pg) (g:Nat) {f:TapeP->RWD->OutP},P.res gs=.ret f->P.res (gs++[g])=.ret f
 | [],P,g,f,h=>by
  rw [Pg.res_nil] at h
  subst h
  rfl
 | g0::gs,P,g,f,h=>by
  cases P with
  | ret f'=>exact h
  | acc kd' a' x' y' eff' k'=>exact Pg.res_ret gs (k' g0) g h
def Pg.idle:Pg->Prop
 | .ret _=>True
 | .acc _ _ _ _ eff k=>eff=id/\∀ g,(k g).idle
theorem Pg.run_old:∀(gs:List Nat) (P:Pg) (t:TapeP) (r:RWD),t.halt=false->t.fresh=false->t.at_<=t.got.length->t.got.drop t.at_=gs->P.idle->P.still->
  (∀ f,P.res gs=.ret f->∃ n,P.run t r=(({ t with at_:=n }:TapeP).out (f { t with at_:=n } r),r))/\(∀ kd a x y eff k,P.res gs=.acc kd a x y eff k->∃ n,P.run t r=({ t with at_:=n,halt:=true },r))
 | [],P,t,r,hh,hf,hle,hd,hi,hs=>by
  have e:t.at_=t.got.length:=by
   have:=congrArg List.length hd
   rw [List.length_drop] at this
   simp at this
   omega
  rw [Pg.res_nil]
  refine⟨λf h=>⟨t.at_,?_⟩,λkd a x y eff k h=>⟨t.at_,?_⟩⟩
  ·subst h;rfl
  ·subst h
   show(k (accP kd a x y t r).1).run (accP kd a x y t r).2.1 (effP eff (accP kd a x y t r).2.1 (accP kd a x y t r).2.2)=_
   rw [accP_end hh (by rw [e];exact Nat.lt_irrefl _) hf,hi.1,effP_id]
   exact Pg.run_still _ _ _ (hs 0) rfl
 | g::gs,P,t,r,hh,hf,hle,hd,hi,hs=>by
  have hlt:t.at_<t.got.length:=by
   have:=congrArg List.length hd
   rw [List.length_drop] at this
   simp at this
   omega
  have h1:=List.drop_eq_getElem_cons hlt
  rw [hd] at h1
  have hg:t.got.getD t.at_ 0=g:=by
   rw [List.getD_eq_getElem?_getD,List.getElem?_eq_getElem hlt]
   exact(List.cons.inj h1).1.symm
  cases P with
  | ret f0=>exact⟨λf h=>⟨t.at_,by cases h;rfl⟩,λkd a x y eff k h=>by cases h⟩
  | acc kd a x y eff k=>
   have hrun:(Pg.acc kd a x y eff k).run t r=(k g).run { t with at_:=t.at_+1 } r:=by
    show(k (accP kd a x y t r).1).run (accP kd a x y t r).2.1 (effP eff (accP kd a x y t r).2.1 (accP kd a x y t r).2.2)=_
    rw [accP_old hh hlt,hi.1,effP_id,hg]
   rw [hrun]
   exact Pg.run_old gs (k g) { t with at_:=t.at_+1 } r hh hf hlt (List.cons.inj h1).2.symm (hi.2 g) (hs g)
theorem dnPg_idle (b v:Nat) {K:List (Nat×Bool)->Nat->Pg} (hK:∀ ts d,(K ts d).idle):∀(n k:Nat) (ts:List (Nat×Bool)) (j d:Nat),(dnPg b v K n k ts j d).idle
 | 0,_,ts,_,d=>hK ts d
 | n+1,k,ts,j,d=>by
  unfold dnPg
  split
  ·exact dnPg_idle b v hK n _ _ _ _
  ·refine⟨rfl,λg=>?_⟩
   show(if g=1 then K ts (j+1) else _).idle
   split
   ·exact hK _ _
   ·exact dnPg_idle b v hK n _ _ _ _
theorem dnPg_still (b v:Nat) {K:List (Nat×Bool)->Nat->Pg} (hK:∀ ts d,(K ts d).still):∀(n k:Nat) (ts:List (Nat×Bool)) (j d:Nat),(dnPg b v K n k ts j d).still
 | 0,_,ts,_,d=>hK ts d
 | n+1,k,ts,j,d=>by
  unfold dnPg
  split
  ·exact dnPg_still b v hK n _ _ _ _
  ·intro g
   show(if g=1 then K ts (j+1) else _).still
   split
   ·exact hK _ _
   ·exact dnPg_still b v hK n _ _ _ _
def ltPg (m:Nat) (c:CallD):Pg:=dnPg 0 c.a ltK m 1 [] 0 0
theorem rmaxLate_tree {m:Nat} {c:CallD} (h0:c.kind=0) {p:Nat} {h:RHand} (r:RWD) (htl:h.ticks.length=h.got.length):rmaxLate m c p h r=((ltPg m c).run { h.tape p with fresh:=false } r).1.key:=by
 unfold rmaxLate
 rw [if_neg (λx=>x h0)]
 unfold ltPg
 obtain⟨t0,ht0⟩:∃ t0:TapeP,t0={ h.tape p with fresh:=false }:=⟨_,rfl⟩
 rw [<-ht0]
 have ok0:TpOk t0:=by rw [ht0];exact⟨rfl,Nat.zero_le _,htl⟩
 have a0:t0.at_=0:=by rw [ht0];rfl
 have l0:(h.inv:Int)=lastAt 0 t0:=by rw [ht0];rfl
 have k0:t0.key=[]:=by rw [ht0];rfl
 rcases dnPg_run 0 c.a ltK ltK_still m 1 [] 0 0 (h.inv:Int) t0 r ok0 a0 (Nat.le_refl _) l0 with⟨d1,d2⟩|⟨d',d1,d2,d3,d4,d5⟩
 ·rw [d2]
  unfold lateEnd
  rw [if_pos d1]
  have hk:∀(n k:Nat) (ts:List (Nat×Bool)) (last:Int) (t:TapeP),t.key=[]->(dnRun 0 c.a n k ts last t r).2.1.key=[]:=by
   have ha:∀(a:Int) (t:TapeP) (r:RWD),(accP 0 a 0 0 t r).2.1.key=t.key:=λa t r=>by
    unfold accP
    split
    ·rfl
    ·split
     ·rfl
     ·split<;>rfl
   have:∀(n k:Nat) (ts:List (Nat×Bool)) (last:Int) (t:TapeP) (r:RWD),t.key=[]->(dnRun 0 c.a n k ts last t r).2.1.key=[]:=by
    intro n
    induction n with
    | zero=>exact λk ts last t r h=>h
    | succ n ih=>
     intro k ts last t r h
     unfold dnRun
     split
     ·exact h
     ·split
      ·exact ih _ _ _ _ _ h
      ·split
       ·exact(ha _ _ _).trans h
       ·exact ih _ _ _ _ _ ((ha _ _ _).trans h)
   exact λn k ts last t=>this n k ts last t r
  exact(hk m 1 [] (h.inv:Int) t0 k0).symm
 ·rw [d5]
  unfold lateEnd
  rw [if_neg (by rw [d1.halt];exact Bool.false_ne_true)]
  obtain⟨z,hz⟩:∃ z,z=dnRun 0 c.a m 1 [] (h.inv:Int) t0 r:=⟨_,rfl⟩
  rw [<-hz] at d1 d4 ⊢
  have e9:ltOut z.1.1 d' z.2.1 z.2.2=_:=if_neg (by rw [d1.halt];exact Bool.false_ne_true)
  show _=(ltOut z.1.1 d' z.2.1 z.2.2).key
  rw [e9,<-d4]
theorem dnPg_downN (b v:Nat) (K:List (Nat×Bool)->Nat->Pg) (j d:Nat):∀(n:Nat) (y:WayD),y.left=n->dnPg b v K n y.k y.turns j d=dnPg b v K (downN v n y).left (downN v n y).k (downN v n y).turns j d
 | 0,y,h=>by rw [show downN v 0 y=y from rfl,h]
 | n+1,y,h=>by
  by_cases hb:v / 2^n % 2=1
  ·have e:downN v (n+1) y=downN v n (y.turn true):=if_pos hb
   rw [e,<-dnPg_downN b v K j d n (y.turn true) (by show y.left - 1=n;omega)]
   show(if v / 2^n % 2=1 then dnPg b v K n (2*y.k+1) (y.turns++[(y.k,true)]) j d else _)=_
   rw [if_pos hb];rfl
  ·have e:downN v (n+1) y=y:=if_neg hb
   rw [e,h]
theorem downN_bit (v:Nat):∀(n:Nat) (y:WayD),y.left=n->∀ n',(downN v n y).left=n'+1->¬ v / 2^n' % 2=1
 | 0,y,h,n',h1=>by
  rw [show downN v 0 y=y from rfl,h] at h1
  cases h1
 | n+1,y,h,n',h1=>by
  by_cases hb:v / 2^n % 2=1
  ·have e:downN v (n+1) y=downN v n (y.turn true):=if_pos hb
   rw [e] at h1
   exact downN_bit v n (y.turn true) (by show y.left - 1=n;omega) n' h1
  ·have e:downN v (n+1) y=y:=if_neg hb
   rw [e,h] at h1
   obtain rfl:n=n':=by omega
   exact hb
theorem upPg_skip (b:Nat) (K:Pg) (ts:List (Nat×Bool)):∀ n,upPg b K ts n=upPg b K ts (mxSkip ts n)
 | 0=>rfl
 | n+1=>by
  by_cases hb:(ts.getD n (0,false)).2=true
  ·rw [show mxSkip ts (n+1)=n+1 by unfold mxSkip;rw [if_pos hb]]
  ·rw [show mxSkip ts (n+1)=mxSkip ts n by
    show(if (ts.getD n (0,false)).2=true then n+1 else mxSkip ts n)=_
    rw [if_neg hb],<-upPg_skip b K ts n]
   show(if (ts.getD n (0,false)).2=true then _ else upPg b K ts n)=_
   rw [if_neg hb]
def wrTree (x:WrD) (j d:Nat):Pg:=if x.up=true then upPg 0 (wrKK x.y.turns d) x.y.turns x.nx else dnPg 0 x.v wrPgK x.y.left x.y.k x.y.turns j d
def ltTree (x:WrD) (j d:Nat):Pg:=if x.up=true then ltK x.y.turns d else dnPg 0 x.v ltK x.y.left x.y.k x.y.turns j d
def wrLive (x:WrD):Prop:=if x.up=true then 1<=x.nx/\(x.y.turns.getD (x.nx - 1) (0,false)).2=true else ∃ n,x.y.left=n+1/\¬ x.v / 2^n % 2=1
theorem fin_tree (x:WrD) (j d:Nat):wrTree x.fin j d=wrPgK x.y.turns d/\ltTree x.fin j d=ltK x.y.turns d:=by
 refine⟨?_,rfl⟩
 show(if true=true then upPg 0 (wrKK x.y.turns d) x.y.turns (mxSkip x.y.turns x.y.turns.length) else _)=upPg 0 (wrKK x.y.turns d) x.y.turns x.y.turns.length
 rw [if_pos rfl,<-upPg_skip]
theorem down_tree {x:WrD} (hu:x.up=false) (j d:Nat):wrTree x.down j d=dnPg 0 x.v wrPgK x.y.left x.y.k x.y.turns j d/\ltTree x.down j d=dnPg 0 x.v ltK x.y.left x.y.k x.y.turns j d:=by
 have e1:=dnPg_downN 0 x.v wrPgK j d _ x.y rfl
 have e2:=dnPg_downN 0 x.v ltK j d _ x.y rfl
 rw [e1,e2]
 unfold WrD.down
 by_cases h0:(downN x.v x.y.left x.y).left=0
 ·rw [if_pos h0,h0]
  exact fin_tree { x with y:=downN x.v x.y.left x.y } j d
 ·rw [if_neg h0]
  unfold wrTree ltTree
  rw [if_neg (by show ¬ x.up=true;rw [hu];exact Bool.false_ne_true),if_neg (by show ¬ x.up=true;rw [hu];exact Bool.false_ne_true)]
  exact⟨rfl,rfl⟩
theorem fin_live (x:WrD) (h:x.fin.done=false):wrLive x.fin:=by
 have h1:1<=mxSkip x.y.turns x.y.turns.length:=by
  have h2:(true && decide (mxSkip x.y.turns x.y.turns.length=0))=false:=h
  simp at h2
  omega
 show if true=true then 1<=mxSkip x.y.turns x.y.turns.length/\(x.y.turns.getD (mxSkip x.y.turns x.y.turns.length - 1) (0,false)).2=true else _
 rw [if_pos rfl]
 exact⟨h1,mxSkip_right _ _ h1⟩
theorem down_live {x:WrD} (hu:x.up=false) (h:x.down.done=false):wrLive x.down:=by
 unfold WrD.down at h ⊢
 by_cases h0:(downN x.v x.y.left x.y).left=0
 ·rw [if_pos h0] at h ⊢
  exact fin_live _ h
 ·rw [if_neg h0] at h ⊢
  unfold wrLive
  rw [if_neg (by show ¬ x.up=true;rw [hu];exact Bool.false_ne_true)]
  obtain⟨n',hn'⟩:∃ n',(downN x.v x.y.left x.y).left=n'+1:=⟨(downN x.v x.y.left x.y).left - 1,by omega⟩
  exact⟨n',hn',downN_bit x.v _ x.y rfl n' hn'⟩
end
end Go.Proofs.YteffgpcjfnjlkaaGreat
