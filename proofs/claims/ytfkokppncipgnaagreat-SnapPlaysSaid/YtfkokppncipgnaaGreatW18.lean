/- The reference's tape: an access, whether it was told before, is made now, or halts; and what rests on it. -/
import Derived.Test.YtfkokppncipgnaaGreatW07
import Derived.Test.YtfkokppncipgnaaGreatW06
import Derived.Test.YtfkokppncipgnaaGreatW11
import Derived.Test.YtfkokppncipgnaaGreatW14
set_option maxRecDepth 100000
set_option linter.unusedVariables false
set_option linter.unusedSimpArgs false
set_option linter.unnecessarySimpa false
namespace Go.Proofs.YtfkokppncipgnaaGreat
section
open Go.RowKit
section one
variable (I:wM) (G K L:Value) (t:iZ) (m:dR) (now:Nat) (w:World)
theorem WF (kind a:Int) (x y:Nat) (h:dE w I G K L t m now) (hh:t.halt=true) :
  Calls Tryz.prog 116 #[.pointer (some ⟨I.tb,I.pre.length,none⟩),.int .i64 kind,.int .i64 a,.int .u64 (x:Int),.int .u64 (y:Int)] w λe w'=>e=.returned (.int .u64 0)/\w=w':=by
 have c7:w.cell? ⟨I.tb,I.pre.length+7,none⟩=some (.bool true):=by rw [h.cell (i:=7) (by omega),<-hh];rfl
 clear h hh
 go_enter Tryz.func116,Tryz.ntmps116
 go_wp2
 go_ret
 exact⟨rfl,rfl⟩
set_option maxHeartbeats 4000000 in
theorem XK (kind a:Int) (x y:Nat) (h:dE w I G K L t m now) (hh:t.halt=false) (hat:t.at_<t.got.length) :
  Calls Tryz.prog 116 #[.pointer (some ⟨I.tb,I.pre.length,none⟩),.int .i64 kind,.int .i64 a,.int .u64 (x:Int),.int .u64 (y:Int)] w λe w'=>e=.returned (.int .u64 ((t.got.getD t.at_ 0:Nat):Int))/\CZ w w' I G K L { t with at_:=t.at_+1 } m now:=by
 have T0:=Lib.hid h
 have hgl:=h.glen
 obtain⟨ga,gc,rfl⟩:=dX h.got
 obtain⟨hsl,_⟩:=wR h.got (by unfold maxLen;omega) (g:=fE t.got) (λj hj=>by simp [fE,bI,List.getD_eq_getElem?_getD,hj])
 obtain⟨gb,off,rfl,hgb,hcell⟩:=hsl.2 t.at_ hat
 have q0:w.cell? ⟨gb,off+t.at_,none⟩=some (.int .u64 ((t.got.getD t.at_ 0:Nat):Int)):=by have:=hcell 0 (by omega);rw [Nat.mul_one,Nat.add_zero] at this;exact this
 have hne:gb≠I.tb:=λe=>by
  obtain⟨cs',fz',h'⟩:=gG h.got (b:=gb) rfl
  rw [e,h.blk] at h'
  simp only [Option.some.injEq,Obj.cells.injEq] at h'
  exact h.typ.1 h'.2.1
 obtain⟨x9,hx9⟩:∃ x9,x9=t.got.getD t.at_ 0:=⟨_,rfl⟩
 rw [<-hx9] at q0 ⊢
 have c3:w.cell? ⟨I.tb,I.pre.length+3,none⟩=some (.slice (some ⟨gb,off,none⟩) t.got.length gc):=h.cell (i:=3) (by omega)
 have c5:w.cell? ⟨I.tb,I.pre.length+5,none⟩=some (.int .i64 (t.at_:Int)):=h.cell (i:=5) (by omega)
 have c7:w.cell? ⟨I.tb,I.pre.length+7,none⟩=some (.bool false):=by rw [h.cell (i:=7) (by omega),<-hh];rfl
 have Q0:=Lib.hid q0;have HX:=Lib.hid hx9
 have C3:=aT c3;have C5:=aT c5
 obtain⟨k,hk⟩:∃ k,k=t.at_:=⟨_,rfl⟩
 obtain⟨n,hn⟩:∃ n,n=t.got.length:=⟨_,rfl⟩
 have l1:(k:Int)<(n:Int):=by omega
 have hnl:n<=100000000:=by omega
 have Hk:=Lib.hid hk;have Hn:=Lib.hid hn;have Hne:=Lib.hid hne;have Hgb:=Lib.hid hgb
 rw [<-hk] at C5;rw [<-hn] at C3
 clear q0 hx9 c3 c5 h hcell hsl hk hn hh hat hgl hne hgb
 go_enter Tryz.func116,Tryz.ntmps116
 go_wp2_with fail
 ((with_reducible refine bN (by kernel_rfl) (by kernel_rfl) ?_);(repeat ((with_reducible refine wpQuiet_step (λK hK=>?_));go_simp;((with_reducible refine hK _ ?_);clear hK K)));(with_reducible refine wpQuiet_nil ?_);intro _ hw';obtain⟨nq,hw''⟩:=hw';subst hw'')
 obtain⟨w0,hw0⟩:∃ w0,w0=nq.u:=⟨_,rfl⟩
 have hb0:=nq.below
 rw [<-hw0] at hb0 ⊢
 obtain⟨h0,UL⟩:=T0.out.grown hb0
 have p3:w0.cell? ⟨I.tb,I.pre.length+3,none⟩=some (.slice (some ⟨gb,off,none⟩) n gc):=by rw [Hn.out];exact h0.cell (i:=3) (by omega)
 have p5:w0.cell? ⟨I.tb,I.pre.length+5,none⟩=some (.int .i64 (k:Int)):=by rw [Hk.out];exact h0.cell (i:=5) (by omega)
 have pf:w0.frozen? ⟨I.tb,I.pre.length+5,none⟩=false:=aB h0.blk _
 obtain⟨w1,hw1⟩:∃ w1,w1=w0.setCell ⟨I.tb,I.pre.length+5,none⟩ (.int .i64 ((k:Int)+1)):=⟨_,rfl⟩
 obtain⟨h1,PH⟩:=h0.put (i:=5) (by omega) (.int .i64 ((k:Int)+1)) (t':={ t with at_:=t.at_+1 }) (by rw [Hk.out];rfl) rfl rfl
 rw [<-hw1] at h1 PH
 have q1:w1.cell? ⟨gb,off+k,none⟩=some (.int .u64 (x9:Int)):=by
  rw [hw1,World.cell?_setCell_other _ _ _ _ (by simp;exact λe=>absurd e.symm Hne.out)]
  exact(hb0.cell (p:=⟨gb,off+k,none⟩) Hgb.out).trans (by rw [Hk.out];exact Q0.out)
 have r3:w1.cell? ⟨I.tb,I.pre.length+3,none⟩=some (.slice (some ⟨gb,off,none⟩) n gc):=by rw [Hn.out];exact h1.cell (i:=3) (by omega)
 have r5:w1.cell? ⟨I.tb,I.pre.length+5,none⟩=some (.int .i64 ((k:Int)+1)):=by rw [h1.cell (i:=5) (by omega),Hk.out];rfl
 have lw:IntKind.i64.wrap ((k:Int)+1)=(k:Int)+1:=by rw [IntKind.wrap_i64];omega
 have Hto1:=Lib.hid (UL.trans PH);have H1:=Lib.hid h1;have Hw1:=Lib.hid hw1
 have R3:=aT r3;have R5:=aT r5
 clear UL PH h0 h1 hw1 hw0 nq hb0 c7 C3 C5 r3 r5
 go_upto_region 5 with fail
 rw [<-Hw1.out]
 clear p3 p5 pf
 have m1:IntKind.i64.wrap (k:Int)=(k:Int):=by rw [IntKind.wrap_i64];omega
 have Q1:=aT q1
 clear q1
 ((with_reducible refine bN (by kernel_rfl) (by kernel_rfl) ?_);(repeat ((with_reducible refine wpQuiet_step (λK hK=>?_));go_simp;((with_reducible refine hK _ ?_);clear hK K)));(with_reducible refine wpQuiet_nil ?_);intro _ hw';obtain⟨nq,hw''⟩:=hw';subst hw'')
 have hb5:=nq.below
 obtain⟨h5,OW⟩:=H1.out.grown hb5
 have Hf:=Lib.hid (⟨_,_,_,h5,Hto1.out.trans OW⟩:CZ w nq.u I (.slice (some ⟨gb,off,none⟩) t.got.length gc) K L { t with at_:=t.at_+1 } m now)
 clear h5 OW hb5
 go_wp2
 go_ret
 exact⟨rfl,Hf.out⟩
theorem XJ (kind a:Int) (x y:Nat) (h:dE w I G K L t m now) (hh:t.halt=false) (hat:t.at_=t.got.length) (hf:t.fresh=false) :
  Calls Tryz.prog 116 #[.pointer (some ⟨I.tb,I.pre.length,none⟩),.int .i64 kind,.int .i64 a,.int .u64 (x:Int),.int .u64 (y:Int)] w λe w'=>e=.returned (.int .u64 0)/\CZ w w' I G K L { t with halt:=true } m now:=by
 have T0:=Lib.hid h
 have hgl:=h.glen
 obtain⟨ga,gc,rfl⟩:=dX h.got
 obtain⟨n,hn⟩:∃ n,n=t.got.length:=⟨_,rfl⟩
 have c3:w.cell? ⟨I.tb,I.pre.length+3,none⟩=some (.slice ga n gc):=by rw [hn];exact h.cell (i:=3) (by omega)
 have c5:w.cell? ⟨I.tb,I.pre.length+5,none⟩=some (.int .i64 (n:Int)):=by rw [h.cell (i:=5) (by omega),hn,<-hat];rfl
 have c7:w.cell? ⟨I.tb,I.pre.length+7,none⟩=some (.bool false):=by rw [h.cell (i:=7) (by omega),<-hh];rfl
 have hnl:n<=100000000:=by omega
 have C3:=aT c3;have C5:=aT c5
 have HF:=Lib.hid hf;have Hh:=Lib.hid hh
 clear c3 c5 h hh hat hf hn hgl
 go_enter Tryz.func116,Tryz.ntmps116
 go_wp2_with fail
 ((with_reducible refine bN (by kernel_rfl) (by kernel_rfl) ?_);(repeat ((with_reducible refine wpQuiet_step (λK hK=>?_));go_simp;((with_reducible refine hK _ ?_);clear hK K)));(with_reducible refine wpQuiet_nil ?_);intro _ hw';obtain⟨nq,hw''⟩:=hw';subst hw'')
 obtain⟨w0,hw0⟩:∃ w0,w0=nq.u:=⟨_,rfl⟩
 have hb0:=nq.below
 rw [<-hw0] at hb0 ⊢
 obtain⟨h0,UL⟩:=T0.out.grown hb0
 have c6:w0.cell? ⟨I.tb,I.pre.length+6,none⟩=some (.bool false):=by rw [h0.cell (i:=6) (by omega),<-HF.out];rfl
 have d7:w0.cell? ⟨I.tb,I.pre.length+7,none⟩=some (.bool false):=by rw [h0.cell (i:=7) (by omega),<-Hh.out];rfl
 have pf:w0.frozen? ⟨I.tb,I.pre.length+7,none⟩=false:=aB h0.blk _
 obtain⟨h1,PH⟩:=h0.put (i:=7) (by omega) (.bool true) (t':={ t with halt:=true }) rfl rfl rfl
 have Hf:=Lib.hid (⟨_,_,_,h1,UL.trans PH⟩:CZ w (w0.setCell ⟨I.tb,I.pre.length+7,none⟩ (.bool true)) I (.slice ga t.got.length gc) K L { t with halt:=true } m now)
 clear h0 UL h1 PH nq hw0 hb0 C3 C5 c7
 go_wp2
 go_ret
 exact⟨rfl,Hf.out⟩
end one
section r
variable {B:fD} {w:World} {t:aJ} {r:RWD}
set_option maxHeartbeats 1000000 in
theorem EC (h:RAt B w t r) (kd a:Int) (x y:Nat) (hx:x<18446744073709551616) (hy:y<18446744073709551616) :
  Calls Tryz.prog 116 #[.pointer (some ⟨B.I.tb,B.I.pre.length,none⟩),.int .i64 kd,.int .i64 a,.int .u64 (x:Int),.int .u64 (y:Int)] w λe w'=>e=.returned (.int .u64 ((aX kd a x y t r).1:Int))/\RAt B w' (aX kd a x y t r).2.1 (aX kd a x y t r).2.2:=by
 obtain⟨G,K,L,h1,h2⟩:=id h
 obtain⟨PV,LV,KV,ht,hl⟩:=h1.lift
 unfold aX
 by_cases hh:t.halt=true
 ·rw [if_pos hh]
  refine(WF B.I.tids G K L (t.raw PV LV KV) r.mem r.now w kd a x y ht hh).mono ?_
  rintro e w' ⟨rfl,rfl⟩
  exact⟨rfl,h⟩
 ·rw [if_neg hh]
  have hh':t.halt=false:=by simpa using hh
  by_cases hat:t.at_<t.got.length
  ·rw [if_pos hat]
   refine(XK B.I.tids G K L (t.raw PV LV KV) r.mem r.now w kd a x y ht hh' hat).mono ?_
   rintro e w' ⟨rfl,G',K',L',h3,h4⟩
   obtain⟨h5,h6⟩:=hl (t':={ t with at_:=t.at_+1 }) (r':=r) h3 h4 rfl rfl rfl rfl rfl hat h1.tl h1.room
   exact⟨rfl,G',K',L',h5,h2.trans h6⟩
  ·rw [if_neg hat]
   have hat':t.at_=t.got.length:=by have:=h1.at_le;omega
   by_cases hf:t.fresh=true
   ·rw [if_pos hf]
    obtain⟨r1,r2⟩:=h1.room hf hh'
    refine(XN B.I.tids G K L (t.raw PV LV KV) r.mem r.now kd a x y w ht hh' hf hat' hx hy r1 r2 (by show t.ticks.length+1<=_;rw [h1.tl];exact r2)).mono ?_
    rintro e w' ⟨rfl,G',K',L',h3,h4⟩
    obtain⟨h5,h6⟩:=hl (t':={ t with got:=t.got++[(bA r.mem kd a x y).2],ticks:=t.ticks++[(r.now:Int)],at_:=t.at_+1,fresh:=false }) (r':={ r with mem:=(bA r.mem kd a x y).1 }) h3 h4 rfl rfl rfl rfl rfl (by simp only [List.length_append,List.length_singleton];omega) (by simp only [List.length_append,List.length_singleton,h1.tl]) (λe=>by cases e)
    exact⟨rfl,G',K',L',h5,h2.trans h6⟩
   ·rw [if_neg hf]
    refine(XJ B.I.tids G K L (t.raw PV LV KV) r.mem r.now w kd a x y ht hh' hat' (show t.fresh=false by simpa using hf)).mono ?_
    rintro e w' ⟨rfl,G',K',L',h3,h4⟩
    obtain⟨h5,h6⟩:=hl (t':={ t with halt:=true }) (r':=r) h3 h4 rfl rfl rfl rfl rfl h1.at_le h1.tl (λ_ e=>by cases e)
    exact⟨rfl,G',K',L',h5,h2.trans h6⟩
theorem ZA (h:RAt B w t r) (a:Int) :
  Calls Tryz.prog 88 #[.pointer (some ⟨B.I.tb,B.I.pre.length,none⟩),.int .i64 a] w λe w'=>e=.returned (.int .u64 ((aX 0 a 0 0 t r).1:Int))/\RAt B w' (aX 0 a 0 0 t r).2.1 (aX 0 a 0 0 t r).2.2:=by
 have A:=Lib.hid (EC h 0 a 0 0 (by decide) (by decide))
 obtain⟨Z,hZ⟩:∃ Z,Z=aX 0 a 0 0 t r:=⟨_,rfl⟩
 rw [<-hZ] at A ⊢
 clear h hZ
 go_enter Tryz.func88,Tryz.ntmps88
 go_wp2_with (go_at_call 116;refine(A.out).mono ?_;rintro e w' ⟨rfl,h1⟩)
 go_ret
 exact⟨rfl,h1⟩
theorem Qq (h:RAt B w t r) (a:Int) (d:Nat) (hd:d<18446744073709551616) :
  Calls Tryz.prog 91 #[.pointer (some ⟨B.I.tb,B.I.pre.length,none⟩),.int .i64 a,.int .u64 (d:Int)] w λe w'=>e=.returned (.int .u64 ((aX 3 a d 0 t r).1:Int))/\RAt B w' (aX 3 a d 0 t r).2.1 (aX 3 a d 0 t r).2.2:=by
 have A:=Lib.hid (EC h 3 a d 0 hd (by decide))
 obtain⟨Z,hZ⟩:∃ Z,Z=aX 3 a d 0 t r:=⟨_,rfl⟩
 rw [<-hZ] at A ⊢
 clear h hZ
 go_enter Tryz.func91,Tryz.ntmps91
 go_wp2_with (go_at_call 116;refine(A.out).mono ?_;rintro e w' ⟨rfl,h1⟩)
 go_ret
 exact⟨rfl,h1⟩
theorem NA (h:RAt B w t r) (a:Int) (d:Nat) (hd:d<18446744073709551616) :
  Calls Tryz.prog 89 #[.pointer (some ⟨B.I.tb,B.I.pre.length,none⟩),.int .i64 a,.int .u64 (d:Int)] w λe w'=>e=.returned (.tuple #[])/\RAt B w' (aX 1 a d 0 t r).2.1 (aX 1 a d 0 t r).2.2:=by
 have A:=Lib.hid (EC h 1 a d 0 hd (by decide))
 obtain⟨Z,hZ⟩:∃ Z,Z=aX 1 a d 0 t r:=⟨_,rfl⟩
 rw [<-hZ] at A ⊢
 clear h hZ
 go_enter Tryz.func89,Tryz.ntmps89
 go_wp2_with (go_at_call 116;refine(A.out).mono ?_;rintro e w' ⟨rfl,h1⟩)
 (go_end0)
 exact⟨rfl,h1⟩
theorem Oa (h:RAt B w t r) (a:Int) (x y:Nat) (hx:x<18446744073709551616) (hy:y<18446744073709551616) :
  Calls Tryz.prog 90 #[.pointer (some ⟨B.I.tb,B.I.pre.length,none⟩),.int .i64 a,.int .u64 (x:Int),.int .u64 (y:Int)] w λe w'=>e=.returned (.bool ((aX 2 a x y t r).1 == 1))/\RAt B w' (aX 2 a x y t r).2.1 (aX 2 a x y t r).2.2:=by
 have A:=Lib.hid (EC h 2 a x y hx hy)
 obtain⟨Z,hZ⟩:∃ Z,Z=aX 2 a x y t r:=⟨_,rfl⟩
 rw [<-hZ] at A ⊢
 obtain⟨v,t',r'⟩:=Z
 clear h hZ
 by_cases hv:v=1
 ·subst hv
  have A1:=Lib.hid (show Calls Tryz.prog 116 #[.pointer (some ⟨B.I.tb,B.I.pre.length,none⟩),.int .i64 2,.int .i64 a,.int .u64 (x:Int),.int .u64 (y:Int)] w λe w'=>e=.returned (.int .u64 1)/\RAt B w' t' r' from A.out)
  clear A
  go_enter Tryz.func90,Tryz.ntmps90
  go_wp2_with (go_at_call 116;refine(A1.out).mono ?_;rintro e w' ⟨rfl,h1⟩)
  go_ret
  exact⟨rfl,h1⟩
 ·have hb:(v == 1)=false:=by simp [hv]
  have hb2:((v:Int) == 1)=false:=by simp;omega
  have hb3:¬ (v:Int)=1:=by omega
  have A1:=Lib.hid (show Calls Tryz.prog 116 #[.pointer (some ⟨B.I.tb,B.I.pre.length,none⟩),.int .i64 2,.int .i64 a,.int .u64 (x:Int),.int .u64 (y:Int)] w λe w'=>e=.returned (.int .u64 (v:Int))/\RAt B w' t' r' from A.out)
  clear A
  rw [hb]
  go_enter Tryz.func90,Tryz.ntmps90
  go_wp2_with (go_at_call 116;refine(A1.out).mono ?_;rintro e w' ⟨rfl,h1⟩)
  go_ret
  exact⟨by simp,h1⟩
end r
end
section
open Go.RowKit
theorem YE (n:Int) (l:List aD) (a:Option Addr) (c:Nat) (w:World) (hs:cB w a l.length 6 (iX l)) :
  Calls Tryz.prog 54 #[.int .i64 n,.slice a l.length c] w λe w'=>e=.returned (.int .i64 (gK n l))/\Below w.heap.size w w':=by
 have hm:=hs.1
 unfold maxLen at hm
 have Hs:=Lib.hid hs;clear hs
 obtain⟨R,hR⟩:∃ R,R=gK n l:=⟨_,rfl⟩
 rw [<-hR]
 have HR:=Lib.hid hR;clear hR
 by_cases h1:n<1
 ·have hr:R=1:=by rw [HR.out];unfold gK;rw [if_pos (.inl h1)]
  subst hr
  go_enter Tryz.func54,Tryz.ntmps54
  go_wp2
  go_ret
  exact⟨rfl,Gr.refl _⟩
 by_cases h2:16<n
 ·have hr:R=1:=by rw [HR.out];unfold gK;rw [if_pos (.inr h2)]
  subst hr
  go_enter Tryz.func54,Tryz.ntmps54
  go_wp2
  go_ret
  exact⟨rfl,Gr.refl _⟩
 by_cases h3:1000<l.length
 ·have hr:R=3:=by rw [HR.out];unfold gK;rw [if_neg (by omega),if_pos h3]
  subst hr
  have h4:(1000:Int)<l.length:=by omega
  go_enter Tryz.func54,Tryz.ntmps54
  go_wp2
  go_ret
  exact⟨rfl,Gr.refl _⟩
 have hr:R=if kC n l=true then 1 else 0:=by rw [HR.out];unfold gK;rw [if_neg (by omega),if_neg h3];rfl
 have HR2:=Lib.hid hr
 clear hr HR
 go_enter Tryz.func54,Tryz.ntmps54
 go_wp2
 go_loopw [5,17] (λ_ i wr=>∃ k:Nat,k<=l.length/\i=.int .i64 k/\Hid (∀ j,(h:j<k)->(hl:j<l.length)->BU n l[j]=false)/\Below w.heap.size w wr) (λ_ i _=>l.length - (intOf i).toNat)
 case atStart=>exact⟨0,Nat.zero_le _,rfl,λj h=>absurd h (Nat.not_lt_zero j),Gr.refl _⟩
 case round=>
  obtain⟨k,hk,rfl,hok,hb⟩:=hrel
  by_cases hlt:k<l.length
  ·obtain⟨b,off,rfl,c0,_⟩:=xY Hs.out hb hlt
   obtain⟨t,ht⟩:∃ t,t=l[k].thread:=⟨_,rfl⟩
   rw [<-ht] at c0
   have Ht:=Lib.hid ht;clear ht
   have hl1:(k:Int)<l.length:=by omega
   by_cases hb1:t<0
   ·have hbad:R=1:=by rw [HR2.out,if_pos (by unfold kC;exact List.any_eq_true.2 ⟨l[k],List.getElem_mem hlt,by unfold BU;rw [<-Ht.out];simp [hb1]⟩)]
    subst hbad
    have hd:decide (t<0)=true:=by simpa using hb1
    go_wp2
    all_goals go_ret
    all_goals exact⟨rfl,hb⟩
   ·by_cases hb2:n<=t
    ·have hbad:R=1:=by rw [HR2.out,if_pos (by unfold kC;exact List.any_eq_true.2 ⟨l[k],List.getElem_mem hlt,by unfold BU;rw [<-Ht.out];simp [hb2]⟩)]
     subst hbad
     go_wp2
     all_goals go_ret
     all_goals exact⟨rfl,hb⟩
    ·go_wp2
     go_roundw
     case rel=>
      refine⟨k+1,by omega,by go_num,?_,hb⟩
      intro j h hl
      rcases Nat.lt_succ_iff_lt_or_eq.1 h with h|rfl
      ·exact hok.out j h hl
      ·unfold BU;rw [<-Ht.out];simp;omega
     case measure=>simp [intOf]<;>omega
  ·obtain rfl:k=l.length:=by omega
   have hz:R=0:=by
    rw [HR2.out,if_neg]
    unfold kC
    rw [List.any_eq_true]
    rintro⟨x,hx,hbx⟩
    obtain⟨j,hj,rfl⟩:=List.getElem_of_mem hx
    rw [hok.out j hj hj] at hbx
    cases hbx
   subst hz
   go_wp2
   go_ret
   exact⟨rfl,hb⟩
theorem UM (l:List aD) (fin:List Bool) (p:Int) (a a2:Option Addr) (c c2:Nat) (w:World) (hs:cB w a l.length 6 (iX l)) (hs2:cB w a2 l.length 1 (Ec fin)) :
  Calls Tryz.prog 40 #[.slice a l.length c,.slice a2 l.length c2,.int .i64 p] w λe w'=>e=.returned (.int .i64 (Dc (gF l fin p)))/\w=w':=by
 have hm:=hs.1
 unfold maxLen at hm
 have Hs:=Lib.hid hs;have Hs2:=Lib.hid hs2;clear hs hs2
 obtain⟨R,hR⟩:∃ R,R=Dc (gF l fin p):=⟨_,rfl⟩
 rw [<-hR]
 have HR:=Lib.hid hR;clear hR
 go_enter Tryz.func40,Tryz.ntmps40
 go_wp2
 go_loop [7,10] (λ_ i=>∃ k:Nat,k<=l.length/\i=.int .i64 k/\Hid (∀ j,(h:j<k)->wH l fin p j=false)) (λ_ i=>l.length - (intOf i).toNat)
 case atStart=>exact⟨0,Nat.zero_le _,rfl,λj h=>absurd h (Nat.not_lt_zero j)⟩
 case round=>
  obtain⟨k,hk,rfl,hok⟩:=hrel
  by_cases hlt:k<l.length
  ·obtain⟨b,off,rfl,c0,_⟩:=xY Hs.out (Gr.refl w) hlt
   obtain⟨b2,aAy,rfl,hc2⟩:=Hs2.out.elem (Gr.refl w) hlt
   obtain⟨f,hf⟩:∃ f,f=fin.getD k false:=⟨_,rfl⟩
   have c1:w.cell? ⟨b2,aAy+k,none⟩=some (.bool f):=by have h0:=hc2 0 (by omega);rw [Nat.mul_one,Nat.add_zero] at h0;rw [h0,hf];rfl
   obtain⟨t,ht⟩:∃ t,t=l[k].thread:=⟨_,rfl⟩
   rw [<-ht] at c0
   have hns:wH l fin p k=(decide (t=p) && !f):=by unfold wH;rw [<-hf,List.getD_eq_getElem?_getD];simp [hlt,<-ht]
   have Hns:=Lib.hid hns
   have hl1:(k:Int)<l.length:=by omega
   clear hc2 hf ht hns
   have hstep:wH l fin p k=false->Hid (∀ j,(h:j<k+1)->wH l fin p j=false):=λhn j h=>by
    rcases Nat.lt_succ_iff_lt_or_eq.1 h with h|rfl
    ·exact hok.out j h
    ·exact hn
   by_cases h1:t=p
   ·have hbeq:(t == p)=true:=by simpa using h1
    cases f with
    | false=>
     have hfound:R=(k:Int):=by
      rw [HR.out]
      unfold gF
      rw [wY _ _ k hk hok.out,show l.length - k=(l.length - k - 1)+1 by omega,List.range_succ_eq_map]
      simp [Hns.out,h1,Dc]
     have Hf:=Lib.hid hfound
     clear hstep h1 hfound
     go_wp2
     go_ret
     exact⟨Oc Hf.out.symm,rfl⟩
    | true=>
     have Hst:=Lib.hid (hstep (by rw [Hns.out];simp))
     clear hstep h1
     go_wp2
     go_round
     case rel=>exact⟨k+1,by omega,by go_num,Hst.out⟩
     case measure=>simp [intOf]<;>omega
   ·have hbeq:(t == p)=false:=by simpa using h1
    have Hst:=Lib.hid (hstep (by rw [Hns.out];simp [h1]))
    clear hstep h1
    go_wp2
    go_round
    case rel=>exact⟨k+1,by omega,by go_num,Hst.out⟩
    case measure=>simp [intOf]<;>omega
  ·obtain rfl:k=l.length:=by omega
   have hnone:R=-1:=by
    rw [HR.out]
    unfold gF
    rw [wY _ _ l.length (Nat.le_refl _) hok.out]
    simp [Dc]
   subst hnone
   go_wp2
   go_ret
   exact⟨rfl,rfl⟩
end
section
open Go.RowKit
section
variable (w:World) (Mut:Nat->Prop) (I:iM) (N:Nat) (wd:WD) (b bc ba:Nat) (c:aD)
end
end
section
open Go.RowKit
end
section
open Go.RowKit
def Within (k:List Int) (inv resp:Nat):Prop:=k≠[]/\2*(inv:Int)<=k.headD 0/\k.headD 0<=2*(resp:Int)
structure aAz (S:Sys):Prop where
 now:∀ o wd p s,(S.step o wd p s).2.1.now=wd.now
 mlen:∀ o wd p s,(S.step o wd p s).2.1.marks.length=wd.marks.length
 mark:∀ o wd p s q,(S.step o wd p s).2.1.marks.getD q []=wd.marks.getD q []∨∃ rest,(S.step o wd p s).2.1.marks.getD q []=2*(wd.now:Int)::rest
 ans:∀ s,(S.answer s).2=[]
 late:∀ o wd p s,S.late o wd p s=none
structure aAh {S:Sys} (calls:List aD) (st:aP S):Prop where
 good:bQ calls st
 m16:st.wd.marks.length=16
 keys:∀ i,i<st.evs.length->(aF st.evs i).resp≠0->Within (aF st.evs i).key (aF st.evs i).inv (aF st.evs i).resp
 none_:∀ i,i<st.evs.length->(aF st.evs i).resp=0->(aF st.evs i).key=[]
 marks:∀ p k,fQ st.hands p=some k->st.wd.marks.getD p []=[]∨Within (st.wd.marks.getD p []) (aF st.evs k).inv st.wd.now
variable {S:Sys}
theorem Within.more {k:List Int} {inv a b:Nat} (h:Within k inv a) (hab:a<=b):Within k inv b:=⟨h.1,h.2.1,by have:=h.2.2;omega⟩
end
section
open Go.RowKit
variable {S:Sys}
structure Nh (calls:List aD) (n:Nat) (ticks:Nat) (e:EvD):Prop where
 call:e.call<calls.length
 thr:0<=(calls.getD e.call d0).thread/\(calls.getD e.call d0).thread<n
 aA0:1<=e.inv
 invt:e.inv<=ticks
 steps:1<=e.steps
 resp:e.resp≠0->e.inv<=e.resp/\e.resp<=ticks/\e.steps<=e.resp - e.inv+1/\Within e.key e.inv e.resp
 open_:e.resp=0->e.key=[]∨Within e.key e.inv ticks
structure Uy (calls:List aD) (n:Nat) (r:iN):Prop where
 n1:1<=n
 n16:n<=16
 ev:∀ i,i<r.evs.length->Nh calls n r.ticks (aF r.evs i)
 rise:∀ i j,i<j->j<r.evs.length->(aF r.evs i).inv<(aF r.evs j).inv
 same:∀ i j,i<j->j<r.evs.length->tn calls (aF r.evs i)=tn calls (aF r.evs j)->(aF r.evs i).resp≠0/\(aF r.evs i).resp<(aF r.evs j).inv/\(aF r.evs i).call<(aF r.evs j).call
 sum:(r.evs.map (·.steps)).sum=r.ticks
 fault:r.c.fault=0
 all:r.c.read+r.c.write+r.c.swap+r.c.add<=r.ticks
 small:r.ticks<1000000
structure aAb (st:aP S):Prop where
 keys:∀ i,i<st.evs.length->(aF st.evs i).resp≠0->Within (aF st.evs i).key (aF st.evs i).inv (aF st.evs i).resp
 late:∀ p s k,st.hands.getD p (none,0)=(some s,k)->(S.late st.obj st.wd p s).getD (st.wd.marks.getD p [])=[]∨Within ((S.late st.obj st.wd p s).getD (st.wd.marks.getD p [])) (aF st.evs k).inv st.wd.now
end
section
open Go.RowKit
def cnt (P:EvD->Bool) (l:List EvD):Nat:=(l.map λe=>if P e then 1 else 0).sum
theorem ZL (P:EvD->Bool):cnt P []=0:=rfl
theorem EA (P:EvD->Bool) (e:EvD) (l:List EvD):cnt P (e::l)=(if P e then 1 else 0)+cnt P l:=rfl
theorem OL (P:EvD->Bool) (l m:List EvD):cnt P (l++m)=cnt P l+cnt P m:=by unfold cnt;rw [List.map_append,List.sum_append]
theorem Mj (P:EvD->Bool) (l:List EvD) (k:Nat) (e:EvD) (hk:k<l.length):cnt P (l.set k e)+(if P (aF l k) then 1 else 0)=cnt P l+(if P e then 1 else 0):=wB _ l k e hk
theorem cnt_mono {P Q:EvD->Bool}:∀ {l:List EvD},(∀ i,i<l.length->P (aF l i)=true->Q (aF l i)=true)->cnt P l<=cnt Q l
 | [],_=>Nat.le_refl _
 | e::l,h=>by
  rw [EA,EA]
  have h1:=cnt_mono (P:=P) (Q:=Q) (l:=l) (λi hi hp=>h (i+1) (by simp;omega) hp)
  have h2:=h 0 (by simp)
  have h3:aF (e::l) 0=e:=rfl
  rw [h3] at h2
  cases hp:P e with
  | true=>rw [h2 hp];simp;omega
  | false=>simp;omega
theorem Da {P Q:EvD->Bool} {l:List EvD} (h:∀ i,i<l.length->P (aF l i)=Q (aF l i)):cnt P l=cnt Q l:=
 Nat.le_antisymm (cnt_mono λi hi hp=>by rw [<-h i hi];exact hp) (cnt_mono λi hi hp=>by rw [h i hi];exact hp)
variable {S:Sys}
theorem From.cnt {calls:List aD} {st:aP S} {q i k:Nat} {s:S.σ} {aQ:List EvD} {cZ:WD} (h:From calls st q i k s aQ cZ) {P:EvD->Bool} (hP:∀ e,e.resp=0->P e=false) (e:EvD):cnt P (aQ.set k e)=cnt P st.evs+(if P e then 1 else 0):=by
 have h1:=Mj P aQ k e h.len
 rw [hP _ h.open_] at h1
 have h2:Go.Proofs.YtfkokppncipgnaaGreat.cnt P aQ=Go.Proofs.YtfkokppncipgnaaGreat.cnt P st.evs:=by
  cases h with
  | old k s hh hk hc hr=>rfl
  | new s hh hs=>rw [OL,EA,hP _ rfl,ZL];simp
 rw [h2] at h1
 simpa using h1
end
section
open Go.RowKit
end
section
open Go.RowKit
abbrev Rq:Sys:=Oi Jy Jv
end
section
open Go.RowKit
structure aAN (st:aP Rq) (k:Nat):Prop where
 h16:st.hands.length=16
 none_:∀ p,(st.hands.getD p (none,0)).1=none
 now:st.wd.now=st.evs.length
 ws:st.wd.mem.ws=[st.evs.length]
 evs:∀ i,i<st.evs.length->(st.evs.getD i iO).ans.val=i/\(st.evs.getD i iO).resp=i+1
 len:st.evs.length<=k
end
section
open Go.RowKit
theorem iQ.event {X:Nat->Prop} {B:Nat} {w:World} {ea:Option Addr} {en ec:Nat} {wv:Value} {ers:List (Value×Value)} {r:iN} (h:iQ X B w (.slice ea en ec) wv ers r) (hn:en=r.evs.length) (h0:0<en) :
  ∃ g,ea=some ⟨g,0,none⟩/\g<w.heap.size/\∀ i f,i<en->f<8->w.cell? ⟨g,i*8+f,none⟩=(dK (r.evs.getD i iO) (ers.getD i wT))[f]?:=by
 obtain⟨g,c,h1,h2,h3⟩:=h.row.form (by omega)
 simp only [Value.slice.injEq] at h1
 obtain⟨rfl,h4,h5⟩:=h1
 refine⟨g,rfl,h3,λi f hi hf=>?_⟩
 have hr:=h.row
 rw [<-hn] at hr
 rw [hr.cellAt _ (by omega),xC _ _ _ _ h.elen.symm (by omega) hf]
theorem iQ.word {X:Nat->Prop} {B:Nat} {w:World} {ev:Value} {va:Option Addr} {vn vc:Nat} {ers:List (Value×Value)} {r:iN} (h:iQ X B w ev (.slice va vn vc) ers r) (hn:vn=r.words.length) (h0:0<vn) :
  ∃ q,va=some ⟨q,0,none⟩/\q<w.heap.size/\∀ j,j<vn->w.cell? ⟨q,j,none⟩=some (.int .u64 ((r.words.getD j 0:Nat):Int)):=by
 obtain⟨g,c,h1,h2,h3⟩:=h.words.form (by omega)
 simp only [Value.slice.injEq] at h1
 obtain⟨rfl,h4,h5⟩:=h1
 refine⟨g,rfl,h3,λj hj=>?_⟩
 have hr:=h.words
 rw [<-hn] at hr
 rw [hr.cellAt _ (by omega)]
 simp [bI,List.getD_eq_getElem?_getD,show j<r.words.length by omega]
def callL (c:aD):List Value:=[.int .i64 c.thread,.int .i64 c.obj,.int .i64 c.kind,.int .u64 (c.a:Int),.int .u64 (c.b:Int),.int .u64 (c.c:Int)]
theorem QX:∀(l:List aD) (j f:Nat),j<l.length->f<6->(l.flatMap callL)[j*6+f]?=some (iX l j f)
 | [],j,_,h,_=>by simp at h
 | c::l,0,f,_,hf=>by
  simp only [List.flatMap_cons,Nat.zero_mul,Nat.zero_add]
  rw [List.getElem?_append_left (by simpa [callL] using hf)]
  match f,hf with
  | 0,_=>rfl
  | 1,_=>rfl
  | 2,_=>rfl
  | 3,_=>rfl
  | 4,_=>rfl
  | 5,_=>rfl
 | c::l,j+1,f,h,hf=>by
  simp only [List.flatMap_cons]
  rw [List.getElem?_append_right (by simp [callL];omega),show(j+1)*6+f - (callL c).length=j*6+f by simp [callL];omega,QX l j f (by simpa using h) hf]
  simp [iX]
theorem UD {w:World} {b:Nat} {l:List aD} {fz:Nat×Nat} (h:w.heap[b]?=some (.cells (l.flatMap callL).toArray 48 fz)) (hl:l.length<=1000000):cB w (some ⟨b,0,none⟩) l.length 6 (iX l):=by
 refine⟨by unfold maxLen;omega,λj hj=>⟨b,0,rfl,aC h,λf hf=>?_⟩⟩
 rw [Nat.zero_add,aA h]
 simpa using QX l j f hj hf
theorem BV {w:World} {b:Nat} {l:List Int} {fz:Nat×Nat} (h:w.heap[b]?=some (.cells (l.map (Value.int .i64)).toArray 3 fz)) (hl:l.length<=1000000):cB w (some ⟨b,0,none⟩) l.length 1 (kJ l):=by
 refine⟨by unfold maxLen;omega,λj hj=>⟨b,0,rfl,aC h,λf hf=>?_⟩⟩
 obtain rfl:f=0:=by omega
 rw [aA h]
 simp [kJ,List.getD_eq_getElem?_getD,hj]
theorem TI {t k:Int} (h1:0<=t) (h2:t<16) (h3:0<=k) (h4:k<16) {a b c:Nat} (ha:a<100) (hb:b<100) (hc:c<100):lF ⟨t,0,k,a,b,c⟩:=
 ⟨by simp [Lit.wf,IntKind.min,IntKind.max,IntKind.signed,IntKind.bits];omega,by rfl,by simp [Lit.wf,IntKind.min,IntKind.max,IntKind.signed,IntKind.bits];omega,by simp only;omega,by simp only;omega,by simp only;omega⟩
end
section
open Go.RowKit
end
section
open Go.RowKit
def Jm (l p:Nat):Bool:=decide ((60<l/\l<=1000)∨(600<p/\p<=65536)∨1100<l)
theorem Gx (ca pa:Option Addr) (l p cc pc:Nat) (w:World) (hl:l<=maxLen) (hp:p<=maxLen) :
    Calls Tryz.prog 7 #[.slice ca l cc,.slice pa p pc] w λe w'=>e=.returned (.bool (Jm l p))/\w=w':=by
  unfold maxLen at hl hp
  obtain⟨b,hb⟩:∃ b,b=Jm l p:=⟨_,rfl⟩
  rw [<-hb]
  by_cases h1:(60:Int)<(l:Int)<;>by_cases h2:(l:Int)<=1000<;>by_cases h3:(600:Int)<(p:Int)<;>by_cases h4:(p:Int)<=65536<;>by_cases h5:(1100:Int)<(l:Int)
  all_goals first|(exfalso;omega)|skip
  all_goals
    have hv:b=decide ((60<l/\l<=1000)∨(600<p/\p<=65536)∨1100<l):=hb
    first
      | (have hb2:b=true:=by rw [hv];simp;omega
         subst hb2;clear hb hv
         go_enter Tryz.func7,Tryz.ntmps7
         go_wp2
         go_ret
         exact⟨rfl,rfl⟩)
      | (have hb2:b=false:=by rw [hv];simp;omega
         subst hb2;clear hb hv
         go_enter Tryz.func7,Tryz.ntmps7
         go_wp2
         go_ret
         exact⟨rfl,rfl⟩)
end
section
open Go.RowKit
theorem iQ.ev8 {X:Nat->Prop} {B:Nat} {w wr:World} {ea:Option Addr} {en ec:Nat} {wv:Value} {ers:List (Value×Value)} {r:iN} (h:iQ X B w (.slice ea en ec) wv ers r) (hn:en=r.evs.length) {k:Nat} (hk:k<en) (hb:Below w.heap.size w wr) :
  ∃ g la lc ka kc,ea=some ⟨g,0,none⟩/\g<wr.heap.size/\
   wr.cell? ⟨g,k*8,none⟩=some (.int .i64 ((aF r.evs k).call:Int))/\wr.cell? ⟨g,k*8+1,none⟩=some (.int .i64 ((aF r.evs k).inv:Int))/\wr.cell? ⟨g,k*8+2,none⟩=some (.int .i64 ((aF r.evs k).resp:Int))/\wr.cell? ⟨g,k*8+3,none⟩=some (.int .i64 ((aF r.evs k).steps:Int))/\
   wr.cell? ⟨g,k*8+4,none⟩=some (.int .i64 (aF r.evs k).ans.err)/\wr.cell? ⟨g,k*8+5,none⟩=some (.int .u64 ((aF r.evs k).ans.val:Int))/\wr.cell? ⟨g,k*8+6,none⟩=some (.slice la (aF r.evs k).ans.list.length lc)/\wr.cell? ⟨g,k*8+7,none⟩=some (.slice ka (aF r.evs k).key.length kc)/\
   cB wr la (aF r.evs k).ans.list.length 1 (fE (aF r.evs k).ans.list)/\cB wr ka (aF r.evs k).key.length 1 (kJ (aF r.evs k).key)/\((aF r.evs k).key=[]->ka=none/\kc=0):=by
 obtain⟨g,rfl,hg,hev⟩:=h.event hn (by omega)
 have hans:=h.ans k (by rw [<-hn];exact hk)
 obtain⟨V,hV⟩:∃ V,V=ers.getD k wT:=⟨_,rfl⟩
 rw [<-hV] at hans
 obtain⟨⟨la,lc,hlv,hls,_⟩,⟨ka,kc,hkv,hkn,hks,_⟩⟩:=hans
 have hcells:∀ f,f<8->wr.cell? ⟨g,k*8+f,none⟩=(dK (aF r.evs k) V)[f]?:=λf hf=>by rw [hb.cell hg,hev k f hk hf,hV];rfl
 refine⟨g,la,lc,ka,kc,rfl,Nat.lt_of_lt_of_le hg hb.size,hcells 0 (by omega),hcells 1 (by omega),hcells 2 (by omega),hcells 3 (by omega),hcells 4 (by omega),hcells 5 (by omega),?_,?_,hls.grown hb,hks.grown hb,λh0=>?_⟩
 ·rw [hcells 6 (by omega)];exact congrArg some hlv
 ·rw [hcells 7 (by omega)];exact congrArg some hkv
 ·have:=hkn h0
  rw [hkv] at this
  simp only [Value.slice.injEq] at this
  exact⟨this.1,this.2.2⟩
end
section
open Go.RowKit
theorem Rz {w:World} {B:Nat} {e:TypeId} {g n cap:Nat} {xs:List Value} (h:w.ownsRow B e 1 (.slice (some ⟨g,0,none⟩) n cap) n xs) {j:Nat} {u:Value} (hj:xs[j]?=some u):w.cell? ⟨g,j,none⟩=some u/\w.frozen? ⟨g,j,none⟩=false:=by
 have hc:=h
 obtain⟨h1,h2⟩:=h
 rcases h2 with⟨hv,_⟩|⟨g',cap',cur,hv,hg,hh,r1,r2,r3,r4⟩
 ·cases hv
 ·cases hv
  refine⟨?_,aB hh j⟩
  have:=hc.cells (g:=g) rfl j _ hj
  rw [EO] at this
  exact this
end
end Go.Proofs.YtfkokppncipgnaaGreat
