/- The reference's tape: an access, whether it was told before, is made now, or halts; and what rests on it. -/
import Derived.Test.YtfkokppncipgnaaGreatV08
import Derived.Test.YtfkokppncipgnaaGreatV07
import Derived.Test.YtfkokppncipgnaaGreatV12
import Derived.Test.YtfkokppncipgnaaGreatV15
set_option maxRecDepth 100000
set_option linter.unusedVariables false
set_option linter.unusedSimpArgs false
set_option linter.unnecessarySimpa false
namespace Go.Proofs.YtfkokppncipgnaaGreat
section
open Go.RowKit
section one
variable (I:TIds) (G K L:Value) (t:TapeD) (m:MemD) (now:Nat) (w:World)
theorem access_halt (kind a:Int) (x y:Nat) (h:TapeAt w I G K L t m now) (hh:t.halt=true) :
  Calls Tryz.prog 116 #[.pointer (some ⟨I.tb,I.pre.length,none⟩),.int .i64 kind,.int .i64 a,.int .u64 (x:Int),.int .u64 (y:Int)] w λe w'=>e=.returned (.int .u64 0)/\w=w':=by
 have c7:w.cell? ⟨I.tb,I.pre.length+7,none⟩=some (.bool true):=by rw [h.cell (i:=7) (by omega),<-hh];rfl
 clear h hh
 go_enter Tryz.func116,Tryz.ntmps116
 go_wp2
 go_ret
 exact⟨rfl,rfl⟩
set_option maxHeartbeats 4000000 in
theorem access_old (kind a:Int) (x y:Nat) (h:TapeAt w I G K L t m now) (hh:t.halt=false) (hat:t.at_<t.got.length) :
  Calls Tryz.prog 116 #[.pointer (some ⟨I.tb,I.pre.length,none⟩),.int .i64 kind,.int .i64 a,.int .u64 (x:Int),.int .u64 (y:Int)] w λe w'=>e=.returned (.int .u64 ((t.got.getD t.at_ 0:Nat):Int))/\TapeOut w w' I G K L { t with at_:=t.at_+1 } m now:=by
 have T0:=Lib.hid h
 have hgl:=h.glen
 obtain⟨ga,gc,rfl⟩:=row_form h.got
 obtain⟨hsl,_⟩:=row_sl h.got (by unfold maxLen;omega) (g:=u64G t.got) (λj hj=>by simp [u64G,u64V,List.getD_eq_getElem?_getD,hj])
 obtain⟨gb,off,rfl,hgb,hcell⟩:=hsl.2 t.at_ hat
 have q0:w.cell? ⟨gb,off+t.at_,none⟩=some (.int .u64 ((t.got.getD t.at_ 0:Nat):Int)):=by have:=hcell 0 (by omega);rw [Nat.mul_one,Nat.add_zero] at this;exact this
 have hne:gb≠I.tb:=λe=>by
  obtain⟨cs',fz',h'⟩:=row_type h.got (b:=gb) rfl
  rw [e,h.blk] at h'
  simp only [Option.some.injEq,Obj.cells.injEq] at h'
  exact h.typ.1 h'.2.1
 obtain⟨x9,hx9⟩:∃ x9,x9=t.got.getD t.at_ 0:=⟨_,rfl⟩
 rw [<-hx9] at q0 ⊢
 have c3:w.cell? ⟨I.tb,I.pre.length+3,none⟩=some (.slice (some ⟨gb,off,none⟩) t.got.length gc):=h.cell (i:=3) (by omega)
 have c5:w.cell? ⟨I.tb,I.pre.length+5,none⟩=some (.int .i64 (t.at_:Int)):=h.cell (i:=5) (by omega)
 have c7:w.cell? ⟨I.tb,I.pre.length+7,none⟩=some (.bool false):=by rw [h.cell (i:=7) (by omega),<-hh];rfl
 have Q0:=Lib.hid q0;have HX:=Lib.hid hx9
 have C3:=grown_cell c3;have C5:=grown_cell c5
 obtain⟨k,hk⟩:∃ k,k=t.at_:=⟨_,rfl⟩
 obtain⟨n,hn⟩:∃ n,n=t.got.length:=⟨_,rfl⟩
 have l1:(k:Int)<(n:Int):=by omega
 have hnl:n<=100000000:=by omega
 have Hk:=Lib.hid hk;have Hn:=Lib.hid hn;have Hne:=Lib.hid hne;have Hgb:=Lib.hid hgb
 rw [<-hk] at C5;rw [<-hn] at C3
 clear q0 hx9 c3 c5 h hcell hsl hk hn hh hat hgl hne hgb
 go_enter Tryz.func116,Tryz.ntmps116
 go_wp2_with fail
 ((with_reducible refine wp_region_grown_lit (by kernel_rfl) (by kernel_rfl) ?_);(repeat ((with_reducible refine wpQuiet_step (λK hK=>?_));go_simp;((with_reducible refine hK _ ?_);clear hK K)));(with_reducible refine wpQuiet_nil ?_);intro _ hw';obtain⟨nq,hw''⟩:=hw';subst hw'')
 obtain⟨w0,hw0⟩:∃ w0,w0=nq.u:=⟨_,rfl⟩
 have hb0:=nq.below
 rw [<-hw0] at hb0 ⊢
 obtain⟨h0,hto0⟩:=T0.out.grown hb0
 have p3:w0.cell? ⟨I.tb,I.pre.length+3,none⟩=some (.slice (some ⟨gb,off,none⟩) n gc):=by rw [Hn.out];exact h0.cell (i:=3) (by omega)
 have p5:w0.cell? ⟨I.tb,I.pre.length+5,none⟩=some (.int .i64 (k:Int)):=by rw [Hk.out];exact h0.cell (i:=5) (by omega)
 have pf:w0.frozen? ⟨I.tb,I.pre.length+5,none⟩=false:=frozen_blk h0.blk _
 obtain⟨w1,hw1⟩:∃ w1,w1=w0.setCell ⟨I.tb,I.pre.length+5,none⟩ (.int .i64 ((k:Int)+1)):=⟨_,rfl⟩
 obtain⟨h1,hto1⟩:=h0.put (i:=5) (by omega) (.int .i64 ((k:Int)+1)) (t':={ t with at_:=t.at_+1 }) (by rw [Hk.out];rfl) rfl rfl
 rw [<-hw1] at h1 hto1
 have q1:w1.cell? ⟨gb,off+k,none⟩=some (.int .u64 (x9:Int)):=by
  rw [hw1,World.cell?_setCell_other _ _ _ _ (by simp;exact λe=>absurd e.symm Hne.out)]
  exact(hb0.cell (p:=⟨gb,off+k,none⟩) Hgb.out).trans (by rw [Hk.out];exact Q0.out)
 have r3:w1.cell? ⟨I.tb,I.pre.length+3,none⟩=some (.slice (some ⟨gb,off,none⟩) n gc):=by rw [Hn.out];exact h1.cell (i:=3) (by omega)
 have r5:w1.cell? ⟨I.tb,I.pre.length+5,none⟩=some (.int .i64 ((k:Int)+1)):=by rw [h1.cell (i:=5) (by omega),Hk.out];rfl
 have lw:IntKind.i64.wrap ((k:Int)+1)=(k:Int)+1:=by rw [IntKind.wrap_i64];omega
 have Hto1:=Lib.hid (hto0.trans hto1);have H1:=Lib.hid h1;have Hw1:=Lib.hid hw1
 have R3:=grown_cell r3;have R5:=grown_cell r5
 clear hto0 hto1 h0 h1 hw1 hw0 nq hb0 c7 C3 C5 r3 r5
 go_upto_region 5 with fail
 rw [<-Hw1.out]
 clear p3 p5 pf
 have m1:IntKind.i64.wrap (k:Int)=(k:Int):=by rw [IntKind.wrap_i64];omega
 have Q1:=grown_cell q1
 clear q1
 ((with_reducible refine wp_region_grown_lit (by kernel_rfl) (by kernel_rfl) ?_);(repeat ((with_reducible refine wpQuiet_step (λK hK=>?_));go_simp;((with_reducible refine hK _ ?_);clear hK K)));(with_reducible refine wpQuiet_nil ?_);intro _ hw';obtain⟨nq,hw''⟩:=hw';subst hw'')
 have hb5:=nq.below
 obtain⟨h5,hto5⟩:=H1.out.grown hb5
 have Hf:=Lib.hid (⟨_,_,_,h5,Hto1.out.trans hto5⟩:TapeOut w nq.u I (.slice (some ⟨gb,off,none⟩) t.got.length gc) K L { t with at_:=t.at_+1 } m now)
 clear h5 hto5 hb5
 go_wp2
 go_ret
 exact⟨rfl,Hf.out⟩
theorem access_end (kind a:Int) (x y:Nat) (h:TapeAt w I G K L t m now) (hh:t.halt=false) (hat:t.at_=t.got.length) (hf:t.fresh=false) :
  Calls Tryz.prog 116 #[.pointer (some ⟨I.tb,I.pre.length,none⟩),.int .i64 kind,.int .i64 a,.int .u64 (x:Int),.int .u64 (y:Int)] w λe w'=>e=.returned (.int .u64 0)/\TapeOut w w' I G K L { t with halt:=true } m now:=by
 have T0:=Lib.hid h
 have hgl:=h.glen
 obtain⟨ga,gc,rfl⟩:=row_form h.got
 obtain⟨n,hn⟩:∃ n,n=t.got.length:=⟨_,rfl⟩
 have c3:w.cell? ⟨I.tb,I.pre.length+3,none⟩=some (.slice ga n gc):=by rw [hn];exact h.cell (i:=3) (by omega)
 have c5:w.cell? ⟨I.tb,I.pre.length+5,none⟩=some (.int .i64 (n:Int)):=by rw [h.cell (i:=5) (by omega),hn,<-hat];rfl
 have c7:w.cell? ⟨I.tb,I.pre.length+7,none⟩=some (.bool false):=by rw [h.cell (i:=7) (by omega),<-hh];rfl
 have hnl:n<=100000000:=by omega
 have C3:=grown_cell c3;have C5:=grown_cell c5
 have HF:=Lib.hid hf;have Hh:=Lib.hid hh
 clear c3 c5 h hh hat hf hn hgl
 go_enter Tryz.func116,Tryz.ntmps116
 go_wp2_with fail
 ((with_reducible refine wp_region_grown_lit (by kernel_rfl) (by kernel_rfl) ?_);(repeat ((with_reducible refine wpQuiet_step (λK hK=>?_));go_simp;((with_reducible refine hK _ ?_);clear hK K)));(with_reducible refine wpQuiet_nil ?_);intro _ hw';obtain⟨nq,hw''⟩:=hw';subst hw'')
 obtain⟨w0,hw0⟩:∃ w0,w0=nq.u:=⟨_,rfl⟩
 have hb0:=nq.below
 rw [<-hw0] at hb0 ⊢
 obtain⟨h0,hto0⟩:=T0.out.grown hb0
 have c6:w0.cell? ⟨I.tb,I.pre.length+6,none⟩=some (.bool false):=by rw [h0.cell (i:=6) (by omega),<-HF.out];rfl
 have d7:w0.cell? ⟨I.tb,I.pre.length+7,none⟩=some (.bool false):=by rw [h0.cell (i:=7) (by omega),<-Hh.out];rfl
 have pf:w0.frozen? ⟨I.tb,I.pre.length+7,none⟩=false:=frozen_blk h0.blk _
 obtain⟨h1,hto1⟩:=h0.put (i:=7) (by omega) (.bool true) (t':={ t with halt:=true }) rfl rfl rfl
 have Hf:=Lib.hid (⟨_,_,_,h1,hto0.trans hto1⟩:TapeOut w (w0.setCell ⟨I.tb,I.pre.length+7,none⟩ (.bool true)) I (.slice ga t.got.length gc) K L { t with halt:=true } m now)
 clear h0 hto0 h1 hto1 nq hw0 hb0 C3 C5 c7
 go_wp2
 go_ret
 exact⟨rfl,Hf.out⟩
end one
section r
variable {B:RBase} {w:World} {t:TapeP} {r:RWD}
set_option maxHeartbeats 1000000 in
theorem access_r (h:RAt B w t r) (kd a:Int) (x y:Nat) (hx:x<18446744073709551616) (hy:y<18446744073709551616) :
  Calls Tryz.prog 116 #[.pointer (some ⟨B.I.tb,B.I.pre.length,none⟩),.int .i64 kd,.int .i64 a,.int .u64 (x:Int),.int .u64 (y:Int)] w λe w'=>e=.returned (.int .u64 ((accP kd a x y t r).1:Int))/\RAt B w' (accP kd a x y t r).2.1 (accP kd a x y t r).2.2:=by
 obtain⟨G,K,L,h1,h2⟩:=id h
 obtain⟨PV,LV,KV,ht,hl⟩:=h1.lift
 unfold accP
 by_cases hh:t.halt=true
 ·rw [if_pos hh]
  refine(access_halt B.I.tids G K L (t.raw PV LV KV) r.mem r.now w kd a x y ht hh).mono ?_
  rintro e w' ⟨rfl,rfl⟩
  exact⟨rfl,h⟩
 ·rw [if_neg hh]
  have hh':t.halt=false:=by simpa using hh
  by_cases hat:t.at_<t.got.length
  ·rw [if_pos hat]
   refine(access_old B.I.tids G K L (t.raw PV LV KV) r.mem r.now w kd a x y ht hh' hat).mono ?_
   rintro e w' ⟨rfl,G',K',L',h3,h4⟩
   obtain⟨h5,h6⟩:=hl (t':={ t with at_:=t.at_+1 }) (r':=r) h3 h4 rfl rfl rfl rfl rfl hat h1.tl h1.room
   exact⟨rfl,G',K',L',h5,h2.trans h6⟩
  ·rw [if_neg hat]
   have hat':t.at_=t.got.length:=by have:=h1.at_le;omega
   by_cases hf:t.fresh=true
   ·rw [if_pos hf]
    obtain⟨r1,r2⟩:=h1.room hf hh'
    refine(access_new B.I.tids G K L (t.raw PV LV KV) r.mem r.now kd a x y w ht hh' hf hat' hx hy r1 r2 (by show t.ticks.length+1<=_;rw [h1.tl];exact r2)).mono ?_
    rintro e w' ⟨rfl,G',K',L',h3,h4⟩
    obtain⟨h5,h6⟩:=hl (t':={ t with got:=t.got++[(memAcc r.mem kd a x y).2],ticks:=t.ticks++[(r.now:Int)],at_:=t.at_+1,fresh:=false }) (r':={ r with mem:=(memAcc r.mem kd a x y).1 }) h3 h4 rfl rfl rfl rfl rfl (by simp only [List.length_append,List.length_singleton];omega) (by simp only [List.length_append,List.length_singleton,h1.tl]) (λe=>by cases e)
    exact⟨rfl,G',K',L',h5,h2.trans h6⟩
   ·rw [if_neg hf]
    refine(access_end B.I.tids G K L (t.raw PV LV KV) r.mem r.now w kd a x y ht hh' hat' (show t.fresh=false by simpa using hf)).mono ?_
    rintro e w' ⟨rfl,G',K',L',h3,h4⟩
    obtain⟨h5,h6⟩:=hl (t':={ t with halt:=true }) (r':=r) h3 h4 rfl rfl rfl rfl rfl h1.at_le h1.tl (λ_ e=>by cases e)
    exact⟨rfl,G',K',L',h5,h2.trans h6⟩
theorem tread_r (h:RAt B w t r) (a:Int) :
  Calls Tryz.prog 88 #[.pointer (some ⟨B.I.tb,B.I.pre.length,none⟩),.int .i64 a] w λe w'=>e=.returned (.int .u64 ((accP 0 a 0 0 t r).1:Int))/\RAt B w' (accP 0 a 0 0 t r).2.1 (accP 0 a 0 0 t r).2.2:=by
 have A:=Lib.hid (access_r h 0 a 0 0 (by decide) (by decide))
 obtain⟨Z,hZ⟩:∃ Z,Z=accP 0 a 0 0 t r:=⟨_,rfl⟩
 rw [<-hZ] at A ⊢
 clear h hZ
 go_enter Tryz.func88,Tryz.ntmps88
 go_wp2_with (go_at_call 116;refine(A.out).mono ?_;rintro e w' ⟨rfl,h1⟩)
 go_ret
 exact⟨rfl,h1⟩
theorem tadd_r (h:RAt B w t r) (a:Int) (d:Nat) (hd:d<18446744073709551616) :
  Calls Tryz.prog 91 #[.pointer (some ⟨B.I.tb,B.I.pre.length,none⟩),.int .i64 a,.int .u64 (d:Int)] w λe w'=>e=.returned (.int .u64 ((accP 3 a d 0 t r).1:Int))/\RAt B w' (accP 3 a d 0 t r).2.1 (accP 3 a d 0 t r).2.2:=by
 have A:=Lib.hid (access_r h 3 a d 0 hd (by decide))
 obtain⟨Z,hZ⟩:∃ Z,Z=accP 3 a d 0 t r:=⟨_,rfl⟩
 rw [<-hZ] at A ⊢
 clear h hZ
 go_enter Tryz.func91,Tryz.ntmps91
 go_wp2_with (go_at_call 116;refine(A.out).mono ?_;rintro e w' ⟨rfl,h1⟩)
 go_ret
 exact⟨rfl,h1⟩
theorem twrite_r (h:RAt B w t r) (a:Int) (d:Nat) (hd:d<18446744073709551616) :
  Calls Tryz.prog 89 #[.pointer (some ⟨B.I.tb,B.I.pre.length,none⟩),.int .i64 a,.int .u64 (d:Int)] w λe w'=>e=.returned (.tuple #[])/\RAt B w' (accP 1 a d 0 t r).2.1 (accP 1 a d 0 t r).2.2:=by
 have A:=Lib.hid (access_r h 1 a d 0 hd (by decide))
 obtain⟨Z,hZ⟩:∃ Z,Z=accP 1 a d 0 t r:=⟨_,rfl⟩
 rw [<-hZ] at A ⊢
 clear h hZ
 go_enter Tryz.func89,Tryz.ntmps89
 go_wp2_with (go_at_call 116;refine(A.out).mono ?_;rintro e w' ⟨rfl,h1⟩)
 (go_end0)
 exact⟨rfl,h1⟩
theorem tswap_r (h:RAt B w t r) (a:Int) (x y:Nat) (hx:x<18446744073709551616) (hy:y<18446744073709551616) :
  Calls Tryz.prog 90 #[.pointer (some ⟨B.I.tb,B.I.pre.length,none⟩),.int .i64 a,.int .u64 (x:Int),.int .u64 (y:Int)] w λe w'=>e=.returned (.bool ((accP 2 a x y t r).1 == 1))/\RAt B w' (accP 2 a x y t r).2.1 (accP 2 a x y t r).2.2:=by
 have A:=Lib.hid (access_r h 2 a x y hx hy)
 obtain⟨Z,hZ⟩:∃ Z,Z=accP 2 a x y t r:=⟨_,rfl⟩
 rw [<-hZ] at A ⊢
 obtain⟨v,t',r'⟩:=Z
 clear h hZ
 by_cases hv:v=1
 ·subst hv
  have A1:=Lib.hid (show Calls Tryz.prog 116 #[.pointer (some ⟨B.I.tb,B.I.pre.length,none⟩),.int .i64 2,.int .i64 a,.int .u64 (x:Int),.int .u64 (y:Int)] w λe w'=>e=.returned (.int .u64 1)/\RAt B w' t' r' from A.out)
  clear A
  go_enter Tryz.func90,Tryz.ntmps90
  go_wp2_with (go_at_call 116;refine(A1.out).mono ?_;rintro e w' ⟨rfl,h1⟩)
  go_ret
  exact⟨rfl,h1⟩
 ·have hb:(v == 1)=false:=by simp [hv]
  have hb2:((v:Int) == 1)=false:=by simp;omega
  have hb3:¬ (v:Int)=1:=by omega
  have A1:=Lib.hid (show Calls Tryz.prog 116 #[.pointer (some ⟨B.I.tb,B.I.pre.length,none⟩),.int .i64 2,.int .i64 a,.int .u64 (x:Int),.int .u64 (y:Int)] w λe w'=>e=.returned (.int .u64 (v:Int))/\RAt B w' t' r' from A.out)
  clear A
  rw [hb]
  go_enter Tryz.func90,Tryz.ntmps90
  go_wp2_with (go_at_call 116;refine(A1.out).mono ?_;rintro e w' ⟨rfl,h1⟩)
  go_ret
  exact⟨by simp,h1⟩
end r
end
section

/- Layer 5's reference: Wrong, and Now: the first call of a thread that is not finished. -/
open Go.RowKit
theorem rwrong_any (n:Int) (l:List CallD) (a:Option Addr) (c:Nat) (w:World) (hs:SlAt w a l.length 6 (callG l)) :
  Calls Tryz.prog 54 #[.int .i64 n,.slice a l.length c] w λe w'=>e=.returned (.int .i64 (wrongN n l))/\Below w.heap.size w w':=by
 have hm:=hs.1
 unfold maxLen at hm
 have Hs:=Lib.hid hs;clear hs
 obtain⟨R,hR⟩:∃ R,R=wrongN n l:=⟨_,rfl⟩
 rw [<-hR]
 have HR:=Lib.hid hR;clear hR
 by_cases h1:n<1
 ·have hr:R=1:=by rw [HR.out];unfold wrongN;rw [if_pos (.inl h1)]
  subst hr
  go_enter Tryz.func54,Tryz.ntmps54
  go_wp2
  go_ret
  exact⟨rfl,Gr.refl _⟩
 by_cases h2:16<n
 ·have hr:R=1:=by rw [HR.out];unfold wrongN;rw [if_pos (.inr h2)]
  subst hr
  go_enter Tryz.func54,Tryz.ntmps54
  go_wp2
  go_ret
  exact⟨rfl,Gr.refl _⟩
 by_cases h3:1000<l.length
 ·have hr:R=3:=by rw [HR.out];unfold wrongN;rw [if_neg (by omega),if_pos h3]
  subst hr
  have h4:(1000:Int)<l.length:=by omega
  go_enter Tryz.func54,Tryz.ntmps54
  go_wp2
  go_ret
  exact⟨rfl,Gr.refl _⟩
 have hr:R=if anyBad n l=true then 1 else 0:=by rw [HR.out];unfold wrongN;rw [if_neg (by omega),if_neg h3];rfl
 have HR2:=Lib.hid hr
 clear hr HR
 go_enter Tryz.func54,Tryz.ntmps54
 go_wp2
 go_loopw [5,17] (λ_ i wr=>∃ k:Nat,k<=l.length/\i=.int .i64 k/\Hid (∀ j,(h:j<k)->(hl:j<l.length)->badT n l[j]=false)/\Below w.heap.size w wr) (λ_ i _=>l.length - (intOf i).toNat)
 case atStart=>exact⟨0,Nat.zero_le _,rfl,λj h=>absurd h (Nat.not_lt_zero j),Gr.refl _⟩
 case round=>
  obtain⟨k,hk,rfl,hok,hb⟩:=hrel
  by_cases hlt:k<l.length
  ·obtain⟨b,off,rfl,c0,_⟩:=call_cells Hs.out hb hlt
   obtain⟨t,ht⟩:∃ t,t=l[k].thread:=⟨_,rfl⟩
   rw [<-ht] at c0
   have Ht:=Lib.hid ht;clear ht
   have hl1:(k:Int)<l.length:=by omega
   by_cases hb1:t<0
   ·have hbad:R=1:=by rw [HR2.out,if_pos (by unfold anyBad;exact List.any_eq_true.2 ⟨l[k],List.getElem_mem hlt,by unfold badT;rw [<-Ht.out];simp [hb1]⟩)]
    subst hbad
    have hd:decide (t<0)=true:=by simpa using hb1
    go_wp2
    all_goals go_ret
    all_goals exact⟨rfl,hb⟩
   ·by_cases hb2:n<=t
    ·have hbad:R=1:=by rw [HR2.out,if_pos (by unfold anyBad;exact List.any_eq_true.2 ⟨l[k],List.getElem_mem hlt,by unfold badT;rw [<-Ht.out];simp [hb2]⟩)]
     subst hbad
     go_wp2
     all_goals go_ret
     all_goals exact⟨rfl,hb⟩
    ·go_wp2
     go_roundw
     case rel=>
      refine⟨k+1,by omega,by go_num,?_,hb⟩
      intro j h hl
      rcases Nat.lt_succ_iff_lt_or_eq.1 h with h|rfl
      ·exact hok.out j h hl
      ·unfold badT;rw [<-Ht.out];simp;omega
     case measure=>simp [intOf]<;>omega
  ·obtain rfl:k=l.length:=by omega
   have hz:R=0:=by
    rw [HR2.out,if_neg]
    unfold anyBad
    rw [List.any_eq_true]
    rintro⟨x,hx,hbx⟩
    obtain⟨j,hj,rfl⟩:=List.getElem_of_mem hx
    rw [hok.out j hj hj] at hbx
    cases hbx
   subst hz
   go_wp2
   go_ret
   exact⟨rfl,hb⟩
theorem rnow_any (l:List CallD) (fin:List Bool) (p:Int) (a a2:Option Addr) (c c2:Nat) (w:World) (hs:SlAt w a l.length 6 (callG l)) (hs2:SlAt w a2 l.length 1 (boolG fin)) :
  Calls Tryz.prog 40 #[.slice a l.length c,.slice a2 l.length c2,.int .i64 p] w λe w'=>e=.returned (.int .i64 (nowI (nowN l fin p)))/\w=w':=by
 have hm:=hs.1
 unfold maxLen at hm
 have Hs:=Lib.hid hs;have Hs2:=Lib.hid hs2;clear hs hs2
 obtain⟨R,hR⟩:∃ R,R=nowI (nowN l fin p):=⟨_,rfl⟩
 rw [<-hR]
 have HR:=Lib.hid hR;clear hR
 go_enter Tryz.func40,Tryz.ntmps40
 go_wp2
 go_loop [7,10] (λ_ i=>∃ k:Nat,k<=l.length/\i=.int .i64 k/\Hid (∀ j,(h:j<k)->nowIs l fin p j=false)) (λ_ i=>l.length - (intOf i).toNat)
 case atStart=>exact⟨0,Nat.zero_le _,rfl,λj h=>absurd h (Nat.not_lt_zero j)⟩
 case round=>
  obtain⟨k,hk,rfl,hok⟩:=hrel
  by_cases hlt:k<l.length
  ·obtain⟨b,off,rfl,c0,_⟩:=call_cells Hs.out (Gr.refl w) hlt
   obtain⟨b2,off2,rfl,hc2⟩:=Hs2.out.elem (Gr.refl w) hlt
   obtain⟨f,hf⟩:∃ f,f=fin.getD k false:=⟨_,rfl⟩
   have c1:w.cell? ⟨b2,off2+k,none⟩=some (.bool f):=by have h0:=hc2 0 (by omega);rw [Nat.mul_one,Nat.add_zero] at h0;rw [h0,hf];rfl
   obtain⟨t,ht⟩:∃ t,t=l[k].thread:=⟨_,rfl⟩
   rw [<-ht] at c0
   have hns:nowIs l fin p k=(decide (t=p) && !f):=by unfold nowIs;rw [<-hf,List.getD_eq_getElem?_getD];simp [hlt,<-ht]
   have Hns:=Lib.hid hns
   have hl1:(k:Int)<l.length:=by omega
   clear hc2 hf ht hns
   have hstep:nowIs l fin p k=false->Hid (∀ j,(h:j<k+1)->nowIs l fin p j=false):=λhn j h=>by
    rcases Nat.lt_succ_iff_lt_or_eq.1 h with h|rfl
    ·exact hok.out j h
    ·exact hn
   by_cases h1:t=p
   ·have hbeq:(t == p)=true:=by simpa using h1
    cases f with
    | false=>
     have hfound:R=(k:Int):=by
      rw [HR.out]
      unfold nowN
      rw [find_range_split _ _ k hk hok.out,show l.length - k=(l.length - k - 1)+1 by omega,List.range_succ_eq_map]
      simp [Hns.out,h1,nowI]
     have Hf:=Lib.hid hfound
     clear hstep h1 hfound
     go_wp2
     go_ret
     exact⟨ret_i64 Hf.out.symm,rfl⟩
    | true=>
     have Hst:=Lib.hid (hstep (by rw [Hns.out];simp))
     clear hstep h1
     go_wp2
     go_round
     case rel=>exact⟨k+1,by omega,by go_num,Hst.out⟩
     case measure=>simp [intOf]<;>omega
   ·have hbeq:(t == p)=false:=by simpa using h1
    have Hst:=Lib.hid (hstep (by rw [Hns.out];simp [h1]))
    clear hstep h1
    go_wp2
    go_round
    case rel=>exact⟨k+1,by omega,by go_num,Hst.out⟩
    case measure=>simp [intOf]<;>omega
  ·obtain rfl:k=l.length:=by omega
   have hnone:R=-1:=by
    rw [HR.out]
    unfold nowN
    rw [find_range_split _ _ l.length (Nat.le_refl _) hok.out]
    simp [nowI]
   subst hnone
   go_wp2
   go_ret
   exact⟨rfl,rfl⟩
end
section

/- Layer 6: cells as the loom's object. -/
open Go.RowKit
section
variable (w:World) (Mut:Nat->Prop) (I:WIds) (N:Nat) (wd:WD) (b bc ba:Nat) (c:CallD)
end
end
section

/- Layer 6: loom.Cells. -/
open Go.RowKit
end
section

/- Layer 6: the rows of a report (6.3), in plain numbers. -/
open Go.RowKit
def Within (k:List Int) (inv resp:Nat):Prop:=k≠[]/\2*(inv:Int)<=k.headD 0/\k.headD 0<=2*(resp:Int)
structure KeySys (S:Sys):Prop where
 now:∀ o wd p s,(S.step o wd p s).2.1.now=wd.now
 mlen:∀ o wd p s,(S.step o wd p s).2.1.marks.length=wd.marks.length
 mark:∀ o wd p s q,(S.step o wd p s).2.1.marks.getD q []=wd.marks.getD q []∨∃ rest,(S.step o wd p s).2.1.marks.getD q []=2*(wd.now:Int)::rest
 ans:∀ s,(S.answer s).2=[]
 late:∀ o wd p s,S.late o wd p s=none
structure KeyInv {S:Sys} (calls:List CallD) (st:PlayD S):Prop where
 good:StGood calls st
 m16:st.wd.marks.length=16
 keys:∀ i,i<st.evs.length->(evAt st.evs i).resp≠0->Within (evAt st.evs i).key (evAt st.evs i).inv (evAt st.evs i).resp
 none_:∀ i,i<st.evs.length->(evAt st.evs i).resp=0->(evAt st.evs i).key=[]
 marks:∀ p k,hndOf st.hands p=some k->st.wd.marks.getD p []=[]∨Within (st.wd.marks.getD p []) (evAt st.evs k).inv st.wd.now
variable {S:Sys}
theorem Within.more {k:List Int} {inv a b:Nat} (h:Within k inv a) (hab:a<=b):Within k inv b:=⟨h.1,h.2.1,by have:=h.2.2;omega⟩
end
section

/- Layer 6: a report's rows, in plain numbers: what roundelayplain.Rows asks for. -/
open Go.RowKit
variable {S:Sys}
structure RowGood (calls:List CallD) (n:Nat) (ticks:Nat) (e:EvD):Prop where
 call:e.call<calls.length
 thr:0<=(calls.getD e.call d0).thread/\(calls.getD e.call d0).thread<n
 inv1:1<=e.inv
 invt:e.inv<=ticks
 steps:1<=e.steps
 resp:e.resp≠0->e.inv<=e.resp/\e.resp<=ticks/\e.steps<=e.resp - e.inv+1/\Within e.key e.inv e.resp
 open_:e.resp=0->e.key=[]∨Within e.key e.inv ticks
structure RowsGood (calls:List CallD) (n:Nat) (r:RepD):Prop where
 n1:1<=n
 n16:n<=16
 ev:∀ i,i<r.evs.length->RowGood calls n r.ticks (evAt r.evs i)
 rise:∀ i j,i<j->j<r.evs.length->(evAt r.evs i).inv<(evAt r.evs j).inv
 same:∀ i j,i<j->j<r.evs.length->tn calls (evAt r.evs i)=tn calls (evAt r.evs j)->(evAt r.evs i).resp≠0/\(evAt r.evs i).resp<(evAt r.evs j).inv/\(evAt r.evs i).call<(evAt r.evs j).call
 sum:(r.evs.map (·.steps)).sum=r.ticks
 fault:r.c.fault=0
 all:r.c.read+r.c.write+r.c.swap+r.c.add<=r.ticks
 small:r.ticks<1000000
structure KeysFit (st:PlayD S):Prop where
 keys:∀ i,i<st.evs.length->(evAt st.evs i).resp≠0->Within (evAt st.evs i).key (evAt st.evs i).inv (evAt st.evs i).resp
 late:∀ p s k,st.hands.getD p (none,0)=(some s,k)->(S.late st.obj st.wd p s).getD (st.wd.marks.getD p [])=[]∨Within ((S.late st.obj st.wd p s).getD (st.wd.marks.getD p [])) (evAt st.evs k).inv st.wd.now
end
section

/- Counting events of a play, in plain numbers. -/
open Go.RowKit
def cnt (P:EvD->Bool) (l:List EvD):Nat:=(l.map λe=>if P e then 1 else 0).sum
theorem cnt_nil (P:EvD->Bool):cnt P []=0:=rfl
theorem cnt_cons (P:EvD->Bool) (e:EvD) (l:List EvD):cnt P (e::l)=(if P e then 1 else 0)+cnt P l:=rfl
theorem cnt_append (P:EvD->Bool) (l m:List EvD):cnt P (l++m)=cnt P l+cnt P m:=by unfold cnt;rw [List.map_append,List.sum_append]
theorem cnt_set (P:EvD->Bool) (l:List EvD) (k:Nat) (e:EvD) (hk:k<l.length):cnt P (l.set k e)+(if P (evAt l k) then 1 else 0)=cnt P l+(if P e then 1 else 0):=sum_map_set _ l k e hk
theorem cnt_mono {P Q:EvD->Bool}:∀ {l:List EvD},(∀ i,i<l.length->P (evAt l i)=true->Q (evAt l i)=true)->cnt P l<=cnt Q l
 | [],_=>Nat.le_refl _
 | e::l,h=>by
  rw [cnt_cons,cnt_cons]
  have h1:=cnt_mono (P:=P) (Q:=Q) (l:=l) (λi hi hp=>h (i+1) (by simp;omega) hp)
  have h2:=h 0 (by simp)
  have h3:evAt (e::l) 0=e:=rfl
  rw [h3] at h2
  cases hp:P e with
  | true=>rw [h2 hp];simp;omega
  | false=>simp;omega
variable {S:Sys}
theorem From.cnt {calls:List CallD} {st:PlayD S} {q i k:Nat} {s:S.σ} {evs0:List EvD} {wd0:WD} (h:From calls st q i k s evs0 wd0) {P:EvD->Bool} (hP:∀ e,e.resp=0->P e=false) (e:EvD):cnt P (evs0.set k e)=cnt P st.evs+(if P e then 1 else 0):=by
 have h1:=cnt_set P evs0 k e h.len
 rw [hP _ h.open_] at h1
 have h2:Go.Proofs.YtfkokppncipgnaaGreat.cnt P evs0=Go.Proofs.YtfkokppncipgnaaGreat.cnt P st.evs:=by
  cases h with
  | old k s hh hk hc hr=>rfl
  | new s hh hs=>rw [cnt_append,cnt_cons,hP _ rfl,cnt_nil];simp
 rw [h2] at h1
 simpa using h1
end
section

/- Layer 6: the order of keys, in plain lists. -/
open Go.RowKit
end
section

/- Layer 9: adder.Play. -/
open Go.RowKit
abbrev adderS:Sys:=onceSys adderRef adderAct
end
section

/- Layer 9: tickets, in plain numbers. -/
open Go.RowKit
structure TkInv (st:PlayD adderS) (k:Nat):Prop where
 h16:st.hands.length=16
 none_:∀ p,(st.hands.getD p (none,0)).1=none
 now:st.wd.now=st.evs.length
 ws:st.wd.mem.ws=[st.evs.length]
 evs:∀ i,i<st.evs.length->(st.evs.getD i ev0).ans.val=i/\(st.evs.getD i ev0).resp=i+1
 len:st.evs.length<=k
end
section

/- Layer 9: the walk of AdderTickets. -/
open Go.RowKit
theorem RepAt.event {X:Nat->Prop} {B:Nat} {w:World} {ea:Option Addr} {en ec:Nat} {wv:Value} {ers:List (Value×Value)} {r:RepD} (h:RepAt X B w (.slice ea en ec) wv ers r) (hn:en=r.evs.length) (h0:0<en) :
  ∃ g,ea=some ⟨g,0,none⟩/\g<w.heap.size/\∀ i f,i<en->f<8->w.cell? ⟨g,i*8+f,none⟩=(evCells (r.evs.getD i ev0) (ers.getD i vv0))[f]?:=by
 obtain⟨g,c,h1,h2,h3⟩:=h.row.form (by omega)
 simp only [Value.slice.injEq] at h1
 obtain⟨rfl,h4,h5⟩:=h1
 refine⟨g,rfl,h3,λi f hi hf=>?_⟩
 have hr:=h.row
 rw [<-hn] at hr
 rw [hr.cellAt _ (by omega),evRow_get _ _ _ _ h.elen.symm (by omega) hf]
theorem RepAt.word {X:Nat->Prop} {B:Nat} {w:World} {ev:Value} {va:Option Addr} {vn vc:Nat} {ers:List (Value×Value)} {r:RepD} (h:RepAt X B w ev (.slice va vn vc) ers r) (hn:vn=r.words.length) (h0:0<vn) :
  ∃ q,va=some ⟨q,0,none⟩/\q<w.heap.size/\∀ j,j<vn->w.cell? ⟨q,j,none⟩=some (.int .u64 ((r.words.getD j 0:Nat):Int)):=by
 obtain⟨g,c,h1,h2,h3⟩:=h.words.form (by omega)
 simp only [Value.slice.injEq] at h1
 obtain⟨rfl,h4,h5⟩:=h1
 refine⟨g,rfl,h3,λj hj=>?_⟩
 have hr:=h.words
 rw [<-hn] at hr
 rw [hr.cellAt _ (by omega)]
 simp [u64V,List.getD_eq_getElem?_getD,show j<r.words.length by omega]
def callL (c:CallD):List Value:=[.int .i64 c.thread,.int .i64 c.obj,.int .i64 c.kind,.int .u64 (c.a:Int),.int .u64 (c.b:Int),.int .u64 (c.c:Int)]
theorem callL_get:∀(l:List CallD) (j f:Nat),j<l.length->f<6->(l.flatMap callL)[j*6+f]?=some (callG l j f)
 | [],j,_,h,_=>by simp at h
 | c::l,0,f,_,hf=>by
  simp only [List.flatMap_cons,Nat.zero_mul,Nat.zero_add]
  rw [List.getElem?_append_left (by simpa [callL] using hf)]
  match f,hf with
  | 0,_=>rfl
  | 1,_=>rfl
  | 2,_=>rfl
  | 3,_=>rfl
  | 4,_=>rfl
  | 5,_=>rfl
 | c::l,j+1,f,h,hf=>by
  simp only [List.flatMap_cons]
  rw [List.getElem?_append_right (by simp [callL];omega),show(j+1)*6+f - (callL c).length=j*6+f by simp [callL];omega,callL_get l j f (by simpa using h) hf]
  simp [callG]
theorem calls_block {w:World} {b:Nat} {l:List CallD} {fz:Nat×Nat} (h:w.heap[b]?=some (.cells (l.flatMap callL).toArray 48 fz)) (hl:l.length<=1000000):SlAt w (some ⟨b,0,none⟩) l.length 6 (callG l):=by
 refine⟨by unfold maxLen;omega,λj hj=>⟨b,0,rfl,blk_lt h,λf hf=>?_⟩⟩
 rw [Nat.zero_add,cell_blk h]
 simpa using callL_get l j f hj hf
theorem ints_block {w:World} {b:Nat} {l:List Int} {fz:Nat×Nat} (h:w.heap[b]?=some (.cells (l.map (Value.int .i64)).toArray 3 fz)) (hl:l.length<=1000000):SlAt w (some ⟨b,0,none⟩) l.length 1 (intG l):=by
 refine⟨by unfold maxLen;omega,λj hj=>⟨b,0,rfl,blk_lt h,λf hf=>?_⟩⟩
 obtain rfl:f=0:=by omega
 rw [cell_blk h]
 simp [intG,List.getD_eq_getElem?_getD,hj]
theorem callOk_small {t k:Int} (h1:0<=t) (h2:t<16) (h3:0<=k) (h4:k<16) {a b c:Nat} (ha:a<100) (hb:b<100) (hc:c<100):CallOk ⟨t,0,k,a,b,c⟩:=
 ⟨by simp [Lit.wf,IntKind.min,IntKind.max,IntKind.signed,IntKind.bits];omega,by rfl,by simp [Lit.wf,IntKind.min,IntKind.max,IntKind.signed,IntKind.bits];omega,by simp only;omega,by simp only;omega,by simp only;omega⟩
end
section

/- Layer 6: the order of keys: the walks of ahead, Order. -/
open Go.RowKit
end
section

/- Layer 7: the walk of ConsAgrees. -/
open Go.RowKit
def manyB (l p:Nat):Bool:=decide ((60<l/\l<=1000)∨(600<p/\p<=65536)∨1100<l)
theorem many_any (ca pa:Option Addr) (l p cc pc:Nat) (w:World) (hl:l<=maxLen) (hp:p<=maxLen) :
    Calls Tryz.prog 7 #[.slice ca l cc,.slice pa p pc] w λe w'=>e=.returned (.bool (manyB l p))/\w=w':=by
  unfold maxLen at hl hp
  obtain⟨b,hb⟩:∃ b,b=manyB l p:=⟨_,rfl⟩
  rw [<-hb]
  by_cases h1:(60:Int)<(l:Int)<;>by_cases h2:(l:Int)<=1000<;>by_cases h3:(600:Int)<(p:Int)<;>by_cases h4:(p:Int)<=65536<;>by_cases h5:(1100:Int)<(l:Int)
  all_goals first|(exfalso;omega)|skip
  all_goals
    have hv:b=decide ((60<l/\l<=1000)∨(600<p/\p<=65536)∨1100<l):=hb
    first
      | (have hb2:b=true:=by rw [hv];simp;omega
         subst hb2;clear hb hv
         go_enter Tryz.func7,Tryz.ntmps7
         go_wp2
         go_ret
         exact⟨rfl,rfl⟩)
      | (have hb2:b=false:=by rw [hv];simp;omega
         subst hb2;clear hb hv
         go_enter Tryz.func7,Tryz.ntmps7
         go_wp2
         go_ret
         exact⟨rfl,rfl⟩)
end
section

/- A report's events, as the laws' checks meet them. -/
open Go.RowKit
theorem RepAt.ev8 {X:Nat->Prop} {B:Nat} {w wr:World} {ea:Option Addr} {en ec:Nat} {wv:Value} {ers:List (Value×Value)} {r:RepD} (h:RepAt X B w (.slice ea en ec) wv ers r) (hn:en=r.evs.length) {k:Nat} (hk:k<en) (hb:Below w.heap.size w wr) :
  ∃ g la lc ka kc,ea=some ⟨g,0,none⟩/\g<wr.heap.size/\
   wr.cell? ⟨g,k*8,none⟩=some (.int .i64 ((evAt r.evs k).call:Int))/\wr.cell? ⟨g,k*8+1,none⟩=some (.int .i64 ((evAt r.evs k).inv:Int))/\wr.cell? ⟨g,k*8+2,none⟩=some (.int .i64 ((evAt r.evs k).resp:Int))/\wr.cell? ⟨g,k*8+3,none⟩=some (.int .i64 ((evAt r.evs k).steps:Int))/\
   wr.cell? ⟨g,k*8+4,none⟩=some (.int .i64 (evAt r.evs k).ans.err)/\wr.cell? ⟨g,k*8+5,none⟩=some (.int .u64 ((evAt r.evs k).ans.val:Int))/\wr.cell? ⟨g,k*8+6,none⟩=some (.slice la (evAt r.evs k).ans.list.length lc)/\wr.cell? ⟨g,k*8+7,none⟩=some (.slice ka (evAt r.evs k).key.length kc)/\
   SlAt wr la (evAt r.evs k).ans.list.length 1 (u64G (evAt r.evs k).ans.list)/\SlAt wr ka (evAt r.evs k).key.length 1 (intG (evAt r.evs k).key)/\((evAt r.evs k).key=[]->ka=none/\kc=0):=by
 obtain⟨g,rfl,hg,hev⟩:=h.event hn (by omega)
 have hans:=h.ans k (by rw [<-hn];exact hk)
 obtain⟨V,hV⟩:∃ V,V=ers.getD k vv0:=⟨_,rfl⟩
 rw [<-hV] at hans
 obtain⟨⟨la,lc,hlv,hls,_⟩,⟨ka,kc,hkv,hkn,hks,_⟩⟩:=hans
 have hcells:∀ f,f<8->wr.cell? ⟨g,k*8+f,none⟩=(evCells (evAt r.evs k) V)[f]?:=λf hf=>by rw [hb.cell hg,hev k f hk hf,hV];rfl
 refine⟨g,la,lc,ka,kc,rfl,Nat.lt_of_lt_of_le hg hb.size,hcells 0 (by omega),hcells 1 (by omega),hcells 2 (by omega),hcells 3 (by omega),hcells 4 (by omega),hcells 5 (by omega),?_,?_,hls.grown hb,hks.grown hb,λh0=>?_⟩
 ·rw [hcells 6 (by omega)];exact congrArg some hlv
 ·rw [hcells 7 (by omega)];exact congrArg some hkv
 ·have:=hkn h0
  rw [hkv] at this
  simp only [Value.slice.injEq] at this
  exact⟨this.1,this.2.2⟩
end
section

/- Layer 6: the walk of roundelayplain.Order. -/
open Go.RowKit
theorem row_at {w:World} {B:Nat} {e:TypeId} {g n cap:Nat} {xs:List Value} (h:w.ownsRow B e 1 (.slice (some ⟨g,0,none⟩) n cap) n xs) {j:Nat} {u:Value} (hj:xs[j]?=some u):w.cell? ⟨g,j,none⟩=some u/\w.frozen? ⟨g,j,none⟩=false:=by
 have hc:=h
 obtain⟨h1,h2⟩:=h
 rcases h2 with⟨hv,_⟩|⟨g',cap',cur,hv,hg,hh,r1,r2,r3,r4⟩
 ·cases hv
 ·cases hv
  refine⟨?_,frozen_blk hh j⟩
  have:=hc.cells (g:=g) rfl j _ hj
  rw [addr_add0] at this
  exact this
end
end Go.Proofs.YtfkokppncipgnaaGreat
