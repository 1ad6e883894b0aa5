/- Layer 14: one that writes: to look whether all have left a buffer, and to fill it. -/
import Derived.Test.YtlepjmnhekeofaaP24
set_option maxRecDepth 100000
set_option linter.unusedVariables false
set_option linter.unusedSimpArgs false
set_option linter.unnecessarySimpa false
namespace Go.Proofs.Ytlepjmnhekeofaa
section
open Go.RowKit
structure PinAt (w:World) (bP bC n k:Nat) (o:PinO):Prop where
 blk:w.heap[bP]?=some (.cells (pinCells n k o.last o.now bC) 86 (0,0))
 come:w.heap[bC]?=some (.cells (o.come.map u64V).toArray 40 (0,0))
 len:o.come.length=n+1
 small:∀ x∈o.come,x<18446744073709551616
 lsm:o.last<18446744073709551616
 nle:o.now<=n
theorem PinAt.chg {w w':World} {bP bC n k:Nat} {o:PinO} {S:Nat->Prop} (h:PinAt w bP bC n k o) (hc:Chg S w w') (h1:¬ S bP) (h2:¬ S bC):PinAt w' bP bC n k o:=
 ⟨(hc.block _ (blk_lt h.blk) h1).trans h.blk,(hc.block _ (blk_lt h.come) h2).trans h.come,h.len,h.small,h.lsm,h.nle⟩
theorem PinAt.cellq {w:World} {bP bC n k:Nat} {o:PinO} (h:PinAt w bP bC n k o) {q:Nat} (hq:q<=n):w.cell? ⟨bC,q,none⟩=some (.int .u64 ((o.come.getD q 0:Nat):Int)):=by
 rw [cell_blk h.come]
 have:=h.len
 simp [u64V,List.getD_eq_getElem?_getD,show q<o.come.length by omega]
theorem PinAt.slice {w:World} {bP bC n k:Nat} {o:PinO} (h:PinAt w bP bC n k o):w.cell? ⟨bP,3,none⟩=some (.slice (some ⟨bC,0,none⟩) (n+1) (n+1)):=by rw [cell_blk h.blk];rfl
set_option maxHeartbeats 4000000 in
theorem wr_look (w:World) (Mut B:Nat->Prop) (I:WIds) (N:Nat) (wd:WD) (n k bP bC b v q i:Nat) (o:PinO) (hw:WorldAt w Mut I N wd) (hP:PinAt w bP bC n k o) (hbk:w.heap[b]?=some (.cells (piWr bP b v q i 0) 207 (0,0))) (hb:B b) (hB:∀ b,B b->Mut b/\¬ WSet I b) (hcn:wd.mem.c.all+1<1000000000000)
  (hq:q<=n) (hn:n<=16) (hne:bP≠b/\bC≠b) (hWP:¬ WSet I bP/\¬ WSet I bC) :
  Calls Try.prog 114 #[.pointer (some ⟨b,0,none⟩),.pointer (some ⟨I.bW,0,none⟩)] w λe w'=>OwnTo w w' Mut B I N (taRead wd (piLeft q)) b (if taGot wd (piLeft q)=o.come.getD q 0 then piWr bP b v q i 1 else piWr bP b v (piNext o.now (q+1)) i 0) 207 false e:=by
 obtain⟨s1,s2,s3⟩:=memSet_sub hw
 obtain⟨mks,hwb,_,_⟩:=hw.blk
 have x0:w.cell? ⟨I.bW,0,none⟩=some (.pointer (some ⟨I.bm,0,none⟩)):=by rw [cell_blk hwb];exact world_mem
 have y0:w.cell? ⟨b,0,none⟩=some (.pointer (some ⟨bP,0,none⟩)):=by rw [cell_blk hbk];rfl
 have y2:w.cell? ⟨b,2,none⟩=some (.int .i64 (q:Int)):=by rw [cell_blk hbk];rfl
 have y3:=hP.slice
 have y4:=hP.cellq hq
 obtain⟨cq,hcq⟩:∃ cq,cq=o.come.getD q 0:=⟨_,rfl⟩
 rw [<-hcq] at y4 ⊢
 have hblt:=blk_lt hbk
 have nb:¬ MemSet I.bm I.bw b:=λh=>(hB b hb).2 (s3 b h).1
 have nP:¬ MemSet I.bm I.bw bP:=λh=>hWP.1 (s3 bP h).1
 have nC:¬ MemSet I.bm I.bw bC:=λh=>hWP.2 (s3 bC h).1
 have Rd:=Lib.hid (λ(u:World) (h:Chg noB w u)=>read_any I.bm I.bw wd.mem ((piLeft q:Nat):Int) u (hw.mem.chg h (λh=>h) (λ_ _ h=>h)) hcn)
 have LF:=Lib.hid (λ(u:World) (h:Chg noB w u)=>pin_left bP bC n k o.last o.now q (by omega) u (hP.chg h (λh=>h) (λh=>h)).blk)
 obtain⟨r,hr⟩:∃ r,r=taGot wd (piLeft q):=⟨_,rfl⟩
 rw [show(memRead wd.mem ((piLeft q:Nat):Int)).2=r from hr.symm] at Rd
 rw [<-hr]
 obtain⟨lq,hlq⟩:∃ lq,lq=piLeft q:=⟨_,rfl⟩
 rw [<-hlq] at Rd LF ⊢
 obtain⟨R,hR⟩:∃ R,R=(if r=cq then piWr bP b v q i 1 else piWr bP b v (piNext o.now (q+1)) i 0):=⟨_,rfl⟩
 rw [<-hR]
 have HR:=Lib.hid hR
 have Hw:=Lib.hid hw;have Hbk:=Lib.hid hbk;have Nb:=Lib.hid nb;have HB:=Lib.hid hB;have Hb:=Lib.hid hb;have S2:=Lib.hid s2;have Hr:=Lib.hid hr;have NP:=Lib.hid nP;have NC:=Lib.hid nC;have HP:=Lib.hid hP;have Hne:=Lib.hid hne;have Hlq:=Lib.hid hlq
 have hqi:(q:Int)<((n+1:Nat):Int):=by omega
 have hq16:(q:Int)<=16:=by omega
 have wq1:IntKind.i64.wrap ((q:Int)+1)=(q:Int)+1:=by rw [IntKind.wrap_i64];omega
 have Hcq:=Lib.hid hcq
 clear hw hbk hwb s1 s2 s3 nb hB hb hr hq hn nP nC hP hne hWP hlq hcq hR
 obtain⟨n1,hn1⟩:∃ n1,n1=n+1:=⟨_,rfl⟩
 rw [<-hn1] at hqi y3
 have Hn1:=Lib.hid hn1
 clear hn1
 go_enter Try.func114,Try.ntmps114
 go_wp2_with fail
 go_region_held3 (λu=>u.cell? ⟨I.bW,0,none⟩=some (.pointer (some ⟨I.bm,0,none⟩))/\u.cell? ⟨b,0,none⟩=some (.pointer (some ⟨bP,0,none⟩))/\u.cell? ⟨b,2,none⟩=some (.int .i64 (q:Int))/\u.cell? ⟨bP,3,none⟩=some (.slice (some ⟨bC,0,none⟩) n1 n1)/\u.cell? ⟨bC,q,none⟩=some (.int .u64 (cq:Int)))
  (first|exact⟨x0,y0,y2,y3,y4⟩|exact⟨v0,u0,u2,u3,u4⟩|exact⟨z0,zw,z2,z3,z4⟩)
  (first|(go_at_call 112;refine(LF.out _ ?_).mono ?_;(exact(Chg.refl _ _).drew);rintro e w5 ⟨rfl,hb5⟩;have hc5:Chg noB w w5:=((Chg.refl _ w).drew).trans (Chg.of_below hb5);have v0:=box_keep hc5 (λh=>h) x0;have u0:=box_keep hc5 (λh=>h) y0;have u2:=box_keep hc5 (λh=>h) y2;have u3:=box_keep hc5 (λh=>h) y3;have u4:=box_keep hc5 (λh=>h) y4)|(go_at_call 115;refine(Rd.out _ hc5).mono ?_;rintro e w1 ⟨rfl,hm1,hc1⟩;have hc1':Chg (MemSet I.bm I.bw) w w1:=(hc5.mono (λ_ _ h=>h.elim)).trans hc1;have z0:=box_keep hc1' S2.out x0;have hbk1:=(hc1'.block b hblt Nb.out).trans Hbk.out;have zw:=box_keep hc1' Nb.out y0;have z2:=box_keep hc1' Nb.out y2;have z3:=box_keep hc1' NP.out y3;have z4:=box_keep hc1' NC.out y4;have zf2:=frozen_blk hbk1 2;have zf4:=frozen_blk hbk1 4))
 obtain⟨hw1,hch1⟩:=Hw.out.mems hc1' hm1
 have hP1:=HP.out.chg hc1' NP.out NC.out
 have fin:∀(u:World) (cs:Array Value),Chg (λk=>k=b) w1 u->u.heap[b]?=some (.cells cs 207 (0,0))->cs=R->OwnTo w u Mut B I N (taRead wd lq) b R 207 false (.returned (.bool false)):=by
  rintro u cs hu hbu rfl
  exact own_fin hw1 hch1 Hb.out HB.out hu hbu
 have Fin:=Lib.hid fin
 have z5:w1.cell? ⟨b,4,none⟩=some (.func (.func 114) #[.pointer (some ⟨b,0,none⟩)] #[]):=by rw [cell_blk hbk1];rfl
 have HP1:=Lib.hid hP1;have Hbk1:=Lib.hid hbk1
 clear fin hw1 hch1 hc1 hc1' hm1 hc5 hP1 hbk1 x0 y0 y2 y3 y4 v0 u0 u2 u3 u4 z0 zw z3 z4 hb5
 by_cases hrc:r=cq
 ·have e1:(r:Int)=(cq:Int):=by omega
  have F:=Lib.hid (Fin.out (w1.setCell ⟨b,4,none⟩ (piStep b 1)) (piWr bP b v q i 1) ((Chg.refl (λk=>k=b) w1).setCell (by exact .inl rfl) _) (by rw [blk_set Hbk1.out];rfl) (by rw [HR.out,if_pos hrc]))
  unfold piStep at F
  clear hrc
  go_wp2
  go_ret
  exact F.out
 ·have e1:¬ (r:Int)=(cq:Int):=by omega
  have hbk2:(w1.setCell ⟨b,2,none⟩ (.int .i64 ((q:Int)+1))).heap[b]?=some (.cells (piWr bP b v (q+1) i 0) 207 (0,0)):=by
   rw [blk_set Hbk1.out];unfold piWr;rw [show((q+1:Nat):Int)=(q:Int)+1 by omega];rfl
  have hc2:Chg (λk=>k=b) w1 (w1.setCell ⟨b,2,none⟩ (.int .i64 ((q:Int)+1))):=(Chg.refl (λk=>k=b) w1).setCell (by exact .inl rfl) _
  obtain⟨w2,hw2⟩:∃ w2,w2=w1.setCell ⟨b,2,none⟩ (.int .i64 ((q:Int)+1)):=⟨_,rfl⟩
  rw [<-hw2] at hbk2 hc2
  have NX:=Lib.hid (wr_next bP bC n k o.last o.now b v (q+1) i (piStep b 0) (by omega) w2 (HP1.out.chg hc2 Hne.out.1 Hne.out.2).blk hbk2 Hne.out.1)
  have Hif:=Lib.hid (show piWr bP b v (piNext o.now (q+1)) i 0=R by rw [HR.out,if_neg hrc])
  have Hc2:=Lib.hid hc2;have Hw2:=Lib.hid hw2
  clear hrc hbk2 hc2 hw2
  go_upto_region 5 with fail
  rw [<-Hw2.out]
  go_wp2_with fail
  refine NX.out.mono ?_
  rintro e w3 ⟨rfl,hc3,hbk3⟩
  have F:=Lib.hid (Fin.out w3 _ (Hc2.out.trans hc3) hbk3 Hif.out)
  clear hc3 hbk3
  go_wp2
  go_ret
  exact F.out
end
section

/- Layer 14: one that writes: to fill a buffer, word by word; its step. -/
open Go.RowKit
set_option maxHeartbeats 4000000 in
theorem wr_fill (w:World) (Mut B:Nat->Prop) (I:WIds) (N:Nat) (wd:WD) (n k bP bC b v q i:Nat) (o:PinO) (hw:WorldAt w Mut I N wd) (hP:PinAt w bP bC n k o) (hbk:w.heap[b]?=some (.cells (piWr bP b v q i 1) 207 (0,0))) (hb:B b) (hB:∀ b,B b->Mut b/\¬ WSet I b) (hcn:wd.mem.c.all+1<1000000000000)
  (hq:q<=n) (hn:n<=16) (hk:k<=8) (hi:i<k) (hne:bP≠b/\bC≠b) (hWP:¬ WSet I bP/\¬ WSet I bC) :
  Calls Try.prog 116 #[.pointer (some ⟨b,0,none⟩),.pointer (some ⟨I.bW,0,none⟩)] w λe w'=>OwnTo w w' Mut B I N (doWrite wd (piWord n k q i) ((v+i) % 18446744073709551616)) b (piWr bP b v q (i+1) (if i+1=k then 2 else 1)) 207 false e:=by
 obtain⟨s1,s2,s3⟩:=memSet_sub hw
 obtain⟨mks,hwb,_,_⟩:=hw.blk
 have x0:w.cell? ⟨I.bW,0,none⟩=some (.pointer (some ⟨I.bm,0,none⟩)):=by rw [cell_blk hwb];exact world_mem
 have y0:w.cell? ⟨b,0,none⟩=some (.pointer (some ⟨bP,0,none⟩)):=by rw [cell_blk hbk];rfl
 have y1:w.cell? ⟨b,1,none⟩=some (.int .u64 (v:Int)):=by rw [cell_blk hbk];rfl
 have y2:w.cell? ⟨b,2,none⟩=some (.int .i64 (q:Int)):=by rw [cell_blk hbk];rfl
 have y3:w.cell? ⟨b,3,none⟩=some (.int .i64 (i:Int)):=by rw [cell_blk hbk];rfl
 have y4:w.cell? ⟨bP,2,none⟩=some (.int .i64 (k:Int)):=by rw [cell_blk hP.blk];rfl
 have hblt:=blk_lt hbk
 have nb:¬ MemSet I.bm I.bw b:=λh=>(hB b hb).2 (s3 b h).1
 have nP:¬ MemSet I.bm I.bw bP:=λh=>hWP.1 (s3 bP h).1
 obtain⟨x,hx⟩:∃ x,x=(v+i) % 18446744073709551616:=⟨_,rfl⟩
 have wi:IntKind.u64.wrap (i:Int)=(i:Int):=by rw [IntKind.wrap_u64];omega
 have wx:IntKind.u64.wrap ((v:Int)+(i:Int))=(x:Int):=by rw [hx,IntKind.wrap_u64];omega
 have Wr:=Lib.hid (λ(u:World) (h:Chg noB w u)=>write_any I.bm I.bw wd.mem ((piWord n k q i:Nat):Int) x u (hw.mem.chg h (λh=>h) (λ_ _ h=>h)) (by omega) hcn)
 have WF:=Lib.hid (λ(u:World) (h:Chg noB w u)=>pin_word bP bC n k o.last o.now q i hn hk (by omega) (by omega) u (hP.chg h (λh=>h) (λh=>h)).blk)
 rw [<-hx]
 obtain⟨lq,hlq⟩:∃ lq,lq=piWord n k q i:=⟨_,rfl⟩
 rw [<-hlq] at Wr WF ⊢
 obtain⟨R,hR⟩:∃ R,R=piWr bP b v q (i+1) (if i+1=k then 2 else 1):=⟨_,rfl⟩
 rw [<-hR]
 have HR:=Lib.hid hR;have HP:=Lib.hid hP;have Hne:=Lib.hid hne
 have Hw:=Lib.hid hw;have Hbk:=Lib.hid hbk;have Nb:=Lib.hid nb;have HB:=Lib.hid hB;have Hb:=Lib.hid hb;have S2:=Lib.hid s2;have NP:=Lib.hid nP;have Hx:=Lib.hid hx;have Hlq:=Lib.hid hlq
 have hi8:(i:Int)<=8:=by omega
 have wi1:IntKind.i64.wrap ((i:Int)+1)=(i:Int)+1:=by rw [IntKind.wrap_i64];omega
 clear hw hbk hwb s1 s2 s3 nb hB hb hq hn nP hP hne hWP hlq hx hk hi hR
 go_enter Try.func116,Try.ntmps116
 go_wp2_with fail
 go_region_held3 (λu=>u.cell? ⟨I.bW,0,none⟩=some (.pointer (some ⟨I.bm,0,none⟩))/\u.cell? ⟨b,0,none⟩=some (.pointer (some ⟨bP,0,none⟩))/\u.cell? ⟨b,1,none⟩=some (.int .u64 (v:Int))/\u.cell? ⟨b,2,none⟩=some (.int .i64 (q:Int))/\u.cell? ⟨b,3,none⟩=some (.int .i64 (i:Int)))
  (first|exact⟨x0,y0,y1,y2,y3⟩|exact⟨v0,u0,u1,u2,u3⟩|exact⟨z0,zw,z1,z2,z3⟩)
  (first|(go_at_call 121;refine(WF.out _ ?_).mono ?_;(exact(Chg.refl _ _).drew);rintro e w5 ⟨rfl,hb5⟩;have hc5:Chg noB w w5:=((Chg.refl _ w).drew).trans (Chg.of_below hb5);have v0:=box_keep hc5 (λh=>h) x0;have u0:=box_keep hc5 (λh=>h) y0;have u1:=box_keep hc5 (λh=>h) y1;have u2:=box_keep hc5 (λh=>h) y2;have u3:=box_keep hc5 (λh=>h) y3)|(go_at_call 120;refine(Wr.out _ hc5).mono ?_;rintro e w1 ⟨rfl,hm1,hc1⟩;have hc1':Chg (MemSet I.bm I.bw) w w1:=(hc5.mono (λ_ _ h=>h.elim)).trans hc1;have z0:=box_keep hc1' S2.out x0;have hbk1:=(hc1'.block b hblt Nb.out).trans Hbk.out;have zw:=box_keep hc1' Nb.out y0;have z1:=box_keep hc1' Nb.out y1;have z2:=box_keep hc1' Nb.out y2;have z3:=box_keep hc1' Nb.out y3;have z4:=box_keep hc1' NP.out y4))
 obtain⟨hw1,hch1⟩:=Hw.out.mems hc1' hm1
 have fin:∀(u:World) (cs:Array Value),Chg (λk=>k=b) w1 u->u.heap[b]?=some (.cells cs 207 (0,0))->cs=R->OwnTo w u Mut B I N (doWrite wd lq x) b R 207 false (.returned (.bool false)):=by
  rintro u cs hu hbu rfl
  exact own_fin hw1 hch1 Hb.out HB.out hu hbu
 have Fin:=Lib.hid fin
 obtain⟨w2,hw2⟩:∃ w2,w2=w1.setCell ⟨b,3,none⟩ (.int .i64 ((i:Int)+1)):=⟨_,rfl⟩
 have hc2:Chg (λk=>k=b) w1 w2:=by rw [hw2];exact(Chg.refl (λk=>k=b) w1).setCell (by exact .inl rfl) _
 have zf:=frozen_blk hbk1 3
 have hbk2:w2.heap[b]?=some (.cells (piWr bP b v q (i+1) 1) 207 (0,0)):=by
  rw [hw2,blk_set hbk1];unfold piWr;rw [show((i+1:Nat):Int)=(i:Int)+1 by omega];rfl
 have Hbk2:=Lib.hid hbk2;have Hc2:=Lib.hid hc2;have Hw2:=Lib.hid hw2
 have q0:w2.cell? ⟨b,0,none⟩=some (.pointer (some ⟨bP,0,none⟩)):=by rw [cell_blk hbk2];rfl
 have q3:w2.cell? ⟨b,3,none⟩=some (.int .i64 ((i:Int)+1)):=by rw [cell_blk hbk2];unfold piWr;rw [show((i+1:Nat):Int)=(i:Int)+1 by omega];rfl
 have q4:w2.cell? ⟨bP,2,none⟩=some (.int .i64 (k:Int)):=box_keep hc2 (λe=>Hne.out.1 e) z4
 clear fin hw1 hch1 hc1 hc1' hm1 hc5 x0 y0 y1 y2 y3 y4 v0 u0 u1 u2 u3 z0 zw z1 z2 hb5 hbk1 hbk2 hc2 hw2 z4
 go_upto_region 3 with fail
 rw [<-Hw2.out]
 clear z3 zf
 by_cases hik:i+1=k
 ·have e1:(i:Int)+1=(k:Int):=by omega
  have hRR:R=piWr bP b v q (i+1) 2:=by rw [HR.out,if_pos hik]
  have F:=Lib.hid (λnq:Nat=>Fin.out ((w2.drewN nq).setCell ⟨b,4,none⟩ (piStep b 2)) R ((Hc2.out.drewN nq).setCell (by exact .inl rfl) _) (by rw [blk_set (w:=w2.drewN nq) Hbk2.out,hRR];rfl) rfl)
  unfold piStep at F
  clear hik hRR
  go_quiet (fail)
  have qf:(w2.drewN nq).frozen? ⟨b,4,none⟩=false:=frozen_blk (w:=w2.drewN nq) Hbk2.out 4
  have q5:(w2.drewN nq).cell? ⟨b,4,none⟩=some (.func (.func 116) #[.pointer (some ⟨b,0,none⟩)] #[]):=by rw [cell_blk (w:=w2.drewN nq) Hbk2.out];rfl
  go_wp2
  go_ret
  exact F.out nq
 ·have e1:¬ (i:Int)+1=(k:Int):=by omega
  have hRR:R=piWr bP b v q (i+1) 1:=by rw [HR.out,if_neg hik]
  have F:=Lib.hid (λnq:Nat=>Fin.out (w2.drewN nq) R (Hc2.out.drewN nq) (by rw [hRR];exact Hbk2.out) rfl)
  clear hik hRR
  go_quiet (fail)
  go_wp2
  go_ret
  exact F.out nq
theorem wr_step (b K:Nat) (pw:Value) (w:World) (Q:Bool->World->Prop) (h4:w.cell? ⟨b,4,none⟩=some (.func (.func K) #[.pointer (some ⟨b,0,none⟩)] #[])) (hK:∀(args:Array Value) (u:World),(callFunc K args).run Try.prog u=.ok (.enter K args) u)
  (hC:Calls Try.prog K #[.pointer (some ⟨b,0,none⟩),pw] w λe w'=>∃ d,e=.returned (.bool d)/\Q d w') :
  Calls Try.prog 166 #[.pointer (some ⟨b,0,none⟩),pw] w λe w'=>∃ d,e=.returned (.bool d)/\Q d w':=by
 have HC:=Lib.hid hC
 clear hC
 go_enter Try.func166,Try.ntmps166
 go_wp2_with fail
 refine HC.out.mono ?_
 rintro e w1 ⟨d,rfl,hq⟩
 have Hq:=Lib.hid hq
 clear hq
 go_wp2
 go_ret
 exact⟨d,rfl,Hq.out⟩
end
end Go.Proofs.Ytlepjmnhekeofaa
