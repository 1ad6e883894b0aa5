/- Layer 14: one that reads: to read a word, to leave. -/
import Derived.Test.YtfkokppncipgnaaGreatV37
set_option maxRecDepth 100000
set_option linter.unusedVariables false
set_option linter.unusedSimpArgs false
set_option linter.unnecessarySimpa false
namespace Go.Proofs.YtfkokppncipgnaaGreat
open List renaming getElem_toArray → zq1, getElem_cons_zero → zq2, getElem_cons_succ → zq3, setIfInBounds_toArray → zq4, set_cons_zero → zq5, set_cons_succ → zq6
open Go.RowKit
set_option maxHeartbeats 8000000 in
theorem rd_leave (w:World) (Mut B:Nat->Prop) (I:WIds) (N:Nat) (wd:WD) (n k bP bC b q j:Nat) (lv kv:Value) (o:PinO) (hw:WorldAt w Mut I N wd) (hP:PinAt w bP bC n k o) (hbk:w.heap[b]?=some (.cells (piRd bP q (j+1) lv kv) 254 (0,0))) (hb:B b) (hB:∀ b,B b->Mut b/\¬ WSet I b) (hcn:wd.mem.c.all+1<1000000000000)
  (hq:q<=100) (hj:j<=100) (hjk:¬ j<k) (hne:bP≠b/\bC≠b) (hWP:¬ WSet I bP/\¬ WSet I bC) :
  Calls Tryz.prog 211 #[.pointer (some ⟨b,0,none⟩),.pointer (some ⟨I.bW,0,none⟩)] w λe w'=>RdTo w w' Mut B I N (doAdd wd (piLeft q) 1) b (piRd bP q (j+2) lv kv) true e:=by
 obtain⟨s1,s2,s3⟩:=memSet_sub hw
 obtain⟨mks,hwb,_,_⟩:=hw.blk
 have nbW:¬ WSet I b:=(hB b hb).2
 have nb:¬ MemSet I.bm I.bw b:=λh=>nbW (s3 b h).1
 have nP:¬ MemSet I.bm I.bw bP:=λh=>hWP.1 (s3 bP h).1
 have hbW:I.bW≠b:=λe=>nbW (.inl e.symm)
 have y2:w.cell? ⟨b,2,none⟩=some (.int .i64 ((j:Int)+1)):=by rw [cell_blk hbk];unfold piRd;rw [show((j+1:Nat):Int)=(j:Int)+1 by omega];rfl
 have yf:=frozen_blk hbk 2
 obtain⟨wa,hwa⟩:∃ wa,wa=w.setCell ⟨b,2,none⟩ (.int .i64 ((j:Int)+1+1)):=⟨_,rfl⟩
 have hca:Chg (λj=>j=b) w wa:=by rw [hwa];exact(Chg.refl (λj=>j=b) w).setCell (by exact .inl rfl) _
 have hba:wa.heap[b]?=some (.cells (piRd bP q (j+2) lv kv) 254 (0,0)):=by rw [hwa,blk_set hbk];unfold piRd;rw [show((j+2:Nat):Int)=(j:Int)+1+1 by omega];rfl
 have hwA:=world_cell hw hca (λj hj=>by cases hj;exact hB b hb)
 have hPa:=hP.chg hca hne.1 hne.2
 have a0:wa.cell? ⟨I.bW,0,none⟩=some (.pointer (some ⟨I.bm,0,none⟩)):=(hca.cell (blk_lt hwb) hbW).trans (by rw [cell_blk hwb];exact world_mem)
 have a1:wa.cell? ⟨b,0,none⟩=some (.pointer (some ⟨bP,0,none⟩)):=by rw [cell_blk hba];rfl
 have a2:wa.cell? ⟨b,1,none⟩=some (.int .i64 (q:Int)):=by rw [cell_blk hba];rfl
 have d2:wa.cell? ⟨b,2,none⟩=some (.int .i64 ((j:Int)+1+1)):=by rw [cell_blk hba];unfold piRd;rw [show((j+2:Nat):Int)=(j:Int)+1+1 by omega];rfl
 have d3:wa.cell? ⟨bP,2,none⟩=some (.int .i64 (k:Int)):=by rw [cell_blk hPa.blk];rfl
 have hbla:=blk_lt hba
 have Ad:=Lib.hid (λ(u:World) (h:Chg noB wa u)=>add_any I.bm I.bw wd.mem ((piLeft q:Nat):Int) 1 u (hwA.mem.chg h (λh=>h) (λ_ _ h=>h)) hcn)
 have LF:=Lib.hid (λ(u:World) (h:Chg noB wa u)=>pin_left bP bC n k o.last o.now q (by omega) u (hPa.chg h (λh=>h) (λh=>h)).blk)
 obtain⟨lq,hlq⟩:∃ lq,lq=piLeft q:=⟨_,rfl⟩
 rw [<-hlq] at Ad LF ⊢
 have w1:IntKind.i64.wrap ((j:Int)+1+1)=(j:Int)+1+1:=by rw [IntKind.wrap_i64];omega
 have w2:IntKind.i64.wrap ((j:Int)+1+1 - 2)=(j:Int):=by rw [IntKind.wrap_i64];omega
 have l1:¬ (j:Int)<0:=by omega
 have l2:¬ (j:Int)<(k:Int):=by omega
 have HwA:=Lib.hid hwA;have Hca:=Lib.hid hca;have Hba:=Lib.hid hba;have Hwa:=Lib.hid hwa;have Nb:=Lib.hid nb;have NP:=Lib.hid nP;have S2:=Lib.hid s2;have HB:=Lib.hid hB;have Hb:=Lib.hid hb;have NbW:=Lib.hid nbW;have Hlq:=Lib.hid hlq
 clear hw hP hbk hwb s1 s2 s3 nb nP hB hb hlq hwa hca hwA hba hcn hWP nbW hne hPa hq hj hjk
 go_enter Tryz.func211,Tryz.ntmps211
 go_upto_region 2 with fail
 rw [<-Hwa.out]
 go_upto_region 3 with fail
 go_region_held3 (λu=>u.cell? ⟨I.bW,0,none⟩=some (.pointer (some ⟨I.bm,0,none⟩))/\u.cell? ⟨b,0,none⟩=some (.pointer (some ⟨bP,0,none⟩))/\u.cell? ⟨b,1,none⟩=some (.int .i64 (q:Int)))
  (first|exact⟨a0,a1,a2⟩|exact⟨v0,v1,v2⟩|exact⟨z0,z1,z2⟩)
  (first|(go_at_call 159;refine(LF.out _ ?_).mono ?_;(exact(Chg.refl _ _).drew);rintro e w5 ⟨rfl,hb5⟩;have hc5:Chg noB wa w5:=((Chg.refl _ wa).drew).trans (Chg.of_below hb5);have v0:=box_keep hc5 (λh=>h) a0;have v1:=box_keep hc5 (λh=>h) a1;have v2:=box_keep hc5 (λh=>h) a2)|(go_at_call 172;refine(Ad.out _ hc5).mono ?_;rintro e w6 ⟨rfl,hm1,hc1⟩;have hc1':Chg (MemSet I.bm I.bw) wa w6:=(hc5.mono (λ_ _ h=>h.elim)).trans hc1;have z0:=box_keep hc1' S2.out a0;have z1:=box_keep hc1' Nb.out a1;have z2:=box_keep hc1' Nb.out a2;have hbk1:=(hc1'.block b hbla Nb.out).trans Hba.out))
 obtain⟨hw1,hch1⟩:=HwA.out.mems hc1' hm1
 have F:=Lib.hid (show RdTo w w6 Mut B I N (doAdd wd lq 1) b (piRd bP q (j+2) lv kv) true (.returned (.bool true)) from
  ⟨rfl,(Hca.out.mono (λj _ h=>.inr h)).trans (hch1.mono (λj _ h=>.inl h)),hw1,hbk1⟩)
 clear hw1 hch1 hc1 hc1' hm1 hbk1 hc5
 go_wp2
 go_ret
 exact F.out
def PiB (b:Nat) (lv:Value) (j:Nat):Prop:=j=b∨lv.ownBlock=some j
def RdTo2 (w w':World) (Mut B:Nat->Prop) (I:WIds) (N:Nat) (wd:WD) (bP b q j:Nat) (lv kv:Value) (n:Nat) (xs:List Value) (e:Ending) (lv':Value):Prop:=
 e=.returned (.bool false)/\Chg (λj=>WSet I j∨B j) w w'/\WorldAt w' (mutTo Mut B (PiB b lv')) I N wd/\w'.heap[b]?=some (.cells (piRd bP q j lv' kv) 254 (0,0))/\w'.ownsRow 0 46 1 lv' n xs/\(∃ g,lv'.ownBlock=some g/\(lv.ownBlock=some g∨w.heap.size<=g)/\g≠b/\g<w'.heap.size)
set_option maxHeartbeats 8000000 in
theorem rd_read (w:World) (Mut B:Nat->Prop) (I:WIds) (N:Nat) (wd:WD) (n k bP bC b q j:Nat) (l:List Nat) (lv kv:Value) (o:PinO) (hw:WorldAt w Mut I N wd) (hP:PinAt w bP bC n k o) (hbk:w.heap[b]?=some (.cells (piRd bP q (j+1) lv kv) 254 (0,0))) (hb:B b) (hB:∀ b,B b->Mut b/\¬ WSet I b) (hcn:wd.mem.c.all+1<1000000000000)
  (hrow:w.ownsRow 0 46 1 lv l.length (l.map u64V)) (hrB:∀ g,lv.ownBlock=some g->B g/\g≠b) (hl:l.length<=100)
  (hn:n<=16) (hk:k<=8) (hq:q<=100) (hjk:j<k) (hne:bP≠b/\bC≠b) (hBP:¬ B bP/\¬ B bC) (hWP:¬ WSet I bP/\¬ WSet I bC) :
  Calls Tryz.prog 211 #[.pointer (some ⟨b,0,none⟩),.pointer (some ⟨I.bW,0,none⟩)] w λe w'=>∃ lv',RdTo2 w w' Mut B I N (taRead wd (piWord n k q j)) bP b q (j+2) lv kv (l++[taGot wd (piWord n k q j)]).length ((l++[taGot wd (piWord n k q j)]).map u64V) e lv':=by
 obtain⟨s1,s2,s3⟩:=memSet_sub hw
 obtain⟨mks,hwb,_,_⟩:=hw.blk
 have nbW:¬ WSet I b:=(hB b hb).2
 have nb:¬ MemSet I.bm I.bw b:=λh=>nbW (s3 b h).1
 have nP:¬ MemSet I.bm I.bw bP:=λh=>hWP.1 (s3 bP h).1
 have nR:∀ g,lv.ownBlock=some g->¬ MemSet I.bm I.bw g:=λg hg h=>(hB g (hrB g hg).1).2 (s3 g h).1
 have nRW:∀ g,lv.ownBlock=some g->g≠I.bW:=λg hg e=>(hB g (hrB g hg).1).2 (.inl e)
 have hbW:I.bW≠b:=λe=>nbW (.inl e.symm)
 have y2:w.cell? ⟨b,2,none⟩=some (.int .i64 ((j:Int)+1)):=by rw [cell_blk hbk];unfold piRd;rw [show((j+1:Nat):Int)=(j:Int)+1 by omega];rfl
 have yf:=frozen_blk hbk 2
 obtain⟨wa,hwa⟩:∃ wa,wa=w.setCell ⟨b,2,none⟩ (.int .i64 ((j:Int)+1+1)):=⟨_,rfl⟩
 have hca:Chg (λj=>j=b) w wa:=by rw [hwa];exact(Chg.refl (λj=>j=b) w).setCell (by exact .inl rfl) _
 have hba:wa.heap[b]?=some (.cells (piRd bP q (j+2) lv kv) 254 (0,0)):=by rw [hwa,blk_set hbk];unfold piRd;rw [show((j+2:Nat):Int)=(j:Int)+1+1 by omega];rfl
 have hra:=row_chg hrow hca (λg hg e=>(hrB g hg).2 e)
 have hwA:=world_cell hw hca (λj hj=>by cases hj;exact hB b hb)
 have hPa:=hP.chg hca hne.1 hne.2
 have a0:wa.cell? ⟨I.bW,0,none⟩=some (.pointer (some ⟨I.bm,0,none⟩)):=(hca.cell (blk_lt hwb) hbW).trans (by rw [cell_blk hwb];exact world_mem)
 have a1:wa.cell? ⟨b,0,none⟩=some (.pointer (some ⟨bP,0,none⟩)):=by rw [cell_blk hba];rfl
 have a2:wa.cell? ⟨b,1,none⟩=some (.int .i64 (q:Int)):=by rw [cell_blk hba];rfl
 obtain⟨L,hL⟩:∃ L,L=l.length:=⟨_,rfl⟩
 obtain⟨la,lc,rfl⟩:∃ la lc,lv=.slice la L lc:=by obtain⟨a,c,e⟩:=row_form hra;exact⟨a,c,by rw [e,hL]⟩
 have a3:wa.cell? ⟨b,3,none⟩=some (.slice la L lc):=by rw [cell_blk hba];rfl
 have d2:wa.cell? ⟨b,2,none⟩=some (.int .i64 ((j:Int)+1+1)):=by rw [cell_blk hba];unfold piRd;rw [show((j+2:Nat):Int)=(j:Int)+1+1 by omega];rfl
 have d3:wa.cell? ⟨bP,2,none⟩=some (.int .i64 (k:Int)):=by rw [cell_blk hPa.blk];rfl
 have hbla:=blk_lt hba
 have Rd:=Lib.hid (λ(u:World) (h:Chg noB wa u)=>read_any I.bm I.bw wd.mem ((piWord n k q j:Nat):Int) u (hwA.mem.chg h (λh=>h) (λ_ _ h=>h)) hcn)
 have WF:=Lib.hid (λ(u:World) (h:Chg noB wa u)=>pin_word bP bC n k o.last o.now q j hn hk hq (by omega) u (hPa.chg h (λh=>h) (λh=>h)).blk)
 obtain⟨r,hr⟩:∃ r,r=taGot wd (piWord n k q j):=⟨_,rfl⟩
 rw [show(memRead wd.mem ((piWord n k q j:Nat):Int)).2=r from hr.symm] at Rd
 rw [<-hr]
 obtain⟨lq,hlq⟩:∃ lq,lq=piWord n k q j:=⟨_,rfl⟩
 rw [<-hlq] at Rd WF ⊢
 obtain⟨xs,hxs⟩:∃ xs,xs=l.map u64V:=⟨_,rfl⟩
 rw [<-hL,<-hxs] at hra
 have hfl:(l++[r]).length=L+1:=by simp [hL]
 have hfm:(l++[r]).map u64V=xs++[.int .u64 (r:Int)]:=by simp [hxs,u64V]
 rw [hfl,hfm]
 obtain⟨k0,hk0,hu0,hu1,hu2⟩:=info_parts u64_info'
 have w1:IntKind.i64.wrap ((j:Int)+1+1)=(j:Int)+1+1:=by rw [IntKind.wrap_i64];omega
 have w2:IntKind.i64.wrap ((j:Int)+1+1 - 2)=(j:Int):=by rw [IntKind.wrap_i64];omega
 have l1:¬ (j:Int)<0:=by omega
 have l2:(j:Int)<(k:Int):=by omega
 have hL1:L<=100:=by omega
 have HwA:=Lib.hid hwA;have Hca:=Lib.hid hca;have Hba:=Lib.hid hba;have Hwa:=Lib.hid hwa;have Nb:=Lib.hid nb;have NP:=Lib.hid nP;have S2:=Lib.hid s2;have HB:=Lib.hid hB;have Hb:=Lib.hid hb;have NbW:=Lib.hid nbW;have Hlq:=Lib.hid hlq;have Hra:=Lib.hid hra;have NR:=Lib.hid nR;have NRW:=Lib.hid nRW;have HrB:=Lib.hid hrB;have HbW:=Lib.hid hbW
 have hsz:=hca.size
 have Hsz:=Lib.hid hsz
 clear hw hP hbk hwb s1 s2 s3 nb nP hB hb hlq hwa hca hwA hba hcn hWP nbW hne hPa hq hjk hra nR hrow hrB hr hxs hL hfl hfm hn hk hBP hl nRW hsz hbW
 go_enter Tryz.func211,Tryz.ntmps211
 go_upto_region 2 with fail
 rw [<-Hwa.out]
 go_upto_region 9 with fail
 refine wp_region_L ((λu=>u.cell? ⟨I.bW,0,none⟩=some (.pointer (some ⟨I.bm,0,none⟩))/\u.cell? ⟨b,0,none⟩=some (.pointer (some ⟨bP,0,none⟩))/\u.cell? ⟨b,1,none⟩=some (.int .i64 (q:Int))/\u.cell? ⟨b,3,none⟩=some (.slice la L lc))) 24 (by kernel_rfl) ?hS0L1 ?_
 case hS0L1=>
  (try dsimp only)
  (first|exact⟨a0,a1,a2,a3⟩|exact⟨v0,v1,v2,v3⟩|exact⟨z0,z1,z2,z3⟩|exact⟨t0,t1,t2,t3⟩|exact⟨(((Gr.new w6 _)).cell lW6).trans z0,(((Gr.new w6 _)).cell lb6).trans z1,(((Gr.new w6 _)).cell lb6).trans z2,(((Gr.new w6 _)).cell lb6).trans z3⟩)
 intro hS hcl
 refine wpAnyL_take (i:=0) (v:=?tv0L1) 25 rfl (by kernel_rfl) (by kernel_rfl) (by kernel_rfl) (by kernel_rfl) (by kernel_rfl) hcl (by first|exact λ_ _ _ h=>h|exact λ_ _ _ h=>HQp.out _ _ _ _ h) (Or.inl ⟨by rfl,?th0L1⟩) hS ?tr0L1
 (case th0L1=>(intro w hSw;(try dsimp only at hSw);go_simp;try with_reducible rfl))
 clear hcl;intro hcl
 (try simp only [Act.put,zq1,zq2,zq3,zq4,zq5,zq6])
 refine wpAnyL_take (i:=1) (v:=?tv1L1) 25 rfl (by kernel_rfl) (by kernel_rfl) (by kernel_rfl) (by kernel_rfl) (by kernel_rfl) hcl (by first|exact λ_ _ _ h=>h|exact λ_ _ _ h=>HQp.out _ _ _ _ h) (Or.inl ⟨by rfl,?th1L1⟩) hS ?tr1L1
 (case th1L1=>(intro w hSw;(try dsimp only at hSw);go_simp;try with_reducible rfl))
 clear hcl;intro hcl
 (try simp only [Act.put,zq1,zq2,zq3,zq4,zq5,zq6])
 refine wpAnyL_take (i:=2) (v:=?tv2L1) 25 rfl (by kernel_rfl) (by kernel_rfl) (by kernel_rfl) (by kernel_rfl) (by kernel_rfl) hcl (by first|exact λ_ _ _ h=>h|exact λ_ _ _ h=>HQp.out _ _ _ _ h) (Or.inl ⟨by rfl,?th2L1⟩) hS ?tr2L1
 (case th2L1=>(intro w hSw;(try dsimp only at hSw);go_simp;try with_reducible rfl))
 clear hcl;intro hcl
 (try simp only [Act.put,zq1,zq2,zq3,zq4,zq5,zq6])
 refine wpAnyL_take (i:=3) (v:=?tv3L1) 25 rfl (by kernel_rfl) (by kernel_rfl) (by kernel_rfl) (by kernel_rfl) (by kernel_rfl) hcl (by first|exact λ_ _ _ h=>h|exact λ_ _ _ h=>HQp.out _ _ _ _ h) (Or.inl ⟨by rfl,?th3L1⟩) hS ?tr3L1
 (case th3L1=>(intro w hSw;(try dsimp only at hSw);go_simp;try with_reducible rfl))
 clear hcl;intro hcl
 (try simp only [Act.put,zq1,zq2,zq3,zq4,zq5,zq6])
 refine wpAnyL_take (i:=4) (v:=?tv4L1) 25 rfl (by kernel_rfl) (by kernel_rfl) (by kernel_rfl) (by kernel_rfl) (by kernel_rfl) hcl (by first|exact λ_ _ _ h=>h|exact λ_ _ _ h=>HQp.out _ _ _ _ h) (Or.inl ⟨by rfl,?th4L1⟩) hS ?tr4L1
 (case th4L1=>(intro w hSw;(try dsimp only at hSw);go_simp;try with_reducible rfl))
 clear hcl;intro hcl
 (try simp only [Act.put,zq1,zq2,zq3,zq4,zq5,zq6])
 refine wpAnyL_take (i:=5) (v:=?tv5L1) 25 rfl (by kernel_rfl) (by kernel_rfl) (by kernel_rfl) (by kernel_rfl) (by kernel_rfl) hcl (by first|exact λ_ _ _ h=>h|exact λ_ _ _ h=>HQp.out _ _ _ _ h) (Or.inl ⟨by rfl,?th5L1⟩) hS ?tr5L1
 (case th5L1=>(intro w hSw;(try dsimp only at hSw);go_simp;try with_reducible rfl))
 clear hcl;intro hcl
 (try simp only [Act.put,zq1,zq2,zq3,zq4,zq5,zq6])
 refine wpAnyL_take (i:=6) (v:=?tv6L1) 25 rfl (by kernel_rfl) (by kernel_rfl) (by kernel_rfl) (by kernel_rfl) (by kernel_rfl) hcl (by first|exact λ_ _ _ h=>h|exact λ_ _ _ h=>HQp.out _ _ _ _ h) (Or.inl ⟨by rfl,?th6L1⟩) hS ?tr6L1
 (case th6L1=>(intro w hSw;(try dsimp only at hSw);go_simp;try with_reducible rfl))
 clear hcl;intro hcl
 (try simp only [Act.put,zq1,zq2,zq3,zq4,zq5,zq6])
 refine wpAnyL_take (i:=7) (v:=?tv7L1) 25 rfl (by kernel_rfl) (by kernel_rfl) (by kernel_rfl) (by kernel_rfl) (by kernel_rfl) hcl (by first|exact λ_ _ _ h=>h|exact λ_ _ _ h=>HQp.out _ _ _ _ h) (Or.inl ⟨by rfl,?th7L1⟩) hS ?tr7L1
 (case th7L1=>(intro w hSw;(try dsimp only at hSw);go_simp;try with_reducible rfl))
 clear hcl;intro hcl
 (try simp only [Act.put,zq1,zq2,zq3,zq4,zq5,zq6])
 refine wpAnyL_take (i:=8) (v:=?tv8L1) 25 rfl (by kernel_rfl) (by kernel_rfl) (by kernel_rfl) (by kernel_rfl) (by kernel_rfl) hcl (by first|exact λ_ _ _ h=>h|exact λ_ _ _ h=>HQp.out _ _ _ _ h) (Or.inl ⟨by rfl,?th8L1⟩) hS ?tr8L1
 (case th8L1=>(intro w hSw;(try dsimp only at hSw);go_simp;try with_reducible rfl))
 clear hcl;intro hcl
 (try simp only [Act.put,zq1,zq2,zq3,zq4,zq5,zq6])
 refine wpAnyL_take (i:=9) (v:=?tv9L1) 25 rfl (by kernel_rfl) (by kernel_rfl) (by kernel_rfl) (by kernel_rfl) (by kernel_rfl) hcl (by first|exact λ_ _ _ h=>h|exact λ_ _ _ h=>HQp.out _ _ _ _ h) (Or.inl ⟨by rfl,?th9L1⟩) hS ?tr9L1
 (case th9L1=>(intro w hSw;(try dsimp only at hSw);go_simp;try with_reducible rfl))
 clear hcl;intro hcl
 (try simp only [Act.put,zq1,zq2,zq3,zq4,zq5,zq6])
 refine wpAnyL_take (i:=10) (v:=?tv10L1) 25 rfl (by kernel_rfl) (by kernel_rfl) (by kernel_rfl) (by kernel_rfl) (by kernel_rfl) hcl (by first|exact λ_ _ _ h=>h|exact λ_ _ _ h=>HQp.out _ _ _ _ h) (Or.inl ⟨by rfl,?th10L1⟩) hS ?tr10L1
 (case th10L1=>(intro w hSw;(try dsimp only at hSw);go_simp;try with_reducible rfl))
 clear hcl;intro hcl
 (try simp only [Act.put,zq1,zq2,zq3,zq4,zq5,zq6])
 refine wpAnyL_take (i:=11) (v:=?tv11L1) 25 rfl (by kernel_rfl) (by kernel_rfl) (by kernel_rfl) (by kernel_rfl) (by kernel_rfl) hcl (by first|exact λ_ _ _ h=>h|exact λ_ _ _ h=>HQp.out _ _ _ _ h) (Or.inl ⟨by rfl,?th11L1⟩) hS ?tr11L1
 (case th11L1=>(intro w hSw;(try dsimp only at hSw);go_simp;try with_reducible rfl))
 clear hcl;intro hcl
 (try simp only [Act.put,zq1,zq2,zq3,zq4,zq5,zq6])
 refine wpAnyL_take (i:=12) (v:=?tv12L1) 25 rfl (by kernel_rfl) (by kernel_rfl) (by kernel_rfl) (by kernel_rfl) (by kernel_rfl) hcl (by first|exact λ_ _ _ h=>h|exact λ_ _ _ h=>HQp.out _ _ _ _ h) (Or.inl ⟨by rfl,?th12L1⟩) hS ?tr12L1
 (case th12L1=>(intro w hSw;(try dsimp only at hSw);go_simp;try with_reducible rfl))
 clear hcl;intro hcl
 (try simp only [Act.put,zq1,zq2,zq3,zq4,zq5,zq6])
 refine wpAnyL_take (i:=13) (v:=?tv13L1) 25 rfl (by kernel_rfl) (by kernel_rfl) (by kernel_rfl) (by kernel_rfl) (by kernel_rfl) hcl (by first|exact λ_ _ _ h=>h|exact λ_ _ _ h=>HQp.out _ _ _ _ h) (Or.inl ⟨by rfl,?th13L1⟩) hS ?tr13L1
 (case th13L1=>(intro w hSw;(try dsimp only at hSw);go_simp;try with_reducible rfl))
 clear hcl;intro hcl
 (try simp only [Act.put,zq1,zq2,zq3,zq4,zq5,zq6])
 refine wpAnyL_take (i:=14) (v:=?tv14L1) 25 rfl (by kernel_rfl) (by kernel_rfl) (by kernel_rfl) (by kernel_rfl) (by kernel_rfl) hcl (by first|exact λ_ _ _ h=>h|exact λ_ _ _ h=>HQp.out _ _ _ _ h) (Or.inl ⟨by rfl,?th14L1⟩) hS ?tr14L1
 (case th14L1=>(intro w hSw;(try dsimp only at hSw);go_simp;try with_reducible rfl))
 clear hcl;intro hcl
 (try simp only [Act.put,zq1,zq2,zq3,zq4,zq5,zq6])
 refine wpAnyL_take (i:=15) (v:=?tv15L1) 25 rfl (by kernel_rfl) (by kernel_rfl) (by kernel_rfl) (by kernel_rfl) (by kernel_rfl) hcl (by first|exact λ_ _ _ h=>h|exact λ_ _ _ h=>HQp.out _ _ _ _ h) (Or.inl ⟨by rfl,?th15L1⟩) hS ?tr15L1
 (case th15L1=>(intro w hSw;(try dsimp only at hSw);go_simp;try with_reducible rfl))
 clear hcl;intro hcl
 (try simp only [Act.put,zq1,zq2,zq3,zq4,zq5,zq6])
 refine wpAnyL_take (i:=16) (v:=?tv16L1) 25 rfl (by kernel_rfl) (by kernel_rfl) (by kernel_rfl) (by kernel_rfl) (by kernel_rfl) hcl (by first|exact λ_ _ _ h=>h|exact λ_ _ _ h=>HQp.out _ _ _ _ h) (Or.inl ⟨by rfl,?th16L1⟩) hS ?tr16L1
 (case th16L1=>(intro w hSw;(try dsimp only at hSw);go_simp;try with_reducible rfl))
 clear hcl;intro hcl
 (try simp only [Act.put,zq1,zq2,zq3,zq4,zq5,zq6])
 refine wpAnyL_take (i:=17) (v:=?tv17L1) 25 rfl (by kernel_rfl) (by kernel_rfl) (by kernel_rfl) (by kernel_rfl) (by kernel_rfl) hcl (by first|exact λ_ _ _ h=>h|exact λ_ _ _ h=>HQp.out _ _ _ _ h) (Or.inl ⟨by rfl,?th17L1⟩) hS ?tr17L1
 (case th17L1=>(intro w hSw;(try dsimp only at hSw);go_simp;try with_reducible rfl))
 clear hcl;intro hcl
 (try simp only [Act.put,zq1,zq2,zq3,zq4,zq5,zq6])
 refine wpAnyL_one (i:=18) (by kernel_rfl) rfl hcl (λK' hK=>?_)
 have HK:=Lib.hid hK;clear hK
 ((rw [if_pos (by kernel_rfl)]);(try simp only [zq1,zq2,zq3]);go_big_op)
 (first|(go_at_call 168;refine(WF.out _ ?_).mono ?_;(exact(Chg.refl _ _).drew);rintro e w5 ⟨rfl,hb5⟩;have hc5:Chg noB wa w5:=((Chg.refl _ wa).drew).trans (Chg.of_below hb5);have v0:=box_keep hc5 (λh=>h) a0;have v1:=box_keep hc5 (λh=>h) a1;have v2:=box_keep hc5 (λh=>h) a2;have v3:=box_keep hc5 (λh=>h) a3)|(go_at_call 162;refine(Rd.out _ hc5).mono ?_;rintro e w6 ⟨rfl,hm1,hc1⟩;have hc1':Chg (MemSet I.bm I.bw) wa w6:=(hc5.mono (λ_ _ h=>h.elim)).trans hc1;have z0:=box_keep hc1' S2.out a0;have z1:=box_keep hc1' Nb.out a1;have z2:=box_keep hc1' Nb.out a2;have z3:=box_keep hc1' Nb.out a3;have hbk1:=(hc1'.block b hbla Nb.out).trans Hba.out;have hr6:=row_chg Hra.out hc1' NR.out;have lb6:=blk_lt hbk1;have lW6:I.bW<w6.heap.size:=World.block_lt_of_cell? _ _ z0)|(refine step_append_lies _ (by rfl) _ _ _ (by rfl) 0 46 k0 _ 1 8 Tryz.underlying28 hk0 hu0 hu1 hu2 rfl (by omega) _ _ _ (by rfl) (hr6.alloc _) ⟨w6.heap.size,0,none⟩ 1 1 [.int .u64 (r:Int)] (by rfl) (by rfl) (World.news_of_block (cs:=#[.int .u64 (r:Int)]) (t:=46) (fr:=(0,0)) (heap_alloc_new w6 _)) (by simp [Value.oneCell']) (by omega) (by unfold maxLen;(try dsimp only);omega) (by(try dsimp only);omega) (by simp) (w6.heap.size+1) (by simp) ?_;intro g8 cp8 w8 hown8 hgrow8 hat8 hlt8;have hbk8:=(hgrow8.block _ (by simp;omega) (λe=>(HrB.out _ e.symm).2 rfl)).trans ((((Gr.new w6 _)).block _ lb6).trans hbk1);have t0:=((hgrow8.cell_far _ (by simp;omega) (λe=>NRW.out _ e.symm rfl)).trans ((((Gr.new w6 _)).cell lW6).trans z0));have t1:w8.cell? ⟨b,0,none⟩=some (.pointer (some ⟨bP,0,none⟩)):=(by rw [cell_blk hbk8];rfl);have t2:w8.cell? ⟨b,1,none⟩=some (.int .i64 (q:Int)):=(by rw [cell_blk hbk8];rfl);have t3:w8.cell? ⟨b,3,none⟩=some (.slice la L lc):=(by rw [cell_blk hbk8];rfl);have tf:=frozen_blk hbk8 3))
 refine HK.out _ _ ?hS18L1 (λhcl=>?_)
 case hS18L1=>
  intro _
  (try dsimp only)
  (first|exact⟨a0,a1,a2,a3⟩|exact⟨v0,v1,v2,v3⟩|exact⟨z0,z1,z2,z3⟩|exact⟨t0,t1,t2,t3⟩|exact⟨(((Gr.new w6 _)).cell lW6).trans z0,(((Gr.new w6 _)).cell lb6).trans z1,(((Gr.new w6 _)).cell lb6).trans z2,(((Gr.new w6 _)).cell lb6).trans z3⟩)
 clear HK
 (try simp only [Act.put,zq1,zq2,zq3,zq4,zq5,zq6])
 refine wpAnyL_one (i:=19) (by kernel_rfl) rfl hcl (λK' hK=>?_)
 have HK:=Lib.hid hK;clear hK
 ((rw [if_pos (by kernel_rfl)]);(try simp only [zq1,zq2,zq3]);go_big_op)
 (first|(go_at_call 168;refine(WF.out _ ?_).mono ?_;(exact(Chg.refl _ _).drew);rintro e w5 ⟨rfl,hb5⟩;have hc5:Chg noB wa w5:=((Chg.refl _ wa).drew).trans (Chg.of_below hb5);have v0:=box_keep hc5 (λh=>h) a0;have v1:=box_keep hc5 (λh=>h) a1;have v2:=box_keep hc5 (λh=>h) a2;have v3:=box_keep hc5 (λh=>h) a3)|(go_at_call 162;refine(Rd.out _ hc5).mono ?_;rintro e w6 ⟨rfl,hm1,hc1⟩;have hc1':Chg (MemSet I.bm I.bw) wa w6:=(hc5.mono (λ_ _ h=>h.elim)).trans hc1;have z0:=box_keep hc1' S2.out a0;have z1:=box_keep hc1' Nb.out a1;have z2:=box_keep hc1' Nb.out a2;have z3:=box_keep hc1' Nb.out a3;have hbk1:=(hc1'.block b hbla Nb.out).trans Hba.out;have hr6:=row_chg Hra.out hc1' NR.out;have lb6:=blk_lt hbk1;have lW6:I.bW<w6.heap.size:=World.block_lt_of_cell? _ _ z0)|(refine step_append_lies _ (by rfl) _ _ _ (by rfl) 0 46 k0 _ 1 8 Tryz.underlying28 hk0 hu0 hu1 hu2 rfl (by omega) _ _ _ (by rfl) (hr6.alloc _) ⟨w6.heap.size,0,none⟩ 1 1 [.int .u64 (r:Int)] (by rfl) (by rfl) (World.news_of_block (cs:=#[.int .u64 (r:Int)]) (t:=46) (fr:=(0,0)) (heap_alloc_new w6 _)) (by simp [Value.oneCell']) (by omega) (by unfold maxLen;(try dsimp only);omega) (by(try dsimp only);omega) (by simp) (w6.heap.size+1) (by simp) ?_;intro g8 cp8 w8 hown8 hgrow8 hat8 hlt8;have hbk8:=(hgrow8.block _ (by simp;omega) (λe=>(HrB.out _ e.symm).2 rfl)).trans ((((Gr.new w6 _)).block _ lb6).trans hbk1);have t0:=((hgrow8.cell_far _ (by simp;omega) (λe=>NRW.out _ e.symm rfl)).trans ((((Gr.new w6 _)).cell lW6).trans z0));have t1:w8.cell? ⟨b,0,none⟩=some (.pointer (some ⟨bP,0,none⟩)):=(by rw [cell_blk hbk8];rfl);have t2:w8.cell? ⟨b,1,none⟩=some (.int .i64 (q:Int)):=(by rw [cell_blk hbk8];rfl);have t3:w8.cell? ⟨b,3,none⟩=some (.slice la L lc):=(by rw [cell_blk hbk8];rfl);have tf:=frozen_blk hbk8 3))
 refine HK.out _ _ ?hS19L1 (λhcl=>?_)
 case hS19L1=>
  intro _
  (try dsimp only)
  (first|exact⟨a0,a1,a2,a3⟩|exact⟨v0,v1,v2,v3⟩|exact⟨z0,z1,z2,z3⟩|exact⟨t0,t1,t2,t3⟩|exact⟨(((Gr.new w6 _)).cell lW6).trans z0,(((Gr.new w6 _)).cell lb6).trans z1,(((Gr.new w6 _)).cell lb6).trans z2,(((Gr.new w6 _)).cell lb6).trans z3⟩)
 clear HK
 (try simp only [Act.put,zq1,zq2,zq3,zq4,zq5,zq6])
 refine wpAnyL_one (i:=20) (by kernel_rfl) rfl hcl (λK' hK=>?_)
 have HK:=Lib.hid hK;clear hK
 ((rw [if_pos (by kernel_rfl)]);(try simp only [zq1,zq2,zq3]);first|go_big_move|go_big_op)
 refine HK.out _ _ ?hS20L1 (λhcl=>?_)
 case hS20L1=>
  intro _
  (try dsimp only)
  (first|exact⟨a0,a1,a2,a3⟩|exact⟨v0,v1,v2,v3⟩|exact⟨z0,z1,z2,z3⟩|exact⟨t0,t1,t2,t3⟩|exact⟨(((Gr.new w6 _)).cell lW6).trans z0,(((Gr.new w6 _)).cell lb6).trans z1,(((Gr.new w6 _)).cell lb6).trans z2,(((Gr.new w6 _)).cell lb6).trans z3⟩)
 clear HK
 (try simp only [Act.put,zq1,zq2,zq3,zq4,zq5,zq6])
 refine wpAnyL_one (i:=21) (by kernel_rfl) rfl hcl (λK' hK=>?_)
 have HK:=Lib.hid hK;clear hK
 (first|(go_at_call 168;refine(WF.out _ ?_).mono ?_;(exact(Chg.refl _ _).drew);rintro e w5 ⟨rfl,hb5⟩;have hc5:Chg noB wa w5:=((Chg.refl _ wa).drew).trans (Chg.of_below hb5);have v0:=box_keep hc5 (λh=>h) a0;have v1:=box_keep hc5 (λh=>h) a1;have v2:=box_keep hc5 (λh=>h) a2;have v3:=box_keep hc5 (λh=>h) a3)|(go_at_call 162;refine(Rd.out _ hc5).mono ?_;rintro e w6 ⟨rfl,hm1,hc1⟩;have hc1':Chg (MemSet I.bm I.bw) wa w6:=(hc5.mono (λ_ _ h=>h.elim)).trans hc1;have z0:=box_keep hc1' S2.out a0;have z1:=box_keep hc1' Nb.out a1;have z2:=box_keep hc1' Nb.out a2;have z3:=box_keep hc1' Nb.out a3;have hbk1:=(hc1'.block b hbla Nb.out).trans Hba.out;have hr6:=row_chg Hra.out hc1' NR.out;have lb6:=blk_lt hbk1;have lW6:I.bW<w6.heap.size:=World.block_lt_of_cell? _ _ z0)|(refine step_append_lies _ (by rfl) _ _ _ (by rfl) 0 46 k0 _ 1 8 Tryz.underlying28 hk0 hu0 hu1 hu2 rfl (by omega) _ _ _ (by rfl) (hr6.alloc _) ⟨w6.heap.size,0,none⟩ 1 1 [.int .u64 (r:Int)] (by rfl) (by rfl) (World.news_of_block (cs:=#[.int .u64 (r:Int)]) (t:=46) (fr:=(0,0)) (heap_alloc_new w6 _)) (by simp [Value.oneCell']) (by omega) (by unfold maxLen;(try dsimp only);omega) (by(try dsimp only);omega) (by simp) (w6.heap.size+1) (by simp) ?_;intro g8 cp8 w8 hown8 hgrow8 hat8 hlt8;have hbk8:=(hgrow8.block _ (by simp;omega) (λe=>(HrB.out _ e.symm).2 rfl)).trans ((((Gr.new w6 _)).block _ lb6).trans hbk1);have t0:=((hgrow8.cell_far _ (by simp;omega) (λe=>NRW.out _ e.symm rfl)).trans ((((Gr.new w6 _)).cell lW6).trans z0));have t1:w8.cell? ⟨b,0,none⟩=some (.pointer (some ⟨bP,0,none⟩)):=(by rw [cell_blk hbk8];rfl);have t2:w8.cell? ⟨b,1,none⟩=some (.int .i64 (q:Int)):=(by rw [cell_blk hbk8];rfl);have t3:w8.cell? ⟨b,3,none⟩=some (.slice la L lc):=(by rw [cell_blk hbk8];rfl);have tf:=frozen_blk hbk8 3))
 refine HK.out _ _ ?hS21L1 (λhcl=>?_)
 case hS21L1=>
  intro _
  (try dsimp only)
  (first|exact⟨a0,a1,a2,a3⟩|exact⟨v0,v1,v2,v3⟩|exact⟨z0,z1,z2,z3⟩|exact⟨t0,t1,t2,t3⟩|exact⟨(((Gr.new w6 _)).cell lW6).trans z0,(((Gr.new w6 _)).cell lb6).trans z1,(((Gr.new w6 _)).cell lb6).trans z2,(((Gr.new w6 _)).cell lb6).trans z3⟩)
 clear HK
 (try simp only [Act.put,zq1,zq2,zq3,zq4,zq5,zq6])
 refine wpAnyL_one (i:=22) (by kernel_rfl) rfl hcl (λK' hK=>?_)
 have HK:=Lib.hid hK;clear hK
 ((rw [if_pos (by kernel_rfl)]);(try simp only [zq1,zq2,zq3]);first|go_big_move|go_big_op)
 refine HK.out _ _ ?hS22L1 (λhcl=>?_)
 case hS22L1=>
  intro _
  (try dsimp only)
  (first|exact⟨a0,a1,a2,a3⟩|exact⟨v0,v1,v2,v3⟩|exact⟨z0,z1,z2,z3⟩|exact⟨t0,t1,t2,t3⟩|exact⟨(((Gr.new w6 _)).cell lW6).trans z0,(((Gr.new w6 _)).cell lb6).trans z1,(((Gr.new w6 _)).cell lb6).trans z2,(((Gr.new w6 _)).cell lb6).trans z3⟩)
 clear HK
 (try simp only [Act.put,zq1,zq2,zq3,zq4,zq5,zq6])
 refine wpAnyL_one (i:=23) (by kernel_rfl) rfl hcl (λK' hK=>?_)
 have HK:=Lib.hid hK;clear hK
 ((rw [if_pos (by kernel_rfl)]);(try simp only [zq1,zq2,zq3]);first|go_big_move|go_big_op)
 refine HK.out _ _ ?hS23L1 (λhcl=>?_)
 case hS23L1=>
  intro _
  (try dsimp only)
  (first|exact⟨a0,a1,a2,a3⟩|exact⟨v0,v1,v2,v3⟩|exact⟨z0,z1,z2,z3⟩|exact⟨t0,t1,t2,t3⟩|exact⟨(((Gr.new w6 _)).cell lW6).trans z0,(((Gr.new w6 _)).cell lb6).trans z1,(((Gr.new w6 _)).cell lb6).trans z2,(((Gr.new w6 _)).cell lb6).trans z3⟩)
 clear HK
 (try simp only [Act.put,zq1,zq2,zq3,zq4,zq5,zq6])
 refine wpAnyL_one (i:=24) (by kernel_rfl) rfl hcl (λK' hK=>?_)
 have HK:=Lib.hid hK;clear hK
 ((rw [if_pos (by kernel_rfl)]);(try simp only [zq1,zq2,zq3]);first|go_big_move|go_big_op)
 refine HK.out _ _ (λh=>by cases h.symm.trans (by kernel_rfl:_=true)) (λ_=>wpAnyL_done (by kernel_rfl) ?_ _)
 clear HK
 (try clear hS)
 obtain⟨hw1,hch1⟩:=HwA.out.mems hc1' hm1
 obtain⟨w9,hw9⟩:∃ w9,w9=w8.setCell ⟨b,3,none⟩ (.slice (some ⟨g8,0,none⟩) (L+1) cp8):=⟨_,rfl⟩
 rw [<-hw9]
 have hg6:Chg (λg=>(Value.slice la L lc).ownBlock=some g) w6 w8:=((Chg.refl _ w6).alloc _).grown hgrow8 (λg hg=>.inl hg)
 have hc9:Chg (λg=>g=b) w8 w9:=by rw [hw9];exact(Chg.refl (λg=>g=b) w8).setCell (by exact .inl rfl) _
 have hb9:w9.heap[b]?=some (.cells (piRd bP q (j+2) (.slice (some ⟨g8,0,none⟩) (L+1) cp8) kv) 254 (0,0)):=by rw [hw9,blk_set hbk8];rfl
 have hgb:g8≠b:=by
  rcases hat8 with h|h
  ·exact(HrB.out g8 h).2
  ·omega
 have hr9:=row_chg hown8 hc9 (λg hg e=>hgb (by cases hg;exact e))
 have hg9:g8<w9.heap.size:=Nat.lt_of_lt_of_le hlt8 hc9.size
 have hc69:Chg (λg=>(Value.slice la L lc).ownBlock=some g∨g=b) w6 w9:=(hg6.mono (λg _ h=>.inl h)).trans (hc9.mono (λg _ h=>.inr h))
 have hw9':WorldAt w9 (mutTo Mut B (PiB b (.slice (some ⟨g8,0,none⟩) (L+1) cp8))) I N (taRead wd lq):=by
  have hB6:∀ g,PiB b (.slice (some ⟨g8,0,none⟩) (L+1) cp8) g->B g∨w6.heap.size<=g:=by
   rintro g (rfl|h)
   ·exact .inl Hb.out
   ·cases h
    rcases hat8 with h|h
    ·exact .inl (HrB.out _ h).1
    ·exact .inr (by show w6.heap.size<=g8;omega)
  refine hw1.keep hc69 ?_ ?_ (mutTo_up hB6 (λg hg=>(HB.out g hg).1)) ?_ ?_
  ·rintro g (h|rfl)
   ·exact(HB.out g (HrB.out g h).1).1
   ·exact(HB.out _ Hb.out).1
  ·rintro g (h|rfl)
   ·exact(HB.out g (HrB.out g h).1).2
   ·exact NbW.out
  ·rintro g (⟨h,_⟩|h|h)
   ·exact Nat.lt_of_lt_of_le (hw1.low g h) hc69.size
   ·rw [h];exact blk_lt hb9
   ·cases h;exact hg9
  ·intro g hg
   by_cases hgB:B g
   ·exact absurd hg (HB.out g hgB).2
   ·exact .inl ⟨hw1.muts g hg,hgB⟩
 have F:=Lib.hid (show RdTo2 w w9 Mut B I N (taRead wd lq) bP b q (j+2) (.slice la L lc) kv (L+1) (xs++[.int .u64 (r:Int)]) (.returned (.bool false)) (.slice (some ⟨g8,0,none⟩) (L+1) cp8) from
  ⟨rfl,(((Hca.out.mono (λj _ h=>.inr (by rw [h];exact Hb.out))).trans (hch1.mono (λj _ h=>.inl h))).trans (hg6.mono (λg _ hg=>.inr (HrB.out g hg).1))).trans (hc9.mono (λj _ h=>.inr (by rw [h];exact Hb.out))),hw9',hb9,hr9,g8,rfl,(by
   rcases hat8 with h|h
   ·exact .inl h
   ·have h5:=Hsz.out;have h6:=hc1'.size;exact .inr (by omega)),hgb,hg9⟩)
 clear hw1 hch1 hc1 hc1' hm1 hbk1 hc5 hw9 hg6 hc9 hc69 hg9 hb9 hw9' hgb hr9 hgrow8 hown8 hat8 hlt8 hbk8 t0 t1 t2 t3 tf z0 z1 z2 z3
 go_wp2
 go_ret
 exact⟨_,F.out⟩
end Go.Proofs.YtfkokppncipgnaaGreat
