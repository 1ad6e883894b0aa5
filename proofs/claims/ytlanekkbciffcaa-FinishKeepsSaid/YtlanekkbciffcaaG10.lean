/- Layer 21: finishing at the head: the machine, step by step. -/
import Derived.Test.YtlanekkbciffcaaG09
import Derived.Deep.Cut
import Derived.Deep.RegionHeld3
set_option maxRecDepth 100000
set_option linter.unusedVariables false
set_option linter.unusedSimpArgs false
set_option linter.unnecessarySimpa false
namespace Go.Proofs.Ytlanekkbciffcaa
open Go.RowKit
set_option maxHeartbeats 4000000 in
theorem hd_0 {w:World} {n k bT bW bm:Nat} {bw:Option Nat} {ow a x d y:Nat} {m:MemD} (h:FinAt (hdCells n k) 129 w bT bW bm bw ⟨0,ow,a,x,d,y⟩ m) (hn:n<=16) (hcnt:m.c.all+1<1000000000000) :
  Calls Try.prog 173 #[.pointer (some ⟨bT,0,none⟩),.pointer (some ⟨bW,0,none⟩)] w λe w'=>e=.returned (.bool (!fOk n k (memRead m 0).2 0))/\FinAt (hdCells n k) 129 w' bT bW bm bw ⟨1,ow,(memRead m 0).2,x,d,y⟩ (memRead m 0).1/\Chg (FinS bT bm bw) w w':=by
 have hb:=h.blk
 have lT:=blk_lt hb
 have lW:=h.wl
 have x0:=h.wld
 have n1:=h.n1;have n2:=h.n2;have n3:=h.n3
 have n3':bT≠bW:=λe=>n3 e.symm
 obtain⟨ok1,ok2,ok3,ok4,ok5⟩:=h.ok
 simp only at ok1 ok2 ok3 ok4 ok5
 have hrU:U64 (memRead m 0).2:=mem_val h.mem
 have RD:=λ(u:World) (hu:Chg noF w u)=>read_any bm bw m 0 u (h.mem.chg hu (λh=>h) (λ_ _ h=>h)) hcnt
 obtain⟨r,hr⟩:∃ r,r=(memRead m 0).2:=⟨_,rfl⟩
 rw [<-hr] at RD hrU ⊢
 have QF:=Lib.hid (λu=>queue_field n k r 0 (by omega) hrU (by decide) u)
 have QT:=Lib.hid (λu=>queue_head n k u)
 obtain⟨m',hm'⟩:∃ m',m'=(memRead m 0).1:=⟨_,rfl⟩
 rw [<-hm'] at RD ⊢
 obtain⟨ok,hok⟩:∃ ok,ok=fOk n k r 0:=⟨_,rfl⟩
 obtain⟨ad,had⟩:∃ ad,ad=fAt n k r 0:=⟨_,rfl⟩
 rw [<-hok,<-had] at QF
 rw [<-hok]
 have tx:=x0
 have t0:w.cell? ⟨bT,0,none⟩=some (.int .i64 0):=by rw [cell_blk hb];rfl
 have t1:w.cell? ⟨bT,1,none⟩=some (.int .i64 (n:Int)):=by rw [cell_blk hb];rfl
 have t2:w.cell? ⟨bT,2,none⟩=some (.int .i64 (k:Int)):=by rw [cell_blk hb];rfl
 have t3:w.cell? ⟨bT,3,none⟩=some (.int .i64 0):=by rw [cell_blk hb];rfl
 have tf3:w.frozen? ⟨bT,3,none⟩=false:=frozen_blk hb 3
 have tf5:w.frozen? ⟨bT,5,none⟩=false:=frozen_blk hb 5
 have H:=Lib.hid h;have RD':=Lib.hid RD;have Hb:=Lib.hid hb
 have Ok:=Lib.hid (show(⟨1,ow,r,x,d,y⟩:FinD).ok from⟨hrU,ok2,ok3,ok4,ok5⟩)
 clear h hcnt hr hm' hok had RD hb hrU ok1 ok2 ok3 ok4 ok5 x0
 unfold queueV at QT QF
 go_enter Try.func173,Try.ntmps173
 go_upto_region 3 with fail
 go_region_held3 (λu=>u.cell? ⟨bW,0,none⟩=some (.pointer (some ⟨bm,0,none⟩))/\u.cell? ⟨bT,0,none⟩=some (.int .i64 0)/\u.cell? ⟨bT,1,none⟩=some (.int .i64 (n:Int))/\u.cell? ⟨bT,2,none⟩=some (.int .i64 (k:Int)))
  (first|exact⟨tx,t0,t1,t2⟩|exact⟨vx,v0,v1,v2⟩|exact⟨zx,z0,z1,z2⟩|exact⟨box_keep ((Chg.refl (λb=>b=bT) w1).setCell (by exact .inl rfl) _) n3 zx,(World.cell?_setCell_other _ _ _ _ (by simp)).trans z0,(World.cell?_setCell_other _ _ _ _ (by simp)).trans z1,(World.cell?_setCell_other _ _ _ _ (by simp)).trans z2⟩)
  (first|(go_at_call 152;refine(QT.out _).mono ?_;rintro e w5 ⟨rfl,hb5⟩;have hc5:Chg noF w w5:=((Chg.refl _ w).drew).trans (Chg.of_below hb5);have vx:=box_keep hc5 (λh=>h) tx;have v0:=box_keep hc5 (λh=>h) t0;have v1:=box_keep hc5 (λh=>h) t1;have v2:=box_keep hc5 (λh=>h) t2)|(go_at_call 136;refine(RD'.out _ hc5).mono ?_;rintro e w1 ⟨rfl,hm1,hc1⟩;have hc1':Chg (MemSet bm bw) w w1:=(hc5.mono (λ_ _ h=>h.elim)).trans hc1;have zx:=box_keep hc1 n2 vx;have z0:=box_keep hc1 n1 v0;have z1:=box_keep hc1 n1 v1;have z2:=box_keep hc1 n1 v2;have zb:=(hc1'.block bT lT n1).trans Hb.out;have zf5:=frozen_blk zb 5;have z5:w1.cell? ⟨bT,5,none⟩=some (.int .u64 (a:Int)):=(by rw [cell_blk zb];rfl);have zlt:=blk_lt zb))
 obtain⟨w2,hw2⟩:∃ w2,w2=w1.setCell ⟨bT,5,none⟩ (.int .u64 (r:Int)):=⟨_,rfl⟩
 have b2:w2.heap[bT]?=some (.cells #[.int .i64 0,.int .i64 (n:Int),.int .i64 (k:Int),.int .i64 0,.int .i64 (ow:Int),.int .u64 (r:Int),.int .u64 (x:Int),.int .u64 (d:Int),.int .u64 (y:Int)] 129 (0,0)):=by rw [hw2];exact blk_set zb _ _
 have hc2:Chg (λb=>b=bT) w1 w2:=by rw [hw2];exact(Chg.refl (λb=>b=bT) w1).setCell (by exact .inl rfl) _
 first|rw [<-hw2]|rw [<-show w2.drew=(w1.setCell ⟨bT,5,none⟩ (.int .u64 (r:Int))).drew by rw [hw2]]
 have Hc1:=Lib.hid hc1';have Hm1:=Lib.hid hm1;have Hc2:=Lib.hid hc2;have B2:=Lib.hid b2
 clear tx t0 t1 t2 t3 tf3 tf5 vx v0 v1 v2 zx z0 z1 z2 zb zf5 z5 zlt hw2 hc1' hm1 hc1 hc5 hb5 hc2
 have t3:w2.cell? ⟨bT,3,none⟩=some (.int .i64 0):=by rw [cell_blk b2];rfl
 have tf3:w2.frozen? ⟨bT,3,none⟩=false:=frozen_blk b2 3
 have l2:=blk_lt b2
 clear b2
 go_upto_region 5 with fail
 obtain⟨w3,hw3⟩:∃ w3,w3=w2.setCell ⟨bT,3,none⟩ (.int .i64 1):=⟨_,rfl⟩
 have b3:w3.heap[bT]?=some (.cells #[.int .i64 0,.int .i64 (n:Int),.int .i64 (k:Int),.int .i64 1,.int .i64 (ow:Int),.int .u64 (r:Int),.int .u64 (x:Int),.int .u64 (d:Int),.int .u64 (y:Int)] 129 (0,0)):=by rw [hw3];exact blk_set B2.out _ _
 have hc3:Chg (λb=>b=bT) w2 w3:=by rw [hw3];exact(Chg.refl (λb=>b=bT) w2).setCell (by exact .inl rfl) _
 rw [<-hw3]
 have Hc3:=Lib.hid (Hc2.out.trans hc3);have B3:=Lib.hid b3
 have s0:w3.cell? ⟨bT,0,none⟩=some (.int .i64 0):=by rw [cell_blk b3];rfl
 have s1:w3.cell? ⟨bT,1,none⟩=some (.int .i64 (n:Int)):=by rw [cell_blk b3];rfl
 have s2:w3.cell? ⟨bT,2,none⟩=some (.int .i64 (k:Int)):=by rw [cell_blk b3];rfl
 have s5:w3.cell? ⟨bT,5,none⟩=some (.int .u64 (r:Int)):=by rw [cell_blk b3];rfl
 clear hw3 hc3 t3 tf3 b3 l2
 go_region_held3 (λu=>u.cell? ⟨bT,0,none⟩=some (.int .i64 0)/\u.cell? ⟨bT,1,none⟩=some (.int .i64 (n:Int))/\u.cell? ⟨bT,2,none⟩=some (.int .i64 (k:Int))/\u.cell? ⟨bT,5,none⟩=some (.int .u64 (r:Int)))
  (first|exact⟨s0,s1,s2,s5⟩|exact⟨box_keep hc6 (λh=>h) s0,box_keep hc6 (λh=>h) s1,box_keep hc6 (λh=>h) s2,box_keep hc6 (λh=>h) s5⟩)
  ((go_at_call 155;refine(QF.out _).mono ?_;rintro e w6 ⟨rfl,hb6⟩;have hc6:Chg noF w3 w6:=((Chg.refl _ w3).drew).trans (Chg.of_below hb6)))
 have Hc6:=Lib.hid hc6
 clear hc6 hb6 s0 s1 s2 s5
 go_wp2
 go_ret
 refine⟨rfl,?_⟩
 exact H.out.acc Hc1.out Hm1.out (Hc3.out.trans (Hc6.out.mono (λ_ _ h=>h.elim))) ((Hc6.out.block bT (blk_lt B3.out) (λh=>h)).trans B3.out) Ok.out
set_option maxHeartbeats 4000000 in
theorem next_a {w:World} {n k bT bW bm:Nat} {bw:Option Nat} {ow a x d y:Nat} {m:MemD} (h:FinAt (hdCells n k) 129 w bT bW bm bw ⟨1,ow,a,x,d,y⟩ m) (hn:n<=16) (hcnt:m.c.all+1<1000000000000) :
  Calls Try.prog 174 #[.pointer (some ⟨bT,0,none⟩),.pointer (some ⟨bW,0,none⟩)] w λe w'=>e=.returned (.bool (!(decide ((memRead m (fAt n k a 0)).2 / 1073741824=a / 1024) && decide (((memRead m (fAt n k a 0)).2 % 1073741824)≠0) && fOk n k ((memRead m (fAt n k a 0)).2 % 1073741824) 2)))/\FinAt (hdCells n k) 129 w' bT bW bm bw ⟨2,ow,a,((memRead m (fAt n k a 0)).2 % 1073741824),d,y⟩ (memRead m (fAt n k a 0)).1/\Chg (FinS bT bm bw) w w':=by
 have hb:=h.blk
 have lT:=blk_lt hb
 have lW:=h.wl
 have x0:=h.wld
 have n1:=h.n1;have n2:=h.n2;have n3:=h.n3
 have n3':bT≠bW:=λe=>n3 e.symm
 obtain⟨ok1,ok2,ok3,ok4,ok5⟩:=h.ok
 simp only at ok1 ok2 ok3 ok4 ok5
 have hrU:U64 (memRead m (fAt n k a 0)).2:=mem_val h.mem
 have RD:=λ(u:World) (hu:Chg noF w u)=>read_any bm bw m (fAt n k a 0) u (h.mem.chg hu (λh=>h) (λ_ _ h=>h)) hcnt
 have QF:=Lib.hid (λu=>queue_field n k a 0 (by omega) ok1 (by decide) u)
 obtain⟨ad,had⟩:∃ ad,ad=fAt n k a 0:=⟨_,rfl⟩
 obtain⟨fo,hfo⟩:∃ fo,fo=fOk n k a 0:=⟨_,rfl⟩
 rw [<-had,<-hfo] at QF
 rw [<-had] at RD hrU ⊢
 obtain⟨r,hr⟩:∃ r,r=(memRead m ad).2:=⟨_,rfl⟩
 rw [<-hr] at RD hrU ⊢
 obtain⟨m',hm'⟩:∃ m',m'=(memRead m ad).1:=⟨_,rfl⟩
 rw [<-hm'] at RD ⊢
 have FR:=Lib.hid (λu=>fresh_any r a hrU ok1 u)
 obtain⟨fr,hfr⟩:∃ fr,fr=decide (r / 1073741824=a / 1024):=⟨_,rfl⟩
 obtain⟨xx,hxx⟩:∃ xx,xx=r % 1073741824:=⟨_,rfl⟩
 rw [<-hfr,<-hxx] at FR
 have hxU:U64 xx:=by rw [hxx];unfold U64;omega
 rw [<-hxx] at ⊢
 have QX:=Lib.hid (λu=>queue_field n k xx 2 (by omega) hxU (by decide) u)
 obtain⟨gx,hgx⟩:∃ gx,gx=fAt n k xx 2:=⟨_,rfl⟩
 obtain⟨is,his⟩:∃ is,is=fOk n k xx 2:=⟨_,rfl⟩
 rw [<-hgx,<-his] at QX
 rw [<-hfr,<-his]
 have Ok:=Lib.hid (show(⟨2,ow,a,xx,d,y⟩:FinD).ok from⟨ok1,hxU,ok3,ok4,ok5⟩)
 have hno:(fr=false/\(!(fr && decide (xx≠0) && is))=true)∨(fr=true/\xx=0/\(!(fr && decide (xx≠0) && is))=true)∨(fr=true/\xx≠0/\(!(fr && decide (xx≠0) && is))=!is):=by
  cases fr with
  | false=>exact .inl ⟨rfl,rfl⟩
  | true=>
   by_cases q2:xx=0
   ·exact .inr (.inl ⟨rfl,q2,by simp [q2]⟩)
   ·exact .inr (.inr ⟨rfl,q2,by simp [q2]⟩)
 obtain⟨rs,hrs⟩:∃ rs,rs=(!(fr && decide (xx≠0) && is)):=⟨_,rfl⟩
 rw [<-hrs] at hno ⊢
 unfold queueV at QX
 have tx:=x0
 have t0:w.cell? ⟨bT,0,none⟩=some (.int .i64 0):=by rw [cell_blk hb];rfl
 have t1:w.cell? ⟨bT,1,none⟩=some (.int .i64 (n:Int)):=by rw [cell_blk hb];rfl
 have t2:w.cell? ⟨bT,2,none⟩=some (.int .i64 (k:Int)):=by rw [cell_blk hb];rfl
 have t5:w.cell? ⟨bT,5,none⟩=some (.int .u64 (a:Int)):=by rw [cell_blk hb];rfl
 have H:=Lib.hid h;have RD':=Lib.hid RD;have Hb:=Lib.hid hb
 clear h hcnt hr hm' had hfo hxx RD hb hrU hxU ok1 ok2 ok3 ok4 ok5 x0 hfr hgx his hrs
 unfold queueV at QF
 go_enter Try.func174,Try.ntmps174
 go_upto_region 1 with fail
 go_region_held3 (λu=>u.cell? ⟨bW,0,none⟩=some (.pointer (some ⟨bm,0,none⟩))/\u.cell? ⟨bT,0,none⟩=some (.int .i64 0)/\u.cell? ⟨bT,1,none⟩=some (.int .i64 (n:Int))/\u.cell? ⟨bT,2,none⟩=some (.int .i64 (k:Int))/\u.cell? ⟨bT,5,none⟩=some (.int .u64 (a:Int)))
  (first|exact⟨tx,t0,t1,t2,t5⟩|exact⟨txw5,t0w5,t1w5,t2w5,t5w5⟩)
  (first|(go_at_call 155;refine(QF.out _).mono ?_;rintro e w5 ⟨rfl,hb5⟩;have hc5:Chg noF w w5:=((Chg.refl _ w).drew).trans (Chg.of_below hb5);have txw5:=box_keep hc5 (λh=>h) tx;have t0w5:=box_keep hc5 (λh=>h) t0;have t1w5:=box_keep hc5 (λh=>h) t1;have t2w5:=box_keep hc5 (λh=>h) t2;have t5w5:=box_keep hc5 (λh=>h) t5))
 clear tx t0 t1 t2 t5
 go_upto_region 2 with fail
 go_region_held3 (λu=>u.cell? ⟨bW,0,none⟩=some (.pointer (some ⟨bm,0,none⟩))/\u.cell? ⟨bT,0,none⟩=some (.int .i64 0)/\u.cell? ⟨bT,1,none⟩=some (.int .i64 (n:Int))/\u.cell? ⟨bT,2,none⟩=some (.int .i64 (k:Int))/\u.cell? ⟨bT,5,none⟩=some (.int .u64 (a:Int)))
  (first|exact⟨txw5,t0w5,t1w5,t2w5,t5w5⟩|exact⟨txw5w6,t0w5w6,t1w5w6,t2w5w6,t5w5w6⟩|exact⟨txw5w6,t0w5w6,t1w5w6,t2w5w6,t5w5w6⟩)
  (first|(go_at_call 136;refine(RD'.out _ (hc5.drew)).mono ?_;rintro e w6 ⟨rfl,hm6,hc6⟩;have hc6z:Chg (MemSet bm bw) w5 w6:=((Chg.refl _ w5).drew).trans hc6;have txw5w6:=box_keep hc6z n2 txw5;have t0w5w6:=box_keep hc6z n1 t0w5;have t1w5w6:=box_keep hc6z n1 t1w5;have t2w5w6:=box_keep hc6z n1 t2w5;have t5w5w6:=box_keep hc6z n1 t5w5)|(go_at_call 156;refine(FR.out _).mono ?_;rintro e w7 ⟨rfl,rfl⟩;have hc7z:Chg (MemSet bm bw) w5 w6:=hc6z;have txw5w6:=box_keep hc7z n2 txw5;have t0w5w6:=box_keep hc7z n1 t0w5;have t1w5w6:=box_keep hc7z n1 t1w5;have t2w5w6:=box_keep hc7z n1 t2w5;have t5w5w6:=box_keep hc7z n1 t5w5))
 have hc69:Chg (MemSet bm bw) w w6:=(hc5.mono (λ_ _ h=>h.elim)).trans hc6z
 have b6:=(hc69.block bT lT n1).trans Hb.out
 have B6:=Lib.hid b6
 have HC:=Lib.hid hc69;have HM:=Lib.hid hm6
 clear hc69 hc6z hc7z hc6 hm6 hc5 hb5 txw5 t0w5 t1w5 t2w5 t5w5 txw5w6 t0w5w6 t1w5w6 t2w5w6 t5w5w6
 have t0:w6.cell? ⟨bT,0,none⟩=some (.int .i64 0):=by rw [cell_blk b6];rfl
 have t1:w6.cell? ⟨bT,1,none⟩=some (.int .i64 (n:Int)):=by rw [cell_blk b6];rfl
 have t2:w6.cell? ⟨bT,2,none⟩=some (.int .i64 (k:Int)):=by rw [cell_blk b6];rfl
 clear b6
 go_upto_region 4 with(go_at_call 155;refine(QX.out _).mono ?_;rintro e w7 ⟨rfl,hb7⟩)
 have b7:=(hb7.block bT (blk_lt B6.out)).trans B6.out
 have B7:=Lib.hid b7;have HC7:=Lib.hid (HC.out.trans (Chg.of_below hb7));have HM7:=Lib.hid (HM.out.gr hb7)
 clear t0 t1 t2 hb7
 have t3:w7.cell? ⟨bT,3,none⟩=some (.int .i64 1):=by rw [cell_blk b7];rfl
 have t6:w7.cell? ⟨bT,6,none⟩=some (.int .u64 (x:Int)):=by rw [cell_blk b7];rfl
 have tf3:=frozen_blk b7 3;have tf6:=frozen_blk b7 6
 have l7:=blk_lt b7
 clear b7
 rcases hno with⟨rfl,rfl⟩|⟨rfl,rfl,rfl⟩|⟨rfl,hxn,rfl⟩
 ·go_wp2
  go_ret
  refine⟨rfl,H.out.acc HC7.out HM7.out (((Chg.refl (λb=>b=bT) w7).setCell (by exact .inl rfl) _).setCell (by exact .inl rfl) _) ?_ Ok.out⟩
  rw [blk_set (blk_set B7.out _ _) _ _];rfl
 ·go_wp2
  go_ret
  refine⟨rfl,H.out.acc HC7.out HM7.out (((Chg.refl (λb=>b=bT) w7).setCell (by exact .inl rfl) _).setCell (by exact .inl rfl) _) ?_ Ok.out⟩
  rw [blk_set (blk_set B7.out _ _) _ _];rfl
 ·have hx0:((xx:Int) == 0)=false:=by simpa using hxn
  clear hxn
  go_wp2
  go_ret
  refine⟨rfl,H.out.acc HC7.out HM7.out (((Chg.refl (λb=>b=bT) w7).setCell (by exact .inl rfl) _).setCell (by exact .inl rfl) _) ?_ Ok.out⟩
  rw [blk_set (blk_set B7.out _ _) _ _];rfl
set_option maxHeartbeats 4000000 in
theorem who_no {w:World} {n k bT bW bm:Nat} {bw:Option Nat} {ow a x d y:Nat} {m:MemD} (h:FinAt (hdCells n k) 129 w bT bW bm bw ⟨2,ow,a,x,d,y⟩ m) (hn:n<=16) (hcnt:m.c.all+1<1000000000000) (hyes:¬ ((memRead m (fAt n k a 1)).2 / 1073741824=a / 1024/\((memRead m (fAt n k a 1)).2 % 1073741824)≠0)) :
  Calls Try.prog 175 #[.pointer (some ⟨bT,0,none⟩),.pointer (some ⟨bW,0,none⟩)] w λe w'=>e=.returned (.bool true)/\FinAt (hdCells n k) 129 w' bT bW bm bw ⟨2,ow,a,x,d,y⟩ (memRead m (fAt n k a 1)).1/\Chg (FinS bT bm bw) w w':=by
 have hb:=h.blk
 have lT:=blk_lt hb
 have lW:=h.wl
 have x0:=h.wld
 have n1:=h.n1;have n2:=h.n2;have n3:=h.n3
 have n3':bT≠bW:=λe=>n3 e.symm
 obtain⟨ok1,ok2,ok3,ok4,ok5⟩:=h.ok
 simp only at ok1 ok2 ok3 ok4 ok5
 have hrU:U64 (memRead m (fAt n k a 1)).2:=mem_val h.mem
 have RD:=λ(u:World) (hu:Chg noF w u)=>read_any bm bw m (fAt n k a 1) u (h.mem.chg hu (λh=>h) (λ_ _ h=>h)) hcnt
 have QF:=Lib.hid (λu=>queue_field n k a 1 (by omega) ok1 (by decide) u)
 obtain⟨ad,had⟩:∃ ad,ad=fAt n k a 1:=⟨_,rfl⟩
 obtain⟨fo,hfo⟩:∃ fo,fo=fOk n k a 1:=⟨_,rfl⟩
 rw [<-had,<-hfo] at QF
 rw [<-had] at RD hrU hyes ⊢
 obtain⟨r,hr⟩:∃ r,r=(memRead m ad).2:=⟨_,rfl⟩
 rw [<-hr] at RD hrU hyes
 obtain⟨m',hm'⟩:∃ m',m'=(memRead m ad).1:=⟨_,rfl⟩
 rw [<-hm'] at RD ⊢
 have FR:=Lib.hid (λu=>fresh_any r a hrU ok1 u)
 obtain⟨fr,hfr⟩:∃ fr,fr=decide (r / 1073741824=a / 1024):=⟨_,rfl⟩
 obtain⟨xx,hxx⟩:∃ xx,xx=r % 1073741824:=⟨_,rfl⟩
 rw [<-hfr,<-hxx] at FR
 have hxU:U64 xx:=by rw [hxx];unfold U64;omega
 rw [<-hxx] at hyes
 have hno:fr=false∨(fr=true/\xx=0):=by
  rw [hfr]
  by_cases q1:r / 1073741824=a / 1024
  ·rw [decide_eq_true q1]
   exact .inr ⟨rfl,Classical.not_not.1 (λq2=>hyes ⟨q1,q2⟩)⟩
  ·exact .inl (decide_eq_false q1)
 have Ok:=Lib.hid (show(⟨2,ow,a,x,d,y⟩:FinD).ok from⟨ok1,ok2,ok3,ok4,ok5⟩)
 have tx:=x0
 have t0:w.cell? ⟨bT,0,none⟩=some (.int .i64 0):=by rw [cell_blk hb];rfl
 have t1:w.cell? ⟨bT,1,none⟩=some (.int .i64 (n:Int)):=by rw [cell_blk hb];rfl
 have t2:w.cell? ⟨bT,2,none⟩=some (.int .i64 (k:Int)):=by rw [cell_blk hb];rfl
 have t5:w.cell? ⟨bT,5,none⟩=some (.int .u64 (a:Int)):=by rw [cell_blk hb];rfl
 have H:=Lib.hid h;have RD':=Lib.hid RD;have Hb:=Lib.hid hb
 clear h hcnt hr hm' had hfo hxx RD hb hrU hxU ok1 ok2 ok3 ok4 ok5 x0 hfr hyes
 unfold queueV at QF
 go_enter Try.func175,Try.ntmps175
 go_upto_region 1 with fail
 go_region_held3 (λu=>u.cell? ⟨bW,0,none⟩=some (.pointer (some ⟨bm,0,none⟩))/\u.cell? ⟨bT,0,none⟩=some (.int .i64 0)/\u.cell? ⟨bT,1,none⟩=some (.int .i64 (n:Int))/\u.cell? ⟨bT,2,none⟩=some (.int .i64 (k:Int))/\u.cell? ⟨bT,5,none⟩=some (.int .u64 (a:Int)))
  (first|exact⟨tx,t0,t1,t2,t5⟩|exact⟨txw5,t0w5,t1w5,t2w5,t5w5⟩)
  (first|(go_at_call 155;refine(QF.out _).mono ?_;rintro e w5 ⟨rfl,hb5⟩;have hc5:Chg noF w w5:=((Chg.refl _ w).drew).trans (Chg.of_below hb5);have txw5:=box_keep hc5 (λh=>h) tx;have t0w5:=box_keep hc5 (λh=>h) t0;have t1w5:=box_keep hc5 (λh=>h) t1;have t2w5:=box_keep hc5 (λh=>h) t2;have t5w5:=box_keep hc5 (λh=>h) t5))
 clear tx t0 t1 t2 t5
 go_upto_region 2 with fail
 go_region_held3 (λu=>u.cell? ⟨bW,0,none⟩=some (.pointer (some ⟨bm,0,none⟩))/\u.cell? ⟨bT,0,none⟩=some (.int .i64 0)/\u.cell? ⟨bT,1,none⟩=some (.int .i64 (n:Int))/\u.cell? ⟨bT,2,none⟩=some (.int .i64 (k:Int))/\u.cell? ⟨bT,5,none⟩=some (.int .u64 (a:Int)))
  (first|exact⟨txw5,t0w5,t1w5,t2w5,t5w5⟩|exact⟨txw5w6,t0w5w6,t1w5w6,t2w5w6,t5w5w6⟩|exact⟨txw5w6,t0w5w6,t1w5w6,t2w5w6,t5w5w6⟩)
  (first|(go_at_call 136;refine(RD'.out _ (hc5.drew)).mono ?_;rintro e w6 ⟨rfl,hm6,hc6⟩;have hc6z:Chg (MemSet bm bw) w5 w6:=((Chg.refl _ w5).drew).trans hc6;have txw5w6:=box_keep hc6z n2 txw5;have t0w5w6:=box_keep hc6z n1 t0w5;have t1w5w6:=box_keep hc6z n1 t1w5;have t2w5w6:=box_keep hc6z n1 t2w5;have t5w5w6:=box_keep hc6z n1 t5w5)|(go_at_call 156;refine(FR.out _).mono ?_;rintro e w7 ⟨rfl,rfl⟩;have hc7z:Chg (MemSet bm bw) w5 w6:=hc6z;have txw5w6:=box_keep hc7z n2 txw5;have t0w5w6:=box_keep hc7z n1 t0w5;have t1w5w6:=box_keep hc7z n1 t1w5;have t2w5w6:=box_keep hc7z n1 t2w5;have t5w5w6:=box_keep hc7z n1 t5w5))
 have hc69:Chg (MemSet bm bw) w w6:=(hc5.mono (λ_ _ h=>h.elim)).trans hc6z
 have b6:=(hc69.block bT lT n1).trans Hb.out
 have B6:=Lib.hid b6
 have HC:=Lib.hid hc69;have HM:=Lib.hid hm6
 clear hc69 hc6z hc7z hc6 hm6 hc5 hb5 txw5 t0w5 t1w5 t2w5 t5w5 txw5w6 t0w5w6 t1w5w6 t2w5w6 t5w5w6
 clear b6
 rcases hno with rfl|⟨rfl,rfl⟩
 ·go_wp2
  go_ret
  exact⟨rfl,H.out.acc HC.out HM.out (Chg.refl _ _) B6.out Ok.out⟩
 ·go_wp2
  go_ret
  exact⟨rfl,H.out.acc HC.out HM.out (Chg.refl _ _) B6.out Ok.out⟩
set_option maxHeartbeats 4000000 in
theorem who_le {w:World} {n k bT bW bm:Nat} {bw:Option Nat} {ow a x d y:Nat} {m:MemD} (h:FinAt (hdCells n k) 129 w bT bW bm bw ⟨2,ow,a,x,d,y⟩ m) (hn:n<=16) (hcnt:m.c.all+1<1000000000000) (hyes:(memRead m (fAt n k a 1)).2 / 1073741824=a / 1024/\((memRead m (fAt n k a 1)).2 % 1073741824)≠0) (hz:((memRead m (fAt n k a 1)).2 % 1073741824)<=n) :
  Calls Try.prog 175 #[.pointer (some ⟨bT,0,none⟩),.pointer (some ⟨bW,0,none⟩)] w λe w'=>e=.returned (.bool false)/\FinAt (hdCells n k) 129 w' bT bW bm bw ⟨3,((memRead m (fAt n k a 1)).2 % 1073741824) - 1,a,x,d,y⟩ (memRead m (fAt n k a 1)).1/\Chg (FinS bT bm bw) w w':=by
 have hb:=h.blk
 have lT:=blk_lt hb
 have lW:=h.wl
 have x0:=h.wld
 have n1:=h.n1;have n2:=h.n2;have n3:=h.n3
 have n3':bT≠bW:=λe=>n3 e.symm
 obtain⟨ok1,ok2,ok3,ok4,ok5⟩:=h.ok
 simp only at ok1 ok2 ok3 ok4 ok5
 have hrU:U64 (memRead m (fAt n k a 1)).2:=mem_val h.mem
 have RD:=λ(u:World) (hu:Chg noF w u)=>read_any bm bw m (fAt n k a 1) u (h.mem.chg hu (λh=>h) (λ_ _ h=>h)) hcnt
 have QF:=Lib.hid (λu=>queue_field n k a 1 (by omega) ok1 (by decide) u)
 obtain⟨ad,had⟩:∃ ad,ad=fAt n k a 1:=⟨_,rfl⟩
 obtain⟨fo,hfo⟩:∃ fo,fo=fOk n k a 1:=⟨_,rfl⟩
 rw [<-had,<-hfo] at QF
 rw [<-had] at RD hrU hyes hz ⊢
 obtain⟨r,hr⟩:∃ r,r=(memRead m ad).2:=⟨_,rfl⟩
 rw [<-hr] at RD hrU hyes hz ⊢
 obtain⟨m',hm'⟩:∃ m',m'=(memRead m ad).1:=⟨_,rfl⟩
 rw [<-hm'] at RD ⊢
 have FR:=Lib.hid (λu=>fresh_any r a hrU ok1 u)
 obtain⟨fr,hfr⟩:∃ fr,fr=decide (r / 1073741824=a / 1024):=⟨_,rfl⟩
 obtain⟨xx,hxx⟩:∃ xx,xx=r % 1073741824:=⟨_,rfl⟩
 rw [<-hfr,<-hxx] at FR
 have hxU:U64 xx:=by rw [hxx];unfold U64;omega
 rw [<-hxx] at hyes hz ⊢
 obtain⟨y1,y2⟩:=hyes
 obtain rfl:fr=true:=by rw [hfr];exact decide_eq_true y1
 have hx0:((xx:Int) == 0)=false:=by simpa using y2
 have Ok:=Lib.hid (show(⟨3,xx - 1,a,x,d,y⟩:FinD).ok from⟨ok1,ok2,ok3,ok4,(by show xx - 1<=20;omega)⟩)
 have wn:IntKind.u64.wrap (n:Int)=(n:Int):=by rw [IntKind.wrap_u64];omega
 have hz':(xx:Int)<=(n:Int):=by omega
 obtain⟨t,rfl⟩:∃ t,xx=t+1:=⟨xx - 1,by omega⟩
 rw [Nat.add_sub_cancel] at Ok ⊢
 have wx:IntKind.i64.wrap ((t+1:Nat):Int)=((t+1:Nat):Int):=by rw [IntKind.wrap_i64];omega
 have wx2:IntKind.i64.wrap (((t+1:Nat):Int) - 1)=(t:Int):=by rw [IntKind.wrap_i64];omega
 obtain⟨xi,hxi⟩:∃ xi:Int,xi=((t+1:Nat):Int):=⟨_,rfl⟩
 rw [<-hxi] at wx wx2 hz' hx0 FR
 clear hxi
 clear y1 y2 hz
 have tx:=x0
 have t0:w.cell? ⟨bT,0,none⟩=some (.int .i64 0):=by rw [cell_blk hb];rfl
 have t1:w.cell? ⟨bT,1,none⟩=some (.int .i64 (n:Int)):=by rw [cell_blk hb];rfl
 have t2:w.cell? ⟨bT,2,none⟩=some (.int .i64 (k:Int)):=by rw [cell_blk hb];rfl
 have t5:w.cell? ⟨bT,5,none⟩=some (.int .u64 (a:Int)):=by rw [cell_blk hb];rfl
 have H:=Lib.hid h;have RD':=Lib.hid RD;have Hb:=Lib.hid hb
 clear h hcnt hr hm' had hfo  RD hb hrU hxU ok1 ok2 ok3 ok4 ok5 x0 hfr
 unfold queueV at QF
 go_enter Try.func175,Try.ntmps175
 go_upto_region 1 with fail
 go_region_held3 (λu=>u.cell? ⟨bW,0,none⟩=some (.pointer (some ⟨bm,0,none⟩))/\u.cell? ⟨bT,0,none⟩=some (.int .i64 0)/\u.cell? ⟨bT,1,none⟩=some (.int .i64 (n:Int))/\u.cell? ⟨bT,2,none⟩=some (.int .i64 (k:Int))/\u.cell? ⟨bT,5,none⟩=some (.int .u64 (a:Int)))
  (first|exact⟨tx,t0,t1,t2,t5⟩|exact⟨txw5,t0w5,t1w5,t2w5,t5w5⟩)
  (first|(go_at_call 155;refine(QF.out _).mono ?_;rintro e w5 ⟨rfl,hb5⟩;have hc5:Chg noF w w5:=((Chg.refl _ w).drew).trans (Chg.of_below hb5);have txw5:=box_keep hc5 (λh=>h) tx;have t0w5:=box_keep hc5 (λh=>h) t0;have t1w5:=box_keep hc5 (λh=>h) t1;have t2w5:=box_keep hc5 (λh=>h) t2;have t5w5:=box_keep hc5 (λh=>h) t5))
 clear tx t0 t1 t2 t5
 go_upto_region 2 with fail
 go_region_held3 (λu=>u.cell? ⟨bW,0,none⟩=some (.pointer (some ⟨bm,0,none⟩))/\u.cell? ⟨bT,0,none⟩=some (.int .i64 0)/\u.cell? ⟨bT,1,none⟩=some (.int .i64 (n:Int))/\u.cell? ⟨bT,2,none⟩=some (.int .i64 (k:Int))/\u.cell? ⟨bT,5,none⟩=some (.int .u64 (a:Int)))
  (first|exact⟨txw5,t0w5,t1w5,t2w5,t5w5⟩|exact⟨txw5w6,t0w5w6,t1w5w6,t2w5w6,t5w5w6⟩|exact⟨txw5w6,t0w5w6,t1w5w6,t2w5w6,t5w5w6⟩)
  (first|(go_at_call 136;refine(RD'.out _ (hc5.drew)).mono ?_;rintro e w6 ⟨rfl,hm6,hc6⟩;have hc6z:Chg (MemSet bm bw) w5 w6:=((Chg.refl _ w5).drew).trans hc6;have txw5w6:=box_keep hc6z n2 txw5;have t0w5w6:=box_keep hc6z n1 t0w5;have t1w5w6:=box_keep hc6z n1 t1w5;have t2w5w6:=box_keep hc6z n1 t2w5;have t5w5w6:=box_keep hc6z n1 t5w5)|(go_at_call 156;refine(FR.out _).mono ?_;rintro e w7 ⟨rfl,rfl⟩;have hc7z:Chg (MemSet bm bw) w5 w6:=hc6z;have txw5w6:=box_keep hc7z n2 txw5;have t0w5w6:=box_keep hc7z n1 t0w5;have t1w5w6:=box_keep hc7z n1 t1w5;have t2w5w6:=box_keep hc7z n1 t2w5;have t5w5w6:=box_keep hc7z n1 t5w5))
 have hc69:Chg (MemSet bm bw) w w6:=(hc5.mono (λ_ _ h=>h.elim)).trans hc6z
 have b6:=(hc69.block bT lT n1).trans Hb.out
 have B6:=Lib.hid b6
 have HC:=Lib.hid hc69;have HM:=Lib.hid hm6
 clear hc69 hc6z hc7z hc6 hm6 hc5 hb5 txw5 t0w5 t1w5 t2w5 t5w5 txw5w6 t0w5w6 t1w5w6 t2w5w6 t5w5w6
 have t1:w6.cell? ⟨bT,1,none⟩=some (.int .i64 (n:Int)):=by rw [cell_blk b6];rfl
 have t3:w6.cell? ⟨bT,3,none⟩=some (.int .i64 2):=by rw [cell_blk b6];rfl
 have t4:w6.cell? ⟨bT,4,none⟩=some (.int .i64 (ow:Int)):=by rw [cell_blk b6];rfl
 have tf3:=frozen_blk b6 3;have tf4:=frozen_blk b6 4
 have l6:=blk_lt b6
 clear b6
 go_wp2
 go_ret
 refine⟨rfl,H.out.acc HC.out HM.out ((((Chg.refl (λb=>b=bT) w6).setCell (by exact .inl rfl) _).setCell (by exact .inl rfl) _).setCell (by exact .inl rfl) _) ?_ Ok.out⟩
 rw [blk_set (blk_set (blk_set B6.out _ _) _ _) _ _];rfl
set_option maxHeartbeats 4000000 in
theorem who_gt {w:World} {n k bT bW bm:Nat} {bw:Option Nat} {ow a x d y:Nat} {m:MemD} (h:FinAt (hdCells n k) 129 w bT bW bm bw ⟨2,ow,a,x,d,y⟩ m) (hn:n<=16) (hcnt:m.c.all+1<1000000000000) (hyes:(memRead m (fAt n k a 1)).2 / 1073741824=a / 1024/\((memRead m (fAt n k a 1)).2 % 1073741824)≠0) (hz:¬ ((memRead m (fAt n k a 1)).2 % 1073741824)<=n) :
  Calls Try.prog 175 #[.pointer (some ⟨bT,0,none⟩),.pointer (some ⟨bW,0,none⟩)] w λe w'=>e=.returned (.bool false)/\FinAt (hdCells n k) 129 w' bT bW bm bw ⟨6,ow,a,x,d,y⟩ (memRead m (fAt n k a 1)).1/\Chg (FinS bT bm bw) w w':=by
 have hb:=h.blk
 have lT:=blk_lt hb
 have lW:=h.wl
 have x0:=h.wld
 have n1:=h.n1;have n2:=h.n2;have n3:=h.n3
 have n3':bT≠bW:=λe=>n3 e.symm
 obtain⟨ok1,ok2,ok3,ok4,ok5⟩:=h.ok
 simp only at ok1 ok2 ok3 ok4 ok5
 have hrU:U64 (memRead m (fAt n k a 1)).2:=mem_val h.mem
 have RD:=λ(u:World) (hu:Chg noF w u)=>read_any bm bw m (fAt n k a 1) u (h.mem.chg hu (λh=>h) (λ_ _ h=>h)) hcnt
 have QF:=Lib.hid (λu=>queue_field n k a 1 (by omega) ok1 (by decide) u)
 obtain⟨ad,had⟩:∃ ad,ad=fAt n k a 1:=⟨_,rfl⟩
 obtain⟨fo,hfo⟩:∃ fo,fo=fOk n k a 1:=⟨_,rfl⟩
 rw [<-had,<-hfo] at QF
 rw [<-had] at RD hrU hyes hz ⊢
 obtain⟨r,hr⟩:∃ r,r=(memRead m ad).2:=⟨_,rfl⟩
 rw [<-hr] at RD hrU hyes hz
 obtain⟨m',hm'⟩:∃ m',m'=(memRead m ad).1:=⟨_,rfl⟩
 rw [<-hm'] at RD ⊢
 have FR:=Lib.hid (λu=>fresh_any r a hrU ok1 u)
 obtain⟨fr,hfr⟩:∃ fr,fr=decide (r / 1073741824=a / 1024):=⟨_,rfl⟩
 obtain⟨xx,hxx⟩:∃ xx,xx=r % 1073741824:=⟨_,rfl⟩
 rw [<-hfr,<-hxx] at FR
 have hxU:U64 xx:=by rw [hxx];unfold U64;omega
 rw [<-hxx] at hyes hz
 obtain⟨y1,y2⟩:=hyes
 obtain rfl:fr=true:=by rw [hfr];exact decide_eq_true y1
 have hx0:((xx:Int) == 0)=false:=by simpa using y2
 have Ok:=Lib.hid (show(⟨6,ow,a,x,d,y⟩:FinD).ok from⟨ok1,ok2,ok3,ok4,ok5⟩)
 have wn:IntKind.u64.wrap (n:Int)=(n:Int):=by rw [IntKind.wrap_u64];omega
 have hz':¬ (xx:Int)<=(n:Int):=by omega
 clear y1 y2 hz
 have tx:=x0
 have t0:w.cell? ⟨bT,0,none⟩=some (.int .i64 0):=by rw [cell_blk hb];rfl
 have t1:w.cell? ⟨bT,1,none⟩=some (.int .i64 (n:Int)):=by rw [cell_blk hb];rfl
 have t2:w.cell? ⟨bT,2,none⟩=some (.int .i64 (k:Int)):=by rw [cell_blk hb];rfl
 have t5:w.cell? ⟨bT,5,none⟩=some (.int .u64 (a:Int)):=by rw [cell_blk hb];rfl
 have H:=Lib.hid h;have RD':=Lib.hid RD;have Hb:=Lib.hid hb
 clear h hcnt hr hm' had hfo hxx RD hb hrU hxU ok1 ok2 ok3 ok4 ok5 x0 hfr
 unfold queueV at QF
 go_enter Try.func175,Try.ntmps175
 go_upto_region 1 with fail
 go_region_held3 (λu=>u.cell? ⟨bW,0,none⟩=some (.pointer (some ⟨bm,0,none⟩))/\u.cell? ⟨bT,0,none⟩=some (.int .i64 0)/\u.cell? ⟨bT,1,none⟩=some (.int .i64 (n:Int))/\u.cell? ⟨bT,2,none⟩=some (.int .i64 (k:Int))/\u.cell? ⟨bT,5,none⟩=some (.int .u64 (a:Int)))
  (first|exact⟨tx,t0,t1,t2,t5⟩|exact⟨txw5,t0w5,t1w5,t2w5,t5w5⟩)
  (first|(go_at_call 155;refine(QF.out _).mono ?_;rintro e w5 ⟨rfl,hb5⟩;have hc5:Chg noF w w5:=((Chg.refl _ w).drew).trans (Chg.of_below hb5);have txw5:=box_keep hc5 (λh=>h) tx;have t0w5:=box_keep hc5 (λh=>h) t0;have t1w5:=box_keep hc5 (λh=>h) t1;have t2w5:=box_keep hc5 (λh=>h) t2;have t5w5:=box_keep hc5 (λh=>h) t5))
 clear tx t0 t1 t2 t5
 go_upto_region 2 with fail
 go_region_held3 (λu=>u.cell? ⟨bW,0,none⟩=some (.pointer (some ⟨bm,0,none⟩))/\u.cell? ⟨bT,0,none⟩=some (.int .i64 0)/\u.cell? ⟨bT,1,none⟩=some (.int .i64 (n:Int))/\u.cell? ⟨bT,2,none⟩=some (.int .i64 (k:Int))/\u.cell? ⟨bT,5,none⟩=some (.int .u64 (a:Int)))
  (first|exact⟨txw5,t0w5,t1w5,t2w5,t5w5⟩|exact⟨txw5w6,t0w5w6,t1w5w6,t2w5w6,t5w5w6⟩|exact⟨txw5w6,t0w5w6,t1w5w6,t2w5w6,t5w5w6⟩)
  (first|(go_at_call 136;refine(RD'.out _ (hc5.drew)).mono ?_;rintro e w6 ⟨rfl,hm6,hc6⟩;have hc6z:Chg (MemSet bm bw) w5 w6:=((Chg.refl _ w5).drew).trans hc6;have txw5w6:=box_keep hc6z n2 txw5;have t0w5w6:=box_keep hc6z n1 t0w5;have t1w5w6:=box_keep hc6z n1 t1w5;have t2w5w6:=box_keep hc6z n1 t2w5;have t5w5w6:=box_keep hc6z n1 t5w5)|(go_at_call 156;refine(FR.out _).mono ?_;rintro e w7 ⟨rfl,rfl⟩;have hc7z:Chg (MemSet bm bw) w5 w6:=hc6z;have txw5w6:=box_keep hc7z n2 txw5;have t0w5w6:=box_keep hc7z n1 t0w5;have t1w5w6:=box_keep hc7z n1 t1w5;have t2w5w6:=box_keep hc7z n1 t2w5;have t5w5w6:=box_keep hc7z n1 t5w5))
 have hc69:Chg (MemSet bm bw) w w6:=(hc5.mono (λ_ _ h=>h.elim)).trans hc6z
 have b6:=(hc69.block bT lT n1).trans Hb.out
 have B6:=Lib.hid b6
 have HC:=Lib.hid hc69;have HM:=Lib.hid hm6
 clear hc69 hc6z hc7z hc6 hm6 hc5 hb5 txw5 t0w5 t1w5 t2w5 t5w5 txw5w6 t0w5w6 t1w5w6 t2w5w6 t5w5w6
 have t1:w6.cell? ⟨bT,1,none⟩=some (.int .i64 (n:Int)):=by rw [cell_blk b6];rfl
 have t3:w6.cell? ⟨bT,3,none⟩=some (.int .i64 2):=by rw [cell_blk b6];rfl
 have tf3:=frozen_blk b6 3
 have l6:=blk_lt b6
 clear b6
 go_wp2
 go_ret
 refine⟨rfl,H.out.acc HC.out HM.out ((Chg.refl (λb=>b=bT) w6).setCell (by exact .inl rfl) _) ?_ Ok.out⟩
 rw [blk_set B6.out _ _];rfl
set_option maxHeartbeats 4000000 in
theorem hd_3_yes {w:World} {n k bT bW bm:Nat} {bw:Option Nat} {ow a x d y:Nat} {m:MemD} (h:FinAt (hdCells n k) 129 w bT bW bm bw ⟨3,ow,a,x,d,y⟩ m) (hn:n<=16) (hcnt:m.c.all+1<1000000000000) (hyes:dP (memRead m ((2+ow:Nat):Int)).2=true/\dT (memRead m ((2+ow:Nat):Int)).2=true/\dL (memRead m ((2+ow:Nat):Int)).2=a) :
  Calls Try.prog 173 #[.pointer (some ⟨bT,0,none⟩),.pointer (some ⟨bW,0,none⟩)] w λe w'=>e=.returned (.bool false)/\FinAt (hdCells n k) 129 w' bT bW bm bw ⟨4,ow,a,x,(memRead m ((2+ow:Nat):Int)).2,y⟩ (memRead m ((2+ow:Nat):Int)).1/\Chg (FinS bT bm bw) w w':=by
 have hb:=h.blk
 have lT:=blk_lt hb
 have lW:=h.wl
 have x0:=h.wld
 have n1:=h.n1;have n2:=h.n2;have n3:=h.n3
 have n3':bT≠bW:=λe=>n3 e.symm
 obtain⟨ok1,ok2,ok3,ok4,ok5⟩:=h.ok
 simp only at ok1 ok2 ok3 ok4 ok5
 have hrU:U64 (memRead m ((2+ow:Nat):Int)).2:=mem_val h.mem
 have RD:=λ(u:World) (hu:Chg noF w u)=>read_any bm bw m ((2+ow:Nat):Int) u (h.mem.chg hu (λh=>h) (λ_ _ h=>h)) hcnt
 obtain⟨r,hr⟩:∃ r,r=(memRead m ((2+ow:Nat):Int)).2:=⟨_,rfl⟩
 rw [<-hr] at RD hrU hyes ⊢
 obtain⟨m',hm'⟩:∃ m',m'=(memRead m ((2+ow:Nat):Int)).1:=⟨_,rfl⟩
 rw [<-hm'] at RD ⊢
 have QD:=λu=>queue_desc n k ow (by omega) u
 obtain⟨ad,had⟩:∃ ad:Int,ad=((2+ow:Nat):Int):=⟨_,rfl⟩
 rw [<-had] at RD QD
 have QD:=Lib.hid QD
 have UP:=Lib.hid (λu=>descUnpack_any r u hrU)
 have Ok:=Lib.hid (show(⟨4,ow,a,x,r,y⟩:FinD).ok from⟨ok1,ok2,hrU,ok4,ok5⟩)
 unfold queueV at QD
 obtain⟨gp,hgp⟩:∃ gp,gp=dP r:=⟨_,rfl⟩
 obtain⟨gt,hgt⟩:∃ gt,gt=dT r:=⟨_,rfl⟩
 obtain⟨gl,hgl⟩:∃ gl,gl=dL r:=⟨_,rfl⟩
 obtain⟨gh,hgh⟩:∃ gh,gh=dPh r:=⟨_,rfl⟩
 rw [<-hgp,<-hgt,<-hgl] at hyes
 rw [<-hgp,<-hgt,<-hgl,<-hgh] at UP
 clear hr hm' had hrU hgp hgt hgl hgh
 rw [hyes.1,hyes.2.1,hyes.2.2] at UP
 clear hyes
 have t0:w.cell? ⟨bT,0,none⟩=some (.int .i64 0):=by rw [cell_blk hb];rfl
 have t1:w.cell? ⟨bT,1,none⟩=some (.int .i64 (n:Int)):=by rw [cell_blk hb];rfl
 have t2:w.cell? ⟨bT,2,none⟩=some (.int .i64 (k:Int)):=by rw [cell_blk hb];rfl
 have t4:w.cell? ⟨bT,4,none⟩=some (.int .i64 (ow:Int)):=by rw [cell_blk hb];rfl
 have t3:w.cell? ⟨bT,3,none⟩=some (.int .i64 3):=by rw [cell_blk hb];rfl
 have tx:=x0
 have H:=Lib.hid h;have RD':=Lib.hid RD;have Hb:=Lib.hid hb
 clear h hcnt RD hb x0 ok1 ok2 ok3 ok4 ok5
 go_enter Try.func173,Try.ntmps173
 go_upto_region 12 with fail
 go_region_held3 (λu=>u.cell? ⟨bW,0,none⟩=some (.pointer (some ⟨bm,0,none⟩))/\u.cell? ⟨bT,0,none⟩=some (.int .i64 0)/\u.cell? ⟨bT,1,none⟩=some (.int .i64 (n:Int))/\u.cell? ⟨bT,2,none⟩=some (.int .i64 (k:Int))/\u.cell? ⟨bT,4,none⟩=some (.int .i64 (ow:Int)))
  (first|exact⟨tx,t0,t1,t2,t4⟩|exact⟨txw5,t0w5,t1w5,t2w5,t4w5⟩|exact⟨txw1,t0w1,t1w1,t2w1,t4w1⟩|exact⟨box_keep ((Chg.refl (λb=>b=bT) w1).setCell (by exact .inl rfl) _) n3 txw1,(World.cell?_setCell_other _ _ _ _ (by simp)).trans t0w1,(World.cell?_setCell_other _ _ _ _ (by simp)).trans t1w1,(World.cell?_setCell_other _ _ _ _ (by simp)).trans t2w1,(World.cell?_setCell_other _ _ _ _ (by simp)).trans t4w1⟩)
  (first|(go_at_call 159;refine(QD.out _).mono ?_;rintro e w5 ⟨rfl,hb5⟩;have hc5:Chg noF w w5:=((Chg.refl _ w).drew).trans (Chg.of_below hb5);have txw5:=box_keep hc5 (λh=>h) tx;have t0w5:=box_keep hc5 (λh=>h) t0;have t1w5:=box_keep hc5 (λh=>h) t1;have t2w5:=box_keep hc5 (λh=>h) t2;have t4w5:=box_keep hc5 (λh=>h) t4)|(go_at_call 136;refine(RD'.out _ hc5).mono ?_;rintro e w1 ⟨rfl,hm1,hc1⟩;have hc1z:Chg (MemSet bm bw) w w1:=(hc5.mono (λ_ _ h=>h.elim)).trans hc1;have zb:=(hc1z.block bT lT n1).trans Hb.out;have zf:=frozen_blk zb 7;have zo:w1.cell? ⟨bT,7,none⟩=some (.int .u64 (d:Int)):=(by rw [cell_blk zb];rfl);have zlt:=blk_lt zb;have txw1:=box_keep hc1z n2 tx;have t0w1:=box_keep hc1z n1 t0;have t1w1:=box_keep hc1z n1 t1;have t2w1:=box_keep hc1z n1 t2;have t4w1:=box_keep hc1z n1 t4))
 obtain⟨w2,hw2⟩:∃ w2,w2=(w1.setCell ⟨bT,7,none⟩ (.int .u64 (r:Int))):=⟨_,rfl⟩
 have b2:w2.heap[bT]?=some (.cells #[.int .i64 0,.int .i64 (n:Int),.int .i64 (k:Int),.int .i64 3,.int .i64 (ow:Int),.int .u64 (a:Int),.int .u64 (x:Int),.int .u64 (r:Int),.int .u64 (y:Int)] 129 (0,0)):=by rw [hw2];exact blk_set zb _ _
 have hc2:Chg (λb=>b=bT) w1 w2:=by rw [hw2];exact(Chg.refl (λb=>b=bT) w1).setCell (by exact .inl rfl) _
 rw [<-hw2]
 have Hc1:=Lib.hid hc1z;have Hm1:=Lib.hid hm1;have Hc2:=Lib.hid hc2;have B2:=Lib.hid b2
 clear tx t0 t1 t2 t4 t3 txw5 t0w5 t1w5 t2w5 t4w5 txw1 t0w1 t1w1 t2w1 t4w1 zb zf zo zlt hw2 hc1z hm1 hc1 hc5 hb5 hc2
 have t3:w2.cell? ⟨bT,3,none⟩=some (.int .i64 3):=by rw [cell_blk b2];rfl
 have tf3:w2.frozen? ⟨bT,3,none⟩=false:=frozen_blk b2 3
 have l2:=blk_lt b2
 clear b2
 go_upto_region 14 with fail
 obtain⟨w3,hw3⟩:∃ w3,w3=(w2.setCell ⟨bT,3,none⟩ (.int .i64 6)):=⟨_,rfl⟩
 have b3:w3.heap[bT]?=some (.cells #[.int .i64 0,.int .i64 (n:Int),.int .i64 (k:Int),.int .i64 6,.int .i64 (ow:Int),.int .u64 (a:Int),.int .u64 (x:Int),.int .u64 (r:Int),.int .u64 (y:Int)] 129 (0,0)):=by rw [hw3];exact blk_set B2.out _ _
 have hc3:Chg (λb=>b=bT) w2 w3:=by rw [hw3];exact(Chg.refl (λb=>b=bT) w2).setCell (by exact .inl rfl) _
 rw [<-hw3]
 have Hc3:=Lib.hid (Hc2.out.trans hc3);have B3:=Lib.hid b3
 clear hw3 hc3 t3 tf3 l2
 have t7:w3.cell? ⟨bT,7,none⟩=some (.int .u64 (r:Int)):=by rw [cell_blk b3];rfl
 clear b3
 go_wp2_with (go_at_call 160;refine(UP.out _).mono ?_;rintro e w4 ⟨rfl,hb4⟩;obtain⟨wx,hwx⟩:∃ wx,wx=w4.alloc (.cells #[.bool true,.bool true,.int .u64 (a:Int),.int .u64 (gh:Int)] 256):=⟨_,rfl⟩)
 rw [<-hwx]
 have hbx:Below w3.heap.size w3 wx:=by rw [hwx];exact Gr.alloc hb4 _
 have hdx:wx.heap[w4.heap.size]?=some (.cells #[.bool true,.bool true,.int .u64 (a:Int),.int .u64 (gh:Int)] 256 (0,0)):=by rw [hwx];exact heap_alloc_new _ _
 have hBx:wx.heap[bT]?=some (.cells #[.int .i64 0,.int .i64 (n:Int),.int .i64 (k:Int),.int .i64 6,.int .i64 (ow:Int),.int .u64 (a:Int),.int .u64 (x:Int),.int .u64 (r:Int),.int .u64 (y:Int)] 129 (0,0)):=(hbx.block bT (blk_lt B3.out)).trans B3.out
 have HCx:=Lib.hid (Hc3.out.trans (Chg.of_below hbx));have BX:=Lib.hid hBx
 have q0:wx.cell? ⟨w4.heap.size,0,none⟩=some (.bool true):=by rw [cell_blk hdx];rfl
 have q1:wx.cell? ⟨w4.heap.size,1,none⟩=some (.bool true):=by rw [cell_blk hdx];rfl
 have q2:wx.cell? ⟨w4.heap.size,2,none⟩=some (.int .u64 (a:Int)):=by rw [cell_blk hdx];rfl
 have qo:wx.cell? ⟨bT,5,none⟩=some (.int .u64 (a:Int)):=by rw [cell_blk hBx];rfl
 clear t7 hwx hbx hdx hBx hb4
 go_quiet (fail)
 obtain⟨wd,hwd⟩:∃ wd,wd=wx.drewN nq:=⟨_,rfl⟩
 rw [<-hwd]
 have hBd:wd.heap[bT]?=some (.cells #[.int .i64 0,.int .i64 (n:Int),.int .i64 (k:Int),.int .i64 6,.int .i64 (ow:Int),.int .u64 (a:Int),.int .u64 (x:Int),.int .u64 (r:Int),.int .u64 (y:Int)] 129 (0,0)):=by rw [hwd];exact BX.out
 have HCd:=Lib.hid (show Chg (λb=>b=bT) w1 wd by rw [hwd];exact HCx.out.drewN nq);have BD:=Lib.hid hBd
 clear q0 q1 q2 qo hwd
 have t3:wd.cell? ⟨bT,3,none⟩=some (.int .i64 6):=by rw [cell_blk hBd];rfl
 have tf3:wd.frozen? ⟨bT,3,none⟩=false:=frozen_blk hBd 3
 have ld:=blk_lt hBd
 clear hBd
 go_wp2
 go_ret
 refine⟨rfl,H.out.acc Hc1.out Hm1.out (HCd.out.setCell (by exact .inl rfl) _) ?_ Ok.out⟩
 rw [blk_set BD.out _ _];rfl
set_option maxHeartbeats 4000000 in
theorem hd_3_no {w:World} {n k bT bW bm:Nat} {bw:Option Nat} {ow a x d y:Nat} {m:MemD} (h:FinAt (hdCells n k) 129 w bT bW bm bw ⟨3,ow,a,x,d,y⟩ m) (hn:n<=16) (hcnt:m.c.all+1<1000000000000) (hyes:¬ (dP (memRead m ((2+ow:Nat):Int)).2=true/\dT (memRead m ((2+ow:Nat):Int)).2=true/\dL (memRead m ((2+ow:Nat):Int)).2=a)) :
  Calls Try.prog 173 #[.pointer (some ⟨bT,0,none⟩),.pointer (some ⟨bW,0,none⟩)] w λe w'=>e=.returned (.bool false)/\FinAt (hdCells n k) 129 w' bT bW bm bw ⟨6,ow,a,x,(memRead m ((2+ow:Nat):Int)).2,y⟩ (memRead m ((2+ow:Nat):Int)).1/\Chg (FinS bT bm bw) w w':=by
 have hb:=h.blk
 have lT:=blk_lt hb
 have lW:=h.wl
 have x0:=h.wld
 have n1:=h.n1;have n2:=h.n2;have n3:=h.n3
 have n3':bT≠bW:=λe=>n3 e.symm
 obtain⟨ok1,ok2,ok3,ok4,ok5⟩:=h.ok
 simp only at ok1 ok2 ok3 ok4 ok5
 have hrU:U64 (memRead m ((2+ow:Nat):Int)).2:=mem_val h.mem
 have RD:=λ(u:World) (hu:Chg noF w u)=>read_any bm bw m ((2+ow:Nat):Int) u (h.mem.chg hu (λh=>h) (λ_ _ h=>h)) hcnt
 obtain⟨r,hr⟩:∃ r,r=(memRead m ((2+ow:Nat):Int)).2:=⟨_,rfl⟩
 rw [<-hr] at RD hrU hyes ⊢
 obtain⟨m',hm'⟩:∃ m',m'=(memRead m ((2+ow:Nat):Int)).1:=⟨_,rfl⟩
 rw [<-hm'] at RD ⊢
 have QD:=λu=>queue_desc n k ow (by omega) u
 obtain⟨ad,had⟩:∃ ad:Int,ad=((2+ow:Nat):Int):=⟨_,rfl⟩
 rw [<-had] at RD QD
 have QD:=Lib.hid QD
 have UP:=Lib.hid (λu=>descUnpack_any r u hrU)
 have Ok:=Lib.hid (show(⟨6,ow,a,x,r,y⟩:FinD).ok from⟨ok1,ok2,hrU,ok4,ok5⟩)
 unfold queueV at QD
 obtain⟨gp,hgp⟩:∃ gp,gp=dP r:=⟨_,rfl⟩
 obtain⟨gt,hgt⟩:∃ gt,gt=dT r:=⟨_,rfl⟩
 obtain⟨gl,hgl⟩:∃ gl,gl=dL r:=⟨_,rfl⟩
 obtain⟨gh,hgh⟩:∃ gh,gh=dPh r:=⟨_,rfl⟩
 rw [<-hgp,<-hgt,<-hgl] at hyes
 rw [<-hgp,<-hgt,<-hgl,<-hgh] at UP
 clear hr hm' had hrU hgp hgt hgl hgh
 have hno:gp=false∨(gp=true/\gt=false)∨(gp=true/\gt=true/\gl≠a):=by
  cases gp<;>cases gt<;>simp_all
 clear hyes
 have t0:w.cell? ⟨bT,0,none⟩=some (.int .i64 0):=by rw [cell_blk hb];rfl
 have t1:w.cell? ⟨bT,1,none⟩=some (.int .i64 (n:Int)):=by rw [cell_blk hb];rfl
 have t2:w.cell? ⟨bT,2,none⟩=some (.int .i64 (k:Int)):=by rw [cell_blk hb];rfl
 have t4:w.cell? ⟨bT,4,none⟩=some (.int .i64 (ow:Int)):=by rw [cell_blk hb];rfl
 have t3:w.cell? ⟨bT,3,none⟩=some (.int .i64 3):=by rw [cell_blk hb];rfl
 have tx:=x0
 have H:=Lib.hid h;have RD':=Lib.hid RD;have Hb:=Lib.hid hb
 clear h hcnt RD hb x0 ok1 ok2 ok3 ok4 ok5
 go_enter Try.func173,Try.ntmps173
 go_upto_region 12 with fail
 go_region_held3 (λu=>u.cell? ⟨bW,0,none⟩=some (.pointer (some ⟨bm,0,none⟩))/\u.cell? ⟨bT,0,none⟩=some (.int .i64 0)/\u.cell? ⟨bT,1,none⟩=some (.int .i64 (n:Int))/\u.cell? ⟨bT,2,none⟩=some (.int .i64 (k:Int))/\u.cell? ⟨bT,4,none⟩=some (.int .i64 (ow:Int)))
  (first|exact⟨tx,t0,t1,t2,t4⟩|exact⟨txw5,t0w5,t1w5,t2w5,t4w5⟩|exact⟨txw1,t0w1,t1w1,t2w1,t4w1⟩|exact⟨box_keep ((Chg.refl (λb=>b=bT) w1).setCell (by exact .inl rfl) _) n3 txw1,(World.cell?_setCell_other _ _ _ _ (by simp)).trans t0w1,(World.cell?_setCell_other _ _ _ _ (by simp)).trans t1w1,(World.cell?_setCell_other _ _ _ _ (by simp)).trans t2w1,(World.cell?_setCell_other _ _ _ _ (by simp)).trans t4w1⟩)
  (first|(go_at_call 159;refine(QD.out _).mono ?_;rintro e w5 ⟨rfl,hb5⟩;have hc5:Chg noF w w5:=((Chg.refl _ w).drew).trans (Chg.of_below hb5);have txw5:=box_keep hc5 (λh=>h) tx;have t0w5:=box_keep hc5 (λh=>h) t0;have t1w5:=box_keep hc5 (λh=>h) t1;have t2w5:=box_keep hc5 (λh=>h) t2;have t4w5:=box_keep hc5 (λh=>h) t4)|(go_at_call 136;refine(RD'.out _ hc5).mono ?_;rintro e w1 ⟨rfl,hm1,hc1⟩;have hc1z:Chg (MemSet bm bw) w w1:=(hc5.mono (λ_ _ h=>h.elim)).trans hc1;have zb:=(hc1z.block bT lT n1).trans Hb.out;have zf:=frozen_blk zb 7;have zo:w1.cell? ⟨bT,7,none⟩=some (.int .u64 (d:Int)):=(by rw [cell_blk zb];rfl);have zlt:=blk_lt zb;have txw1:=box_keep hc1z n2 tx;have t0w1:=box_keep hc1z n1 t0;have t1w1:=box_keep hc1z n1 t1;have t2w1:=box_keep hc1z n1 t2;have t4w1:=box_keep hc1z n1 t4))
 obtain⟨w2,hw2⟩:∃ w2,w2=(w1.setCell ⟨bT,7,none⟩ (.int .u64 (r:Int))):=⟨_,rfl⟩
 have b2:w2.heap[bT]?=some (.cells #[.int .i64 0,.int .i64 (n:Int),.int .i64 (k:Int),.int .i64 3,.int .i64 (ow:Int),.int .u64 (a:Int),.int .u64 (x:Int),.int .u64 (r:Int),.int .u64 (y:Int)] 129 (0,0)):=by rw [hw2];exact blk_set zb _ _
 have hc2:Chg (λb=>b=bT) w1 w2:=by rw [hw2];exact(Chg.refl (λb=>b=bT) w1).setCell (by exact .inl rfl) _
 rw [<-hw2]
 have Hc1:=Lib.hid hc1z;have Hm1:=Lib.hid hm1;have Hc2:=Lib.hid hc2;have B2:=Lib.hid b2
 clear tx t0 t1 t2 t4 t3 txw5 t0w5 t1w5 t2w5 t4w5 txw1 t0w1 t1w1 t2w1 t4w1 zb zf zo zlt hw2 hc1z hm1 hc1 hc5 hb5 hc2
 have t3:w2.cell? ⟨bT,3,none⟩=some (.int .i64 3):=by rw [cell_blk b2];rfl
 have tf3:w2.frozen? ⟨bT,3,none⟩=false:=frozen_blk b2 3
 have l2:=blk_lt b2
 clear b2
 go_upto_region 14 with fail
 obtain⟨w3,hw3⟩:∃ w3,w3=(w2.setCell ⟨bT,3,none⟩ (.int .i64 6)):=⟨_,rfl⟩
 have b3:w3.heap[bT]?=some (.cells #[.int .i64 0,.int .i64 (n:Int),.int .i64 (k:Int),.int .i64 6,.int .i64 (ow:Int),.int .u64 (a:Int),.int .u64 (x:Int),.int .u64 (r:Int),.int .u64 (y:Int)] 129 (0,0)):=by rw [hw3];exact blk_set B2.out _ _
 have hc3:Chg (λb=>b=bT) w2 w3:=by rw [hw3];exact(Chg.refl (λb=>b=bT) w2).setCell (by exact .inl rfl) _
 rw [<-hw3]
 have Hc3:=Lib.hid (Hc2.out.trans hc3);have B3:=Lib.hid b3
 clear hw3 hc3 t3 tf3 l2
 have t7:w3.cell? ⟨bT,7,none⟩=some (.int .u64 (r:Int)):=by rw [cell_blk b3];rfl
 clear b3
 go_wp2_with (go_at_call 160;refine(UP.out _).mono ?_;rintro e w4 ⟨rfl,hb4⟩;obtain⟨wx,hwx⟩:∃ wx,wx=w4.alloc (.cells #[.bool gp,.bool gt,.int .u64 (gl:Int),.int .u64 (gh:Int)] 256):=⟨_,rfl⟩)
 rw [<-hwx]
 have hbx:Below w3.heap.size w3 wx:=by rw [hwx];exact Gr.alloc hb4 _
 have hdx:wx.heap[w4.heap.size]?=some (.cells #[.bool gp,.bool gt,.int .u64 (gl:Int),.int .u64 (gh:Int)] 256 (0,0)):=by rw [hwx];exact heap_alloc_new _ _
 have hBx:wx.heap[bT]?=some (.cells #[.int .i64 0,.int .i64 (n:Int),.int .i64 (k:Int),.int .i64 6,.int .i64 (ow:Int),.int .u64 (a:Int),.int .u64 (x:Int),.int .u64 (r:Int),.int .u64 (y:Int)] 129 (0,0)):=(hbx.block bT (blk_lt B3.out)).trans B3.out
 have HCx:=Lib.hid (Hc3.out.trans (Chg.of_below hbx));have BX:=Lib.hid hBx
 have q0:wx.cell? ⟨w4.heap.size,0,none⟩=some (.bool gp):=by rw [cell_blk hdx];rfl
 have q1:wx.cell? ⟨w4.heap.size,1,none⟩=some (.bool gt):=by rw [cell_blk hdx];rfl
 have q2:wx.cell? ⟨w4.heap.size,2,none⟩=some (.int .u64 (gl:Int)):=by rw [cell_blk hdx];rfl
 have qo:wx.cell? ⟨bT,5,none⟩=some (.int .u64 (a:Int)):=by rw [cell_blk hBx];rfl
 clear t7 hwx hbx hdx hBx hb4
 rcases hno with rfl|⟨rfl,rfl⟩|⟨rfl,rfl,hne⟩
 ·go_quiet (fail)
  obtain⟨wd,hwd⟩:∃ wd,wd=wx.drewN nq:=⟨_,rfl⟩
  rw [<-hwd]
  have hBd:wd.heap[bT]?=some (.cells #[.int .i64 0,.int .i64 (n:Int),.int .i64 (k:Int),.int .i64 6,.int .i64 (ow:Int),.int .u64 (a:Int),.int .u64 (x:Int),.int .u64 (r:Int),.int .u64 (y:Int)] 129 (0,0)):=by rw [hwd];exact BX.out
  have HCd:=Lib.hid (show Chg (λb=>b=bT) w1 wd by rw [hwd];exact HCx.out.drewN nq);have BD:=Lib.hid hBd
  clear q0 q1 q2 qo hwd
  clear hBd
  go_wp2
  go_ret
  exact⟨rfl,H.out.acc Hc1.out Hm1.out HCd.out BD.out Ok.out⟩
 ·go_quiet (fail)
  obtain⟨wd,hwd⟩:∃ wd,wd=wx.drewN nq:=⟨_,rfl⟩
  rw [<-hwd]
  have hBd:wd.heap[bT]?=some (.cells #[.int .i64 0,.int .i64 (n:Int),.int .i64 (k:Int),.int .i64 6,.int .i64 (ow:Int),.int .u64 (a:Int),.int .u64 (x:Int),.int .u64 (r:Int),.int .u64 (y:Int)] 129 (0,0)):=by rw [hwd];exact BX.out
  have HCd:=Lib.hid (show Chg (λb=>b=bT) w1 wd by rw [hwd];exact HCx.out.drewN nq);have BD:=Lib.hid hBd
  clear q0 q1 q2 qo hwd
  clear hBd
  go_wp2
  go_ret
  exact⟨rfl,H.out.acc Hc1.out Hm1.out HCd.out BD.out Ok.out⟩
 ·have hnq:((gl:Int) ==(a:Int))=false:=beq_eq_false_iff_ne.2 (by omega)
  clear hne
  go_quiet (fail)
  obtain⟨wd,hwd⟩:∃ wd,wd=wx.drewN nq:=⟨_,rfl⟩
  rw [<-hwd]
  have hBd:wd.heap[bT]?=some (.cells #[.int .i64 0,.int .i64 (n:Int),.int .i64 (k:Int),.int .i64 6,.int .i64 (ow:Int),.int .u64 (a:Int),.int .u64 (x:Int),.int .u64 (r:Int),.int .u64 (y:Int)] 129 (0,0)):=by rw [hwd];exact BX.out
  have HCd:=Lib.hid (show Chg (λb=>b=bT) w1 wd by rw [hwd];exact HCx.out.drewN nq);have BD:=Lib.hid hBd
  clear q0 q1 q2 qo hwd
  clear hBd
  go_wp2
  go_ret
  exact⟨rfl,H.out.acc Hc1.out Hm1.out HCd.out BD.out Ok.out⟩
set_option maxHeartbeats 4000000 in
theorem hd_done {w:World} {n k bT bW bm:Nat} {bw:Option Nat} {ow a x d y:Nat} {m:MemD} (h:FinAt (hdCells n k) 129 w bT bW bm bw ⟨5,ow,a,x,d,y⟩ m) (hn:n<=16) (hcnt:m.c.all+1<1000000000000) :
  Calls Try.prog 176 #[.pointer (some ⟨bT,0,none⟩),.pointer (some ⟨bW,0,none⟩)] w λe w'=>e=.returned (.tuple #[])/\FinAt (hdCells n k) 129 w' bT bW bm bw ⟨6,ow,a,x,d,y⟩ (memSwap m ((2+ow:Nat):Int) d (putN (d / 2*2) 2 30 (y % 4294967296 % 16777216+1))).1/\Chg (FinS bT bm bw) w w':=by
 have hb:=h.blk
 have lT:=blk_lt hb
 have lW:=h.wl
 have x0:=h.wld
 have n1:=h.n1;have n2:=h.n2;have n3:=h.n3
 have n3':bT≠bW:=λe=>n3 e.symm
 obtain⟨ok1,ok2,ok3,ok4,ok5⟩:=h.ok
 simp only at ok1 ok2 ok3 ok4 ok5
 obtain⟨lv,hlv⟩:∃ lv,lv=(y % 4294967296 % 16777216+1):=⟨_,rfl⟩
 have hlt:lv<1073741824:=by rw [hlv];omega
 rw [<-hlv]
 obtain⟨pn,hpn⟩:∃ pn,pn=(putN (d / 2*2) 2 30 lv):=⟨_,rfl⟩
 have hnew:pn<18446744073709551616:=by rw [hpn];exact fin_put_lt ok3 hlt
 have FN:=λu=>descFinish_yes d lv u ok3 hlt
 rw [<-hpn] at FN ⊢
 have UV:=Lib.hid (λu=>unvalue_any y u ok4)
 obtain⟨v,hv⟩:∃ v,v=y % 4294967296:=⟨_,rfl⟩
 have hv2:v<4294967296:=by rw [hv];omega
 have hl2:IntKind.u64.wrap ((v:Int) % 16777216+1)=(lv:Int):=by rw [hlv,<-hv,IntKind.wrap_u64];omega
 have Hv:=Lib.hid hv
 have FN:=Lib.hid FN
 have SW:=λ(u:World) (hu:Chg noF w u)=>swap_any bm bw m ((2+ow:Nat):Int) d pn u (h.mem.chg hu (λh=>h) (λ_ _ h=>h)) hnew hcnt
 obtain⟨m',hm'⟩:∃ m',m'=(memSwap m ((2+ow:Nat):Int) d pn).1:=⟨_,rfl⟩
 obtain⟨sb,hsb⟩:∃ sb,sb=(memSwap m ((2+ow:Nat):Int) d pn).2:=⟨_,rfl⟩
 rw [<-hm',<-hsb] at SW
 rw [<-hm']
 have QD:=λu=>queue_desc n k ow (by omega) u
 obtain⟨ad,had⟩:∃ ad:Int,ad=((2+ow:Nat):Int):=⟨_,rfl⟩
 rw [<-had] at SW QD
 have QD:=Lib.hid QD
 have Ok:=Lib.hid (show(⟨6,ow,a,x,d,y⟩:FinD).ok from⟨ok1,ok2,ok3,ok4,ok5⟩)
 unfold queueV at QD
 have t0:w.cell? ⟨bT,0,none⟩=some (.int .i64 0):=by rw [cell_blk hb];rfl
 have t1:w.cell? ⟨bT,1,none⟩=some (.int .i64 (n:Int)):=by rw [cell_blk hb];rfl
 have t2:w.cell? ⟨bT,2,none⟩=some (.int .i64 (k:Int)):=by rw [cell_blk hb];rfl
 have t4:w.cell? ⟨bT,4,none⟩=some (.int .i64 (ow:Int)):=by rw [cell_blk hb];rfl
 have t7:w.cell? ⟨bT,7,none⟩=some (.int .u64 (d:Int)):=by rw [cell_blk hb];rfl
 have t8:w.cell? ⟨bT,8,none⟩=some (.int .u64 (y:Int)):=by rw [cell_blk hb];rfl
 have tx:=x0
 have H:=Lib.hid h;have SW:=Lib.hid SW;have Hb:=Lib.hid hb
 clear h hcnt hb x0 ok1 ok2 ok3 ok4 ok5 hm' hsb had hpn hlt hnew hlv hv
 go_enter Try.func176,Try.ntmps176
 go_upto_region 2 with(first|(go_at_call 177;refine(UV.out _).mono ?_;rintro e w7 ⟨va,vb,rfl,rfl,hva,hvb⟩;obtain rfl:vb=v:=hvb.out.trans Hv.out.symm;clear hva hvb)|(go_at_call 161;refine(FN.out _).mono ?_;rintro e w7 ⟨rfl,rfl⟩))
 clear t8
 go_region_held3 (λu=>u.cell? ⟨bW,0,none⟩=some (.pointer (some ⟨bm,0,none⟩))/\u.cell? ⟨bT,0,none⟩=some (.int .i64 0)/\u.cell? ⟨bT,1,none⟩=some (.int .i64 (n:Int))/\u.cell? ⟨bT,2,none⟩=some (.int .i64 (k:Int))/\u.cell? ⟨bT,4,none⟩=some (.int .i64 (ow:Int))/\u.cell? ⟨bT,7,none⟩=some (.int .u64 (d:Int)))
  (first|exact⟨tx,t0,t1,t2,t4,t7⟩|exact⟨txw5,t0w5,t1w5,t2w5,t4w5,t7w5⟩|exact⟨txw1,t0w1,t1w1,t2w1,t4w1,t7w1⟩)
  (first|(go_at_call 159;refine(QD.out _).mono ?_;rintro e w5 ⟨rfl,hb5⟩;have hc5:Chg noF w w5:=((Chg.refl _ w).drew).trans (Chg.of_below hb5);have txw5:=box_keep hc5 (λh=>h) tx;have t0w5:=box_keep hc5 (λh=>h) t0;have t1w5:=box_keep hc5 (λh=>h) t1;have t2w5:=box_keep hc5 (λh=>h) t2;have t4w5:=box_keep hc5 (λh=>h) t4;have t7w5:=box_keep hc5 (λh=>h) t7)|(go_at_call 162;refine(SW.out _ hc5).mono ?_;rintro e w1 ⟨rfl,hm1,hc1⟩;have hc1z:Chg (MemSet bm bw) w w1:=(hc5.mono (λ_ _ h=>h.elim)).trans hc1;have txw1:=box_keep hc1z n2 tx;have t0w1:=box_keep hc1z n1 t0;have t1w1:=box_keep hc1z n1 t1;have t2w1:=box_keep hc1z n1 t2;have t4w1:=box_keep hc1z n1 t4;have t7w1:=box_keep hc1z n1 t7))
 have b1:=(hc1z.block bT lT n1).trans Hb.out
 have HC:=Lib.hid hc1z;have HM:=Lib.hid hm1;have B1:=Lib.hid b1
 clear hc1z hm1
 clear tx t0 t1 t2 t4 t7 txw5 t0w5 t1w5 t2w5 t4w5 t7w5 txw1 t0w1 t1w1 t2w1 t4w1 t7w1 hc1 hc5 hb5
 have t3:w1.cell? ⟨bT,3,none⟩=some (.int .i64 5):=by rw [cell_blk b1];rfl
 have tf3:w1.frozen? ⟨bT,3,none⟩=false:=frozen_blk b1 3
 have l1:=blk_lt b1
 clear b1
 go_wp2
 go_end0
 refine⟨rfl,H.out.acc HC.out HM.out ((Chg.refl (λb=>b=bT) w1).setCell (by exact .inl rfl) _) ?_ Ok.out⟩
 rw [blk_set B1.out _ _];rfl
end Go.Proofs.Ytlanekkbciffcaa
