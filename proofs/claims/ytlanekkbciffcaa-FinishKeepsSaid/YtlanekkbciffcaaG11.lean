/- Layer 21: finishing at the head: the rest of the machine. -/
import Derived.Test.YtlanekkbciffcaaG10
import Derived.Deep.Cut
import Derived.Deep.RegionHeld3
set_option maxRecDepth 100000
set_option linter.unusedVariables false
set_option linter.unusedSimpArgs false
set_option linter.unnecessarySimpa false
namespace Go.Proofs.Ytlanekkbciffcaa
open Go.RowKit
set_option maxHeartbeats 4000000 in
theorem hd_1 {w:World} {n k bT bW bm:Nat} {bw:Option Nat} {ow a x d y:Nat} {m:MemD} (h:FinAt (hdCells n k) 129 w bT bW bm bw ⟨1,ow,a,x,d,y⟩ m) (hn:n<=16) (hcnt:m.c.all+1<1000000000000) :
  Calls Try.prog 173 #[.pointer (some ⟨bT,0,none⟩),.pointer (some ⟨bW,0,none⟩)] w λe w'=>e=.returned (.bool (!(decide ((memRead m (fAt n k a 0)).2 / 1073741824=a / 1024) && decide (((memRead m (fAt n k a 0)).2 % 1073741824)≠0) && fOk n k ((memRead m (fAt n k a 0)).2 % 1073741824) 2)))/\FinAt (hdCells n k) 129 w' bT bW bm bw ⟨2,ow,a,((memRead m (fAt n k a 0)).2 % 1073741824),d,y⟩ (memRead m (fAt n k a 0)).1/\Chg (FinS bT bm bw) w w':=by
 have hb:=h.blk
 have lT:=blk_lt hb
 have lW:=h.wl
 have x0:=h.wld
 have n1:=h.n1;have n2:=h.n2;have n3:=h.n3
 have n3':bT≠bW:=λe=>n3 e.symm
 obtain⟨ok1,ok2,ok3,ok4,ok5⟩:=h.ok
 simp only at ok1 ok2 ok3 ok4 ok5
 have t3:w.cell? ⟨bT,3,none⟩=some (.int .i64 1):=by rw [cell_blk hb];rfl
 have C:=next_a h hn hcnt
 obtain⟨rs,hrs⟩:∃ rs,rs=(!(decide ((memRead m (fAt n k a 0)).2 / 1073741824=a / 1024) && decide (((memRead m (fAt n k a 0)).2 % 1073741824)≠0) && fOk n k ((memRead m (fAt n k a 0)).2 % 1073741824) 2)):=⟨_,rfl⟩
 rw [<-hrs] at C ⊢
 obtain⟨s1,hs1⟩:∃ s1:FinD,s1=⟨2,ow,a,((memRead m (fAt n k a 0)).2 % 1073741824),d,y⟩:=⟨_,rfl⟩
 rw [<-hs1] at C ⊢
 obtain⟨m',hm'⟩:∃ m',m'=(memRead m (fAt n k a 0)).1:=⟨_,rfl⟩
 rw [<-hm'] at C ⊢
 have C:=Lib.hid C
 clear h hcnt hb x0 ok1 ok2 ok3 ok4 ok5 hrs hs1 hm'
 go_enter Try.func173,Try.ntmps173
 go_wp2_with (go_at_call 174;refine(C.out).mono ?_;rintro e w1 ⟨rfl,h1⟩)
 go_ret
 exact⟨rfl,h1⟩
set_option maxHeartbeats 4000000 in
theorem hd_2_no {w:World} {n k bT bW bm:Nat} {bw:Option Nat} {ow a x d y:Nat} {m:MemD} (h:FinAt (hdCells n k) 129 w bT bW bm bw ⟨2,ow,a,x,d,y⟩ m) (hn:n<=16) (hcnt:m.c.all+1<1000000000000) (hyes:¬ ((memRead m (fAt n k a 1)).2 / 1073741824=a / 1024/\(memRead m (fAt n k a 1)).2 % 1073741824≠0)) :
  Calls Try.prog 173 #[.pointer (some ⟨bT,0,none⟩),.pointer (some ⟨bW,0,none⟩)] w λe w'=>e=.returned (.bool true)/\FinAt (hdCells n k) 129 w' bT bW bm bw ⟨2,ow,a,x,d,y⟩ (memRead m (fAt n k a 1)).1/\Chg (FinS bT bm bw) w w':=by
 have hb:=h.blk
 have lT:=blk_lt hb
 have lW:=h.wl
 have x0:=h.wld
 have n1:=h.n1;have n2:=h.n2;have n3:=h.n3
 have n3':bT≠bW:=λe=>n3 e.symm
 obtain⟨ok1,ok2,ok3,ok4,ok5⟩:=h.ok
 simp only at ok1 ok2 ok3 ok4 ok5
 have t3:w.cell? ⟨bT,3,none⟩=some (.int .i64 2):=by rw [cell_blk hb];rfl
 have C:=who_no h hn hcnt hyes
 obtain⟨s1,hs1⟩:∃ s1:FinD,s1=⟨2,ow,a,x,d,y⟩:=⟨_,rfl⟩
 rw [<-hs1] at C ⊢
 obtain⟨m',hm'⟩:∃ m',m'=(memRead m (fAt n k a 1)).1:=⟨_,rfl⟩
 rw [<-hm'] at C ⊢
 have C:=Lib.hid C
 clear h hcnt hb x0 ok1 ok2 ok3 ok4 ok5 hs1 hm' hyes
 go_enter Try.func173,Try.ntmps173
 go_wp2_with (go_at_call 175;refine(C.out).mono ?_;rintro e w1 ⟨rfl,h1⟩)
 go_ret
 exact⟨rfl,h1⟩
set_option maxHeartbeats 4000000 in
theorem hd_2_le {w:World} {n k bT bW bm:Nat} {bw:Option Nat} {ow a x d y:Nat} {m:MemD} (h:FinAt (hdCells n k) 129 w bT bW bm bw ⟨2,ow,a,x,d,y⟩ m) (hn:n<=16) (hcnt:m.c.all+1<1000000000000) (hyes:(memRead m (fAt n k a 1)).2 / 1073741824=a / 1024/\(memRead m (fAt n k a 1)).2 % 1073741824≠0) (hz:(memRead m (fAt n k a 1)).2 % 1073741824<=n) :
  Calls Try.prog 173 #[.pointer (some ⟨bT,0,none⟩),.pointer (some ⟨bW,0,none⟩)] w λe w'=>e=.returned (.bool false)/\FinAt (hdCells n k) 129 w' bT bW bm bw ⟨3,(memRead m (fAt n k a 1)).2 % 1073741824 - 1,a,x,d,y⟩ (memRead m (fAt n k a 1)).1/\Chg (FinS bT bm bw) w w':=by
 have hb:=h.blk
 have lT:=blk_lt hb
 have lW:=h.wl
 have x0:=h.wld
 have n1:=h.n1;have n2:=h.n2;have n3:=h.n3
 have n3':bT≠bW:=λe=>n3 e.symm
 obtain⟨ok1,ok2,ok3,ok4,ok5⟩:=h.ok
 simp only at ok1 ok2 ok3 ok4 ok5
 have t3:w.cell? ⟨bT,3,none⟩=some (.int .i64 2):=by rw [cell_blk hb];rfl
 have C:=who_le h hn hcnt hyes hz
 obtain⟨s1,hs1⟩:∃ s1:FinD,s1=⟨3,(memRead m (fAt n k a 1)).2 % 1073741824 - 1,a,x,d,y⟩:=⟨_,rfl⟩
 rw [<-hs1] at C ⊢
 obtain⟨m',hm'⟩:∃ m',m'=(memRead m (fAt n k a 1)).1:=⟨_,rfl⟩
 rw [<-hm'] at C ⊢
 have C:=Lib.hid C
 clear h hcnt hb x0 ok1 ok2 ok3 ok4 ok5 hs1 hm' hyes hz
 go_enter Try.func173,Try.ntmps173
 go_wp2_with (go_at_call 175;refine(C.out).mono ?_;rintro e w1 ⟨rfl,h1⟩)
 go_ret
 exact⟨rfl,h1⟩
set_option maxHeartbeats 4000000 in
theorem hd_2_gt {w:World} {n k bT bW bm:Nat} {bw:Option Nat} {ow a x d y:Nat} {m:MemD} (h:FinAt (hdCells n k) 129 w bT bW bm bw ⟨2,ow,a,x,d,y⟩ m) (hn:n<=16) (hcnt:m.c.all+1<1000000000000) (hyes:(memRead m (fAt n k a 1)).2 / 1073741824=a / 1024/\(memRead m (fAt n k a 1)).2 % 1073741824≠0) (hz:¬ (memRead m (fAt n k a 1)).2 % 1073741824<=n) :
  Calls Try.prog 173 #[.pointer (some ⟨bT,0,none⟩),.pointer (some ⟨bW,0,none⟩)] w λe w'=>e=.returned (.bool false)/\FinAt (hdCells n k) 129 w' bT bW bm bw ⟨6,ow,a,x,d,y⟩ (memRead m (fAt n k a 1)).1/\Chg (FinS bT bm bw) w w':=by
 have hb:=h.blk
 have lT:=blk_lt hb
 have lW:=h.wl
 have x0:=h.wld
 have n1:=h.n1;have n2:=h.n2;have n3:=h.n3
 have n3':bT≠bW:=λe=>n3 e.symm
 obtain⟨ok1,ok2,ok3,ok4,ok5⟩:=h.ok
 simp only at ok1 ok2 ok3 ok4 ok5
 have t3:w.cell? ⟨bT,3,none⟩=some (.int .i64 2):=by rw [cell_blk hb];rfl
 have C:=who_gt h hn hcnt hyes hz
 obtain⟨s1,hs1⟩:∃ s1:FinD,s1=⟨6,ow,a,x,d,y⟩:=⟨_,rfl⟩
 rw [<-hs1] at C ⊢
 obtain⟨m',hm'⟩:∃ m',m'=(memRead m (fAt n k a 1)).1:=⟨_,rfl⟩
 rw [<-hm'] at C ⊢
 have C:=Lib.hid C
 clear h hcnt hb x0 ok1 ok2 ok3 ok4 ok5 hs1 hm' hyes hz
 go_enter Try.func173,Try.ntmps173
 go_wp2_with (go_at_call 175;refine(C.out).mono ?_;rintro e w1 ⟨rfl,h1⟩)
 go_ret
 exact⟨rfl,h1⟩
set_option maxHeartbeats 4000000 in
theorem hd_4 {w:World} {n k bT bW bm:Nat} {bw:Option Nat} {ow a x d y:Nat} {m:MemD} (h:FinAt (hdCells n k) 129 w bT bW bm bw ⟨4,ow,a,x,d,y⟩ m) (hn:n<=16) (hcnt:m.c.all+1<1000000000000) :
  Calls Try.prog 173 #[.pointer (some ⟨bT,0,none⟩),.pointer (some ⟨bW,0,none⟩)] w λe w'=>e=.returned (.bool false)/\FinAt (hdCells n k) 129 w' bT bW bm bw ⟨5,ow,a,x,d,(memRead m (fAt n k x 2)).2⟩ (memRead m (fAt n k x 2)).1/\Chg (FinS bT bm bw) w w':=by
 have hb:=h.blk
 have lT:=blk_lt hb
 have lW:=h.wl
 have x0:=h.wld
 have n1:=h.n1;have n2:=h.n2;have n3:=h.n3
 have n3':bT≠bW:=λe=>n3 e.symm
 obtain⟨ok1,ok2,ok3,ok4,ok5⟩:=h.ok
 simp only at ok1 ok2 ok3 ok4 ok5
 have hrU:U64 (memRead m (fAt n k x 2)).2:=mem_val h.mem
 have RD:=λ(u:World) (hu:Chg noF w u)=>read_any bm bw m (fAt n k x 2) u (h.mem.chg hu (λh=>h) (λ_ _ h=>h)) hcnt
 have QF:=Lib.hid (λu=>queue_field n k x 2 (by omega) ok2 (by decide) u)
 obtain⟨ad,had⟩:∃ ad,ad=fAt n k x 2:=⟨_,rfl⟩
 obtain⟨fo,hfo⟩:∃ fo,fo=fOk n k x 2:=⟨_,rfl⟩
 rw [<-had,<-hfo] at QF
 rw [<-had] at RD hrU ⊢
 obtain⟨r,hr⟩:∃ r,r=(memRead m ad).2:=⟨_,rfl⟩
 rw [<-hr] at RD hrU ⊢
 obtain⟨m',hm'⟩:∃ m',m'=(memRead m ad).1:=⟨_,rfl⟩
 rw [<-hm'] at RD ⊢
 have Ok:=Lib.hid (show(⟨5,ow,a,x,d,r⟩:FinD).ok from⟨ok1,ok2,ok3,hrU,ok5⟩)
 have tx:=x0
 have t0:w.cell? ⟨bT,0,none⟩=some (.int .i64 0):=by rw [cell_blk hb];rfl
 have t1:w.cell? ⟨bT,1,none⟩=some (.int .i64 (n:Int)):=by rw [cell_blk hb];rfl
 have t2:w.cell? ⟨bT,2,none⟩=some (.int .i64 (k:Int)):=by rw [cell_blk hb];rfl
 have t6:w.cell? ⟨bT,6,none⟩=some (.int .u64 (x:Int)):=by rw [cell_blk hb];rfl
 have t3:w.cell? ⟨bT,3,none⟩=some (.int .i64 4):=by rw [cell_blk hb];rfl
 have H:=Lib.hid h;have RD':=Lib.hid RD;have Hb:=Lib.hid hb;have Hx0:=Lib.hid x0
 clear h hcnt hr hm' had hfo RD hb hrU ok1 ok2 ok3 ok4 ok5 x0
 unfold queueV at QF
 go_enter Try.func173,Try.ntmps173
 go_upto_region 18 with fail
 go_region_held3 (λu=>u.cell? ⟨bT,0,none⟩=some (.int .i64 0)/\u.cell? ⟨bT,1,none⟩=some (.int .i64 (n:Int))/\u.cell? ⟨bT,2,none⟩=some (.int .i64 (k:Int))/\u.cell? ⟨bT,6,none⟩=some (.int .u64 (x:Int)))
  (first|exact⟨t0,t1,t2,t6⟩|exact⟨t0w5,t1w5,t2w5,t6w5⟩)
  (first|(go_at_call 155;refine(QF.out _).mono ?_;rintro e w5 ⟨rfl,hb5⟩;have hc5:Chg noF w w5:=((Chg.refl _ w).drew).trans (Chg.of_below hb5);have t0w5:=box_keep hc5 (λh=>h) t0;have t1w5:=box_keep hc5 (λh=>h) t1;have t2w5:=box_keep hc5 (λh=>h) t2;have t6w5:=box_keep hc5 (λh=>h) t6))
 have hx5:w5.cell? ⟨bW,0,none⟩=some (.pointer (some ⟨bm,0,none⟩)):=box_keep hc5 (λh=>h) Hx0.out
 have Hc5:=Lib.hid hc5
 clear tx t0 t1 t2 t6 t3 t0w5 t1w5 t2w5 t6w5 hc5 hb5
 go_upto_region 20 with(go_at_call 136;refine(RD'.out _ Hc5.out).mono ?_;rintro e w6 ⟨rfl,hm6,hc6⟩;have zc:=(Hc5.out.mono (λ_ _ h=>h.elim)).trans hc6;have zb:=(zc.block bT lT n1).trans Hb.out;have zf:=frozen_blk zb 8;have zo:w6.cell? ⟨bT,8,none⟩=some (.int .u64 (y:Int)):=(by rw [cell_blk zb];rfl);have zlt:=blk_lt zb)
 obtain⟨w2,hw2⟩:∃ w2,w2=(w6.setCell ⟨bT,8,none⟩ (.int .u64 (r:Int))):=⟨_,rfl⟩
 have b2:w2.heap[bT]?=some (.cells #[.int .i64 0,.int .i64 (n:Int),.int .i64 (k:Int),.int .i64 4,.int .i64 (ow:Int),.int .u64 (a:Int),.int .u64 (x:Int),.int .u64 (d:Int),.int .u64 (r:Int)] 129 (0,0)):=by rw [hw2];exact blk_set zb _ _
 have hc2:Chg (λb=>b=bT) w6 w2:=by rw [hw2];exact(Chg.refl (λb=>b=bT) w6).setCell (by exact .inl rfl) _
 rw [<-hw2]
 have HC:=Lib.hid zc;have HM:=Lib.hid hm6;have Hc2:=Lib.hid hc2;have B2:=Lib.hid b2
 have t3:w2.cell? ⟨bT,3,none⟩=some (.int .i64 4):=by rw [cell_blk b2];rfl
 have tf3:w2.frozen? ⟨bT,3,none⟩=false:=frozen_blk b2 3
 have l2:=blk_lt b2
 clear hx5 zc zb zf zo zlt hw2 hm6 hc6 hc2 b2
 go_wp2
 go_ret
 refine⟨rfl,H.out.acc HC.out HM.out (Hc2.out.setCell (by exact .inl rfl) _) ?_ Ok.out⟩
 rw [blk_set B2.out _ _];rfl
set_option maxHeartbeats 4000000 in
theorem hd_5 {w:World} {n k bT bW bm:Nat} {bw:Option Nat} {ow a x d y:Nat} {m:MemD} (h:FinAt (hdCells n k) 129 w bT bW bm bw ⟨5,ow,a,x,d,y⟩ m) (hn:n<=16) (hcnt:m.c.all+1<1000000000000) :
  Calls Try.prog 173 #[.pointer (some ⟨bT,0,none⟩),.pointer (some ⟨bW,0,none⟩)] w λe w'=>e=.returned (.bool false)/\FinAt (hdCells n k) 129 w' bT bW bm bw ⟨6,ow,a,x,d,y⟩ (memSwap m ((2+ow:Nat):Int) d (putN (d / 2*2) 2 30 (y % 4294967296 % 16777216+1))).1/\Chg (FinS bT bm bw) w w':=by
 have hb:=h.blk
 have lT:=blk_lt hb
 have lW:=h.wl
 have x0:=h.wld
 have n1:=h.n1;have n2:=h.n2;have n3:=h.n3
 have n3':bT≠bW:=λe=>n3 e.symm
 obtain⟨ok1,ok2,ok3,ok4,ok5⟩:=h.ok
 simp only at ok1 ok2 ok3 ok4 ok5
 have t3:w.cell? ⟨bT,3,none⟩=some (.int .i64 5):=by rw [cell_blk hb];rfl
 have C:=hd_done h hn hcnt
 obtain⟨m',hm'⟩:∃ m',m'=(memSwap m ((2+ow:Nat):Int) d (putN (d / 2*2) 2 30 (y % 4294967296 % 16777216+1))).1:=⟨_,rfl⟩
 rw [<-hm'] at C ⊢
 have C:=Lib.hid C
 clear h hcnt hb x0 ok1 ok2 ok3 ok4 ok5 hm'
 go_enter Try.func173,Try.ntmps173
 go_wp2_with (go_at_call 176;refine(C.out).mono ?_;rintro e w1 ⟨rfl,h1⟩)
 go_ret
 exact⟨rfl,h1⟩
set_option maxHeartbeats 4000000 in
theorem hd_6 {w:World} {n k bT bW bm:Nat} {bw:Option Nat} {ow a x d y:Nat} {m:MemD} (h:FinAt (hdCells n k) 129 w bT bW bm bw ⟨6,ow,a,x,d,y⟩ m) (hn:n<=16) (hcnt:m.c.all+1<1000000000000) :
  Calls Try.prog 173 #[.pointer (some ⟨bT,0,none⟩),.pointer (some ⟨bW,0,none⟩)] w λe w'=>e=.returned (.bool (!(memSwap m 0 a x).2))/\FinAt (hdCells n k) 129 w' bT bW bm bw ⟨7,ow,a,x,d,y⟩ (memSwap m 0 a x).1/\Chg (FinS bT bm bw) w w':=by
 have hb:=h.blk
 have lT:=blk_lt hb
 have lW:=h.wl
 have x0:=h.wld
 have n1:=h.n1;have n2:=h.n2;have n3:=h.n3
 have n3':bT≠bW:=λe=>n3 e.symm
 obtain⟨ok1,ok2,ok3,ok4,ok5⟩:=h.ok
 simp only at ok1 ok2 ok3 ok4 ok5
 have hnew:x<18446744073709551616:=ok2.lt
 have SW:=λ(u:World) {v:World} (hv:Chg (λb=>b=bT) w v) (hu:Chg noF v u)=>swap_any bm bw m 0 a x u ((h.mem.chg hv (λx=>h.n1 (.inl x.symm)) (λq hq x=>h.n1 (.inr (by rw [hq,x])))).chg hu (λh=>h) (λ_ _ h=>h)) hnew hcnt
 obtain⟨m',hm'⟩:∃ m',m'=(memSwap m 0 a x).1:=⟨_,rfl⟩
 obtain⟨sb,hsb⟩:∃ sb,sb=(memSwap m 0 a x).2:=⟨_,rfl⟩
 rw [<-hm',<-hsb] at SW
 rw [<-hm',<-hsb]
 have QD:=Lib.hid (λu=>queue_head n k u)
 have Ok:=Lib.hid (show(⟨7,ow,a,x,d,y⟩:FinD).ok from⟨ok1,ok2,ok3,ok4,ok5⟩)
 unfold queueV at QD
 have t3:w.cell? ⟨bT,3,none⟩=some (.int .i64 6):=by rw [cell_blk hb];rfl
 have tf3:w.frozen? ⟨bT,3,none⟩=false:=frozen_blk hb 3
 have H:=Lib.hid h;have SW:=Lib.hid SW;have Hb:=Lib.hid hb;have Hx0:=Lib.hid x0
 clear h hcnt x0 ok1 ok2 ok3 ok4 ok5 hm' hsb hnew hb
 go_enter Try.func173,Try.ntmps173
 go_upto_region 25 with fail
 obtain⟨wp,hwp⟩:∃ wp,wp=(w.setCell ⟨bT,3,none⟩ (.int .i64 7)):=⟨_,rfl⟩
 have bp:wp.heap[bT]?=some (.cells #[.int .i64 0,.int .i64 (n:Int),.int .i64 (k:Int),.int .i64 7,.int .i64 (ow:Int),.int .u64 (a:Int),.int .u64 (x:Int),.int .u64 (d:Int),.int .u64 (y:Int)] 129 (0,0)):=by rw [hwp];exact blk_set Hb.out _ _
 have hcp:Chg (λb=>b=bT) w wp:=by rw [hwp];exact(Chg.refl (λb=>b=bT) w).setCell (by exact .inl rfl) _
 rw [<-hwp]
 have tx:wp.cell? ⟨bW,0,none⟩=some (.pointer (some ⟨bm,0,none⟩)):=box_keep hcp n3 Hx0.out
 have Hcp:=Lib.hid hcp;have Bp:=Lib.hid bp
 have lp:=blk_lt bp
 have t0:wp.cell? ⟨bT,0,none⟩=some (.int .i64 0):=by rw [cell_blk bp];rfl
 have t1:wp.cell? ⟨bT,1,none⟩=some (.int .i64 (n:Int)):=by rw [cell_blk bp];rfl
 have t2:wp.cell? ⟨bT,2,none⟩=some (.int .i64 (k:Int)):=by rw [cell_blk bp];rfl
 have t5:wp.cell? ⟨bT,5,none⟩=some (.int .u64 (a:Int)):=by rw [cell_blk bp];rfl
 have t6:wp.cell? ⟨bT,6,none⟩=some (.int .u64 (x:Int)):=by rw [cell_blk bp];rfl
 clear t3 tf3 hwp hcp bp
 go_region_held3 (λu=>u.cell? ⟨bW,0,none⟩=some (.pointer (some ⟨bm,0,none⟩))/\u.cell? ⟨bT,0,none⟩=some (.int .i64 0)/\u.cell? ⟨bT,1,none⟩=some (.int .i64 (n:Int))/\u.cell? ⟨bT,2,none⟩=some (.int .i64 (k:Int))/\u.cell? ⟨bT,5,none⟩=some (.int .u64 (a:Int))/\u.cell? ⟨bT,6,none⟩=some (.int .u64 (x:Int)))
  (first|exact⟨tx,t0,t1,t2,t5,t6⟩|exact⟨txw5,t0w5,t1w5,t2w5,t5w5,t6w5⟩|exact⟨txw1,t0w1,t1w1,t2w1,t5w1,t6w1⟩)
  (first|(go_at_call 152;refine(QD.out _).mono ?_;rintro e w5 ⟨rfl,hb5⟩;have hc5:Chg noF wp w5:=((Chg.refl _ wp).drew).trans (Chg.of_below hb5);have txw5:=box_keep hc5 (λh=>h) tx;have t0w5:=box_keep hc5 (λh=>h) t0;have t1w5:=box_keep hc5 (λh=>h) t1;have t2w5:=box_keep hc5 (λh=>h) t2;have t5w5:=box_keep hc5 (λh=>h) t5;have t6w5:=box_keep hc5 (λh=>h) t6)|(go_at_call 162;refine(SW.out _ Hcp.out hc5).mono ?_;rintro e w1 ⟨rfl,hm1,hc1⟩;have hc1z:Chg (MemSet bm bw) wp w1:=(hc5.mono (λ_ _ h=>h.elim)).trans hc1;have txw1:=box_keep hc1z n2 tx;have t0w1:=box_keep hc1z n1 t0;have t1w1:=box_keep hc1z n1 t1;have t2w1:=box_keep hc1z n1 t2;have t5w1:=box_keep hc1z n1 t5;have t6w1:=box_keep hc1z n1 t6))
 have b1:=(hc1z.block bT lp n1).trans Bp.out
 have HC:=Lib.hid hc1z;have HM:=Lib.hid hm1;have B1:=Lib.hid b1
 clear hc1z hm1 b1
 clear tx t0 t1 t2 t5 t6 txw5 t0w5 t1w5 t2w5 t5w5 t6w5 txw1 t0w1 t1w1 t2w1 t5w1 t6w1 hc1 hc5 hb5
 go_wp2
 go_ret
 refine⟨rfl,H.out.to (((Hcp.out.mono (λb _ h=>.inr h)).trans (HC.out.mono (λb _ h=>.inl h)))) B1.out HM.out Ok.out⟩
set_option maxHeartbeats 4000000 in
theorem hd_7 {w:World} {n k bT bW bm:Nat} {bw:Option Nat} {ow a x d y:Nat} {m:MemD} (h:FinAt (hdCells n k) 129 w bT bW bm bw ⟨7,ow,a,x,d,y⟩ m) (hn:n<=16) (hcnt:m.c.all+1<1000000000000) :
  Calls Try.prog 173 #[.pointer (some ⟨bT,0,none⟩),.pointer (some ⟨bW,0,none⟩)] w λe w'=>e=.returned (.bool true)/\FinAt (hdCells n k) 129 w' bT bW bm bw ⟨7,ow,a,x,d,y⟩ (memSwap m (fAt n k a 3) (2*(a / 1024)+1) (2*(a / 1024))).1/\Chg (FinS bT bm bw) w w':=by
 have hb:=h.blk
 have lT:=blk_lt hb
 have lW:=h.wl
 have x0:=h.wld
 have n1:=h.n1;have n2:=h.n2;have n3:=h.n3
 have n3':bT≠bW:=λe=>n3 e.symm
 obtain⟨ok1,ok2,ok3,ok4,ok5⟩:=h.ok
 simp only at ok1 ok2 ok3 ok4 ok5
 have QF:=Lib.hid (λu=>queue_field n k a 3 (by omega) ok1 (by decide) u)
 obtain⟨ad,had⟩:∃ ad,ad=fAt n k a 3:=⟨_,rfl⟩
 obtain⟨fo,hfo⟩:∃ fo,fo=fOk n k a 3:=⟨_,rfl⟩
 rw [<-had,<-hfo] at QF
 rw [<-had]
 obtain⟨v,hv⟩:∃ v,v=a / 1024:=⟨_,rfl⟩
 have hv2:v<18014398509481984:=by have:=ok1.lt;rw [hv];omega
 rw [<-hv]
 have hnew:2*v<18446744073709551616:=by omega
 have SW:=λ(u:World) (hu:Chg noF w u)=>swap_any bm bw m ad (2*v+1) (2*v) u (h.mem.chg hu (λh=>h) (λ_ _ h=>h)) hnew hcnt
 obtain⟨m',hm'⟩:∃ m',m'=(memSwap m ad (2*v+1) (2*v)).1:=⟨_,rfl⟩
 obtain⟨sb,hsb⟩:∃ sb,sb=(memSwap m ad (2*v+1) (2*v)).2:=⟨_,rfl⟩
 simp only [<-hm',<-hsb] at SW
 rw [<-hm']
 have SP:=Lib.hid (λu=>split_any a u ok1)
 have Hv:=Lib.hid hv
 have w1:IntKind.u64.wrap (2*(v:Int))=2*(v:Int):=by rw [IntKind.wrap_u64];omega
 have w2:IntKind.u64.wrap (2*(v:Int)+1)=2*(v:Int)+1:=by rw [IntKind.wrap_u64];omega
 rw [show((2*v+1:Nat):Int)=2*(v:Int)+1 by omega,show((2*v:Nat):Int)=2*(v:Int) by omega] at SW
 have Ok:=Lib.hid (show(⟨7,ow,a,x,d,y⟩:FinD).ok from⟨ok1,ok2,ok3,ok4,ok5⟩)
 have t0:w.cell? ⟨bT,0,none⟩=some (.int .i64 0):=by rw [cell_blk hb];rfl
 have t1:w.cell? ⟨bT,1,none⟩=some (.int .i64 (n:Int)):=by rw [cell_blk hb];rfl
 have t2:w.cell? ⟨bT,2,none⟩=some (.int .i64 (k:Int)):=by rw [cell_blk hb];rfl
 have t5:w.cell? ⟨bT,5,none⟩=some (.int .u64 (a:Int)):=by rw [cell_blk hb];rfl
 have t3:w.cell? ⟨bT,3,none⟩=some (.int .i64 7):=by rw [cell_blk hb];rfl
 have H:=Lib.hid h;have SW:=Lib.hid SW;have Hb:=Lib.hid hb;have Hx0:=Lib.hid x0
 clear h hcnt x0 ok1 ok2 ok3 ok4 ok5 hm' hsb hnew hb hv had hfo
 unfold queueV at QF
 go_enter Try.func173,Try.ntmps173
 go_upto_region 27 with fail
 go_region_held3 (λu=>u.cell? ⟨bT,0,none⟩=some (.int .i64 0)/\u.cell? ⟨bT,1,none⟩=some (.int .i64 (n:Int))/\u.cell? ⟨bT,2,none⟩=some (.int .i64 (k:Int))/\u.cell? ⟨bT,5,none⟩=some (.int .u64 (a:Int)))
  (first|exact⟨t0,t1,t2,t5⟩|exact⟨t0w5,t1w5,t2w5,t5w5⟩)
  (first|(go_at_call 155;refine(QF.out _).mono ?_;rintro e w5 ⟨rfl,hb5⟩;have hc5:Chg noF w w5:=((Chg.refl _ w).drew).trans (Chg.of_below hb5);have t0w5:=box_keep hc5 (λh=>h) t0;have t1w5:=box_keep hc5 (λh=>h) t1;have t2w5:=box_keep hc5 (λh=>h) t2;have t5w5:=box_keep hc5 (λh=>h) t5))
 have hx5:w5.cell? ⟨bW,0,none⟩=some (.pointer (some ⟨bm,0,none⟩)):=box_keep hc5 (λh=>h) Hx0.out
 have Hc5:=Lib.hid hc5
 clear t0 t1 t2 t5 t3 t0w5 t1w5 t2w5 hc5 hb5
 have t5:=t5w5
 clear t5w5
 go_wp2_with (first|(go_at_call 157;refine(SP.out _).mono ?_;rintro e w7 ⟨va,vb,rfl,rfl,hva,hvb⟩;obtain rfl:vb=v:=hvb.out.trans Hv.out.symm;clear hva hvb)|(go_at_call 162;refine(SW.out _ Hc5.out).mono ?_;rintro e w6 ⟨rfl,hm6,hc6⟩))
 go_ret
 have hc:=(Hc5.out.mono (λ_ _ h=>h.elim)).trans hc6
 exact⟨rfl,H.out.acc hc hm6 (Chg.refl _ _) ((hc.block bT lT n1).trans Hb.out) Ok.out⟩
end Go.Proofs.Ytlanekkbciffcaa
