/- Layer 21: finishing at an end: the machine, step by step. -/
import Derived.Test.YtlanekkbciffcaaG08
import Derived.Deep.Cut
import Derived.Deep.RegionHeld3
set_option maxRecDepth 100000
set_option linter.unusedVariables false
set_option linter.unusedSimpArgs false
set_option linter.unnecessarySimpa false
namespace Go.Proofs.Ytlanekkbciffcaa
open Go.RowKit
def noF:Nat->Prop:=λ_=>False
structure FinD where
 pc:Nat
 ow:Nat
 a:Nat
 x:Nat
 d:Nat
 y:Nat
def tlCells (n k:Nat) (s:FinD):Array Value:=#[.int .i64 0,.int .i64 (n:Int),.int .i64 (k:Int),.int .i64 (s.pc:Int),.int .i64 (s.ow:Int),.int .u64 (s.a:Int),.int .u64 (s.x:Int),.int .u64 (s.d:Int)]
def hdCells (n k:Nat) (s:FinD):Array Value:=#[.int .i64 0,.int .i64 (n:Int),.int .i64 (k:Int),.int .i64 (s.pc:Int),.int .i64 (s.ow:Int),.int .u64 (s.a:Int),.int .u64 (s.x:Int),.int .u64 (s.d:Int),.int .u64 (s.y:Int)]
def FinD.ok (s:FinD):Prop:=U64 s.a/\U64 s.x/\U64 s.d/\U64 s.y/\s.ow<=20
structure FinAt (cells:FinD->Array Value) (T:TypeId) (w:World) (bT bW bm:Nat) (bw:Option Nat) (s:FinD) (m:MemD):Prop where
 blk:w.heap[bT]?=some (.cells (cells s) T (0,0))
 wld:w.cell? ⟨bW,0,none⟩=some (.pointer (some ⟨bm,0,none⟩))
 mem:MemAt w bm bw m
 n1:¬ MemSet bm bw bT
 n2:¬ MemSet bm bw bW
 n3:bW≠bT
 ok:s.ok
theorem FinAt.wl {cells:FinD->Array Value} {T:TypeId} {w:World} {bT bW bm:Nat} {bw:Option Nat} {s:FinD} {m:MemD} (h:FinAt cells T w bT bW bm bw s m):bW<w.heap.size:=World.block_lt_of_cell? _ _ h.wld
def FinS (bT bm:Nat) (bw:Option Nat) (b:Nat):Prop:=MemSet bm bw b∨b=bT
theorem FinAt.to {cells:FinD->Array Value} {T:TypeId} {w w':World} {bT bW bm:Nat} {bw:Option Nat} {s s':FinD} {m m':MemD} (h:FinAt cells T w bT bW bm bw s m) (hc:Chg (FinS bT bm bw) w w') (hb:w'.heap[bT]?=some (.cells (cells s') T (0,0))) (hm:MemAt w' bm bw m') (hs:s'.ok):FinAt cells T w' bT bW bm bw s' m'/\Chg (FinS bT bm bw) w w':=
 ⟨⟨hb,(hc.cell h.wl (λx=>x.elim h.n2 h.n3)).trans h.wld,hm,h.n1,h.n2,h.n3,hs⟩,hc⟩
theorem FinAt.acc {cells:FinD->Array Value} {T:TypeId} {w w1 w':World} {bT bW bm:Nat} {bw:Option Nat} {s s':FinD} {m m':MemD} (h:FinAt cells T w bT bW bm bw s m) (h1:Chg (MemSet bm bw) w w1) (hm:MemAt w1 bm bw m') (h2:Chg (λb=>b=bT) w1 w') (hb:w'.heap[bT]?=some (.cells (cells s') T (0,0))) (hs:s'.ok):FinAt cells T w' bT bW bm bw s' m'/\Chg (FinS bT bm bw) w w':=
 h.to ((h1.mono (λb _ x=>.inl x)).trans (h2.mono (λb _ x=>.inr x))) hb (hm.chg h2 (λx=>h.n1 (.inl x.symm)) (λq hq x=>h.n1 (.inr (by rw [hq,x])))) hs
theorem mem_val {m:MemD} {a:Int} {w:World} {bm:Nat} {bw:Option Nat} (h:MemAt w bm bw m):U64 (memRead m a).2:=by
 unfold memRead
 split
 ·show U64 0;unfold U64;omega
 ·show U64 (m.ws.getD a.toNat 0)
  rw [List.getD_eq_getElem?_getD]
  cases hx:m.ws[a.toNat]? with
  | none=>show U64 0;unfold U64;omega
  | some y=>
   have:=h.val y (List.mem_of_getElem? hx)
   show U64 y
   unfold U64;omega
set_option maxHeartbeats 4000000 in
theorem tl_0 {w:World} {n k bT bW bm:Nat} {bw:Option Nat} {ow a x d y:Nat} {m:MemD} (h:FinAt (tlCells n k) 127 w bT bW bm bw ⟨0,ow,a,x,d,y⟩ m) (hn:n<=16) (hcnt:m.c.all+1<1000000000000) :
  Calls Try.prog 153 #[.pointer (some ⟨bT,0,none⟩),.pointer (some ⟨bW,0,none⟩)] w λe w'=>e=.returned (.bool (!fOk n k (memRead m 1).2 0))/\FinAt (tlCells n k) 127 w' bT bW bm bw ⟨1,ow,(memRead m 1).2,x,d,y⟩ (memRead m 1).1/\Chg (FinS bT bm bw) w w':=by
 have hb:=h.blk
 have lT:=blk_lt hb
 have lW:=h.wl
 have x0:=h.wld
 have n1:=h.n1;have n2:=h.n2;have n3:=h.n3
 have n3':bT≠bW:=λe=>n3 e.symm
 obtain⟨ok1,ok2,ok3,ok4,ok5⟩:=h.ok
 simp only at ok1 ok2 ok3 ok4 ok5
 have hrU:U64 (memRead m 1).2:=mem_val h.mem
 have RD:=λ(u:World) (hu:Chg noF w u)=>read_any bm bw m 1 u (h.mem.chg hu (λh=>h) (λ_ _ h=>h)) hcnt
 obtain⟨r,hr⟩:∃ r,r=(memRead m 1).2:=⟨_,rfl⟩
 rw [<-hr] at RD hrU ⊢
 have QF:=Lib.hid (λu=>queue_field n k r 0 (by omega) hrU (by decide) u)
 have QT:=Lib.hid (λu=>queue_tail n k u)
 obtain⟨m',hm'⟩:∃ m',m'=(memRead m 1).1:=⟨_,rfl⟩
 rw [<-hm'] at RD ⊢
 obtain⟨ok,hok⟩:∃ ok,ok=fOk n k r 0:=⟨_,rfl⟩
 obtain⟨ad,had⟩:∃ ad,ad=fAt n k r 0:=⟨_,rfl⟩
 rw [<-hok,<-had] at QF
 rw [<-hok]
 have tx:=x0
 have t0:w.cell? ⟨bT,0,none⟩=some (.int .i64 0):=by rw [cell_blk hb];rfl
 have t1:w.cell? ⟨bT,1,none⟩=some (.int .i64 (n:Int)):=by rw [cell_blk hb];rfl
 have t2:w.cell? ⟨bT,2,none⟩=some (.int .i64 (k:Int)):=by rw [cell_blk hb];rfl
 have t3:w.cell? ⟨bT,3,none⟩=some (.int .i64 0):=by rw [cell_blk hb];rfl
 have tf3:w.frozen? ⟨bT,3,none⟩=false:=frozen_blk hb 3
 have tf5:w.frozen? ⟨bT,5,none⟩=false:=frozen_blk hb 5
 have H:=Lib.hid h;have RD':=Lib.hid RD;have Hb:=Lib.hid hb
 have Ok:=Lib.hid (show(⟨1,ow,r,x,d,y⟩:FinD).ok from⟨hrU,ok2,ok3,ok4,ok5⟩)
 clear h hcnt hr hm' hok had RD hb hrU ok1 ok2 ok3 ok4 ok5 x0
 unfold queueV at QT QF
 go_enter Try.func153,Try.ntmps153
 go_upto_region 3 with fail
 go_region_held3 (λu=>u.cell? ⟨bW,0,none⟩=some (.pointer (some ⟨bm,0,none⟩))/\u.cell? ⟨bT,0,none⟩=some (.int .i64 0)/\u.cell? ⟨bT,1,none⟩=some (.int .i64 (n:Int))/\u.cell? ⟨bT,2,none⟩=some (.int .i64 (k:Int)))
  (first|exact⟨tx,t0,t1,t2⟩|exact⟨vx,v0,v1,v2⟩|exact⟨zx,z0,z1,z2⟩|exact⟨box_keep ((Chg.refl (λb=>b=bT) w1).setCell (by exact .inl rfl) _) n3 zx,(World.cell?_setCell_other _ _ _ _ (by simp)).trans z0,(World.cell?_setCell_other _ _ _ _ (by simp)).trans z1,(World.cell?_setCell_other _ _ _ _ (by simp)).trans z2⟩)
  (first|(go_at_call 154;refine(QT.out _).mono ?_;rintro e w5 ⟨rfl,hb5⟩;have hc5:Chg noF w w5:=((Chg.refl _ w).drew).trans (Chg.of_below hb5);have vx:=box_keep hc5 (λh=>h) tx;have v0:=box_keep hc5 (λh=>h) t0;have v1:=box_keep hc5 (λh=>h) t1;have v2:=box_keep hc5 (λh=>h) t2)|(go_at_call 136;refine(RD'.out _ hc5).mono ?_;rintro e w1 ⟨rfl,hm1,hc1⟩;have hc1':Chg (MemSet bm bw) w w1:=(hc5.mono (λ_ _ h=>h.elim)).trans hc1;have zx:=box_keep hc1 n2 vx;have z0:=box_keep hc1 n1 v0;have z1:=box_keep hc1 n1 v1;have z2:=box_keep hc1 n1 v2;have zb:=(hc1'.block bT lT n1).trans Hb.out;have zf5:=frozen_blk zb 5;have z5:w1.cell? ⟨bT,5,none⟩=some (.int .u64 (a:Int)):=(by rw [cell_blk zb];rfl);have zlt:=blk_lt zb))
 obtain⟨w2,hw2⟩:∃ w2,w2=w1.setCell ⟨bT,5,none⟩ (.int .u64 (r:Int)):=⟨_,rfl⟩
 have b2:w2.heap[bT]?=some (.cells #[.int .i64 0,.int .i64 (n:Int),.int .i64 (k:Int),.int .i64 0,.int .i64 (ow:Int),.int .u64 (r:Int),.int .u64 (x:Int),.int .u64 (d:Int)] 127 (0,0)):=by rw [hw2];exact blk_set zb _ _
 have hc2:Chg (λb=>b=bT) w1 w2:=by rw [hw2];exact(Chg.refl (λb=>b=bT) w1).setCell (by exact .inl rfl) _
 first|rw [<-hw2]|rw [<-show w2.drew=(w1.setCell ⟨bT,5,none⟩ (.int .u64 (r:Int))).drew by rw [hw2]]
 have Hc1:=Lib.hid hc1';have Hm1:=Lib.hid hm1;have Hc2:=Lib.hid hc2;have B2:=Lib.hid b2
 clear tx t0 t1 t2 t3 tf3 tf5 vx v0 v1 v2 zx z0 z1 z2 zb zf5 z5 zlt hw2 hc1' hm1 hc1 hc5 hb5 hc2
 have t3:w2.cell? ⟨bT,3,none⟩=some (.int .i64 0):=by rw [cell_blk b2];rfl
 have tf3:w2.frozen? ⟨bT,3,none⟩=false:=frozen_blk b2 3
 have l2:=blk_lt b2
 clear b2
 go_upto_region 5 with fail
 obtain⟨w3,hw3⟩:∃ w3,w3=w2.setCell ⟨bT,3,none⟩ (.int .i64 1):=⟨_,rfl⟩
 have b3:w3.heap[bT]?=some (.cells #[.int .i64 0,.int .i64 (n:Int),.int .i64 (k:Int),.int .i64 1,.int .i64 (ow:Int),.int .u64 (r:Int),.int .u64 (x:Int),.int .u64 (d:Int)] 127 (0,0)):=by rw [hw3];exact blk_set B2.out _ _
 have hc3:Chg (λb=>b=bT) w2 w3:=by rw [hw3];exact(Chg.refl (λb=>b=bT) w2).setCell (by exact .inl rfl) _
 rw [<-hw3]
 have Hc3:=Lib.hid (Hc2.out.trans hc3);have B3:=Lib.hid b3
 have s0:w3.cell? ⟨bT,0,none⟩=some (.int .i64 0):=by rw [cell_blk b3];rfl
 have s1:w3.cell? ⟨bT,1,none⟩=some (.int .i64 (n:Int)):=by rw [cell_blk b3];rfl
 have s2:w3.cell? ⟨bT,2,none⟩=some (.int .i64 (k:Int)):=by rw [cell_blk b3];rfl
 have s5:w3.cell? ⟨bT,5,none⟩=some (.int .u64 (r:Int)):=by rw [cell_blk b3];rfl
 clear hw3 hc3 t3 tf3 b3 l2
 go_region_held3 (λu=>u.cell? ⟨bT,0,none⟩=some (.int .i64 0)/\u.cell? ⟨bT,1,none⟩=some (.int .i64 (n:Int))/\u.cell? ⟨bT,2,none⟩=some (.int .i64 (k:Int))/\u.cell? ⟨bT,5,none⟩=some (.int .u64 (r:Int)))
  (first|exact⟨s0,s1,s2,s5⟩|exact⟨box_keep hc6 (λh=>h) s0,box_keep hc6 (λh=>h) s1,box_keep hc6 (λh=>h) s2,box_keep hc6 (λh=>h) s5⟩)
  ((go_at_call 155;refine(QF.out _).mono ?_;rintro e w6 ⟨rfl,hb6⟩;have hc6:Chg noF w3 w6:=((Chg.refl _ w3).drew).trans (Chg.of_below hb6)))
 have Hc6:=Lib.hid hc6
 clear hc6 hb6 s0 s1 s2 s5
 go_wp2
 go_ret
 refine⟨rfl,?_⟩
 exact H.out.acc Hc1.out Hm1.out (Hc3.out.trans (Hc6.out.mono (λ_ _ h=>h.elim))) ((Hc6.out.block bT (blk_lt B3.out) (λh=>h)).trans B3.out) Ok.out
theorem fin_owner (n k i:Nat) (u:World):Calls Try.prog 158 #[.int .i64 (n:Int),.int .i64 (k:Int),.int .i64 (i:Int)] u λe w'=>e=.returned (.tuple #[.int .i64 (if ownB (n:Int) (k:Int) (i:Int)=true then ((i:Int) - 2) / (k:Int) else 0),.bool (ownB (n:Int) (k:Int) (i:Int))])/\u=w':=by
 cases hb:ownB (n:Int) (k:Int) (i:Int) with
 | true=>rw [if_pos rfl];exact owner_yes _ _ _ u hb
 | false=>rw [if_neg Bool.false_ne_true];exact owner_no _ _ _ u hb
theorem fin_own_parts {n k i:Nat} (h:ownB (n:Int) (k:Int) (i:Int)=true):1<=n/\n<=16/\1<=k/\k<=32/\2<=i/\i<=1+n*k:=by
 unfold ownB rightB at h
 simp at h
 have e:((n*k:Nat):Int)=(n:Int)*(k:Int):=by simp
 omega
theorem fin_own_int {n k i:Nat} (h:ownB (n:Int) (k:Int) (i:Int)=true):((i:Int) - 2) / (k:Int)=(((i - 2) / k:Nat):Int):=by
 have h1:=fin_own_parts h
 rw [show(i:Int) - 2=((i - 2:Nat):Int) by omega];simp
theorem fin_own_le {n k i:Nat} (h:ownB (n:Int) (k:Int) (i:Int)=true):(i - 2) / k<=20:=by
 obtain⟨h1,h2,h3,h4,h5,h6⟩:=fin_own_parts h
 have:(i - 2) / k<n:=by
  rw [Nat.div_lt_iff_lt_mul (by omega)];omega
 omega
set_option maxHeartbeats 4000000 in
theorem tl_1_yes {w:World} {n k bT bW bm:Nat} {bw:Option Nat} {ow a x d y:Nat} {m:MemD} (h:FinAt (tlCells n k) 127 w bT bW bm bw ⟨1,ow,a,x,d,y⟩ m) (hn:n<=16) (hcnt:m.c.all+1<1000000000000) (hyes:(memRead m (fAt n k a 0)).2 / 1073741824=a / 1024/\(memRead m (fAt n k a 0)).2 % 1073741824≠0/\ownB (n:Int) (k:Int) (((memRead m (fAt n k a 0)).2 % 1073741824 % 1024:Nat):Int)=true) :
  Calls Try.prog 153 #[.pointer (some ⟨bT,0,none⟩),.pointer (some ⟨bW,0,none⟩)] w λe w'=>e=.returned (.bool false)/\FinAt (tlCells n k) 127 w' bT bW bm bw ⟨3,((memRead m (fAt n k a 0)).2 % 1073741824 % 1024 - 2) / k,a,(memRead m (fAt n k a 0)).2 % 1073741824,d,y⟩ (memRead m (fAt n k a 0)).1/\Chg (FinS bT bm bw) w w':=by
 have hb:=h.blk
 have lT:=blk_lt hb
 have lW:=h.wl
 have x0:=h.wld
 have n1:=h.n1;have n2:=h.n2;have n3:=h.n3
 have n3':bT≠bW:=λe=>n3 e.symm
 obtain⟨ok1,ok2,ok3,ok4,ok5⟩:=h.ok
 simp only at ok1 ok2 ok3 ok4 ok5
 have hrU:U64 (memRead m (fAt n k a 0)).2:=mem_val h.mem
 have RD:=λ(u:World) (hu:Chg noF w u)=>read_any bm bw m (fAt n k a 0) u (h.mem.chg hu (λh=>h) (λ_ _ h=>h)) hcnt
 have QF:=Lib.hid (λu=>queue_field n k a 0 (by omega) ok1 (by decide) u)
 obtain⟨ad,had⟩:∃ ad,ad=fAt n k a 0:=⟨_,rfl⟩
 obtain⟨fo,hfo⟩:∃ fo,fo=fOk n k a 0:=⟨_,rfl⟩
 rw [<-had,<-hfo] at QF
 rw [<-had] at RD hrU hyes ⊢
 obtain⟨r,hr⟩:∃ r,r=(memRead m ad).2:=⟨_,rfl⟩
 rw [<-hr] at RD hrU hyes ⊢
 obtain⟨m',hm'⟩:∃ m',m'=(memRead m ad).1:=⟨_,rfl⟩
 rw [<-hm'] at RD ⊢
 have FR:=Lib.hid (λu=>fresh_any r a hrU ok1 u)
 obtain⟨fr,hfr⟩:∃ fr,fr=decide (r / 1073741824=a / 1024):=⟨_,rfl⟩
 obtain⟨xx,hxx⟩:∃ xx,xx=r % 1073741824:=⟨_,rfl⟩
 rw [<-hfr,<-hxx] at FR
 have hxU:U64 xx:=by rw [hxx];unfold U64;omega
 have SP:=Lib.hid (λu=>split_any xx u hxU)
 obtain⟨i,hi⟩:∃ i,i=xx % 1024:=⟨_,rfl⟩
 rw [<-hxx,<-hi] at hyes ⊢
 obtain⟨ob,hob⟩:∃ ob,ob=ownB (n:Int) (k:Int) (i:Int):=⟨_,rfl⟩
 have OW:=Lib.hid (fin_owner n k i)
 rw [<-hob] at OW hyes
 have Hi:=Lib.hid hi
 obtain⟨y1,y2,y3⟩:=hyes
 obtain rfl:fr=true:=by rw [hfr];exact decide_eq_true y1
 subst y3
 have hx0:((xx:Int) == 0)=false:=by simpa using y2
 obtain⟨o,ho⟩:∃ o,o=(i - 2) / k:=⟨_,rfl⟩
 have ho20:o<=20:=by rw [ho];exact fin_own_le hob.symm
 rw [if_pos rfl,fin_own_int hob.symm,<-ho] at OW
 rw [<-ho]
 have Ok:=Lib.hid (show(⟨3,o,a,xx,d,y⟩:FinD).ok from⟨ok1,hxU,ok3,ok4,ho20⟩)
 clear y1 y2 ho ho20
 have tx:=x0
 have t0:w.cell? ⟨bT,0,none⟩=some (.int .i64 0):=by rw [cell_blk hb];rfl
 have t1:w.cell? ⟨bT,1,none⟩=some (.int .i64 (n:Int)):=by rw [cell_blk hb];rfl
 have t2:w.cell? ⟨bT,2,none⟩=some (.int .i64 (k:Int)):=by rw [cell_blk hb];rfl
 have t3:w.cell? ⟨bT,3,none⟩=some (.int .i64 1):=by rw [cell_blk hb];rfl
 have t5:w.cell? ⟨bT,5,none⟩=some (.int .u64 (a:Int)):=by rw [cell_blk hb];rfl
 have H:=Lib.hid h;have RD':=Lib.hid RD;have Hb:=Lib.hid hb
 have lT':=Lib.hid lT
 clear h hcnt hr hm' had hfo hfr hxx hi hob RD hb hrU hxU ok1 ok2 ok3 ok4 ok5 x0
 unfold queueV at QF
 go_enter Try.func153,Try.ntmps153
 go_upto_region 8 with fail
 go_region_held3 (λu=>u.cell? ⟨bW,0,none⟩=some (.pointer (some ⟨bm,0,none⟩))/\u.cell? ⟨bT,0,none⟩=some (.int .i64 0)/\u.cell? ⟨bT,1,none⟩=some (.int .i64 (n:Int))/\u.cell? ⟨bT,2,none⟩=some (.int .i64 (k:Int))/\u.cell? ⟨bT,5,none⟩=some (.int .u64 (a:Int)))
  (first|exact⟨tx,t0,t1,t2,t5⟩|exact⟨txw5,t0w5,t1w5,t2w5,t5w5⟩)
  (first|(go_at_call 155;refine(QF.out _).mono ?_;rintro e w5 ⟨rfl,hb5⟩;have hc5:Chg noF w w5:=((Chg.refl _ w).drew).trans (Chg.of_below hb5);have txw5:=box_keep hc5 (λh=>h) tx;have t0w5:=box_keep hc5 (λh=>h) t0;have t1w5:=box_keep hc5 (λh=>h) t1;have t2w5:=box_keep hc5 (λh=>h) t2;have t5w5:=box_keep hc5 (λh=>h) t5))
 clear tx t0 t1 t2 t3 t5
 go_upto_region 9 with fail
 go_region_held3 (λu=>u.cell? ⟨bW,0,none⟩=some (.pointer (some ⟨bm,0,none⟩))/\u.cell? ⟨bT,0,none⟩=some (.int .i64 0)/\u.cell? ⟨bT,1,none⟩=some (.int .i64 (n:Int))/\u.cell? ⟨bT,2,none⟩=some (.int .i64 (k:Int))/\u.cell? ⟨bT,5,none⟩=some (.int .u64 (a:Int)))
  (first|exact⟨txw5,t0w5,t1w5,t2w5,t5w5⟩|exact⟨txw5w6,t0w5w6,t1w5w6,t2w5w6,t5w5w6⟩|exact⟨txw5w6,t0w5w6,t1w5w6,t2w5w6,t5w5w6⟩)
  (first|(go_at_call 136;refine(RD'.out _ (hc5.drew)).mono ?_;rintro e w6 ⟨rfl,hm6,hc6⟩;have hc6z:Chg (MemSet bm bw) w5 w6:=((Chg.refl _ w5).drew).trans hc6;have txw5w6:=box_keep hc6z n2 txw5;have t0w5w6:=box_keep hc6z n1 t0w5;have t1w5w6:=box_keep hc6z n1 t1w5;have t2w5w6:=box_keep hc6z n1 t2w5;have t5w5w6:=box_keep hc6z n1 t5w5)|(go_at_call 156;refine(FR.out _).mono ?_;rintro e w7 ⟨rfl,rfl⟩;have hc7z:Chg (MemSet bm bw) w5 w6:=hc6z;have txw5w6:=box_keep hc7z n2 txw5;have t0w5w6:=box_keep hc7z n1 t0w5;have t1w5w6:=box_keep hc7z n1 t1w5;have t2w5w6:=box_keep hc7z n1 t2w5;have t5w5w6:=box_keep hc7z n1 t5w5))
 have hc69:Chg (MemSet bm bw) w w6:=(hc5.mono (λ_ _ h=>h.elim)).trans hc6z
 have B6:=Lib.hid ((hc69.block bT lT n1).trans Hb.out)
 have HC:=Lib.hid hc69;have HM:=Lib.hid hm6
 clear hc69 hc6z hc7z hc6 hm6 hc5 hb5 txw5 t0w5 t1w5 t2w5 t5w5 txw5w6 t0w5w6 t1w5w6 t2w5w6 t5w5w6
 have b6:=B6.out
 have t1:w6.cell? ⟨bT,1,none⟩=some (.int .i64 (n:Int)):=by rw [cell_blk b6];rfl
 have t2:w6.cell? ⟨bT,2,none⟩=some (.int .i64 (k:Int)):=by rw [cell_blk b6];rfl
 clear b6
 go_upto_region 11 with(go_at_call 157;refine(SP.out _).mono ?_;rintro e w7 ⟨ia,ib,rfl,rfl,hia,hib⟩;obtain rfl:ia=i:=hia.out.trans Hi.out.symm;clear hia hib)
 go_quiet ((go_at_call 158;first|exact quietS (OW.out _)|exact quietA (OW.out _)))
 obtain⟨wd,hwd⟩:∃ wd,wd=w6.drewN nq:=⟨_,rfl⟩
 rw [<-hwd]
 have bd:wd.heap[bT]?=some (.cells (tlCells n k ⟨1,ow,a,x,d,y⟩) 127 (0,0)):=by rw [hwd];exact B6.out
 have HCd:=Lib.hid (show Chg (MemSet bm bw) w wd by rw [hwd];exact HC.out.drewN nq)
 have HMd:=Lib.hid (show MemAt wd bm bw m' by rw [hwd];exact HM.out.chg ((Chg.refl noF w6).drewN nq) (λh=>h) (λ_ _ h=>h))
 have Bd:=Lib.hid bd
 clear t1 t2 hwd
 have t3:wd.cell? ⟨bT,3,none⟩=some (.int .i64 1):=by rw [cell_blk bd];rfl
 have t4:wd.cell? ⟨bT,4,none⟩=some (.int .i64 (ow:Int)):=by rw [cell_blk bd];rfl
 have t6:wd.cell? ⟨bT,6,none⟩=some (.int .u64 (x:Int)):=by rw [cell_blk bd];rfl
 have tf3:=frozen_blk bd 3
 have tf4:=frozen_blk bd 4
 have tf6:=frozen_blk bd 6
 have ld:=blk_lt bd
 clear bd
 go_wp2
 go_ret
 refine⟨rfl,?_⟩
 refine H.out.acc HCd.out HMd.out ((((Chg.refl (λb=>b=bT) wd).setCell (by exact .inl rfl) _).setCell (by exact .inl rfl) _).setCell (by exact .inl rfl) _) ?_ Ok.out
 rw [blk_set (blk_set (blk_set Bd.out _ _) _ _) _ _];rfl
set_option maxHeartbeats 4000000 in
theorem tl_1_no {w:World} {n k bT bW bm:Nat} {bw:Option Nat} {ow a x d y:Nat} {m:MemD} (h:FinAt (tlCells n k) 127 w bT bW bm bw ⟨1,ow,a,x,d,y⟩ m) (hn:n<=16) (hcnt:m.c.all+1<1000000000000) (hyes:¬ ((memRead m (fAt n k a 0)).2 / 1073741824=a / 1024/\(memRead m (fAt n k a 0)).2 % 1073741824≠0/\ownB (n:Int) (k:Int) (((memRead m (fAt n k a 0)).2 % 1073741824 % 1024:Nat):Int)=true)) :
  Calls Try.prog 153 #[.pointer (some ⟨bT,0,none⟩),.pointer (some ⟨bW,0,none⟩)] w λe w'=>e=.returned (.bool true)/\FinAt (tlCells n k) 127 w' bT bW bm bw ⟨1,ow,a,x,d,y⟩ (memRead m (fAt n k a 0)).1/\Chg (FinS bT bm bw) w w':=by
 have hb:=h.blk
 have lT:=blk_lt hb
 have lW:=h.wl
 have x0:=h.wld
 have n1:=h.n1;have n2:=h.n2;have n3:=h.n3
 have n3':bT≠bW:=λe=>n3 e.symm
 obtain⟨ok1,ok2,ok3,ok4,ok5⟩:=h.ok
 simp only at ok1 ok2 ok3 ok4 ok5
 have hrU:U64 (memRead m (fAt n k a 0)).2:=mem_val h.mem
 have RD:=λ(u:World) (hu:Chg noF w u)=>read_any bm bw m (fAt n k a 0) u (h.mem.chg hu (λh=>h) (λ_ _ h=>h)) hcnt
 have QF:=Lib.hid (λu=>queue_field n k a 0 (by omega) ok1 (by decide) u)
 obtain⟨ad,had⟩:∃ ad,ad=fAt n k a 0:=⟨_,rfl⟩
 obtain⟨fo,hfo⟩:∃ fo,fo=fOk n k a 0:=⟨_,rfl⟩
 rw [<-had,<-hfo] at QF
 rw [<-had] at RD hrU hyes ⊢
 obtain⟨r,hr⟩:∃ r,r=(memRead m ad).2:=⟨_,rfl⟩
 rw [<-hr] at RD hrU hyes
 obtain⟨m',hm'⟩:∃ m',m'=(memRead m ad).1:=⟨_,rfl⟩
 rw [<-hm'] at RD ⊢
 have FR:=Lib.hid (λu=>fresh_any r a hrU ok1 u)
 obtain⟨fr,hfr⟩:∃ fr,fr=decide (r / 1073741824=a / 1024):=⟨_,rfl⟩
 obtain⟨xx,hxx⟩:∃ xx,xx=r % 1073741824:=⟨_,rfl⟩
 rw [<-hfr,<-hxx] at FR
 have hxU:U64 xx:=by rw [hxx];unfold U64;omega
 have SP:=Lib.hid (λu=>split_any xx u hxU)
 obtain⟨i,hi⟩:∃ i,i=xx % 1024:=⟨_,rfl⟩
 rw [<-hxx,<-hi] at hyes
 obtain⟨ob,hob⟩:∃ ob,ob=ownB (n:Int) (k:Int) (i:Int):=⟨_,rfl⟩
 have OW:=Lib.hid (fin_owner n k i)
 rw [<-hob] at OW hyes
 have Hi:=Lib.hid hi
 have hno:fr=false∨(fr=true/\xx=0)∨(fr=true/\xx≠0/\ob=false):=by
  rw [hfr]
  by_cases q1:r / 1073741824=a / 1024
  ·rw [decide_eq_true q1]
   by_cases q2:xx=0
   ·exact .inr (.inl ⟨rfl,q2⟩)
   ·refine .inr (.inr ⟨rfl,q2,?_⟩)
    cases ob with
    | false=>rfl
    | true=>exact absurd ⟨q1,q2,rfl⟩ hyes
  ·exact .inl (decide_eq_false q1)
 obtain⟨oi,hoi⟩:∃ oi:Int,oi=if ob=true then ((i:Int) - 2) / (k:Int) else 0:=⟨_,rfl⟩
 rw [<-hoi] at OW
 have Ok:=Lib.hid (show(⟨1,ow,a,x,d,y⟩:FinD).ok from⟨ok1,ok2,ok3,ok4,ok5⟩)
 clear hyes hoi
 have tx:=x0
 have t0:w.cell? ⟨bT,0,none⟩=some (.int .i64 0):=by rw [cell_blk hb];rfl
 have t1:w.cell? ⟨bT,1,none⟩=some (.int .i64 (n:Int)):=by rw [cell_blk hb];rfl
 have t2:w.cell? ⟨bT,2,none⟩=some (.int .i64 (k:Int)):=by rw [cell_blk hb];rfl
 have t3:w.cell? ⟨bT,3,none⟩=some (.int .i64 1):=by rw [cell_blk hb];rfl
 have t5:w.cell? ⟨bT,5,none⟩=some (.int .u64 (a:Int)):=by rw [cell_blk hb];rfl
 have H:=Lib.hid h;have RD':=Lib.hid RD;have Hb:=Lib.hid hb
 have lT':=Lib.hid lT
 clear h hcnt hr hm' had hfo hfr hxx hi hob RD hb hrU hxU ok1 ok2 ok3 ok4 ok5 x0
 unfold queueV at QF
 go_enter Try.func153,Try.ntmps153
 go_upto_region 8 with fail
 go_region_held3 (λu=>u.cell? ⟨bW,0,none⟩=some (.pointer (some ⟨bm,0,none⟩))/\u.cell? ⟨bT,0,none⟩=some (.int .i64 0)/\u.cell? ⟨bT,1,none⟩=some (.int .i64 (n:Int))/\u.cell? ⟨bT,2,none⟩=some (.int .i64 (k:Int))/\u.cell? ⟨bT,5,none⟩=some (.int .u64 (a:Int)))
  (first|exact⟨tx,t0,t1,t2,t5⟩|exact⟨txw5,t0w5,t1w5,t2w5,t5w5⟩)
  (first|(go_at_call 155;refine(QF.out _).mono ?_;rintro e w5 ⟨rfl,hb5⟩;have hc5:Chg noF w w5:=((Chg.refl _ w).drew).trans (Chg.of_below hb5);have txw5:=box_keep hc5 (λh=>h) tx;have t0w5:=box_keep hc5 (λh=>h) t0;have t1w5:=box_keep hc5 (λh=>h) t1;have t2w5:=box_keep hc5 (λh=>h) t2;have t5w5:=box_keep hc5 (λh=>h) t5))
 clear tx t0 t1 t2 t3 t5
 go_upto_region 9 with fail
 go_region_held3 (λu=>u.cell? ⟨bW,0,none⟩=some (.pointer (some ⟨bm,0,none⟩))/\u.cell? ⟨bT,0,none⟩=some (.int .i64 0)/\u.cell? ⟨bT,1,none⟩=some (.int .i64 (n:Int))/\u.cell? ⟨bT,2,none⟩=some (.int .i64 (k:Int))/\u.cell? ⟨bT,5,none⟩=some (.int .u64 (a:Int)))
  (first|exact⟨txw5,t0w5,t1w5,t2w5,t5w5⟩|exact⟨txw5w6,t0w5w6,t1w5w6,t2w5w6,t5w5w6⟩|exact⟨txw5w6,t0w5w6,t1w5w6,t2w5w6,t5w5w6⟩)
  (first|(go_at_call 136;refine(RD'.out _ (hc5.drew)).mono ?_;rintro e w6 ⟨rfl,hm6,hc6⟩;have hc6z:Chg (MemSet bm bw) w5 w6:=((Chg.refl _ w5).drew).trans hc6;have txw5w6:=box_keep hc6z n2 txw5;have t0w5w6:=box_keep hc6z n1 t0w5;have t1w5w6:=box_keep hc6z n1 t1w5;have t2w5w6:=box_keep hc6z n1 t2w5;have t5w5w6:=box_keep hc6z n1 t5w5)|(go_at_call 156;refine(FR.out _).mono ?_;rintro e w7 ⟨rfl,rfl⟩;have hc7z:Chg (MemSet bm bw) w5 w6:=hc6z;have txw5w6:=box_keep hc7z n2 txw5;have t0w5w6:=box_keep hc7z n1 t0w5;have t1w5w6:=box_keep hc7z n1 t1w5;have t2w5w6:=box_keep hc7z n1 t2w5;have t5w5w6:=box_keep hc7z n1 t5w5))
 have hc69:Chg (MemSet bm bw) w w6:=(hc5.mono (λ_ _ h=>h.elim)).trans hc6z
 have B6:=Lib.hid ((hc69.block bT lT n1).trans Hb.out)
 have HC:=Lib.hid hc69;have HM:=Lib.hid hm6
 clear hc69 hc6z hc7z hc6 hm6 hc5 hb5 txw5 t0w5 t1w5 t2w5 t5w5 txw5w6 t0w5w6 t1w5w6 t2w5w6 t5w5w6
 have b6:=B6.out
 have t1:w6.cell? ⟨bT,1,none⟩=some (.int .i64 (n:Int)):=by rw [cell_blk b6];rfl
 have t2:w6.cell? ⟨bT,2,none⟩=some (.int .i64 (k:Int)):=by rw [cell_blk b6];rfl
 clear b6
 go_upto_region 11 with(go_at_call 157;refine(SP.out _).mono ?_;rintro e w7 ⟨ia,ib,rfl,rfl,hia,hib⟩;obtain rfl:ia=i:=hia.out.trans Hi.out.symm;clear hia hib)
 go_quiet ((go_at_call 158;first|exact quietS (OW.out _)|exact quietA (OW.out _)))
 obtain⟨wd,hwd⟩:∃ wd,wd=w6.drewN nq:=⟨_,rfl⟩
 rw [<-hwd]
 have bd:wd.heap[bT]?=some (.cells (tlCells n k ⟨1,ow,a,x,d,y⟩) 127 (0,0)):=by rw [hwd];exact B6.out
 have HCd:=Lib.hid (show Chg (MemSet bm bw) w wd by rw [hwd];exact HC.out.drewN nq)
 have HMd:=Lib.hid (show MemAt wd bm bw m' by rw [hwd];exact HM.out.chg ((Chg.refl noF w6).drewN nq) (λh=>h) (λ_ _ h=>h))
 have Bd:=Lib.hid bd
 clear t1 t2 hwd
 clear bd
 rcases hno with rfl|⟨rfl,rfl⟩|⟨rfl,hxn,rfl⟩
 ·go_wp2
  go_ret
  exact⟨rfl,H.out.acc HCd.out HMd.out (Chg.refl _ _) Bd.out Ok.out⟩
 ·go_wp2
  go_ret
  exact⟨rfl,H.out.acc HCd.out HMd.out (Chg.refl _ _) Bd.out Ok.out⟩
 ·have hx0:((xx:Int) == 0)=false:=by simpa using hxn
  clear hxn
  go_wp2
  go_ret
  exact⟨rfl,H.out.acc HCd.out HMd.out (Chg.refl _ _) Bd.out Ok.out⟩
set_option maxHeartbeats 4000000 in
theorem tl_3_yes {w:World} {n k bT bW bm:Nat} {bw:Option Nat} {ow a x d y:Nat} {m:MemD} (h:FinAt (tlCells n k) 127 w bT bW bm bw ⟨3,ow,a,x,d,y⟩ m) (hn:n<=16) (hcnt:m.c.all+1<1000000000000) (hyes:dP (memRead m ((2+ow:Nat):Int)).2=true/\dT (memRead m ((2+ow:Nat):Int)).2=false/\dL (memRead m ((2+ow:Nat):Int)).2=x) :
  Calls Try.prog 153 #[.pointer (some ⟨bT,0,none⟩),.pointer (some ⟨bW,0,none⟩)] w λe w'=>e=.returned (.bool false)/\FinAt (tlCells n k) 127 w' bT bW bm bw ⟨5,ow,a,x,(memRead m ((2+ow:Nat):Int)).2,y⟩ (memRead m ((2+ow:Nat):Int)).1/\Chg (FinS bT bm bw) w w':=by
 have hb:=h.blk
 have lT:=blk_lt hb
 have lW:=h.wl
 have x0:=h.wld
 have n1:=h.n1;have n2:=h.n2;have n3:=h.n3
 have n3':bT≠bW:=λe=>n3 e.symm
 obtain⟨ok1,ok2,ok3,ok4,ok5⟩:=h.ok
 simp only at ok1 ok2 ok3 ok4 ok5
 have hrU:U64 (memRead m ((2+ow:Nat):Int)).2:=mem_val h.mem
 have RD:=λ(u:World) (hu:Chg noF w u)=>read_any bm bw m ((2+ow:Nat):Int) u (h.mem.chg hu (λh=>h) (λ_ _ h=>h)) hcnt
 obtain⟨r,hr⟩:∃ r,r=(memRead m ((2+ow:Nat):Int)).2:=⟨_,rfl⟩
 rw [<-hr] at RD hrU hyes ⊢
 obtain⟨m',hm'⟩:∃ m',m'=(memRead m ((2+ow:Nat):Int)).1:=⟨_,rfl⟩
 rw [<-hm'] at RD ⊢
 have QD:=λu=>queue_desc n k ow (by omega) u
 obtain⟨ad,had⟩:∃ ad:Int,ad=((2+ow:Nat):Int):=⟨_,rfl⟩
 rw [<-had] at RD QD
 have QD:=Lib.hid QD
 have UP:=Lib.hid (λu=>descUnpack_any r u hrU)
 have Ok:=Lib.hid (show(⟨5,ow,a,x,r,y⟩:FinD).ok from⟨ok1,ok2,hrU,ok4,ok5⟩)
 unfold queueV at QD
 obtain⟨gp,hgp⟩:∃ gp,gp=dP r:=⟨_,rfl⟩
 obtain⟨gt,hgt⟩:∃ gt,gt=dT r:=⟨_,rfl⟩
 obtain⟨gl,hgl⟩:∃ gl,gl=dL r:=⟨_,rfl⟩
 obtain⟨gh,hgh⟩:∃ gh,gh=dPh r:=⟨_,rfl⟩
 rw [<-hgp,<-hgt,<-hgl] at hyes
 rw [<-hgp,<-hgt,<-hgl,<-hgh] at UP
 clear hr hm' had hrU hgp hgt hgl hgh
 rw [hyes.1,hyes.2.1,hyes.2.2] at UP
 clear hyes
 have t0:w.cell? ⟨bT,0,none⟩=some (.int .i64 0):=by rw [cell_blk hb];rfl
 have t1:w.cell? ⟨bT,1,none⟩=some (.int .i64 (n:Int)):=by rw [cell_blk hb];rfl
 have t2:w.cell? ⟨bT,2,none⟩=some (.int .i64 (k:Int)):=by rw [cell_blk hb];rfl
 have t4:w.cell? ⟨bT,4,none⟩=some (.int .i64 (ow:Int)):=by rw [cell_blk hb];rfl
 have t3:w.cell? ⟨bT,3,none⟩=some (.int .i64 3):=by rw [cell_blk hb];rfl
 have tx:=x0
 have H:=Lib.hid h;have RD':=Lib.hid RD;have Hb:=Lib.hid hb
 clear h hcnt RD hb x0 ok1 ok2 ok3 ok4 ok5
 go_enter Try.func153,Try.ntmps153
 go_upto_region 16 with fail
 go_region_held3 (λu=>u.cell? ⟨bW,0,none⟩=some (.pointer (some ⟨bm,0,none⟩))/\u.cell? ⟨bT,0,none⟩=some (.int .i64 0)/\u.cell? ⟨bT,1,none⟩=some (.int .i64 (n:Int))/\u.cell? ⟨bT,2,none⟩=some (.int .i64 (k:Int))/\u.cell? ⟨bT,4,none⟩=some (.int .i64 (ow:Int)))
  (first|exact⟨tx,t0,t1,t2,t4⟩|exact⟨txw5,t0w5,t1w5,t2w5,t4w5⟩|exact⟨txw1,t0w1,t1w1,t2w1,t4w1⟩|exact⟨box_keep ((Chg.refl (λb=>b=bT) w1).setCell (by exact .inl rfl) _) n3 txw1,(World.cell?_setCell_other _ _ _ _ (by simp)).trans t0w1,(World.cell?_setCell_other _ _ _ _ (by simp)).trans t1w1,(World.cell?_setCell_other _ _ _ _ (by simp)).trans t2w1,(World.cell?_setCell_other _ _ _ _ (by simp)).trans t4w1⟩)
  (first|(go_at_call 159;refine(QD.out _).mono ?_;rintro e w5 ⟨rfl,hb5⟩;have hc5:Chg noF w w5:=((Chg.refl _ w).drew).trans (Chg.of_below hb5);have txw5:=box_keep hc5 (λh=>h) tx;have t0w5:=box_keep hc5 (λh=>h) t0;have t1w5:=box_keep hc5 (λh=>h) t1;have t2w5:=box_keep hc5 (λh=>h) t2;have t4w5:=box_keep hc5 (λh=>h) t4)|(go_at_call 136;refine(RD'.out _ hc5).mono ?_;rintro e w1 ⟨rfl,hm1,hc1⟩;have hc1z:Chg (MemSet bm bw) w w1:=(hc5.mono (λ_ _ h=>h.elim)).trans hc1;have zb:=(hc1z.block bT lT n1).trans Hb.out;have zf:=frozen_blk zb 7;have zo:w1.cell? ⟨bT,7,none⟩=some (.int .u64 (d:Int)):=(by rw [cell_blk zb];rfl);have zlt:=blk_lt zb;have txw1:=box_keep hc1z n2 tx;have t0w1:=box_keep hc1z n1 t0;have t1w1:=box_keep hc1z n1 t1;have t2w1:=box_keep hc1z n1 t2;have t4w1:=box_keep hc1z n1 t4))
 obtain⟨w2,hw2⟩:∃ w2,w2=(w1.setCell ⟨bT,7,none⟩ (.int .u64 (r:Int))):=⟨_,rfl⟩
 have b2:w2.heap[bT]?=some (.cells #[.int .i64 0,.int .i64 (n:Int),.int .i64 (k:Int),.int .i64 3,.int .i64 (ow:Int),.int .u64 (a:Int),.int .u64 (x:Int),.int .u64 (r:Int)] 127 (0,0)):=by rw [hw2];exact blk_set zb _ _
 have hc2:Chg (λb=>b=bT) w1 w2:=by rw [hw2];exact(Chg.refl (λb=>b=bT) w1).setCell (by exact .inl rfl) _
 rw [<-hw2]
 have Hc1:=Lib.hid hc1z;have Hm1:=Lib.hid hm1;have Hc2:=Lib.hid hc2;have B2:=Lib.hid b2
 clear tx t0 t1 t2 t4 t3 txw5 t0w5 t1w5 t2w5 t4w5 txw1 t0w1 t1w1 t2w1 t4w1 zb zf zo zlt hw2 hc1z hm1 hc1 hc5 hb5 hc2
 have t3:w2.cell? ⟨bT,3,none⟩=some (.int .i64 3):=by rw [cell_blk b2];rfl
 have tf3:w2.frozen? ⟨bT,3,none⟩=false:=frozen_blk b2 3
 have l2:=blk_lt b2
 clear b2
 go_upto_region 18 with fail
 obtain⟨w3,hw3⟩:∃ w3,w3=(w2.setCell ⟨bT,3,none⟩ (.int .i64 6)):=⟨_,rfl⟩
 have b3:w3.heap[bT]?=some (.cells #[.int .i64 0,.int .i64 (n:Int),.int .i64 (k:Int),.int .i64 6,.int .i64 (ow:Int),.int .u64 (a:Int),.int .u64 (x:Int),.int .u64 (r:Int)] 127 (0,0)):=by rw [hw3];exact blk_set B2.out _ _
 have hc3:Chg (λb=>b=bT) w2 w3:=by rw [hw3];exact(Chg.refl (λb=>b=bT) w2).setCell (by exact .inl rfl) _
 rw [<-hw3]
 have Hc3:=Lib.hid (Hc2.out.trans hc3);have B3:=Lib.hid b3
 clear hw3 hc3 t3 tf3 l2
 have t7:w3.cell? ⟨bT,7,none⟩=some (.int .u64 (r:Int)):=by rw [cell_blk b3];rfl
 clear b3
 go_wp2_with (go_at_call 160;refine(UP.out _).mono ?_;rintro e w4 ⟨rfl,hb4⟩;obtain⟨wx,hwx⟩:∃ wx,wx=w4.alloc (.cells #[.bool true,.bool false,.int .u64 (x:Int),.int .u64 (gh:Int)] 256):=⟨_,rfl⟩)
 rw [<-hwx]
 have hbx:Below w3.heap.size w3 wx:=by rw [hwx];exact Gr.alloc hb4 _
 have hdx:wx.heap[w4.heap.size]?=some (.cells #[.bool true,.bool false,.int .u64 (x:Int),.int .u64 (gh:Int)] 256 (0,0)):=by rw [hwx];exact heap_alloc_new _ _
 have hBx:wx.heap[bT]?=some (.cells #[.int .i64 0,.int .i64 (n:Int),.int .i64 (k:Int),.int .i64 6,.int .i64 (ow:Int),.int .u64 (a:Int),.int .u64 (x:Int),.int .u64 (r:Int)] 127 (0,0)):=(hbx.block bT (blk_lt B3.out)).trans B3.out
 have HCx:=Lib.hid (Hc3.out.trans (Chg.of_below hbx));have BX:=Lib.hid hBx
 have q0:wx.cell? ⟨w4.heap.size,0,none⟩=some (.bool true):=by rw [cell_blk hdx];rfl
 have q1:wx.cell? ⟨w4.heap.size,1,none⟩=some (.bool false):=by rw [cell_blk hdx];rfl
 have q2:wx.cell? ⟨w4.heap.size,2,none⟩=some (.int .u64 (x:Int)):=by rw [cell_blk hdx];rfl
 have qo:wx.cell? ⟨bT,6,none⟩=some (.int .u64 (x:Int)):=by rw [cell_blk hBx];rfl
 clear t7 hwx hbx hdx hBx hb4
 go_quiet (fail)
 obtain⟨wd,hwd⟩:∃ wd,wd=wx.drewN nq:=⟨_,rfl⟩
 rw [<-hwd]
 have hBd:wd.heap[bT]?=some (.cells #[.int .i64 0,.int .i64 (n:Int),.int .i64 (k:Int),.int .i64 6,.int .i64 (ow:Int),.int .u64 (a:Int),.int .u64 (x:Int),.int .u64 (r:Int)] 127 (0,0)):=by rw [hwd];exact BX.out
 have HCd:=Lib.hid (show Chg (λb=>b=bT) w1 wd by rw [hwd];exact HCx.out.drewN nq);have BD:=Lib.hid hBd
 clear q0 q1 q2 qo hwd
 have t3:wd.cell? ⟨bT,3,none⟩=some (.int .i64 6):=by rw [cell_blk hBd];rfl
 have tf3:wd.frozen? ⟨bT,3,none⟩=false:=frozen_blk hBd 3
 have ld:=blk_lt hBd
 clear hBd
 go_wp2
 go_ret
 refine⟨rfl,H.out.acc Hc1.out Hm1.out (HCd.out.setCell (by exact .inl rfl) _) ?_ Ok.out⟩
 rw [blk_set BD.out _ _];rfl
set_option maxHeartbeats 4000000 in
theorem tl_3_no {w:World} {n k bT bW bm:Nat} {bw:Option Nat} {ow a x d y:Nat} {m:MemD} (h:FinAt (tlCells n k) 127 w bT bW bm bw ⟨3,ow,a,x,d,y⟩ m) (hn:n<=16) (hcnt:m.c.all+1<1000000000000) (hyes:¬ (dP (memRead m ((2+ow:Nat):Int)).2=true/\dT (memRead m ((2+ow:Nat):Int)).2=false/\dL (memRead m ((2+ow:Nat):Int)).2=x)) :
  Calls Try.prog 153 #[.pointer (some ⟨bT,0,none⟩),.pointer (some ⟨bW,0,none⟩)] w λe w'=>e=.returned (.bool false)/\FinAt (tlCells n k) 127 w' bT bW bm bw ⟨6,ow,a,x,(memRead m ((2+ow:Nat):Int)).2,y⟩ (memRead m ((2+ow:Nat):Int)).1/\Chg (FinS bT bm bw) w w':=by
 have hb:=h.blk
 have lT:=blk_lt hb
 have lW:=h.wl
 have x0:=h.wld
 have n1:=h.n1;have n2:=h.n2;have n3:=h.n3
 have n3':bT≠bW:=λe=>n3 e.symm
 obtain⟨ok1,ok2,ok3,ok4,ok5⟩:=h.ok
 simp only at ok1 ok2 ok3 ok4 ok5
 have hrU:U64 (memRead m ((2+ow:Nat):Int)).2:=mem_val h.mem
 have RD:=λ(u:World) (hu:Chg noF w u)=>read_any bm bw m ((2+ow:Nat):Int) u (h.mem.chg hu (λh=>h) (λ_ _ h=>h)) hcnt
 obtain⟨r,hr⟩:∃ r,r=(memRead m ((2+ow:Nat):Int)).2:=⟨_,rfl⟩
 rw [<-hr] at RD hrU hyes ⊢
 obtain⟨m',hm'⟩:∃ m',m'=(memRead m ((2+ow:Nat):Int)).1:=⟨_,rfl⟩
 rw [<-hm'] at RD ⊢
 have QD:=λu=>queue_desc n k ow (by omega) u
 obtain⟨ad,had⟩:∃ ad:Int,ad=((2+ow:Nat):Int):=⟨_,rfl⟩
 rw [<-had] at RD QD
 have QD:=Lib.hid QD
 have UP:=Lib.hid (λu=>descUnpack_any r u hrU)
 have Ok:=Lib.hid (show(⟨6,ow,a,x,r,y⟩:FinD).ok from⟨ok1,ok2,hrU,ok4,ok5⟩)
 unfold queueV at QD
 obtain⟨gp,hgp⟩:∃ gp,gp=dP r:=⟨_,rfl⟩
 obtain⟨gt,hgt⟩:∃ gt,gt=dT r:=⟨_,rfl⟩
 obtain⟨gl,hgl⟩:∃ gl,gl=dL r:=⟨_,rfl⟩
 obtain⟨gh,hgh⟩:∃ gh,gh=dPh r:=⟨_,rfl⟩
 rw [<-hgp,<-hgt,<-hgl] at hyes
 rw [<-hgp,<-hgt,<-hgl,<-hgh] at UP
 clear hr hm' had hrU hgp hgt hgl hgh
 have hno:gp=false∨(gp=true/\gt=true)∨(gp=true/\gt=false/\gl≠x):=by
  cases gp<;>cases gt<;>simp_all
 clear hyes
 have t0:w.cell? ⟨bT,0,none⟩=some (.int .i64 0):=by rw [cell_blk hb];rfl
 have t1:w.cell? ⟨bT,1,none⟩=some (.int .i64 (n:Int)):=by rw [cell_blk hb];rfl
 have t2:w.cell? ⟨bT,2,none⟩=some (.int .i64 (k:Int)):=by rw [cell_blk hb];rfl
 have t4:w.cell? ⟨bT,4,none⟩=some (.int .i64 (ow:Int)):=by rw [cell_blk hb];rfl
 have t3:w.cell? ⟨bT,3,none⟩=some (.int .i64 3):=by rw [cell_blk hb];rfl
 have tx:=x0
 have H:=Lib.hid h;have RD':=Lib.hid RD;have Hb:=Lib.hid hb
 clear h hcnt RD hb x0 ok1 ok2 ok3 ok4 ok5
 go_enter Try.func153,Try.ntmps153
 go_upto_region 16 with fail
 go_region_held3 (λu=>u.cell? ⟨bW,0,none⟩=some (.pointer (some ⟨bm,0,none⟩))/\u.cell? ⟨bT,0,none⟩=some (.int .i64 0)/\u.cell? ⟨bT,1,none⟩=some (.int .i64 (n:Int))/\u.cell? ⟨bT,2,none⟩=some (.int .i64 (k:Int))/\u.cell? ⟨bT,4,none⟩=some (.int .i64 (ow:Int)))
  (first|exact⟨tx,t0,t1,t2,t4⟩|exact⟨txw5,t0w5,t1w5,t2w5,t4w5⟩|exact⟨txw1,t0w1,t1w1,t2w1,t4w1⟩|exact⟨box_keep ((Chg.refl (λb=>b=bT) w1).setCell (by exact .inl rfl) _) n3 txw1,(World.cell?_setCell_other _ _ _ _ (by simp)).trans t0w1,(World.cell?_setCell_other _ _ _ _ (by simp)).trans t1w1,(World.cell?_setCell_other _ _ _ _ (by simp)).trans t2w1,(World.cell?_setCell_other _ _ _ _ (by simp)).trans t4w1⟩)
  (first|(go_at_call 159;refine(QD.out _).mono ?_;rintro e w5 ⟨rfl,hb5⟩;have hc5:Chg noF w w5:=((Chg.refl _ w).drew).trans (Chg.of_below hb5);have txw5:=box_keep hc5 (λh=>h) tx;have t0w5:=box_keep hc5 (λh=>h) t0;have t1w5:=box_keep hc5 (λh=>h) t1;have t2w5:=box_keep hc5 (λh=>h) t2;have t4w5:=box_keep hc5 (λh=>h) t4)|(go_at_call 136;refine(RD'.out _ hc5).mono ?_;rintro e w1 ⟨rfl,hm1,hc1⟩;have hc1z:Chg (MemSet bm bw) w w1:=(hc5.mono (λ_ _ h=>h.elim)).trans hc1;have zb:=(hc1z.block bT lT n1).trans Hb.out;have zf:=frozen_blk zb 7;have zo:w1.cell? ⟨bT,7,none⟩=some (.int .u64 (d:Int)):=(by rw [cell_blk zb];rfl);have zlt:=blk_lt zb;have txw1:=box_keep hc1z n2 tx;have t0w1:=box_keep hc1z n1 t0;have t1w1:=box_keep hc1z n1 t1;have t2w1:=box_keep hc1z n1 t2;have t4w1:=box_keep hc1z n1 t4))
 obtain⟨w2,hw2⟩:∃ w2,w2=(w1.setCell ⟨bT,7,none⟩ (.int .u64 (r:Int))):=⟨_,rfl⟩
 have b2:w2.heap[bT]?=some (.cells #[.int .i64 0,.int .i64 (n:Int),.int .i64 (k:Int),.int .i64 3,.int .i64 (ow:Int),.int .u64 (a:Int),.int .u64 (x:Int),.int .u64 (r:Int)] 127 (0,0)):=by rw [hw2];exact blk_set zb _ _
 have hc2:Chg (λb=>b=bT) w1 w2:=by rw [hw2];exact(Chg.refl (λb=>b=bT) w1).setCell (by exact .inl rfl) _
 rw [<-hw2]
 have Hc1:=Lib.hid hc1z;have Hm1:=Lib.hid hm1;have Hc2:=Lib.hid hc2;have B2:=Lib.hid b2
 clear tx t0 t1 t2 t4 t3 txw5 t0w5 t1w5 t2w5 t4w5 txw1 t0w1 t1w1 t2w1 t4w1 zb zf zo zlt hw2 hc1z hm1 hc1 hc5 hb5 hc2
 have t3:w2.cell? ⟨bT,3,none⟩=some (.int .i64 3):=by rw [cell_blk b2];rfl
 have tf3:w2.frozen? ⟨bT,3,none⟩=false:=frozen_blk b2 3
 have l2:=blk_lt b2
 clear b2
 go_upto_region 18 with fail
 obtain⟨w3,hw3⟩:∃ w3,w3=(w2.setCell ⟨bT,3,none⟩ (.int .i64 6)):=⟨_,rfl⟩
 have b3:w3.heap[bT]?=some (.cells #[.int .i64 0,.int .i64 (n:Int),.int .i64 (k:Int),.int .i64 6,.int .i64 (ow:Int),.int .u64 (a:Int),.int .u64 (x:Int),.int .u64 (r:Int)] 127 (0,0)):=by rw [hw3];exact blk_set B2.out _ _
 have hc3:Chg (λb=>b=bT) w2 w3:=by rw [hw3];exact(Chg.refl (λb=>b=bT) w2).setCell (by exact .inl rfl) _
 rw [<-hw3]
 have Hc3:=Lib.hid (Hc2.out.trans hc3);have B3:=Lib.hid b3
 clear hw3 hc3 t3 tf3 l2
 have t7:w3.cell? ⟨bT,7,none⟩=some (.int .u64 (r:Int)):=by rw [cell_blk b3];rfl
 clear b3
 go_wp2_with (go_at_call 160;refine(UP.out _).mono ?_;rintro e w4 ⟨rfl,hb4⟩;obtain⟨wx,hwx⟩:∃ wx,wx=w4.alloc (.cells #[.bool gp,.bool gt,.int .u64 (gl:Int),.int .u64 (gh:Int)] 256):=⟨_,rfl⟩)
 rw [<-hwx]
 have hbx:Below w3.heap.size w3 wx:=by rw [hwx];exact Gr.alloc hb4 _
 have hdx:wx.heap[w4.heap.size]?=some (.cells #[.bool gp,.bool gt,.int .u64 (gl:Int),.int .u64 (gh:Int)] 256 (0,0)):=by rw [hwx];exact heap_alloc_new _ _
 have hBx:wx.heap[bT]?=some (.cells #[.int .i64 0,.int .i64 (n:Int),.int .i64 (k:Int),.int .i64 6,.int .i64 (ow:Int),.int .u64 (a:Int),.int .u64 (x:Int),.int .u64 (r:Int)] 127 (0,0)):=(hbx.block bT (blk_lt B3.out)).trans B3.out
 have HCx:=Lib.hid (Hc3.out.trans (Chg.of_below hbx));have BX:=Lib.hid hBx
 have q0:wx.cell? ⟨w4.heap.size,0,none⟩=some (.bool gp):=by rw [cell_blk hdx];rfl
 have q1:wx.cell? ⟨w4.heap.size,1,none⟩=some (.bool gt):=by rw [cell_blk hdx];rfl
 have q2:wx.cell? ⟨w4.heap.size,2,none⟩=some (.int .u64 (gl:Int)):=by rw [cell_blk hdx];rfl
 have qo:wx.cell? ⟨bT,6,none⟩=some (.int .u64 (x:Int)):=by rw [cell_blk hBx];rfl
 clear t7 hwx hbx hdx hBx hb4
 rcases hno with rfl|⟨rfl,rfl⟩|⟨rfl,rfl,hne⟩
 ·go_quiet (fail)
  obtain⟨wd,hwd⟩:∃ wd,wd=wx.drewN nq:=⟨_,rfl⟩
  rw [<-hwd]
  have hBd:wd.heap[bT]?=some (.cells #[.int .i64 0,.int .i64 (n:Int),.int .i64 (k:Int),.int .i64 6,.int .i64 (ow:Int),.int .u64 (a:Int),.int .u64 (x:Int),.int .u64 (r:Int)] 127 (0,0)):=by rw [hwd];exact BX.out
  have HCd:=Lib.hid (show Chg (λb=>b=bT) w1 wd by rw [hwd];exact HCx.out.drewN nq);have BD:=Lib.hid hBd
  clear q0 q1 q2 qo hwd
  clear hBd
  go_wp2
  go_ret
  exact⟨rfl,H.out.acc Hc1.out Hm1.out HCd.out BD.out Ok.out⟩
 ·go_quiet (fail)
  obtain⟨wd,hwd⟩:∃ wd,wd=wx.drewN nq:=⟨_,rfl⟩
  rw [<-hwd]
  have hBd:wd.heap[bT]?=some (.cells #[.int .i64 0,.int .i64 (n:Int),.int .i64 (k:Int),.int .i64 6,.int .i64 (ow:Int),.int .u64 (a:Int),.int .u64 (x:Int),.int .u64 (r:Int)] 127 (0,0)):=by rw [hwd];exact BX.out
  have HCd:=Lib.hid (show Chg (λb=>b=bT) w1 wd by rw [hwd];exact HCx.out.drewN nq);have BD:=Lib.hid hBd
  clear q0 q1 q2 qo hwd
  clear hBd
  go_wp2
  go_ret
  exact⟨rfl,H.out.acc Hc1.out Hm1.out HCd.out BD.out Ok.out⟩
 ·have hnq:((gl:Int) ==(x:Int))=false:=beq_eq_false_iff_ne.2 (by omega)
  clear hne
  go_quiet (fail)
  obtain⟨wd,hwd⟩:∃ wd,wd=wx.drewN nq:=⟨_,rfl⟩
  rw [<-hwd]
  have hBd:wd.heap[bT]?=some (.cells #[.int .i64 0,.int .i64 (n:Int),.int .i64 (k:Int),.int .i64 6,.int .i64 (ow:Int),.int .u64 (a:Int),.int .u64 (x:Int),.int .u64 (r:Int)] 127 (0,0)):=by rw [hwd];exact BX.out
  have HCd:=Lib.hid (show Chg (λb=>b=bT) w1 wd by rw [hwd];exact HCx.out.drewN nq);have BD:=Lib.hid hBd
  clear q0 q1 q2 qo hwd
  clear hBd
  go_wp2
  go_ret
  exact⟨rfl,H.out.acc Hc1.out Hm1.out HCd.out BD.out Ok.out⟩
theorem fin_put_lt {d x:Nat} (hd:U64 d) (hx:x<1073741824):putN (d / 2*2) 2 30 x<18446744073709551616:=by
 have h:=hd.lt
 unfold putN
 simp
 omega
set_option maxHeartbeats 4000000 in
theorem tl_5 {w:World} {n k bT bW bm:Nat} {bw:Option Nat} {ow a x d y:Nat} {m:MemD} (h:FinAt (tlCells n k) 127 w bT bW bm bw ⟨5,ow,a,x,d,y⟩ m) (hn:n<=16) (hcnt:m.c.all+1<1000000000000) (hx:x<1073741824) :
  Calls Try.prog 153 #[.pointer (some ⟨bT,0,none⟩),.pointer (some ⟨bW,0,none⟩)] w λe w'=>e=.returned (.bool false)/\FinAt (tlCells n k) 127 w' bT bW bm bw ⟨6,ow,a,x,d,y⟩ (memSwap m ((2+ow:Nat):Int) d (putN (d / 2*2) 2 30 x)).1/\Chg (FinS bT bm bw) w w':=by
 have hb:=h.blk
 have lT:=blk_lt hb
 have lW:=h.wl
 have x0:=h.wld
 have n1:=h.n1;have n2:=h.n2;have n3:=h.n3
 have n3':bT≠bW:=λe=>n3 e.symm
 obtain⟨ok1,ok2,ok3,ok4,ok5⟩:=h.ok
 simp only at ok1 ok2 ok3 ok4 ok5
 obtain⟨pn,hpn⟩:∃ pn,pn=(putN (d / 2*2) 2 30 x):=⟨_,rfl⟩
 have hnew:pn<18446744073709551616:=by rw [hpn];exact fin_put_lt ok3 hx
 have FN:=λu=>descFinish_yes d x u ok3 hx
 rw [<-hpn] at FN ⊢
 have FN:=Lib.hid FN
 have SW:=λ(u:World) (hu:Chg noF w u)=>swap_any bm bw m ((2+ow:Nat):Int) d pn u (h.mem.chg hu (λh=>h) (λ_ _ h=>h)) hnew hcnt
 obtain⟨m',hm'⟩:∃ m',m'=(memSwap m ((2+ow:Nat):Int) d pn).1:=⟨_,rfl⟩
 obtain⟨sb,hsb⟩:∃ sb,sb=(memSwap m ((2+ow:Nat):Int) d pn).2:=⟨_,rfl⟩
 rw [<-hm',<-hsb] at SW
 rw [<-hm']
 have QD:=λu=>queue_desc n k ow (by omega) u
 obtain⟨ad,had⟩:∃ ad:Int,ad=((2+ow:Nat):Int):=⟨_,rfl⟩
 rw [<-had] at SW QD
 have QD:=Lib.hid QD
 have Ok:=Lib.hid (show(⟨6,ow,a,x,d,y⟩:FinD).ok from⟨ok1,ok2,ok3,ok4,ok5⟩)
 unfold queueV at QD
 have t0:w.cell? ⟨bT,0,none⟩=some (.int .i64 0):=by rw [cell_blk hb];rfl
 have t1:w.cell? ⟨bT,1,none⟩=some (.int .i64 (n:Int)):=by rw [cell_blk hb];rfl
 have t2:w.cell? ⟨bT,2,none⟩=some (.int .i64 (k:Int)):=by rw [cell_blk hb];rfl
 have t3:w.cell? ⟨bT,3,none⟩=some (.int .i64 5):=by rw [cell_blk hb];rfl
 have t4:w.cell? ⟨bT,4,none⟩=some (.int .i64 (ow:Int)):=by rw [cell_blk hb];rfl
 have t6:w.cell? ⟨bT,6,none⟩=some (.int .u64 (x:Int)):=by rw [cell_blk hb];rfl
 have t7:w.cell? ⟨bT,7,none⟩=some (.int .u64 (d:Int)):=by rw [cell_blk hb];rfl
 have tx:=x0
 have H:=Lib.hid h;have SW:=Lib.hid SW;have Hb:=Lib.hid hb
 clear h hcnt hb x0 ok1 ok2 ok3 ok4 ok5 hm' hsb had hpn hx hnew
 go_enter Try.func153,Try.ntmps153
 go_upto_region 22 with fail
 go_quiet ((go_at_call 161;first|exact quietS (FN.out _)|exact quietA (FN.out _)))
 obtain⟨wq,hwq⟩:∃ wq,wq=w.drewN nq:=⟨_,rfl⟩
 rw [<-hwq]
 have hcq:Chg noF w wq:=by rw [hwq];exact(Chg.refl _ _).drewN nq
 have s0:=box_keep hcq (λh=>h) t0;have s1:=box_keep hcq (λh=>h) t1;have s2:=box_keep hcq (λh=>h) t2;have s4:=box_keep hcq (λh=>h) t4;have s7:=box_keep hcq (λh=>h) t7;have sx:=box_keep hcq (λh=>h) tx
 clear t0 t1 t2 t3 t4 t6 t7 tx hwq
 have t0:=s0;have t1:=s1;have t2:=s2;have t4:=s4;have t7:=s7;have tx:=sx
 clear s0 s1 s2 s4 s7 sx
 go_upto_region 23 with fail
 go_region_held3 (λu=>u.cell? ⟨bW,0,none⟩=some (.pointer (some ⟨bm,0,none⟩))/\u.cell? ⟨bT,0,none⟩=some (.int .i64 0)/\u.cell? ⟨bT,1,none⟩=some (.int .i64 (n:Int))/\u.cell? ⟨bT,2,none⟩=some (.int .i64 (k:Int))/\u.cell? ⟨bT,4,none⟩=some (.int .i64 (ow:Int))/\u.cell? ⟨bT,7,none⟩=some (.int .u64 (d:Int)))
  (first|exact⟨tx,t0,t1,t2,t4,t7⟩|exact⟨txw5,t0w5,t1w5,t2w5,t4w5,t7w5⟩|exact⟨txw1,t0w1,t1w1,t2w1,t4w1,t7w1⟩)
  (first|(go_at_call 159;refine(QD.out _).mono ?_;rintro e w5 ⟨rfl,hb5⟩;have hc5:Chg noF wq w5:=((Chg.refl _ wq).drew).trans (Chg.of_below hb5);have txw5:=box_keep hc5 (λh=>h) tx;have t0w5:=box_keep hc5 (λh=>h) t0;have t1w5:=box_keep hc5 (λh=>h) t1;have t2w5:=box_keep hc5 (λh=>h) t2;have t4w5:=box_keep hc5 (λh=>h) t4;have t7w5:=box_keep hc5 (λh=>h) t7)|(go_at_call 162;refine(SW.out _ (hcq.trans hc5)).mono ?_;rintro e w1 ⟨rfl,hm1,hc1⟩;have hc1z:Chg (MemSet bm bw) wq w1:=(hc5.mono (λ_ _ h=>h.elim)).trans hc1;have txw1:=box_keep hc1z n2 tx;have t0w1:=box_keep hc1z n1 t0;have t1w1:=box_keep hc1z n1 t1;have t2w1:=box_keep hc1z n1 t2;have t4w1:=box_keep hc1z n1 t4;have t7w1:=box_keep hc1z n1 t7))
 have hc1w:Chg (MemSet bm bw) w w1:=(hcq.mono (λ_ _ h=>h.elim)).trans hc1z
 have b1:=(hc1w.block bT lT n1).trans Hb.out
 have HC:=Lib.hid hc1w;have HM:=Lib.hid hm1;have B1:=Lib.hid b1
 clear hcq hc1w hc1z hm1
 clear tx t0 t1 t2 t4 t7 txw5 t0w5 t1w5 t2w5 t4w5 t7w5 txw1 t0w1 t1w1 t2w1 t4w1 t7w1 hc1 hc5 hb5
 have t3:w1.cell? ⟨bT,3,none⟩=some (.int .i64 5):=by rw [cell_blk b1];rfl
 have tf3:w1.frozen? ⟨bT,3,none⟩=false:=frozen_blk b1 3
 have l1:=blk_lt b1
 clear b1
 go_wp2
 go_ret
 refine⟨rfl,H.out.acc HC.out HM.out ((Chg.refl (λb=>b=bT) w1).setCell (by exact .inl rfl) _) ?_ Ok.out⟩
 rw [blk_set B1.out _ _];rfl
set_option maxHeartbeats 4000000 in
theorem tl_6 {w:World} {n k bT bW bm:Nat} {bw:Option Nat} {ow a x d y:Nat} {m:MemD} (h:FinAt (tlCells n k) 127 w bT bW bm bw ⟨6,ow,a,x,d,y⟩ m) (hn:n<=16) (hcnt:m.c.all+1<1000000000000) :
  Calls Try.prog 153 #[.pointer (some ⟨bT,0,none⟩),.pointer (some ⟨bW,0,none⟩)] w λe w'=>e=.returned (.bool true)/\FinAt (tlCells n k) 127 w' bT bW bm bw ⟨6,ow,a,x,d,y⟩ (memSwap m 1 a x).1/\Chg (FinS bT bm bw) w w':=by
 have hb:=h.blk
 have lT:=blk_lt hb
 have lW:=h.wl
 have x0:=h.wld
 have n1:=h.n1;have n2:=h.n2;have n3:=h.n3
 have n3':bT≠bW:=λe=>n3 e.symm
 obtain⟨ok1,ok2,ok3,ok4,ok5⟩:=h.ok
 simp only at ok1 ok2 ok3 ok4 ok5
 have hnew:x<18446744073709551616:=ok2.lt
 have SW:=λ(u:World) (hu:Chg noF w u)=>swap_any bm bw m 1 a x u (h.mem.chg hu (λh=>h) (λ_ _ h=>h)) hnew hcnt
 obtain⟨m',hm'⟩:∃ m',m'=(memSwap m 1 a x).1:=⟨_,rfl⟩
 obtain⟨sb,hsb⟩:∃ sb,sb=(memSwap m 1 a x).2:=⟨_,rfl⟩
 rw [<-hm',<-hsb] at SW
 rw [<-hm']
 have QD:=Lib.hid (λu=>queue_tail n k u)
 have Ok:=Lib.hid (show(⟨6,ow,a,x,d,y⟩:FinD).ok from⟨ok1,ok2,ok3,ok4,ok5⟩)
 unfold queueV at QD
 have t0:w.cell? ⟨bT,0,none⟩=some (.int .i64 0):=by rw [cell_blk hb];rfl
 have t1:w.cell? ⟨bT,1,none⟩=some (.int .i64 (n:Int)):=by rw [cell_blk hb];rfl
 have t2:w.cell? ⟨bT,2,none⟩=some (.int .i64 (k:Int)):=by rw [cell_blk hb];rfl
 have t5:w.cell? ⟨bT,5,none⟩=some (.int .u64 (a:Int)):=by rw [cell_blk hb];rfl
 have t6:w.cell? ⟨bT,6,none⟩=some (.int .u64 (x:Int)):=by rw [cell_blk hb];rfl
 have t3:w.cell? ⟨bT,3,none⟩=some (.int .i64 6):=by rw [cell_blk hb];rfl
 have tx:=x0
 have H:=Lib.hid h;have SW:=Lib.hid SW;have Hb:=Lib.hid hb
 clear h hcnt x0 ok1 ok2 ok3 ok4 ok5 hm' hsb hnew
 clear hb
 go_enter Try.func153,Try.ntmps153
 go_upto_region 26 with fail
 go_region_held3 (λu=>u.cell? ⟨bW,0,none⟩=some (.pointer (some ⟨bm,0,none⟩))/\u.cell? ⟨bT,0,none⟩=some (.int .i64 0)/\u.cell? ⟨bT,1,none⟩=some (.int .i64 (n:Int))/\u.cell? ⟨bT,2,none⟩=some (.int .i64 (k:Int))/\u.cell? ⟨bT,5,none⟩=some (.int .u64 (a:Int))/\u.cell? ⟨bT,6,none⟩=some (.int .u64 (x:Int)))
  (first|exact⟨tx,t0,t1,t2,t5,t6⟩|exact⟨txw5,t0w5,t1w5,t2w5,t5w5,t6w5⟩|exact⟨txw1,t0w1,t1w1,t2w1,t5w1,t6w1⟩)
  (first|(go_at_call 154;refine(QD.out _).mono ?_;rintro e w5 ⟨rfl,hb5⟩;have hc5:Chg noF w w5:=((Chg.refl _ w).drew).trans (Chg.of_below hb5);have txw5:=box_keep hc5 (λh=>h) tx;have t0w5:=box_keep hc5 (λh=>h) t0;have t1w5:=box_keep hc5 (λh=>h) t1;have t2w5:=box_keep hc5 (λh=>h) t2;have t5w5:=box_keep hc5 (λh=>h) t5;have t6w5:=box_keep hc5 (λh=>h) t6)|(go_at_call 162;refine(SW.out _ hc5).mono ?_;rintro e w1 ⟨rfl,hm1,hc1⟩;have hc1z:Chg (MemSet bm bw) w w1:=(hc5.mono (λ_ _ h=>h.elim)).trans hc1;have txw1:=box_keep hc1z n2 tx;have t0w1:=box_keep hc1z n1 t0;have t1w1:=box_keep hc1z n1 t1;have t2w1:=box_keep hc1z n1 t2;have t5w1:=box_keep hc1z n1 t5;have t6w1:=box_keep hc1z n1 t6))
 have b1:=(hc1z.block bT lT n1).trans Hb.out
 have HC:=Lib.hid hc1z;have HM:=Lib.hid hm1;have B1:=Lib.hid b1
 clear hc1z hm1 b1 t3
 clear tx t0 t1 t2 t5 t6 txw5 t0w5 t1w5 t2w5 t5w5 t6w5 txw1 t0w1 t1w1 t2w1 t5w1 t6w1 hc1 hc5 hb5
 go_wp2
 go_ret
 exact⟨rfl,H.out.acc HC.out HM.out (Chg.refl _ _) B1.out Ok.out⟩
end Go.Proofs.Ytlanekkbciffcaa
