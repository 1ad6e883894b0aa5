/- Layer 6: how a call begins: (*Player).start. -/
import Derived.Test.YtifhldnmcdbpfaaW09
set_option maxRecDepth 100000
set_option linter.unusedVariables false
set_option linter.unusedSimpArgs false
set_option linter.unnecessarySimpa false
namespace Go.Proofs.Ytifhldnmcdbpfaa
open List renaming getElem_toArray → zq1, getElem_cons_zero → zq2, getElem_cons_succ → zq3, setIfInBounds_toArray → zq4, set_cons_zero → zq5, set_cons_succ → zq6
open Go.RowKit
variable {S:Sys} {R:Real S}
theorem BN {w:World} {ca:Option Addr} {calls:List aF} (hs:bS w ca calls.length 6 (gJ calls)) {i:Nat} (hi:i<calls.length) {w':World} (hb:Below w.heap.size w w') :
  ∃ b off,ca=some ⟨b,off,none⟩/\w'.cell? ⟨b,off+i*6,none⟩=some (.int .i64 (calls.getD i d0).thread)/\w'.cell? ⟨b,off+i*6+1,none⟩=some (.int .i64 (calls.getD i d0).obj)/\w'.cell? ⟨b,off+i*6+2,none⟩=some (.int .i64 (calls.getD i d0).kind)/\
   w'.cell? ⟨b,off+i*6+3,none⟩=some (.int .u64 ((calls.getD i d0).a:Int))/\w'.cell? ⟨b,off+i*6+4,none⟩=some (.int .u64 ((calls.getD i d0).b:Int))/\w'.cell? ⟨b,off+i*6+5,none⟩=some (.int .u64 ((calls.getD i d0).c:Int)):=by
 obtain⟨b,off,ha,h⟩:=sM hs hb hi
 have e:calls.getD i d0=calls[i]:=by simp [List.getD_eq_getElem?_getD,hi]
 rw [e]
 exact⟨b,off,ha,h⟩
def BI (R:Real S) (calls:List aF) (w w':World) (J:iZ) (ov cv:Value) (B0:Nat) (wd:WD) (o:S.ω) (fin:List Bool) (hands:List (Option (Mh S.σ)×Nat)) (evs:List EvD) (idle p i N:Nat):Prop:=
 Chg (λb=>B0<=b) w w'/\∃ G',G'.N=N/\aK R calls w' J ov cv B0 G' (wd.begin p) o fin (hands.set p (some (Mh.of (dI S o (wd.begin p) p (calls.getD i d0))),evs.length)) (evs++[dC i (wd.begin p)]) idle
theorem zK:(Try.prog.info? 44).map (λi=>(i.zero,i.size,i.bytes))=some (some (.agg #[.int .i64 0,.int .i64 0,.int .i64 0,.int .i64 0,.int .i64 0,.int .u64 0,.slice none 0 0,.slice none 0 0]),8,96):=by kernel_rfl
set_option maxHeartbeats 4000000 in
theorem DU (ok:dP R) (calls:List aF) (w:World) (J:iZ) (ov cv:Value) (B0:Nat) (G:PG) (wd:WD) (o:S.ω) (fin:List Bool) (hands:List (Option (Mh S.σ)×Nat)) (evs:List EvD) (idle p i:Nat)
  (h:aK R calls w J ov cv B0 G wd o fin hands evs idle) (hp:p<16) (hthr:R.thr p) (hi:i<calls.length) (hno:(hands.getD p (none,0)).1=none) (hev:evs.length<wd.now) :
  Calls Try.prog 80 #[.pointer (some ⟨J.bP,0,none⟩),.int .i64 (p:Int),.int .i64 (i:Int)] w λe w'=>e=.returned (.tuple #[])/\BI R calls w w' J ov cv B0 wd o fin hands evs idle p i G.N:=by
 obtain⟨ca,cc,hcv,hcs,hcm⟩:=h.imm.cs
 obtain⟨b,off,rfl,d0,d1,d2,d3,d4,d5⟩:=BN hcs hi (Gr.refl w)
 have hci:=List.getElem_mem hi
 obtain⟨c,hc⟩:∃ c,c=calls.getD i Proofs.Ytifhldnmcdbpfaa.d0:=⟨_,rfl⟩
 have hce:calls[i]=c:=by rw [hc];simp [List.getD_eq_getElem?_getD,hi]
 have hcok:=(h.imm.ok _ hci).1
 rw [hce] at hcok
 rw [<-hc] at d0 d1 d2 d3 d4 d5
 have Hc:=Lib.hid hc
 clear hc hce hci
 have p0:w.cell? ⟨J.bP,0,none⟩=some (.pointer (some ⟨J.W.bW,0,none⟩)):=by rw [aA h.blk];exact dA
 have p2:w.cell? ⟨J.bP,2,none⟩=some (.slice (some ⟨b,off,none⟩) calls.length cc):=by rw [aA h.blk,<-hcv];exact wD
 have hpi:(p:Int)<16:=by omega
 have hii:(i:Int)<calls.length:=by omega
 have hlen:=h.imm.clen
 obtain⟨mks,hwb,hmk,hmks⟩:=h.world.blk
 have CX:=h.world.inv16
 have hPW:J.bP≠J.W.bW:=λe=>(h.pmut J.bP (.inl rfl)).2.1 (by rw [e];exact .inl rfl)
 have hbPl:=aC h.blk
 have hbWl:=aC hwb
 obtain⟨bx,hbx⟩:∃ bx,bx=w.heap.size:=⟨_,rfl⟩
 obtain⟨w1,hw1⟩:∃ w1,w1=w.alloc (.cells #[.int .i64 c.thread,.int .i64 c.obj,.int .i64 c.kind,.int .u64 (c.a:Int),.int .u64 (c.b:Int),.int .u64 (c.c:Int)] 46):=⟨_,rfl⟩
 have hg1:Below w.heap.size w w1:=by rw [hw1];exact Gr.new _ _
 have hx1:w1.heap[bx]?=some (.cells #[.int .i64 c.thread,.int .i64 c.obj,.int .i64 c.kind,.int .u64 (c.a:Int),.int .u64 (c.b:Int),.int .u64 (c.c:Int)] 46 (0,0)):=by rw [hw1,hbx];exact heap_alloc_new _ _
 have hP1:=(hg1.block _ hbPl).trans h.blk
 have hW1:=(hg1.block _ hbWl).trans hwb
 have a0:w1.cell? ⟨J.bP,0,none⟩=some (.pointer (some ⟨J.W.bW,0,none⟩)):=by rw [aA hP1];exact dA
 have a1:w1.cell? ⟨J.W.bW,1,none⟩=some (.int .i64 (wd.now:Int)):=by rw [aA hW1];exact eO
 have a2:w1.cell? ⟨J.W.bW,2+p,none⟩=some (.int .i64 ((wd.inv.getD p 0:Nat):Int)):=by rw [aA hW1];exact uT CX hp
 have a3:w1.frozen? ⟨J.W.bW,2+p,none⟩=false:=aB hW1 _
 have a4:w1.cell? ⟨J.W.bW,18+p,none⟩=some (mks.getD p undef):=by rw [aA hW1];exact kD CX hmk hp
 have a5:w1.frozen? ⟨J.W.bW,18+p,none⟩=false:=aB hW1 _
 obtain⟨ea,ec,hevf⟩:=iM h.eva.row
 have a6:w1.cell? ⟨J.bP,37,none⟩=some (.slice ea evs.length ec):=by rw [aA hP1,<-hevf];exact iE h.h1
 have a7:w1.cell? ⟨J.bP,5+p*2+1,none⟩=some (fG (G.hs.getD p (undef,0)).2):=by rw [aA hP1];exact(bI h.h1 hp).2
 have a8:w1.frozen? ⟨J.bP,5+p*2+1,none⟩=false:=aB hP1 _
 have hWP:=Ne.symm hPW
 have Hw1:=Lib.hid hw1;have Hbx:=Lib.hid hbx;have Hx1:=Lib.hid hx1;have Hg1:=Lib.hid hg1
 have Hh:=Lib.hid h;have Hmks:=Lib.hid hmks;have Hno:=Lib.hid hno;have Hcv:=Lib.hid hcv;have Hevf:=Lib.hid hevf;have HP1:=Lib.hid hP1;have HW1:=Lib.hid hW1
 clear hw1 hbx hx1 hg1 h hmks hno hcv hevf hP1 hW1 hcs hcm hwb
 go_enter Try.func80,Try.ntmps80
 go_wp2_with fail
 rw [<-Hw1.out,<-Hbx.out]
 go_still_tail 15,(by kernel_rfl)
 change wpList _ _ _ _ _ w1.drew
 go_wp2
 obtain⟨w4,hw4⟩:∃ w4,w4=(((w1.setCell ⟨J.W.bW,2+p,none⟩ (.int .i64 (wd.now:Int))).setCell ⟨J.W.bW,18+p,none⟩ (.slice none 0 0)).setCell ⟨J.bP,5+p*2+1,none⟩ (.int .i64 (evs.length:Int))).drew:=⟨_,rfl⟩
 have hW4:w4.heap[J.W.bW]?=some (.cells (bF J.W.bm wd.now (wd.inv.set p wd.now) (mks.set p (.slice none 0 0)) J.W.bt) 121 (0,0)):=by
  rw [hw4]
  show(World.setCell _ _ _).heap[J.W.bW]?=_
  rw [aX hWP,aH (aH HW1.out _ _),uA CX hp,sD (by simpa using CX) hmk hp]
 have hP4:w4.heap[J.bP]?=some (.cells (aN J.W.bW J.bl ov cv G.turn (G.hs.set p ((G.hs.getD p (undef,0)).1,evs.length)) G.ev idle) 128 (0,0)):=by
  rw [hw4]
  show(World.setCell _ _ _).heap[J.bP]?=_
  rw [aH (by rw [aX hPW,aX hPW];exact HP1.out),uD Hh.out.h1 hp]
 have hc4:Chg (λk=>k=J.W.bW∨k=J.bP) w1 w4:=by
  rw [hw4]
  exact((((Chg.refl (λk=>k=J.W.bW∨k=J.bP) w1).setCell (p:=⟨J.W.bW,2+p,none⟩) (.inl (.inl rfl)) _).setCell (p:=⟨J.W.bW,18+p,none⟩) (.inl (.inl rfl)) _).setCell (p:=⟨J.bP,5+p*2+1,none⟩) (.inl (.inr rfl)) _).drew
 rw [<-hw4]
 have Hc4:=Lib.hid hc4;have HP4:=Lib.hid hP4;have HW4:=Lib.hid hW4
 have q0:w4.cell? ⟨J.bP,0,none⟩=some (.pointer (some ⟨J.W.bW,0,none⟩)):=by rw [aA hP4];exact dA
 have q37:w4.cell? ⟨J.bP,37,none⟩=some (.slice ea evs.length ec):=by rw [aA hP4,<-Hevf.out];exact iE (by simpa using Hh.out.h1)
 have qn:w4.cell? ⟨J.W.bW,1,none⟩=some (.int .i64 (wd.now:Int)):=by rw [aA hW4];exact eO
 clear hw4 hW4 hP4 hc4 a0 a1 a2 a3 a4 a5 a6 a7 a8 p0 p2 d0 d1 d2 d3 d4 d5
 obtain⟨i0,hi0,hz0,hz1,hz2⟩:=info_parts zK
 have SS:evs.length<70000:=by have:=Hh.out.nowb;omega
 have NB:((w4.drew).alloc (.cells #[.int .i64 (i:Int),.int .i64 (wd.now:Int),.int .i64 0,.int .i64 0,.int .i64 0,.int .u64 0,.slice none 0 0,.slice none 0 0] 44)).ownsRow B0 44 8 (.slice ea evs.length ec) evs.length (gP evs G.ers):=by
  have h9:=Hh.out.eva.row
  rw [Hevf.out] at h9
  have h10:∀ q,(Value.slice ea evs.length ec).ownBlock=some q->q≠J.W.bW/\q≠J.bP:=λq hq=>by
   have h11:=Hh.out.pmut q (.inr (.inr (.inr (by rw [Hevf.out];exact hq))))
   refine⟨λe=>h11.2.1 (by rw [e];exact .inl rfl),λe=>?_⟩
   have:=Hh.out.psep.2.2.1
   rw [Hevf.out] at this
   exact this (by rw [<-e];exact hq)
  exact((iA (oN h9 Hg1.out) Hc4.out (λq hq hk=>by rcases hk with e|e;exact(h10 q hq).1 e;exact(h10 q hq).2 e)).drew).alloc _
 have hB0:B0<=w4.heap.size:=Nat.le_trans Hh.out.base.1 (Nat.le_trans Hg1.out.size Hc4.out.size)
 have Hown4:=Lib.hid NB
 clear NB
 refine kU (λx=>x.cell? ⟨J.bP,0,none⟩=some (.pointer (some ⟨J.W.bW,0,none⟩))/\x.cell? ⟨J.bP,37,none⟩=some (.slice ea evs.length ec)/\x.cell? ⟨J.W.bW,1,none⟩=some (.int .i64 (wd.now:Int))) 20 (by kernel_rfl) ⟨q0,q37,qn⟩ ?_
 intro hS hcl
 refine aS (i:=0) (v:=(.pointer (some ⟨J.bP,0,none⟩))) 21 rfl (by kernel_rfl) (by kernel_rfl) (by kernel_rfl) (by kernel_rfl) (by kernel_rfl) hcl (λ_ _ _ h=>h) (Or.inl ⟨by rfl,?_⟩) hS ?_
 ·intro x hx;obtain⟨hx1,hx2,hx3⟩:=hx;go_simp
 clear hcl;intro hcl
 simp only [Act.put,zq4,zq5,zq6]
 refine aS (i:=1) (v:=(.pointer (some ⟨J.bP,0,none⟩))) 21 rfl (by kernel_rfl) (by kernel_rfl) (by kernel_rfl) (by kernel_rfl) (by kernel_rfl) hcl (λ_ _ _ h=>h) (Or.inl ⟨by rfl,?_⟩) hS ?_
 ·intro x hx;obtain⟨hx1,hx2,hx3⟩:=hx;go_simp
 clear hcl;intro hcl
 simp only [Act.put,zq4,zq5,zq6]
 refine aS (i:=2) (v:=(.pointer (some ⟨J.bP,0,none⟩))) 21 rfl (by kernel_rfl) (by kernel_rfl) (by kernel_rfl) (by kernel_rfl) (by kernel_rfl) hcl (λ_ _ _ h=>h) (Or.inl ⟨by rfl,?_⟩) hS ?_
 ·intro x hx;obtain⟨hx1,hx2,hx3⟩:=hx;go_simp
 clear hcl;intro hcl
 simp only [Act.put,zq4,zq5,zq6]
 refine aS (i:=3) (v:=(.pointer (some ⟨J.bP,37,none⟩))) 21 rfl (by kernel_rfl) (by kernel_rfl) (by kernel_rfl) (by kernel_rfl) (by kernel_rfl) hcl (λ_ _ _ h=>h) (Or.inl ⟨by rfl,?_⟩) hS ?_
 ·intro x hx;obtain⟨hx1,hx2,hx3⟩:=hx;go_simp
 clear hcl;intro hcl
 simp only [Act.put,zq4,zq5,zq6]
 refine aS (i:=4) (v:=(.pointer (some ⟨J.bP,37,none⟩))) 21 rfl (by kernel_rfl) (by kernel_rfl) (by kernel_rfl) (by kernel_rfl) (by kernel_rfl) hcl (λ_ _ _ h=>h) (Or.inl ⟨by rfl,?_⟩) hS ?_
 ·intro x hx;obtain⟨hx1,hx2,hx3⟩:=hx;go_simp
 clear hcl;intro hcl
 simp only [Act.put,zq4,zq5,zq6]
 refine aS (i:=5) (v:=(.slice ea evs.length ec)) 21 rfl (by kernel_rfl) (by kernel_rfl) (by kernel_rfl) (by kernel_rfl) (by kernel_rfl) hcl (λ_ _ _ h=>h) (Or.inl ⟨by rfl,?_⟩) hS ?_
 ·intro x hx;obtain⟨hx1,hx2,hx3⟩:=hx;go_simp
 clear hcl;intro hcl
 simp only [Act.put,zq4,zq5,zq6]
 refine aS (i:=6) (v:=(.int .i64 (i:Int))) 21 rfl (by kernel_rfl) (by kernel_rfl) (by kernel_rfl) (by kernel_rfl) (by kernel_rfl) hcl (λ_ _ _ h=>h) (Or.inl ⟨by rfl,?_⟩) hS ?_
 ·intro x hx;obtain⟨hx1,hx2,hx3⟩:=hx;go_simp
 clear hcl;intro hcl
 simp only [Act.put,zq4,zq5,zq6]
 refine aS (i:=7) (v:=(.pointer (some ⟨J.bP,0,none⟩))) 21 rfl (by kernel_rfl) (by kernel_rfl) (by kernel_rfl) (by kernel_rfl) (by kernel_rfl) hcl (λ_ _ _ h=>h) (Or.inl ⟨by rfl,?_⟩) hS ?_
 ·intro x hx;obtain⟨hx1,hx2,hx3⟩:=hx;go_simp
 clear hcl;intro hcl
 simp only [Act.put,zq4,zq5,zq6]
 refine aS (i:=8) (v:=(.pointer (some ⟨J.bP,0,none⟩))) 21 rfl (by kernel_rfl) (by kernel_rfl) (by kernel_rfl) (by kernel_rfl) (by kernel_rfl) hcl (λ_ _ _ h=>h) (Or.inl ⟨by rfl,?_⟩) hS ?_
 ·intro x hx;obtain⟨hx1,hx2,hx3⟩:=hx;go_simp
 clear hcl;intro hcl
 simp only [Act.put,zq4,zq5,zq6]
 refine aS (i:=9) (v:=(.pointer (some ⟨J.bP,0,none⟩))) 21 rfl (by kernel_rfl) (by kernel_rfl) (by kernel_rfl) (by kernel_rfl) (by kernel_rfl) hcl (λ_ _ _ h=>h) (Or.inl ⟨by rfl,?_⟩) hS ?_
 ·intro x hx;obtain⟨hx1,hx2,hx3⟩:=hx;go_simp
 clear hcl;intro hcl
 simp only [Act.put,zq4,zq5,zq6]
 refine aS (i:=10) (v:=(.pointer (some ⟨J.W.bW,0,none⟩))) 21 rfl (by kernel_rfl) (by kernel_rfl) (by kernel_rfl) (by kernel_rfl) (by kernel_rfl) hcl (λ_ _ _ h=>h) (Or.inl ⟨by rfl,?_⟩) hS ?_
 ·intro x hx;obtain⟨hx1,hx2,hx3⟩:=hx;go_simp
 clear hcl;intro hcl
 simp only [Act.put,zq4,zq5,zq6]
 refine aS (i:=11) (v:=(.pointer (some ⟨J.W.bW,0,none⟩))) 21 rfl (by kernel_rfl) (by kernel_rfl) (by kernel_rfl) (by kernel_rfl) (by kernel_rfl) hcl (λ_ _ _ h=>h) (Or.inl ⟨by rfl,?_⟩) hS ?_
 ·intro x hx;obtain⟨hx1,hx2,hx3⟩:=hx;go_simp
 clear hcl;intro hcl
 simp only [Act.put,zq4,zq5,zq6]
 refine aS (i:=12) (v:=(.pointer (some ⟨J.W.bW,1,none⟩))) 21 rfl (by kernel_rfl) (by kernel_rfl) (by kernel_rfl) (by kernel_rfl) (by kernel_rfl) hcl (λ_ _ _ h=>h) (Or.inl ⟨by rfl,?_⟩) hS ?_
 ·intro x hx;obtain⟨hx1,hx2,hx3⟩:=hx;go_simp
 clear hcl;intro hcl
 simp only [Act.put,zq4,zq5,zq6]
 refine aS (i:=13) (v:=(.int .i64 (wd.now:Int))) 21 rfl (by kernel_rfl) (by kernel_rfl) (by kernel_rfl) (by kernel_rfl) (by kernel_rfl) hcl (λ_ _ _ h=>h) (Or.inl ⟨by rfl,?_⟩) hS ?_
 ·intro x hx;obtain⟨hx1,hx2,hx3⟩:=hx;go_simp
 clear hcl;intro hcl
 simp only [Act.put,zq4,zq5,zq6]
 refine aS (i:=14) (v:=(.agg #[.int .i64 (i:Int),.int .i64 (wd.now:Int),.int .i64 0,.int .i64 0,.int .i64 0,.int .u64 0,.slice none 0 0,.slice none 0 0])) 21 rfl (by kernel_rfl) (by kernel_rfl) (by kernel_rfl) (by kernel_rfl) (by kernel_rfl) hcl (λ_ _ _ h=>h) (Or.inl ⟨by rfl,?_⟩) hS ?_
 ·intro x hx;obtain⟨hx1,hx2,hx3⟩:=hx;go_simp
 clear hcl;intro hcl
 simp only [Act.put,zq4,zq5,zq6]
 have l4P:J.bP<w4.heap.size:=aC HP4.out
 have l4W:J.W.bW<w4.heap.size:=aC HW4.out
 have hg5:Below w4.heap.size w4 (w4.alloc (.cells #[.int .i64 (i:Int),.int .i64 (wd.now:Int),.int .i64 0,.int .i64 0,.int .i64 0,.int .u64 0,.slice none 0 0,.slice none 0 0] 44)).drew:=(Gr.new w4 _).drew
 refine bZ (i:=15) (by kernel_rfl) rfl hcl (λK' hK=>?_)
 have HK:=Lib.hid hK;clear hK
 go_simp
 refine HK.out _ _ (λ_=>⟨(hg5.cell l4P).trans q0,(hg5.cell l4P).trans q37,(hg5.cell l4W).trans qn⟩) (λhcl=>?_)
 clear HK
 refine bZ (i:=16) (by kernel_rfl) rfl hcl (λK' hK=>?_)
 have HK:=Lib.hid hK;clear hK
 refine step_append_lies _ rfl (.tmp 57) (.tmp 67) 27 rfl B0 44 i0 (.agg #[.int .i64 0,.int .i64 0,.int .i64 0,.int .i64 0,.int .i64 0,.int .u64 0,.slice none 0 0,.slice none 0 0]) 8 96 Try.underlying27 hi0 hz0 hz1 hz2 rfl (by decide) (.slice ea evs.length ec) _ _ rfl Hown4.out
   ⟨w4.heap.size,0,none⟩ 1 1 [.int .i64 (i:Int),.int .i64 (wd.now:Int),.int .i64 0,.int .i64 0,.int .i64 0,.int .u64 0,.slice none 0 0,.slice none 0 0] rfl rfl (World.news_of_block (cs:=#[.int .i64 (i:Int),.int .i64 (wd.now:Int),.int .i64 0,.int .i64 0,.int .i64 0,.int .u64 0,.slice none 0 0,.slice none 0 0]) (t:=44) (fr:=(0,0)) (heap_alloc_new w4 _)) (by simp [Value.oneCell'])
   (by omega) (by unfold maxLen;omega) (by omega) (by simp;omega) (w4.heap.size+1) (by simp) ?_
 intro gg cap w5 hown5 hgrow hat QE
 have hrP:(Value.slice ea evs.length ec).ownBlock≠some J.bP:=by have:=Hh.out.psep.2.2.1;rw [Hevf.out] at this;exact this
 have hrW:(Value.slice ea evs.length ec).ownBlock≠some J.W.bW:=λe=>(Hh.out.pmut J.W.bW (.inr (.inr (.inr (by rw [Hevf.out];exact e))))).2.1 (.inl rfl)
 have hszA:(w4.alloc (.cells #[.int .i64 (i:Int),.int .i64 (wd.now:Int),.int .i64 0,.int .i64 0,.int .i64 0,.int .u64 0,.slice none 0 0,.slice none 0 0] 44)).drew.heap.size=w4.heap.size+1:=by simp
 have hP5:w5.heap[J.bP]?=some (.cells (aN J.W.bW J.bl ov cv G.turn (G.hs.set p ((G.hs.getD p (undef,0)).1,evs.length)) G.ev idle) 128 (0,0)):=by
  rw [hgrow.block _ (by omega) (Ne.symm hrP),hg5.block _ l4P];exact HP4.out
 have hW5:w5.heap[J.W.bW]?=some (.cells (bF J.W.bm wd.now (wd.inv.set p wd.now) (mks.set p (.slice none 0 0)) J.W.bt) 121 (0,0)):=by
  rw [hgrow.block _ (by omega) (Ne.symm hrW),hg5.block _ l4W];exact HW4.out
 have TD:(G.hs.set p ((G.hs.getD p (undef,0)).1,evs.length)).length=16:=by simpa using Hh.out.h1
 have s0:w5.cell? ⟨J.bP,0,none⟩=some (.pointer (some ⟨J.W.bW,0,none⟩)):=by rw [aA hP5];exact dA
 have s37:w5.cell? ⟨J.bP,37,none⟩=some (.slice ea evs.length ec):=by rw [aA hP5,<-Hevf.out];exact iE TD
 have sn:w5.cell? ⟨J.W.bW,1,none⟩=some (.int .i64 (wd.now:Int)):=by rw [aA hW5];exact eO
 have sf:w5.frozen? ⟨J.bP,37,none⟩=false:=aB hP5 _
 have HP5:=Lib.hid hP5;have HW5:=Lib.hid hW5;have Hown5:=Lib.hid hown5;have Hgrow:=Lib.hid hgrow;have Hat:=Lib.hid hat;have Hlt5:=Lib.hid QE;have HszA:=Lib.hid hszA;have Hg5:=Lib.hid hg5;have HrP:=Lib.hid hrP;have HrW:=Lib.hid hrW;have Hz:=Lib.hid TD
 clear hP5 hW5 hown5 hgrow hat QE hszA hg5 hrP hrW TD q0 q37 qn hS
 refine HK.out _ _ (λ_=>⟨s0,s37,sn⟩) (λhcl=>?_)
 clear HK
 refine bZ (i:=17) (by kernel_rfl) rfl hcl (λK' hK=>?_)
 have HK:=Lib.hid hK;clear hK
 go_simp
 refine HK.out _ _ (λ_=>⟨s0,s37,sn⟩) (λhcl=>?_)
 clear HK
 refine bZ (i:=18) (by kernel_rfl) rfl hcl (λK' hK=>?_)
 have HK:=Lib.hid hK;clear hK
 go_simp
 refine HK.out _ _ (λ_=>⟨s0,s37,sn⟩) (λhcl=>?_)
 clear HK
 refine bZ (i:=19) (by kernel_rfl) rfl hcl (λK' hK=>?_)
 have HK:=Lib.hid hK;clear hK
 go_simp
 refine HK.out _ _ (λ_=>⟨s0,s37,sn⟩) (λhcl=>?_)
 clear HK
 refine bZ (i:=20) (by kernel_rfl) rfl hcl (λK' hK=>?_)
 have HK:=Lib.hid hK;clear hK
 go_simp
 refine HK.out _ _ (λh=>by cases h.symm.trans (by kernel_rfl:_=true)) (λ_=>lH (by kernel_rfl) ?_ _)
 clear HK
 obtain⟨w6,iR⟩:∃ w6,w6=w5.setCell ⟨J.bP,37,none⟩ (.slice (some ⟨gg,0,none⟩) (evs.length+1) cap):=⟨_,rfl⟩
 rw [<-iR]
 have hnil:(G.hs.getD p (undef,0)).1=.nilIface:=by
  have h9:=(Hh.out.hand p hp).2
  rw [Hno.out] at h9;exact h9
 have hgold:G.ev.ownBlock=some gg∨w.heap.size<=gg:=by
  rw [Hevf.out]
  rcases Hat.out with h9|h9
  ·exact .inl h9
  ·exact .inr (by rw [h9];exact Nat.le_trans Hg1.out.size (Nat.le_trans Hc4.out.size (Nat.le_succ _)))
 have hggP:gg≠J.bP:=by
  rintro rfl
  rcases hgold with h9|h9
  ·exact Hh.out.psep.2.2.1 h9
  ·omega
 have hP6:w6.heap[J.bP]?=some (.cells (aN J.W.bW J.bl ov cv G.turn (G.hs.set p (.nilIface,evs.length)) (.slice (some ⟨gg,0,none⟩) (evs.length+1) cap) idle) 128 (0,0)):=by
  rw [iR,aH HP5.out,uB Hz.out,hnil]
 have hW6:w6.heap[J.W.bW]?=some (.cells (bF J.W.bm wd.now (wd.inv.set p wd.now) (mks.set p (.slice none 0 0)) J.W.bt) 121 (0,0)):=by
  rw [iR,aX hWP];exact HW5.out
 have MX:Chg (λk=>k=J.W.bW∨k=J.bP∨G.ev.ownBlock=some k) w4 w5:=
  ((Chg.refl _ w4).alloc (.cells #[.int .i64 (i:Int),.int .i64 (wd.now:Int),.int .i64 0,.int .i64 0,.int .i64 0,.int .u64 0,.slice none 0 0,.slice none 0 0] 44)).drew.grown Hgrow.out (λk hk=>.inl (.inr (.inr (by rw [Hevf.out];exact hk))))
 have jA:Chg (λk=>k=J.W.bW∨k=J.bP∨G.ev.ownBlock=some k) w w6:=by
  rw [iR]
  exact(((Chg.of_below Hg1.out).trans (Hc4.out.mono (λk _ hk=>by rcases hk with e|e;exact .inl e;exact .inr (.inl e)))).trans MX).setCell (p:=⟨J.bP,37,none⟩) (.inl (.inr (.inl rfl))) _
 have mF:w6.ownsRow B0 44 8 (.slice (some ⟨gg,0,none⟩) (evs.length+1) cap) (evs.length+1) (gP evs G.ers++dM (dC i (wd.begin p)) (.slice none 0 0,.slice none 0 0)):=by
  rw [iR]
  exact iA (S:=λk=>k=J.bP) Hown5.out ((Chg.refl (λk=>k=J.bP) w5).setCell (p:=⟨J.bP,37,none⟩) (.inl rfl) _) (λk hk e=>hggP ((show gg=k by simpa [Value.ownBlock] using hk).trans e))
 have h6:=aK.begun ok (i:=i) Hh.out hp hev hmk Hmks.out hP6 hW6 mF jA hgold
 have hx6:w6.heap[bx]?=some (.cells #[.int .i64 c.thread,.int .i64 c.obj,.int .i64 c.kind,.int .u64 (c.a:Int),.int .u64 (c.b:Int),.int .u64 (c.c:Int)] 46 (0,0)):=by
  have hb1:bx<w1.heap.size:=aC Hx1.out
  have hne:¬ (bx=J.W.bW∨bx=J.bP):=by have:=Hbx.out;omega
  have e4:=(Hc4.out.block bx hb1 hne).trans Hx1.out
  have hl4:=aC e4
  have hro:some bx≠(Value.slice ea evs.length ec).ownBlock:=λe=>by
   have h9:=Hh.out.world.low bx (Hh.out.pmut bx (.inr (.inr (.inr (by rw [Hevf.out];exact e.symm))))).1
   have:=Hbx.out;omega
  rw [iR,aX (by have:=Hbx.out;omega),Hgrow.out.block _ (by have:=HszA.out;omega) hro,Hg5.out.block _ hl4]
  exact e4
 have H6:=Lib.hid h6;have HX6:=Lib.hid hx6
 have Hch6:=Lib.hid (show Chg (λb=>B0<=b) w w6 from jA.mono (λk hk hs=>by
  rcases hs with rfl|rfl|e
  ·exact Hh.out.base.2.2.1 _ (.inl rfl)
  ·exact Hh.out.base.2.1
  ·exact(Hh.out.eva.row.lt k e).1))
 obtain⟨bo,oo,oc,hov,hoc,hom⟩:=h6.imm.objs
 have noP:bo≠J.bP:=λe=>hom (by rw [e];exact .inl (Hh.out.pmut _ (.inl rfl)).1)
 have nxP:bx≠J.bP:=by have:=Hbx.out;omega
 have t0:w6.cell? ⟨J.bP,0,none⟩=some (.pointer (some ⟨J.W.bW,0,none⟩)):=by rw [aA hP6];exact dA
 have t1:w6.cell? ⟨J.bP,1,none⟩=some (.slice (some ⟨bo,oo,none⟩) 1 oc):=by rw [aA hP6,<-hov];exact yY
 have SL:w6.cell? ⟨bx,0,none⟩=some (.int .i64 c.thread):=by rw [aA hx6];rfl
 have TS:w6.cell? ⟨bx,1,none⟩=some (.int .i64 c.obj):=by rw [aA hx6];rfl
 have UL:w6.cell? ⟨bx,2,none⟩=some (.int .i64 c.kind):=by rw [aA hx6];rfl
 have UX:w6.cell? ⟨bx,3,none⟩=some (.int .u64 (c.a:Int)):=by rw [aA hx6];rfl
 have VE:w6.cell? ⟨bx,4,none⟩=some (.int .u64 (c.b:Int)):=by rw [aA hx6];rfl
 have VF:w6.cell? ⟨bx,5,none⟩=some (.int .u64 (c.c:Int)):=by rw [aA hx6];rfl
 have th:∃ v0,w6.cell? ⟨J.bP,5+p*2,none⟩=some v0:=⟨_,by rw [aA hP6];exact(bI (by simpa using Hh.out.h1) hp).1⟩
 obtain⟨v0,th⟩:=th
 have tf:w6.frozen? ⟨J.bP,5+p*2,none⟩=false:=aB hP6 _
 have l6P:=aC hP6
 clear iR hP6 hW6 MX jA mF h6 hx6 hov s0 s37 sn sf hcl
 have PT:((rX G p gg (.slice (some ⟨gg,0,none⟩) (evs.length+1) cap) evs.length).hs.getD p (undef,0)).2=evs.length:=by
  show((G.hs.set p (.nilIface,evs.length)).getD p (undef,0)).2=_
  rw [aL (by rw [Hh.out.h1];exact hp)]
 have Hat6:=Lib.hid PT
 have hlast:∀(m:Mc S.σ) (u:World) (B:Nat->Prop) (T:TypeId) (x:Value),dI S o (wd.begin p) p c=m->Below w6.heap.size w6 u->(∀ b,B b->w6.heap.size<=b/\b<u.heap.size)->jN R u (aT (rX G p gg (.slice (some ⟨gg,0,none⟩) (evs.length+1) cap) evs.length).Mut noB B) B T x p (Mh.of m)->
   BI R calls w (u.setCell ⟨J.bP,5+p*2,none⟩ (.iface T x)) J ov cv B0 wd o fin hands evs idle p i G.N:=by
  intro m u B T x hm hb hB hr
  have ha:=aK.armed ok H6.out hp (k:=evs.length) (by simp) Hat6.out hb hB hr
  rw [List.set_set] at ha
  refine⟨(Hch6.out.trans (Chg.of_below hb)).setCell (p:=⟨J.bP,5+p*2,none⟩) (.inl Hh.out.base.2.1) _,xR (rX G p gg (.slice (some ⟨gg,0,none⟩) (evs.length+1) cap) evs.length) p evs.length T x B,rfl,?_⟩
  rw [<-Hc.out,hm]
  exact ha
 have Hlast:=Lib.hid hlast
 clear hlast PT
 by_cases ho:c.obj=0
 ·obtain⟨K,recv,hM,hC⟩:=ok.start
  have C:=Lib.hid (λ(u:World) (hb:Below w6.heap.size w6 u)=>hC u _ J.W _ (wd.begin p) o p c (aK.grown ok H6.out hb).world (aK.grown ok H6.out hb).obj (aK.grown ok H6.out hb).inv hthr hcok)
  have m1:=hM.ahead;have m2:=hM.meth;have m3:=hM.enter
  have hst:dI S o (wd.begin p) p c=S.start o (wd.begin p) p c:=by unfold dI;rw [if_pos ho]
  have Hst:=Lib.hid hst
  have Hoc:=Lib.hid hoc
  rw [ho] at TS
  unfold qY at C
  rw [ho] at C
  have l6o:=World.block_lt_of_cell? _ _ hoc
  have l6x:=World.block_lt_of_cell? _ _ SL
  have n0:(⟨J.bP,5+p*2,none⟩:Addr)≠⟨J.bP,0,none⟩:=by simp
  have n1:(⟨J.bP,5+p*2,none⟩:Addr)≠⟨J.bP,1,none⟩:=by simp
  have no:∀ j,(⟨J.bP,5+p*2,none⟩:Addr)≠⟨bo,j,none⟩:=λj e=>noP (by simp only [Addr.mk.injEq] at e;exact e.1.symm)
  have nx:∀ j,(⟨J.bP,5+p*2,none⟩:Addr)≠⟨bx,j,none⟩:=λj e=>nxP (by simp only [Addr.mk.injEq] at e;exact e.1.symm)
  clear hC hM hst ho
  go_wp2_with fail
  go_quiet (fail)
  go_wp2_with fail
  go_region_held3 (λu=>u.cell? ⟨J.bP,0,none⟩=some (.pointer (some ⟨J.W.bW,0,none⟩))/\u.cell? ⟨J.bP,1,none⟩=some (.slice (some ⟨bo,oo,none⟩) 1 oc)/\u.cell? ⟨bo,oo,none⟩=some (.iface R.T R.x)/\u.cell? ⟨bx,0,none⟩=some (.int .i64 c.thread)/\u.cell? ⟨bx,1,none⟩=some (.int .i64 0)/\u.cell? ⟨bx,2,none⟩=some (.int .i64 c.kind)/\u.cell? ⟨bx,3,none⟩=some (.int .u64 (c.a:Int))/\u.cell? ⟨bx,4,none⟩=some (.int .u64 (c.b:Int))/\u.cell? ⟨bx,5,none⟩=some (.int .u64 (c.c:Int)))
   (first|exact⟨t0,t1,hoc,SL,TS,UL,UX,VE,VF⟩|exact S7|exact S8|go_keep)
   ((refine(C.out _ ?_).mono ?_;(exact below_drewN (Gr.refl w6) _);rintro e w7 ⟨T,x,B,rfl,hb,hB,hr⟩;replace hb:=vI hb;have u1:=(hb.cell (p:=⟨J.bP,5+p*2,none⟩) l6P).trans th;have u2:=(hb.frozen (p:=⟨J.bP,5+p*2,none⟩) l6P).trans tf;have v0:=(hb.cell (p:=⟨J.bP,0,none⟩) l6P).trans t0;have v1:=(hb.cell (p:=⟨J.bP,1,none⟩) l6P).trans t1;have v2:=(hb.cell (p:=⟨bo,oo,none⟩) l6o).trans Hoc.out;have v3:=(hb.cell (p:=⟨bx,0,none⟩) l6x).trans SL;have v4:=(hb.cell (p:=⟨bx,1,none⟩) l6x).trans TS;have v5:=(hb.cell (p:=⟨bx,2,none⟩) l6x).trans UL;have v6:=(hb.cell (p:=⟨bx,3,none⟩) l6x).trans UX;have v7:=(hb.cell (p:=⟨bx,4,none⟩) l6x).trans VE;have v8:=(hb.cell (p:=⟨bx,5,none⟩) l6x).trans VF;have S7:=And.intro v0 (And.intro v1 (And.intro v2 (And.intro v3 (And.intro v4 (And.intro v5 (And.intro v6 (And.intro v7 v8)))))));have S8:=And.intro ((World.cell?_setCell_other w7 _ _ (.iface T x) n0).trans v0) (And.intro ((World.cell?_setCell_other w7 _ _ (.iface T x) n1).trans v1) (And.intro ((World.cell?_setCell_other w7 _ _ (.iface T x) (no oo)).trans v2) (And.intro ((World.cell?_setCell_other w7 _ _ (.iface T x) (nx 0)).trans v3) (And.intro ((World.cell?_setCell_other w7 _ _ (.iface T x) (nx 1)).trans v4) (And.intro ((World.cell?_setCell_other w7 _ _ (.iface T x) (nx 2)).trans v5) (And.intro ((World.cell?_setCell_other w7 _ _ (.iface T x) (nx 3)).trans v6) (And.intro ((World.cell?_setCell_other w7 _ _ (.iface T x) (nx 4)).trans v7) ((World.cell?_setCell_other w7 _ _ (.iface T x) (nx 5)).trans v8))))))))))
  have hfin:=Hlast.out (S.start o (wd.begin p) p c) w7 B T x Hst.out hb (λb hB2=>⟨(hB b hB2).1,(hB b hB2).2⟩) (jN.of_mc hr)
  have Hfin:=Lib.hid hfin
  clear hb hB hr hfin S7 S8 v0 v1 v2 v3 v4 v5 v6 v7 v8 u1 u2
  go_wp2
  go_end0
  exact⟨rfl,Hfin.out⟩
 ·have hst:dI S o (wd.begin p) p c=.refuse 12:=by unfold dI;rw [if_neg ho]
  have F:=Lib.hid (λ(u:World)=>mU 12 u)
  have hor:c.obj<0∨1<=c.obj:=by omega
  have Hst:=Lib.hid hst
  have NC:=Lib.hid (H6.out.world.low)
  clear hst
  rcases hor with ho1|ho1
  ·have g1:decide (c.obj<0)=true:=by simpa using ho1
   clear ho
   go_wp2_with fail
   go_quiet (fail)
   go_wp2_with fail
   refine(F.out _).mono ?_
   rintro e w7 ⟨rfl,hr,hb⟩
   replace hb:=vI hb
   have u1:=(hb.cell (p:=⟨J.bP,5+p*2,none⟩) l6P).trans th
   have u2:=(hb.frozen (p:=⟨J.bP,5+p*2,none⟩) l6P).trans tf
   have hfin:=Hlast.out (.refuse 12) w7 (λk=>k=w6.heap.size+1) _ _ Hst.out hb (λk hk=>by cases hk;exact⟨Nat.le_succ _,aC hr.1⟩) ⟨rfl,w6.heap.size+1,w6.heap.size,rfl,hr,rfl,by
    rintro(⟨hx,_⟩|hx)
    ·have:=NC.out _ hx;omega
    ·omega⟩
   have Hfin:=Lib.hid hfin
   clear hb hr hfin
   go_wp2
   ((try simp only [Exit.inBlock,Exit.then]);refine bodyPost_ret (results_none rfl _ _ _) rfl ?_)
   exact⟨rfl,Hfin.out⟩
  ·have g1:decide (c.obj<0)=false:=by simp;omega
   have g2:(1:Int)<=c.obj:=ho1
   clear ho ho1
   go_wp2_with fail
   go_quiet (fail)
   go_wp2_with fail
   refine(F.out _).mono ?_
   rintro e w7 ⟨rfl,hr,hb⟩
   replace hb:=vI hb
   have u1:=(hb.cell (p:=⟨J.bP,5+p*2,none⟩) l6P).trans th
   have u2:=(hb.frozen (p:=⟨J.bP,5+p*2,none⟩) l6P).trans tf
   have hfin:=Hlast.out (.refuse 12) w7 (λk=>k=w6.heap.size+1) _ _ Hst.out hb (λk hk=>by cases hk;exact⟨Nat.le_succ _,aC hr.1⟩) ⟨rfl,w6.heap.size+1,w6.heap.size,rfl,hr,rfl,by
    rintro(⟨hx,_⟩|hx)
    ·have:=NC.out _ hx;omega
    ·omega⟩
   have Hfin:=Lib.hid hfin
   clear hb hr hfin
   go_wp2
   ((try simp only [Exit.inBlock,Exit.then]);refine bodyPost_ret (results_none rfl _ _ _) rfl ?_)
   exact⟨rfl,Hfin.out⟩
end Go.Proofs.Ytifhldnmcdbpfaa
