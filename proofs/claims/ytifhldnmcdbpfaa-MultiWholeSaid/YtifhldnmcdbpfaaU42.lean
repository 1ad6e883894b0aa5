/- Operations done one by one: the walk of roundelayplain.Whole, of one object, whatever its kind. -/
import Derived.Test.YtifhldnmcdbpfaaU37
import Derived.Test.YtifhldnmcdbpfaaU41
import Derived.Test.YtifhldnmcdbpfaaU16
import Derived.Test.YtifhldnmcdbpfaaU35
import Derived.Test.YtifhldnmcdbpfaaU40
import Derived.Test.YtifhldnmcdbpfaaU15
set_option maxRecDepth 100000
set_option linter.unusedVariables false
set_option linter.unusedSimpArgs false
set_option linter.unnecessarySimpa false
namespace Go.Proofs.Ytifhldnmcdbpfaa
section
open Go.RowKit
set_option maxHeartbeats 4000000 in
theorem KP {X Y:Nat->Prop} {B:Nat} {kd P Q:Int} {n:Nat} {ap:List Nat->aF->List Nat×lU} {s0:List Nat} {inv:List Nat->Prop} (K:xQ kd P Q n ap s0 inv) (w:World) (calls:List aF) (ca ea va:Option Addr) (cc en ec vn vc bs os sc:Nat) (ers:List (Value×Value)) (rp:gT)
  (hq0:w.cell? ⟨bs,os,none⟩=some (.int .i64 kd)) (hq1:w.cell? ⟨bs,os+1,none⟩=some (.int .i64 P)) (hq2:w.cell? ⟨bs,os+2,none⟩=some (.int .i64 Q))
  (hrep:fB X B w (.slice ea en ec) (.slice va vn vc) ers rp) (hen:en=rp.evs.length) (hlen:rp.evs.length<1000000) (hc:iX Y w ca calls) (hg:nK ap s0 calls n rp) :
  Calls Try.prog 18 #[.int .i64 (n:Int),.slice (some ⟨bs,os,none⟩) 1 sc,.slice ca calls.length cc,jL (.slice ea en ec) (.slice va vn vc) rp] w λe w'=>e=.returned (.bool true)/\Below w.heap.size w w':=by
 obtain⟨wa,hwa⟩:∃ wa,wa=w.alloc (.cells #[.slice ea en ec,.slice va vn vc,.int .i64 (rp.c.read:Int),.int .i64 (rp.c.write:Int),.int .i64 (rp.c.swap:Int),.int .i64 (rp.c.add:Int),.int .i64 (rp.c.fault:Int),.int .i64 (rp.ticks:Int),.int .i64 (rp.idle:Int)] 32):=⟨_,rfl⟩
 have hga:Below w.heap.size w wa:=by rw [hwa];exact Gr.new _ _
 have hin:qX w wa w.heap.size ea en ec va vn vc rp:=⟨Nat.le_refl _,by rw [hwa];exact heap_alloc_new _ _⟩
 have gc:=λ(p:Addr) (v:Value) (h:w.cell? p=some v) (u:World) (hu:Below w.heap.size w u)=>(hu.cell (World.block_lt_of_cell? _ _ h)).trans h
 have RT:=Lib.hid (λ(u:World) (h:Below w.heap.size w u)=>FW u calls n ca ea va cc en ec vn vc ers rp (hrep.grown h) hen hlen (hc.grown h) hg.rows)
 have WR:=Lib.hid (λ(u:World) (h:Below w.heap.size w u)=>KQ K u calls ca ea va cc en ec vn vc bs os sc ers rp (gc _ _ hq0 u h) (gc _ _ hq1 u h) (gc _ _ hq2 u h) (hrep.grown h) hen hlen (hc.grown h) hg)
 have AH:=Lib.hid (λ(u:World) (h:Below w.heap.size w u)=>yK u ea va en ec vn vc ers rp (hrep.grown h) hen hlen (λi k hi hk h1 h2 h3=>BQ hg.rows hi hk h1 h2 h3) (λi hi h1=>((hg.rows.ev i hi).resp h1).2.2.2.1))
 have r0:wa.cell? ⟨w.heap.size,0,none⟩=some (.slice ea en ec):=hin.cell 0
 have r1:wa.cell? ⟨w.heap.size,1,none⟩=some (.slice va vn vc):=hin.cell 1
 have r2:wa.cell? ⟨w.heap.size,2,none⟩=some (.int .i64 (rp.c.read:Int)):=hin.cell 2
 have r3:wa.cell? ⟨w.heap.size,3,none⟩=some (.int .i64 (rp.c.write:Int)):=hin.cell 3
 have r4:wa.cell? ⟨w.heap.size,4,none⟩=some (.int .i64 (rp.c.swap:Int)):=hin.cell 4
 have r5:wa.cell? ⟨w.heap.size,5,none⟩=some (.int .i64 (rp.c.add:Int)):=hin.cell 5
 have r6:wa.cell? ⟨w.heap.size,6,none⟩=some (.int .i64 (rp.c.fault:Int)):=hin.cell 6
 have r7:wa.cell? ⟨w.heap.size,7,none⟩=some (.int .i64 (rp.ticks:Int)):=hin.cell 7
 have r8:wa.cell? ⟨w.heap.size,8,none⟩=some (.int .i64 (rp.idle:Int)):=hin.cell 8
 have Hwa:=Lib.hid hwa;have Hga:=Lib.hid hga;have Hin:=Lib.hid hin
 clear hwa hga hin gc hq0 hq1 hq2 hrep hen hlen hc hg K
 unfold jL at RT ⊢
 go_enter Try.func18,Try.ntmps18
 go_wp2_with fail
 rw [<-Hwa.out]
 go_wp2_with fail
 refine(RT.out _ Hga.out).mono ?_
 rintro e w1 ⟨rfl,hb1⟩
 have hin1:=Hin.out.grown hb1
 clear r0 r1 r2 r3 r4 r5 r6 r7 r8
 have r0:w1.cell? ⟨w.heap.size,0,none⟩=some (.slice ea en ec):=hin1.cell 0
 have Hin1:=Lib.hid hin1
 have Hb1:=Lib.hid (Gr.trans Hga.out hb1)
 clear hb1 hin1
 go_wp2_with fail
 refine(WR.out _ Hb1.out).mono ?_
 rintro e w2 ⟨rfl,hb2⟩
 have hin2:=Hin1.out.grown hb2
 clear r0
 have r0:w2.cell? ⟨w.heap.size,0,none⟩=some (.slice ea en ec):=hin2.cell 0
 have Hb2:=Lib.hid (Gr.trans Hb1.out hb2)
 clear hb2 hin2
 go_wp2_with fail
 refine(AH.out _ Hb2.out).mono ?_
 rintro e w3 ⟨rfl,hb3⟩
 have Hb3:=Lib.hid (Gr.trans Hb2.out hb3)
 clear hb3 r0
 go_wp2
 go_ret
 exact⟨rfl,Hb3.out⟩
end
section
open Go.RowKit
set_option maxHeartbeats 16000000 in
theorem multiWhole_any (q0 q1 q2:Int) (calls:List aF) (picks:List Int) (ca pa:Option Addr) (cc pc:Nat) (w:World) (hc:iX noB w ca calls) (hp:lT w pa picks) :
  Calls Try.prog 5 #[.agg #[.int .i64 q0,.int .i64 q1,.int .i64 q2],.slice ca calls.length cc,.slice pa picks.length pc] w λe w'=>e=.returned (.bool true)/\Below w.heap.size w w':=by
 have hgb:Below w.heap.size w (w.alloc (.cells #[.int .i64 q0,.int .i64 q1,.int .i64 q2] 47)):=(Gr.new _ _)
 have M:=yB ca pa calls.length picks.length cc pc (w.alloc (.cells #[.int .i64 q0,.int .i64 q1,.int .i64 q2] 47)) (hc.grown hgb).sl.1 hp.sl.1
 have T:=Lib.hid vS
 cases hM:DU calls.length picks.length with
 | true=>
  rw [hM] at M
  have HM:=Lib.hid M;have Hgb:=Lib.hid hgb
  clear M hc hp hM hgb
  go_enter Try.func5,Try.ntmps5
  go_wp2_with (first|(go_at_call 10;refine(HM.out).mono ?_;rintro e w' ⟨rfl,rfl⟩)|(go_at_call 16;refine(T.out _).mono ?_;rintro e w' ⟨rfl,hb⟩))
  go_ret
  exact⟨rfl,Gr.trans Hgb.out hb⟩
 | false=>
  rw [hM] at M
  have HM:=Lib.hid M
  have P:=lH noB (w.alloc (.cells #[.int .i64 q0,.int .i64 q1,.int .i64 q2] 47)) q0 q1 q2 calls picks ca pa cc pc (λb hb=>hb.elim) (hc.grown hgb) (hp.grown hgb)
  obtain⟨er,her⟩:∃ er,er=fM q0 q1 q2 calls picks.length:=⟨_,rfl⟩
  rw [<-her] at P
  have HP:=Lib.hid P;have Her:=Lib.hid her;have Hc:=Lib.hid hc;have Hgb:=Lib.hid hgb
  have hcm:=hc.sl.1
  unfold maxLen at hcm
  clear M P hc hp hM her hgb
  by_cases oO:er=0
  ·have hck:fM q0 q1 q2 calls picks.length=0:=by rw [<-Her.out];exact oO
   obtain⟨uH,hm1,hm2,UR,NL⟩:=pE hck
   obtain⟨z1,z2⟩:=zD uH
   obtain⟨n,rfl⟩:∃ n:Nat,q0=(n:Int):=⟨q0.toNat,by omega⟩
   obtain⟨m,rfl⟩:∃ m:Nat,q1=(m:Int):=⟨q1.toNat,by omega⟩
   obtain⟨q,rfl⟩:∃ q:Nat,q2=(q:Int):=⟨q2.toNat,by omega⟩
   simp only [Int.toNat_natCast] at HP
   have hmp:0<m:=by omega
   have hnp:=zN uH
   have q1:nK (jC n m q) (List.replicate (m+n) 0) calls n (iM (aR n m q) fA (List.replicate (bF n m q) 0) calls picks):=FX (by omega) (by omega) (by omega) (by omega) uH
   have q2:(iM (aR n m q) fA (List.replicate (bF n m q) 0) calls picks).evs.length<=picks.length:=zO (by omega) (by omega) (by omega) (by omega) uH
   subst oO
   obtain⟨rr,hrr⟩:∃ rr,rr=iM (aR n m q) fA (List.replicate (bF n m q) 0) calls picks:=⟨_,rfl⟩
   rw [<-hrr] at HP q1 q2
   have Hq1:=Lib.hid q1;have Hq2:=Lib.hid q2;have Hnp:=Lib.hid hnp
   clear hck uH hrr Her hnp q1 q2
   go_enter Try.func5,Try.ntmps5
   go_wp2_with (go_at_call 10;refine(HM.out).mono ?_;rintro e w' ⟨rfl,rfl⟩)
   refine HP.out.mono ?_
   rintro e w1 ⟨ea,en,ec,va,vn,vc,rp,rfl,hb1,hr⟩
   rcases hr with⟨h0,_⟩|⟨_,hrp,hen,hvn,ers,hrep⟩
   ·exact absurd rfl h0
   subst hrp
   obtain⟨w2,hw2⟩:∃ w2,w2=w1.alloc (.cells #[.slice ea en ec,.slice va vn vc,.int .i64 (rp.c.read:Int),.int .i64 (rp.c.write:Int),.int .i64 (rp.c.swap:Int),.int .i64 (rp.c.add:Int),.int .i64 (rp.c.fault:Int),.int .i64 (rp.ticks:Int),.int .i64 (rp.idle:Int)] 32):=⟨_,rfl⟩
   have hb2:Below w1.heap.size w1 w2:=by rw [hw2];exact Gr.new _ _
   have hin:qX w1 w2 w1.heap.size ea en ec va vn vc rp:=⟨Nat.le_refl _,by rw [hw2];exact heap_alloc_new _ _⟩
   have EM:=Gr.trans Hgb.out (Gr.trans hb1 hb2)
   have hlt2:w1.heap.size<w2.heap.size:=aH hin.blk
   have p0:w2.cell? ⟨w.heap.size,0,none⟩=some (.int .i64 (n:Int)):=((Gr.trans hb1 hb2).cell (p:=⟨w.heap.size,0,none⟩) (by simp)).trans (by rw [aA (heap_alloc_new w _)];rfl)
   have p1:w2.cell? ⟨w.heap.size,1,none⟩=some (.int .i64 (m:Int)):=((Gr.trans hb1 hb2).cell (p:=⟨w.heap.size,1,none⟩) (by simp)).trans (by rw [aA (heap_alloc_new w _)];rfl)
   have p2:w2.cell? ⟨w.heap.size,2,none⟩=some (.int .i64 (q:Int)):=((Gr.trans hb1 hb2).cell (p:=⟨w.heap.size,2,none⟩) (by simp)).trans (by rw [aA (heap_alloc_new w _)];rfl)
   have hlen:rp.evs.length<1000000:=by have:=Hq2.out;have:=Hnp.out;omega
   obtain⟨w3,hw3⟩:∃ w3,w3=w2.alloc (.cells #[.int .i64 6,.int .i64 (m:Int),.int .i64 (q:Int)] 51):=⟨_,rfl⟩
   have hb3:Below w2.heap.size w2 w3:=by rw [hw3];exact Gr.new _ _
   have hsp:w3.heap[w2.heap.size]?=some (.cells #[.int .i64 6,.int .i64 (m:Int),.int .i64 (q:Int)] 51 (0,0)):=by rw [hw3];exact heap_alloc_new _ _
   have SX:=Gr.trans EM hb3
   have K:=JG n m q (by omega) (by omega) (by omega) (by omega) (by omega)
   have WH:=Lib.hid (KP K w3 calls ca ea va cc en ec vn vc w2.heap.size 0 1 ers rp (by rw [aA hsp];rfl) (by rw [aA hsp];rfl) (by rw [aA hsp];rfl) (hrep.grown (Gr.trans hb2 hb3)) hen hlen (Hc.out.grown SX) Hq1.out)
   have Hb03:=Lib.hid SX;have Hw2:=Lib.hid hw2;have Hw3:=Lib.hid hw3
   have q0':w3.cell? ⟨w.heap.size,0,none⟩=some (.int .i64 (n:Int)):=(hb3.cell (World.block_lt_of_cell? _ _ p0)).trans p0
   have r0:w2.cell? ⟨w1.heap.size,0,none⟩=some (.slice ea en ec):=hin.cell 0
   have r1:w2.cell? ⟨w1.heap.size,1,none⟩=some (.slice va vn vc):=hin.cell 1
   have r2:w2.cell? ⟨w1.heap.size,2,none⟩=some (.int .i64 (rp.c.read:Int)):=hin.cell 2
   have r3:w2.cell? ⟨w1.heap.size,3,none⟩=some (.int .i64 (rp.c.write:Int)):=hin.cell 3
   have r4:w2.cell? ⟨w1.heap.size,4,none⟩=some (.int .i64 (rp.c.swap:Int)):=hin.cell 4
   have r5:w2.cell? ⟨w1.heap.size,5,none⟩=some (.int .i64 (rp.c.add:Int)):=hin.cell 5
   have r6:w2.cell? ⟨w1.heap.size,6,none⟩=some (.int .i64 (rp.c.fault:Int)):=hin.cell 6
   have r7:w2.cell? ⟨w1.heap.size,7,none⟩=some (.int .i64 (rp.ticks:Int)):=hin.cell 7
   have r8:w2.cell? ⟨w1.heap.size,8,none⟩=some (.int .i64 (rp.idle:Int)):=hin.cell 8
   clear hrep hb1 hb2 hb3 hin hsp EM SX hw2 hw3 hvn hen hlen K
   unfold jL
   unfold jL at WH
   go_upto_region 4 with fail
   rw [<-Hw2.out]
   go_wp2_with fail
   rw [<-Hw3.out]
   refine WH.out.mono ?_
   rintro e w4 ⟨rfl,hb4⟩
   have Hb4:=Lib.hid hb4
   clear hb4 r0 r1 r2 r3 r4 r5 r6 r7 r8
   go_wp2_with (go_at_call 16;refine(T.out _).mono ?_;rintro e w' ⟨rfl,hb⟩)
   go_ret
   exact⟨rfl,Gr.trans Hb03.out (Gr.trans Hb4.out hb)⟩
  ·have hn0:¬ er=0:=oO
   have Hn0:=Lib.hid oO
   go_enter Try.func5,Try.ntmps5
   go_wp2_with (go_at_call 10;refine(HM.out).mono ?_;rintro e w' ⟨rfl,rfl⟩)
   refine HP.out.mono ?_
   rintro e w1 ⟨ea,en,ec,va,vn,vc,rp,rfl,hb1,hr⟩
   rcases hr with⟨_,rfl,rfl,rfl,rfl,rfl,rfl,rfl⟩|⟨h0,_⟩
   ·unfold jL
    have N:=Lib.hid none_true
    go_wp2_with (first|(go_at_call 13;refine(N.out _).mono ?_;rintro e w2 ⟨rfl,hb2⟩)|(go_at_call 16;refine(T.out _).mono ?_;rintro e w' ⟨rfl,hb⟩))
    go_ret
    exact⟨rfl,Gr.trans Hgb.out (Gr.trans hb1 (Gr.trans (Gr.new _ _) (Gr.trans hb2 hb)))⟩
   ·exact absurd h0 oO
end
end Go.Proofs.Ytifhldnmcdbpfaa
