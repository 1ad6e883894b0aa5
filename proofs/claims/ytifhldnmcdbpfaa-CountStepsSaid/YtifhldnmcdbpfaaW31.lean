/- Layer 11: a node is looked at: it is made. -/
import Derived.Test.YtifhldnmcdbpfaaW20
import Derived.Test.YtifhldnmcdbpfaaW27
import Derived.Test.YtifhldnmcdbpfaaW30
set_option maxRecDepth 100000
set_option linter.unusedVariables false
set_option linter.unusedSimpArgs false
set_option linter.unnecessarySimpa false
namespace Go.Proofs.Ytifhldnmcdbpfaa
section
open Go.RowKit
def ctL (n m L:Nat) (ov:Value):Array Value:=#[.int .i64 0,.int .i64 (n:Int),.int .i64 (m:Int),.int .i64 (L:Int),ov]
theorem JN (b m:Int) (w:World):Calls Try.prog 126 #[.int .i64 b,.int .i64 m] w λe w'=>e=.returned (.agg #[.int .i64 b,.int .i64 m])/\Below w.heap.size w w':=by
 go_enter Try.func126,Try.ntmps126
 go_wp2
 exact bodyPost_ret (v:=.agg #[.int .i64 b,.int .i64 m]) (by simp [results,Try.results126 ,go_sem]) rfl ⟨rfl,Gr.new _ _⟩
theorem pM {n m v:Nat} (hn:n<=16) (hm:m<=8) (hv:v<=32):aG n m v<=9000/\aG n m v+2^m<=1000000:=by
 have hp:2^m<=256:=Nat.pow_le_pow_right (n:=2) (by decide) hm
 have h1:(v - 1)*(2^m - 1)<=32*255:=Nat.mul_le_mul (by omega) (by omega)
 unfold aG
 omega
set_option maxHeartbeats 2000000 in
theorem CV (bP n m L v:Nat) (ov:Value) (hn:n<=16) (hm:m<=8) (hv1:1<=v) (hv:v<=32) (w:World) (hP:w.heap[bP]?=some (.cells (ctL n m L ov) 80 (0,0))) :
  Calls Try.prog 125 #[.pointer (some ⟨bP,0,none⟩),.int .i64 (v:Int)] w λe w'=>e=.returned (.agg #[.int .i64 ((aG n m v:Nat):Int),.int .i64 (m:Int)])/\Below w.heap.size w w':=by
 have hlt:=aC hP
 have SZ:=Lib.hid (λu=>rG m (by omega) u)
 have hp:2^m<=256:=Nat.pow_le_pow_right (n:=2) (by decide) hm
 have hb:=pM (v:=v) hn hm hv
 obtain⟨S,hS⟩:∃ S,S=2^m - 1:=⟨_,rfl⟩
 rw [<-hS] at SZ
 obtain⟨q,hq⟩:∃ q:Nat,q=(v - 1)*S:=⟨_,rfl⟩
 have hb':aG n m v=n+q:=by unfold aG;rw [<-hS,hq]
 have hq1:q<=9000:=by omega
 have eq:((v:Int) - 1)*(S:Int)=(q:Int):=by
  rw [hq]
  have:((v - 1:Nat):Int)=(v:Int) - 1:=by omega
  rw [<-this];simp
 rw [hb']
 have d0:w.cell? ⟨bP,0,none⟩=some (.int .i64 0):=by rw [aA hP];rfl
 have d1:w.cell? ⟨bP,1,none⟩=some (.int .i64 (n:Int)):=by rw [aA hP];rfl
 have d2:w.cell? ⟨bP,2,none⟩=some (.int .i64 (m:Int)):=by rw [aA hP];rfl
 obtain⟨wa,hwa⟩:∃ wa,wa=w.alloc (.cells #[.int .i64 0,.int .i64 0] 209):=⟨_,rfl⟩
 have hga:Below w.heap.size w wa:=by rw [hwa];exact Gr.new _ _
 have c0:wa.cell? ⟨bP,0,none⟩=some (.int .i64 0):=(hga.cell (p:=⟨bP,0,none⟩) hlt).trans d0
 have c1:wa.cell? ⟨bP,1,none⟩=some (.int .i64 (n:Int)):=(hga.cell (p:=⟨bP,1,none⟩) hlt).trans d1
 have c2:wa.cell? ⟨bP,2,none⟩=some (.int .i64 (m:Int)):=(hga.cell (p:=⟨bP,2,none⟩) hlt).trans d2
 have hra:wa.heap[w.heap.size]?=some (.cells #[.int .i64 0,.int .i64 0] 209 (0,0)):=by rw [hwa];exact heap_alloc_new _ _
 have w1:IntKind.i64.wrap (0+(n:Int))=(n:Int):=by rw [IntKind.wrap_i64];omega
 have w5:IntKind.i64.wrap (n:Int)=(n:Int):=by rw [IntKind.wrap_i64];omega
 have w2:IntKind.i64.wrap ((v:Int) - 1)=(v:Int) - 1:=by rw [IntKind.wrap_i64];omega
 have w3:IntKind.i64.wrap (((v:Int) - 1)*(S:Int))=(q:Int):=by rw [eq,IntKind.wrap_i64];omega
 have w4:IntKind.i64.wrap ((n:Int)+(q:Int))=(n:Int)+(q:Int):=by rw [IntKind.wrap_i64];omega
 have Hwa:=Lib.hid hwa;have Hga:=Lib.hid hga;have Hra:=Lib.hid hra;have Hlt:=Lib.hid hlt
 have NW:=Lib.hid (λ(u:World)=>JN ((n:Int)+(q:Int)) (m:Int) u)
 have ne:bP≠w.heap.size:=by omega
 clear hP hp hb hS hq hb' hq1 eq hn hm hv1 hv hwa hga hra d0 d1 d2 hlt
 go_enter Try.func125,Try.ntmps125
 go_upto_region 1 with fail
 rw [<-Hwa.out]
 go_region_held3 (λu=>u.cell? ⟨bP,0,none⟩=some (.int .i64 0)/\u.cell? ⟨bP,1,none⟩=some (.int .i64 (n:Int))/\u.cell? ⟨bP,2,none⟩=some (.int .i64 (m:Int)))
  (first|exact⟨c0,c1,c2⟩|exact⟨z0,z1,z2⟩|exact⟨aY (((Chg.refl (λk=>k=w.heap.size) w4).setCell (p:=⟨w.heap.size,0,none⟩) (.inl rfl) _).setCell (p:=⟨w.heap.size,1,none⟩) (.inl rfl) _) ne z0,aY (((Chg.refl (λk=>k=w.heap.size) w4).setCell (p:=⟨w.heap.size,0,none⟩) (.inl rfl) _).setCell (p:=⟨w.heap.size,1,none⟩) (.inl rfl) _) ne z1,aY (((Chg.refl (λk=>k=w.heap.size) w4).setCell (p:=⟨w.heap.size,0,none⟩) (.inl rfl) _).setCell (p:=⟨w.heap.size,1,none⟩) (.inl rfl) _) ne z2⟩)
  (first|(go_at_call 44;refine(SZ.out _).mono ?_;rintro e w3 ⟨rfl,rfl⟩)|(go_at_call 126;refine(NW.out _).mono ?_;rintro e w4 ⟨rfl,hb4⟩;have z0:=(hb4.cell (p:=⟨bP,0,none⟩) (World.block_lt_of_cell? _ _ c0)).trans c0;have z1:=(hb4.cell (p:=⟨bP,1,none⟩) (World.block_lt_of_cell? _ _ c1)).trans c1;have z2:=(hb4.cell (p:=⟨bP,2,none⟩) (World.block_lt_of_cell? _ _ c2)).trans c2;have hr4:=(hb4.block _ (aC Hra.out)).trans Hra.out;have f0:=aB hr4 0;have f1:=aB hr4 1;have hl4:=aC hr4;have r0:w4.cell? ⟨w.heap.size,0,none⟩=some (.int .i64 0):=(by rw [aA hr4];rfl);have r1:w4.cell? ⟨w.heap.size,1,none⟩=some (.int .i64 0):=(by rw [aA hr4];rfl)))
 obtain⟨w5,vR⟩:∃ w5,w5=(w4.setCell ⟨w.heap.size,0,none⟩ (.int .i64 ((n:Int)+(q:Int)))).setCell ⟨w.heap.size,1,none⟩ (.int .i64 (m:Int)):=⟨_,rfl⟩
 have PL:w5.heap[w.heap.size]?=some (.cells #[.int .i64 ((n:Int)+(q:Int)),.int .i64 (m:Int)] 209 (0,0)):=by rw [vR,aH (aH hr4 _ _) _ _];rfl
 have lY:Chg (λk=>k=w.heap.size) w4 w5:=by rw [vR];exact((Chg.refl (λk=>k=w.heap.size) w4).setCell (p:=⟨w.heap.size,0,none⟩) (.inl rfl) _).setCell (p:=⟨w.heap.size,1,none⟩) (.inl rfl) _
 rw [<-vR]
 have k0:w5.cell? ⟨w.heap.size,0,none⟩=some (.int .i64 ((n:Int)+(q:Int))):=by rw [aA PL];rfl
 have k1:w5.cell? ⟨w.heap.size,1,none⟩=some (.int .i64 (m:Int)):=by rw [aA PL];rfl
 have g4:Below w.heap.size w w4:=Gr.trans Hga.out (Gr.trans (Gr.refl wa).drew hb4)
 have F:=Lib.hid (show Below w.heap.size w w5 from g4.trans (lY.below (λk h=>by have h:k=w.heap.size:=h;omega) g4.size))
 clear vR PL lY z0 z1 z2 hr4 f0 f1 r0 r1 g4
 go_wp2
 exact bodyPost_ret (v:=.agg #[.int .i64 ((n:Int)+(q:Int)),.int .i64 (m:Int)]) (by simp [results,Try.results125 ,go_sem,k0,k1]) rfl ⟨rfl,F.out⟩
end
section
open Go.RowKit
def gT (mv:Value) (leaf:Bool) (a val:Nat):Array Value:=#[mv,.bool leaf,.int .i64 (a:Int),.int .u64 (val:Int)]
def dL (w:World) (Mut:Nat->Prop) (n m p bl:Nat) (l:LkD) (B:Nat->Prop):Prop:=
 (l.kind=0/\∃ bm tv kv,w.heap[bl]?=some (.cells (gT (.iface 206 (.pointer (some ⟨bm,0,none⟩))) false 0 l.val) 212 (0,0))/\bV w bm (gX l.x.val kv) 217 (aG n m l.v) m p l.x.y tv/\Lst w Mut kv l.x.ky/\nZ m l.x/\B=λk=>k=bl∨bC bm tv k)∨
 (l.kind=1/\w.heap[bl]?=some (.cells (gT .nilIface true (l.v - aJ n) l.val) 212 (0,0))/\B=λk=>k=bl)∨
 (l.kind=2/\w.heap[bl]?=some (.cells (gT .nilIface false 0 l.val) 212 (0,0))/\B=λk=>k=bl)
section
variable {w w':World} {Mut Mut' Q B:Nat->Prop} {n m p bl:Nat} {l:LkD}
theorem dL.own (h:dL w Mut n m p bl l B):B bl:=by
 rcases h with⟨_,bm,tv,kv,_,_,_,_,rfl⟩|⟨_,_,rfl⟩|⟨_,_,rfl⟩
 ·exact .inl rfl
 ·rfl
 ·rfl
theorem dL.blk (h:dL w Mut n m p bl l B):∃ mv leaf a,w.heap[bl]?=some (.cells (gT mv leaf a l.val) 212 (0,0)):=by
 rcases h with⟨_,bm,tv,kv,h1,_⟩|⟨_,h1,_⟩|⟨_,h1,_⟩
 ·exact⟨_,_,_,h1⟩
 ·exact⟨_,_,_,h1⟩
 ·exact⟨_,_,_,h1⟩
theorem dL.lt (h:dL w Mut n m p bl l B):∀ k,B k->k<w.heap.size:=by
 rcases h with⟨_,bm,tv,kv,h1,h2,_,_,rfl⟩|⟨_,h1,rfl⟩|⟨_,h1,rfl⟩
 ·rintro k (rfl|hk)
  ·exact aC h1
  ·exact h2.lt k hk
 ·rintro k rfl;exact aC h1
 ·rintro k rfl;exact aC h1
theorem dL.keep (h:dL w Mut n m p bl l B) (hc:Chg Q w w') (hQ:∀ b,Q b->Mut b) (hB:∀ b,B b->¬ Q b) (hm:aV Mut w Mut'):dL w' Mut' n m p bl l B:=by
 rcases h with⟨e,bm,tv,kv,h1,h2,h3,h4,rfl⟩|⟨e,h1,rfl⟩|⟨e,h1,rfl⟩
 ·exact .inl ⟨e,bm,tv,kv,(hc.block _ (aC h1) (hB bl (.inl rfl))).trans h1,h2.chg hc (λk hk=>hB k (.inr hk)),h3.keep hc hQ hm,h4,rfl⟩
 ·exact .inr (.inl ⟨e,(hc.block _ (aC h1) (hB bl rfl)).trans h1,rfl⟩)
 ·exact .inr (.inr ⟨e,(hc.block _ (aC h1) (hB bl rfl)).trans h1,rfl⟩)
end
def UB (n m p:Nat) (l:LkD) (w w':World) (Mut:Nat->Prop) (e:Ending):Prop:=∃ bl B,e=.returned (.pointer (some ⟨bl,0,none⟩))/\Below w.heap.size w w'/\dL w' Mut n m p bl l B/\∀ k,B k->w.heap.size<=k
set_option maxHeartbeats 2000000 in
theorem vN (bP n m v p:Nat) (ov:Value) (hn:n<=16) (hm:m<=8) (hv1:1<=v) (hv:v<=32) (w:World) (Mut:Nat->Prop) (hP:w.heap[bP]?=some (.cells (ctL n m (aJ n) ov) 80 (0,0))) :
  Calls Try.prog 123 #[.pointer (some ⟨bP,0,none⟩),.int .i64 (v:Int),.int .i64 (p:Int)] w λe w'=>UB n m p (dR n m v) w w' Mut e:=by
 have hlt:=aC hP
 obtain⟨L,hL⟩:∃ L,L=aJ n:=⟨_,rfl⟩
 have hL9:=bL hn
 rw [<-hL] at hP hL9
 have d0:w.cell? ⟨bP,0,none⟩=some (.int .i64 0):=by rw [aA hP];rfl
 have d1:w.cell? ⟨bP,1,none⟩=some (.int .i64 (n:Int)):=by rw [aA hP];rfl
 have d3:w.cell? ⟨bP,3,none⟩=some (.int .i64 (L:Int)):=by rw [aA hP];rfl
 by_cases h1:v<L
 ·have hl:dR n m v=⟨0,v,⟨eP m,0,[]⟩,0⟩:=by unfold dR;rw [<-hL,if_pos h1]
  have ND:=Lib.hid (CV bP n m L v ov hn hm hv1 hv w hP)
  have NR:=Lib.hid (λ(u:World)=>zH (aG n m v) m p u)
  have l1:(v:Int)<(L:Int):=by omega
  have Hl:=Lib.hid hl
  clear hP hn hm hv1 hv hL hL9 d0 d1 hl
  go_enter Try.func123,Try.ntmps123
  go_wp2_with (first|(go_at_call 125;refine ND.out.mono ?_;rintro e w1 ⟨rfl,hb1⟩)|(go_at_call 124;refine(NR.out _).mono ?_;rintro e w2 ⟨rfl,hb2,hr2⟩))
  go_ret
  rw [Hl.out]
  have hg:=Gr.new w2 (.cells (gT (.iface 206 (.pointer (some ⟨w1.heap.size+1,0,none⟩))) false 0 0) 212 (0,0))
  have hnew:=heap_alloc_new w2 (.cells (gT (.iface 206 (.pointer (some ⟨w1.heap.size+1,0,none⟩))) false 0 0) 212 (0,0))
  have s1:=hb1.size;have s2:=hb2.size
  refine⟨w2.heap.size,λk=>k=w2.heap.size∨bC (w1.heap.size+1) (.slice none 0 0) k,rfl,Gr.trans (Gr.trans hb1 hb2) hg,.inl ⟨rfl,w1.heap.size+1,.slice none 0 0,.slice none 0 0,hnew,hr2.grown hg,Lst.nil _ _,nZ.init m,rfl⟩,?_⟩
  rintro k (rfl|hk)
  ·omega
  ·rw [rQ hk];omega
 have l1:¬ (v:Int)<(L:Int):=by omega
 have w1:IntKind.i64.wrap ((v:Int) - (L:Int))=((v - L:Nat):Int):=by rw [IntKind.wrap_i64];omega
 by_cases h2:v - L<n
 ·have hl:dR n m v=⟨1,v,⟨eP m,0,[]⟩,0⟩:=by unfold dR;rw [<-hL,if_neg h1,if_pos h2]
  have l2:((v - L:Nat):Int)<(n:Int):=by omega
  have w2:IntKind.i64.wrap (0+(v:Int))=(v:Int):=by rw [IntKind.wrap_i64];omega
  have w3:IntKind.i64.wrap (v:Int)=(v:Int):=by rw [IntKind.wrap_i64];omega
  have Hl:=Lib.hid (show dR n m v=⟨1,v,⟨eP m,0,[]⟩,0⟩/\aJ n=L from⟨hl,hL.symm⟩)
  obtain⟨a,ha⟩:∃ a,a=v - L:=⟨_,rfl⟩
  rw [<-ha] at w1 l2
  have Ha:=Lib.hid ha
  clear hP hn hm hv1 hv hL9 hl h2 ha hL h1
  go_enter Try.func123,Try.ntmps123
  go_wp2_with fail
  go_quiet (fail)
  obtain⟨wb,hwb⟩:∃ wb,wb=w.drewN nq:=⟨_,rfl⟩
  have hgq:Below w.heap.size w wb:=by rw [hwb];exact below_drewN (Gr.refl w) nq
  have hbz:wb.heap.size=w.heap.size:=by rw [hwb];rfl
  rw [<-hwb]
  have v0:=(hgq.cell (p:=⟨bP,0,none⟩) hlt).trans d0
  have v3:=(hgq.cell (p:=⟨bP,3,none⟩) hlt).trans d3
  have Hgq:=Lib.hid hgq;have Hbz:=Lib.hid hbz
  clear hwb hgq hbz d0 d1 d3
  go_upto_region 4 with fail
  clear l2 l1
  go_region_held3 (λu=>u.cell? ⟨bP,0,none⟩=some (.int .i64 0)/\u.cell? ⟨bP,3,none⟩=some (.int .i64 (L:Int))) (first|exact⟨v0,v3⟩|exact⟨(World.cell?_alloc_lt _ _ _ (World.block_lt_of_cell? _ _ v0)).trans v0,(World.cell?_alloc_lt _ _ _ (World.block_lt_of_cell? _ _ v3)).trans v3⟩|go_keep) (fail)
  all_goals
   go_wp2
   go_ret
   rw [Hl.out.1]
   have hnew:=heap_alloc_new wb.drew (.cells (gT .nilIface true a 0) 212 (0,0))
   refine⟨wb.heap.size,λk=>k=wb.heap.size,rfl,Gr.trans Hgq.out (Gr.trans (Gr.refl wb).drew (Gr.new _ _)),.inr (.inl ⟨rfl,by rw [Hl.out.2,<-Ha.out];exact hnew,rfl⟩),?_⟩
   rintro k rfl
   rw [Hbz.out];exact Nat.le_refl _
 ·have hl:dR n m v=⟨2,v,⟨eP m,0,[]⟩,0⟩:=by unfold dR;rw [<-hL,if_neg h1,if_neg h2]
  have l2:¬ ((v - L:Nat):Int)<(n:Int):=by omega
  have Hl:=Lib.hid hl
  clear hP hn hm hv1 hv hL hL9 hl h2 h1 d0
  obtain⟨a,ha⟩:∃ a,a=v - L:=⟨_,rfl⟩
  rw [<-ha] at w1 l2
  clear ha
  go_enter Try.func123,Try.ntmps123
  go_wp2_with fail
  go_quiet (fail)
  have hgq:Below w.heap.size w (w.drewN nq):=below_drewN (Gr.refl w) nq
  have Hgq:=Lib.hid hgq
  clear hgq
  go_wp2
  go_ret
  rw [Hl.out]
  have hnew:=heap_alloc_new (w.drewN nq) (.cells (gT .nilIface false 0 0) 212 (0,0))
  refine⟨w.heap.size,λk=>k=w.heap.size,rfl,Gr.trans Hgq.out (Gr.new _ _),.inr (.inr ⟨rfl,hnew,rfl⟩),?_⟩
  rintro k rfl
  exact Nat.le_refl _
theorem CJ (n m p bl:Nat) (l:LkD) (w:World) (Mut B:Nat->Prop) (h:dL w Mut n m p bl l B) :
  Calls Try.prog 140 #[.pointer (some ⟨bl,0,none⟩)] w λe w'=>e=.returned (.bool (decide (l.kind=2)))/\Below w.heap.size w w':=by
 rcases h with⟨e,bm,tv,kv,h1,_⟩|⟨e,h1,_⟩|⟨e,h1,_⟩
 ·have d0:w.cell? ⟨bl,0,none⟩=some (.iface 206 (.pointer (some ⟨bm,0,none⟩))):=by rw [aA h1];rfl
  rw [e]
  clear h1 e
  go_enter Try.func140,Try.ntmps140
  go_wp2
  go_ret
  exact⟨rfl,Gr.refl _⟩
 ·have d0:w.cell? ⟨bl,0,none⟩=some .nilIface:=by rw [aA h1];rfl
  have d1:w.cell? ⟨bl,1,none⟩=some (.bool true):=by rw [aA h1];rfl
  rw [e]
  clear h1 e
  go_enter Try.func140,Try.ntmps140
  go_wp2
  go_ret
  exact⟨rfl,Gr.refl _⟩
 ·have d0:w.cell? ⟨bl,0,none⟩=some .nilIface:=by rw [aA h1];rfl
  have d1:w.cell? ⟨bl,1,none⟩=some (.bool false):=by rw [aA h1];rfl
  rw [e]
  clear h1 e
  go_enter Try.func140,Try.ntmps140
  go_wp2
  go_ret
  exact⟨rfl,Gr.refl _⟩
end
end Go.Proofs.Ytifhldnmcdbpfaa
