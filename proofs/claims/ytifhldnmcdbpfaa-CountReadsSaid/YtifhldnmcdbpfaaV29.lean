/- Layer 11: a node is looked at: as it lies; it is made. -/
import Derived.Test.YtifhldnmcdbpfaaV28
set_option maxRecDepth 100000
set_option linter.unusedVariables false
set_option linter.unusedSimpArgs false
set_option linter.unnecessarySimpa false
namespace Go.Proofs.Ytifhldnmcdbpfaa
section
open Go.RowKit
def gX (mv:Value) (leaf:Bool) (a val:Nat):Array Value:=#[mv,.bool leaf,.int .i64 (a:Int),.int .u64 (val:Int)]
def dL (w:World) (Mut:Nat->Prop) (n m p bl:Nat) (l:LkD) (B:Nat->Prop):Prop:=
 (l.kind=0/\∃ bm tv kv,w.heap[bl]?=some (.cells (gX (.iface 206 (.pointer (some ⟨bm,0,none⟩))) false 0 l.val) 212 (0,0))/\bV w bm (gU l.x.val kv) 217 (aG n m l.v) m p l.x.y tv/\Lst w Mut kv l.x.ky/\nH m l.x/\B=λk=>k=bl∨bC bm tv k)∨
 (l.kind=1/\w.heap[bl]?=some (.cells (gX .nilIface true (l.v - aK n) l.val) 212 (0,0))/\B=λk=>k=bl)∨
 (l.kind=2/\w.heap[bl]?=some (.cells (gX .nilIface false 0 l.val) 212 (0,0))/\B=λk=>k=bl)
section
variable {w w':World} {Mut Mut' Q B:Nat->Prop} {n m p bl:Nat} {l:LkD}
theorem dL.own (h:dL w Mut n m p bl l B):B bl:=by
 rcases h with⟨_,bm,tv,kv,_,_,_,_,rfl⟩|⟨_,_,rfl⟩|⟨_,_,rfl⟩
 ·exact .inl rfl
 ·rfl
 ·rfl
theorem dL.blk (h:dL w Mut n m p bl l B):∃ mv leaf a,w.heap[bl]?=some (.cells (gX mv leaf a l.val) 212 (0,0)):=by
 rcases h with⟨_,bm,tv,kv,h1,_⟩|⟨_,h1,_⟩|⟨_,h1,_⟩
 ·exact⟨_,_,_,h1⟩
 ·exact⟨_,_,_,h1⟩
 ·exact⟨_,_,_,h1⟩
theorem dL.lt (h:dL w Mut n m p bl l B):∀ k,B k->k<w.heap.size:=by
 rcases h with⟨_,bm,tv,kv,h1,h2,_,_,rfl⟩|⟨_,h1,rfl⟩|⟨_,h1,rfl⟩
 ·rintro k (rfl|hk)
  ·exact aC h1
  ·exact h2.lt k hk
 ·rintro k rfl;exact aC h1
 ·rintro k rfl;exact aC h1
theorem dL.keep (h:dL w Mut n m p bl l B) (hc:Chg Q w w') (hQ:∀ b,Q b->Mut b) (hB:∀ b,B b->¬ Q b) (hm:aV Mut w Mut'):dL w' Mut' n m p bl l B:=by
 rcases h with⟨e,bm,tv,kv,h1,h2,h3,h4,rfl⟩|⟨e,h1,rfl⟩|⟨e,h1,rfl⟩
 ·exact .inl ⟨e,bm,tv,kv,(hc.block _ (aC h1) (hB bl (.inl rfl))).trans h1,h2.chg hc (λk hk=>hB k (.inr hk)),h3.keep hc hQ hm,h4,rfl⟩
 ·exact .inr (.inl ⟨e,(hc.block _ (aC h1) (hB bl rfl)).trans h1,rfl⟩)
 ·exact .inr (.inr ⟨e,(hc.block _ (aC h1) (hB bl rfl)).trans h1,rfl⟩)
end
def SG (n m p:Nat) (l:LkD) (w w':World) (Mut:Nat->Prop) (e:Ending):Prop:=∃ bl B,e=.returned (.pointer (some ⟨bl,0,none⟩))/\Below w.heap.size w w'/\dL w' Mut n m p bl l B/\∀ k,B k->w.heap.size<=k
set_option maxHeartbeats 2000000 in
theorem vJ (bP n m v p:Nat) (ov:Value) (hn:n<=16) (hm:m<=8) (hv1:1<=v) (hv:v<=32) (w:World) (Mut:Nat->Prop) (hP:w.heap[bP]?=some (.cells (ctL n m (aK n) ov) 80 (0,0))) :
  Calls Try.prog 123 #[.pointer (some ⟨bP,0,none⟩),.int .i64 (v:Int),.int .i64 (p:Int)] w λe w'=>SG n m p (dS n m v) w w' Mut e:=by
 have hlt:=aC hP
 obtain⟨L,hL⟩:∃ L,L=aK n:=⟨_,rfl⟩
 have hL9:=bM hn
 rw [<-hL] at hP hL9
 have d0:w.cell? ⟨bP,0,none⟩=some (.int .i64 0):=by rw [aA hP];rfl
 have d1:w.cell? ⟨bP,1,none⟩=some (.int .i64 (n:Int)):=by rw [aA hP];rfl
 have d3:w.cell? ⟨bP,3,none⟩=some (.int .i64 (L:Int)):=by rw [aA hP];rfl
 by_cases h1:v<L
 ·have hl:dS n m v=⟨0,v,⟨eQ m,0,[]⟩,0⟩:=by unfold dS;rw [<-hL,if_pos h1]
  have ND:=Lib.hid (BV bP n m L v ov hn hm hv1 hv w hP)
  have NR:=Lib.hid (λ(u:World)=>BA (aG n m v) m p u)
  have l1:(v:Int)<(L:Int):=by omega
  have Hl:=Lib.hid hl
  clear hP hn hm hv1 hv hL hL9 d0 d1 hl
  go_enter Try.func123,Try.ntmps123
  go_wp2_with (first|(go_at_call 125;refine ND.out.mono ?_;rintro e w1 ⟨rfl,hb1⟩)|(go_at_call 124;refine(NR.out _).mono ?_;rintro e w2 ⟨rfl,hb2,hr2⟩))
  go_ret
  rw [Hl.out]
  have hg:=Gr.new w2 (.cells (gX (.iface 206 (.pointer (some ⟨w1.heap.size+1,0,none⟩))) false 0 0) 212 (0,0))
  have hnew:=heap_alloc_new w2 (.cells (gX (.iface 206 (.pointer (some ⟨w1.heap.size+1,0,none⟩))) false 0 0) 212 (0,0))
  have s1:=hb1.size;have s2:=hb2.size
  refine⟨w2.heap.size,λk=>k=w2.heap.size∨bC (w1.heap.size+1) (.slice none 0 0) k,rfl,Gr.trans (Gr.trans hb1 hb2) hg,.inl ⟨rfl,w1.heap.size+1,.slice none 0 0,.slice none 0 0,hnew,hr2.grown hg,Lst.nil _ _,nH.init m,rfl⟩,?_⟩
  rintro k (rfl|hk)
  ·omega
  ·rw [rR hk];omega
 have l1:¬ (v:Int)<(L:Int):=by omega
 have w1:IntKind.i64.wrap ((v:Int) - (L:Int))=((v - L:Nat):Int):=by rw [IntKind.wrap_i64];omega
 by_cases h2:v - L<n
 ·have hl:dS n m v=⟨1,v,⟨eQ m,0,[]⟩,0⟩:=by unfold dS;rw [<-hL,if_neg h1,if_pos h2]
  have l2:((v - L:Nat):Int)<(n:Int):=by omega
  have w2:IntKind.i64.wrap (0+(v:Int))=(v:Int):=by rw [IntKind.wrap_i64];omega
  have w3:IntKind.i64.wrap (v:Int)=(v:Int):=by rw [IntKind.wrap_i64];omega
  have Hl:=Lib.hid (show dS n m v=⟨1,v,⟨eQ m,0,[]⟩,0⟩/\aK n=L from⟨hl,hL.symm⟩)
  obtain⟨a,ha⟩:∃ a,a=v - L:=⟨_,rfl⟩
  rw [<-ha] at w1 l2
  have Ha:=Lib.hid ha
  clear hP hn hm hv1 hv hL9 hl h2 ha hL h1
  go_enter Try.func123,Try.ntmps123
  go_wp2_with fail
  go_quiet (fail)
  obtain⟨wb,hwb⟩:∃ wb,wb=w.drewN nq:=⟨_,rfl⟩
  have hgq:Below w.heap.size w wb:=by rw [hwb];exact below_drewN (Gr.refl w) nq
  have hbz:wb.heap.size=w.heap.size:=by rw [hwb];rfl
  rw [<-hwb]
  have v0:=(hgq.cell (p:=⟨bP,0,none⟩) hlt).trans d0
  have v3:=(hgq.cell (p:=⟨bP,3,none⟩) hlt).trans d3
  have Hgq:=Lib.hid hgq;have Hbz:=Lib.hid hbz
  clear hwb hgq hbz d0 d1 d3
  go_upto_region 4 with fail
  clear l2 l1
  go_region_held3 (λu=>u.cell? ⟨bP,0,none⟩=some (.int .i64 0)/\u.cell? ⟨bP,3,none⟩=some (.int .i64 (L:Int))) (first|exact⟨v0,v3⟩|exact⟨(World.cell?_alloc_lt _ _ _ (World.block_lt_of_cell? _ _ v0)).trans v0,(World.cell?_alloc_lt _ _ _ (World.block_lt_of_cell? _ _ v3)).trans v3⟩|go_keep) (fail)
  all_goals
   go_wp2
   go_ret
   rw [Hl.out.1]
   have hnew:=heap_alloc_new wb.drew (.cells (gX .nilIface true a 0) 212 (0,0))
   refine⟨wb.heap.size,λk=>k=wb.heap.size,rfl,Gr.trans Hgq.out (Gr.trans (Gr.refl wb).drew (Gr.new _ _)),.inr (.inl ⟨rfl,by rw [Hl.out.2,<-Ha.out];exact hnew,rfl⟩),?_⟩
   rintro k rfl
   rw [Hbz.out];exact Nat.le_refl _
 ·have hl:dS n m v=⟨2,v,⟨eQ m,0,[]⟩,0⟩:=by unfold dS;rw [<-hL,if_neg h1,if_neg h2]
  have l2:¬ ((v - L:Nat):Int)<(n:Int):=by omega
  have Hl:=Lib.hid hl
  clear hP hn hm hv1 hv hL hL9 hl h2 h1 d0
  obtain⟨a,ha⟩:∃ a,a=v - L:=⟨_,rfl⟩
  rw [<-ha] at w1 l2
  clear ha
  go_enter Try.func123,Try.ntmps123
  go_wp2_with fail
  go_quiet (fail)
  have hgq:Below w.heap.size w (w.drewN nq):=below_drewN (Gr.refl w) nq
  have Hgq:=Lib.hid hgq
  clear hgq
  go_wp2
  go_ret
  rw [Hl.out]
  have hnew:=heap_alloc_new (w.drewN nq) (.cells (gX .nilIface false 0 0) 212 (0,0))
  refine⟨w.heap.size,λk=>k=w.heap.size,rfl,Gr.trans Hgq.out (Gr.new _ _),.inr (.inr ⟨rfl,hnew,rfl⟩),?_⟩
  rintro k rfl
  exact Nat.le_refl _
theorem CV (n m p bl:Nat) (l:LkD) (w:World) (Mut B:Nat->Prop) (h:dL w Mut n m p bl l B) :
  Calls Try.prog 140 #[.pointer (some ⟨bl,0,none⟩)] w λe w'=>e=.returned (.bool (decide (l.kind=2)))/\Below w.heap.size w w':=by
 rcases h with⟨e,bm,tv,kv,h1,_⟩|⟨e,h1,_⟩|⟨e,h1,_⟩
 ·have d0:w.cell? ⟨bl,0,none⟩=some (.iface 206 (.pointer (some ⟨bm,0,none⟩))):=by rw [aA h1];rfl
  rw [e]
  clear h1 e
  go_enter Try.func140,Try.ntmps140
  go_wp2
  go_ret
  exact⟨rfl,Gr.refl _⟩
 ·have d0:w.cell? ⟨bl,0,none⟩=some .nilIface:=by rw [aA h1];rfl
  have d1:w.cell? ⟨bl,1,none⟩=some (.bool true):=by rw [aA h1];rfl
  rw [e]
  clear h1 e
  go_enter Try.func140,Try.ntmps140
  go_wp2
  go_ret
  exact⟨rfl,Gr.refl _⟩
 ·have d0:w.cell? ⟨bl,0,none⟩=some .nilIface:=by rw [aA h1];rfl
  have d1:w.cell? ⟨bl,1,none⟩=some (.bool false):=by rw [aA h1];rfl
  rw [e]
  clear h1 e
  go_enter Try.func140,Try.ntmps140
  go_wp2
  go_ret
  exact⟨rfl,Gr.refl _⟩
end
section
open Go.RowKit
def DF (w w':World) (Mut B:Nat->Prop) (I:dG) (N:Nat) (wd':WD) (n m p bl:Nat) (l':LkD) (done:Bool) (e:Ending):Prop:=
 e=.returned (.bool done)/\∃ B',dL w' (aT Mut B B') n m p bl l' B'/\aM w' (aT Mut B B') I N wd'/\Chg (λk=>aW I k∨B k) w w'/\∀ k,B' k->B k∨w.heap.size<=k
theorem jS {w':World} {Mut B B' Bw Bw':Nat->Prop} {I:dG} {N:Nat} {wd:WD} (h:aM w' (aT Mut Bw Bw') I N wd) (h1:∀ k,Bw k->B k) (h2:∀ k,B' k->Bw' k∨(Mut k/\¬ Bw k)) (h3:∀ k,B' k->k<w'.heap.size) (h4:∀ k,aW I k->Mut k/\¬ B k):aM w' (aT Mut B B') I N wd:=by
 refine h.keep (S:=noB) (Chg.refl _ _) (λ_ h=>h.elim) (λ_ h=>h.elim) ?_ ?_ (λk hk=>.inl (h4 k hk))
 ·rintro k (⟨a,b⟩|a)
  ·exact .inl (.inl ⟨a,λx=>b (h1 k x)⟩)
  ·rcases h2 k a with x|x
   ·exact .inl (.inr x)
   ·exact .inl (.inl x)
 ·rintro k (⟨a,b⟩|a)
  ·exact h.low k (.inl ⟨a,λx=>b (h1 k x)⟩)
  ·exact h3 k a
theorem fG {w w':World} {Mut:Nat->Prop} {I:dG} {N:Nat} {wd:WD} {S:Nat->Prop} (h:aM w Mut I N wd) (hc:Chg S w w') (h1:∀ b,S b->Mut b/\¬ aW I b):aM w' Mut I N wd:=
 h.keep hc (λb hb=>(h1 b hb).1) (λb hb=>(h1 b hb).2) (aV.refl _ _) (λb hb=>Nat.lt_of_lt_of_le (h.low b hb) hc.size) h.muts
set_option maxHeartbeats 8000000 in
theorem pE (n m p bl:Nat) (l:LkD) (hn:n<=16) (hm:m<=8) (hv:l.v<=32) (w:World) (Mut B:Nat->Prop) (I:dG) (N:Nat) (wd:WD) (hw:aM w Mut I N wd) (h:dL w Mut n m p bl l B) (hB:∀ k,B k->Mut k/\¬ aW I k) (hk2:l.kind≠2) (hl:l.kind=0->0<l.x.y.left) (hT:iT wd) (hnow:wd.now<=1000000) (hp:p<16) (hcn:wd.mem.c.all+1<1000000000000) :
  Calls Try.prog 143 #[.pointer (some ⟨bl,0,none⟩),.pointer (some ⟨I.bW,0,none⟩)] w λe w'=>DF w w' Mut B I N (aI n m p wd l).1 n m p bl (aI n m p wd l).2.1 (aI n m p wd l).2.2 e:=by
 have hbase:=oU (v:=l.v) hn hm hv
 rcases h with⟨e0,bm,tv,kv,h1,h2,h3,h4,rfl⟩|⟨e0,h1,rfl⟩|⟨e0,_⟩
 ·have hBm:∀ k,bC bm tv k->Mut k/\¬ aW I k:=λk hk=>hB k (.inr hk)
  have hbl:=hB bl (.inl rfl)
  have hne:∀ k,bC bm tv k->k≠bl:=λk hk e=>by
   rcases hk with rfl|hk
   ·subst e
    have h9:=h2.blk
    rw [h1] at h9
    exact absurd (Obj.cells.inj (Option.some.inj h9)).2.1 (by decide)
   ·subst e
    exact vU h2.row h1 (by decide) hk
  have RS:=Lib.hid (LD l.x hw h2 h3 hBm h4 (hl e0) (by omega) hbase.2 hT hnow hp hcn)
  have hM:=EP ⟨bm,0,none⟩
  have hA:=yX ⟨bm,0,none⟩
  have hst:aI n m p wd l=(if (rdStep (aG n m l.v) p wd l.x).2.2=true then ((rdStep (aG n m l.v) p wd l.x).1,{ l with x:=(rdStep (aG n m l.v) p wd l.x).2.1,val:=(rdStep (aG n m l.v) p wd l.x).2.1.val },true) else ((rdStep (aG n m l.v) p wd l.x).1,{ l with x:=(rdStep (aG n m l.v) p wd l.x).2.1 },false)):=if_neg (by omega)
  rw [hst]
  obtain⟨R,hR⟩:∃ R,R=rdStep (aG n m l.v) p wd l.x:=⟨_,rfl⟩
  rw [<-hR] at RS ⊢
  obtain⟨wd',x',dn⟩:=R
  simp only at RS
  have d0:w.cell? ⟨bl,0,none⟩=some (.iface 206 (.pointer (some ⟨bm,0,none⟩))):=by rw [aA h1];rfl
  have d1:w.cell? ⟨bl,1,none⟩=some (.bool false):=by rw [aA h1];rfl
  have hok:=h4.step (aG n m l.v) p wd (hl e0)
  rw [<-hR] at hok
  have H1:=Lib.hid h1;have Hw:=Lib.hid hw;have Hbl:=Lib.hid hbl;have Hne:=Lib.hid hne;have HBm:=Lib.hid hBm;have Hok:=Lib.hid (show nH m x' from hok);have He0:=Lib.hid e0
  clear h1 h2 h3 h4 hB hw hl hT hnow hp hcn hbase hst hR hok hbl hne hBm hk2 hn hm hv e0
  have m1:=hM.ahead;have m2:=hM.meth;have m3:=hM.enter
  have a1:=hA.ahead;have a2:=hA.meth;have a3:=hA.enter
  go_enter Try.func143,Try.ntmps143
  go_wp2_with fail
  refine RS.out.mono ?_
  rintro e w1 ⟨rfl,tv',kv',hto,hlst⟩
  have qV:=(hto.chg.block bl (aC H1.out) (λe=>e.elim Hbl.out.2 (λe=>Hne.out bl e rfl))).trans H1.out
  have hsub:=hto.sub
  have hne':∀ k,bC bm tv' k->k≠bl:=λk hk e=>by
   rcases hto.sub k hk with h9|h9
   ·exact Hne.out k h9 e
   ·have:=aC H1.out;omega
  cases dn with
  | false=>
   have F:=Lib.hid (show DF w w1 Mut (λk=>k=bl∨bC bm tv k) I N wd' n m p bl { l with x:=x' } false (.returned (.bool false)) from by
    refine⟨rfl,λk=>k=bl∨bC bm tv' k,.inl ⟨He0.out,bm,tv',kv',qV,hto.way,hlst.keep (S:=noB) (Chg.refl _ _) (λ_ h=>h.elim) (λk hk=>?_),Hok.out,rfl⟩,jS hto.world (λk hk=>.inr hk) (λk hk=>?_) (λk hk=>?_) (λk hk=>⟨Hw.out.muts k hk,?_⟩),hto.chg.mono (λk _ hk=>hk.elim .inl (λh=>.inr (.inr h))),λk hk=>?_⟩
    ·rcases hk with⟨x,y⟩|x|x
     ·exact .inl (.inl ⟨x,λz=>y (.inr z)⟩)
     ·rw [x];exact .inl (.inl ⟨Hbl.out.1,λz=>Hne.out bl z rfl⟩)
     ·exact .inl (.inr x)
    ·rcases hk with x|x
     ·rw [x];exact .inr ⟨Hbl.out.1,λz=>Hne.out bl z rfl⟩
     ·exact .inl x
    ·rcases hk with x|x
     ·rw [x];exact aC qV
     ·exact hto.way.lt k x
    ·rintro(x|x)
     ·rw [x] at hk;exact Hbl.out.2 hk
     ·exact(HBm.out k x).2 hk
    ·rcases hk with x|x
     ·exact .inl (.inl x)
     ·exact(hto.sub k x).imp_left .inr)
   clear hto hlst qV hsub hne'
   go_wp2
   go_ret
   exact F.out
  | true=>
   obtain⟨ka,kc,rfl⟩:∃ a c,kv'=.slice a x'.ky.length c:=by obtain⟨a,c,e,_⟩:=hlst;exact⟨a,c,e⟩
   have AN:=Lib.hid (FB x'.val ka x'.ky.length kc hto.way)
   have x0:w1.cell? ⟨bl,0,none⟩=some (.iface 206 (.pointer (some ⟨bm,0,none⟩))):=by rw [aA qV];rfl
   have Hto:=Lib.hid hto;have Hlst:=Lib.hid hlst;have Hbl1:=Lib.hid qV;have Hne':=Lib.hid hne'
   clear hto hlst qV hsub hne'
   unfold lZ at AN
   go_wp2_with fail
   refine AN.out.mono ?_
   rintro e w2 ⟨rfl,hb2⟩
   have FT:=(hb2.block bl (aC Hbl1.out)).trans Hbl1.out
   have x3:w2.cell? ⟨bl,3,none⟩=some (.int .u64 (l.val:Int)):=by rw [aA FT];rfl
   have xf:=aB FT 3
   have xl:=aC FT
   obtain⟨w3,hw3⟩:∃ w3,w3=w2.alloc (.cells #[.int .i64 0,.int .u64 (x'.val:Int),.slice none 0 0] 42):=⟨_,rfl⟩
   have hb3:Below w2.heap.size w2 w3:=by rw [hw3];exact Gr.new _ _
   have IV:=(hb3.block bl xl).trans FT
   obtain⟨w4,hw4⟩:∃ w4,w4=w3.setCell ⟨bl,3,none⟩ (.int .u64 (x'.val:Int)):=⟨_,rfl⟩
   have PR:w4.heap[bl]?=some (.cells (gX (.iface 206 (.pointer (some ⟨bm,0,none⟩))) false 0 x'.val) 212 (0,0)):=by rw [hw4,aH IV];rfl
   have hc4:Chg (λk=>k=bl) w3 w4:=by rw [hw4];exact(Chg.refl (λk=>k=bl) w3).setCell (p:=⟨bl,3,none⟩) (.inl rfl) _
   have hc24:Chg (λk=>k=bl) w1 w4:=(Chg.of_below (S:=λk=>k=bl) (Gr.trans hb2 hb3)).trans hc4
   have F:=Lib.hid (show DF w w4 Mut (λk=>k=bl∨bC bm tv k) I N wd' n m p bl { l with x:=x',val:=x'.val } true (.returned (.bool true)) from by
    have hto:=Hto.out;have hlst:=Hlst.out
    have qV:=Hbl1.out
    have hWd:aM w1 (aT Mut (λk=>k=bl∨bC bm tv k) (λk=>k=bl∨bC bm tv' k)) I N wd':=jS hto.world (λk hk=>.inr hk) (λk hk=>by
     rcases hk with x|x
     ·rw [x];exact .inr ⟨Hbl.out.1,λz=>Hne.out bl z rfl⟩
     ·exact .inl x) (λk hk=>by
     rcases hk with x|x
     ·rw [x];exact aC qV
     ·exact hto.way.lt k x) (λk hk=>⟨Hw.out.muts k hk,by
     rintro(x|x)
     ·rw [x] at hk;exact Hbl.out.2 hk
     ·exact(HBm.out k x).2 hk⟩)
    refine⟨rfl,λk=>k=bl∨bC bm tv' k,.inl ⟨He0.out,bm,tv',_,PR,hto.way.chg hc24 (λk hk e=>Hne'.out k hk e),?_,Hok.out,rfl⟩,fG hWd hc24 (λk e=>by rw [show k=bl from e];exact⟨.inr (.inl rfl),Hbl.out.2⟩),(hto.chg.mono (λk _ hk=>hk.elim .inl (λh=>.inr (.inr h)))).trans (hc24.mono (λk _ e=>.inr (.inl e))),λk hk=>?_⟩
    ·refine hlst.keep hc24 (λk e=>by rw [show k=bl from e];exact .inl ⟨Hbl.out.1,λz=>Hne.out bl z rfl⟩) (λk hk=>?_)
     rcases hk with⟨x,y⟩|x|x
     ·exact .inl (.inl ⟨x,λz=>y (.inr z)⟩)
     ·rw [x];exact .inl (.inl ⟨Hbl.out.1,λz=>Hne.out bl z rfl⟩)
     ·exact .inl (.inr x)
    ·rcases hk with x|x
     ·exact .inl (.inl x)
     ·exact(hto.sub k x).imp_left .inr)
   have Hw3:=Lib.hid hw3;have Hw4:=Lib.hid hw4
   have y3:w3.cell? ⟨bl,3,none⟩=some (.int .u64 (l.val:Int)):=by rw [aA IV];rfl
   have yf:=aB IV 3
   have yl:=aC IV
   have z1:w3.cell? ⟨w2.heap.size,1,none⟩=some (.int .u64 (x'.val:Int)):=by rw [hw3,eF];rfl
   clear hb2 FT hb3 IV PR hc4 hc24 hw3 hw4 x0 x3 xf xl
   go_upto_region 7 with fail
   rw [<-Hw3.out]
   go_wp2
   rw [<-Hw4.out]
   go_ret
   exact F.out
 ·have hst:aI n m p wd l=(dI wd (l.v - aK n),{ l with val:=gD wd (l.v - aK n) },true):=if_pos e0
  rw [hst]
  obtain⟨a,ha⟩:∃ a,a=l.v - aK n:=⟨_,rfl⟩
  rw [<-ha] at h1 ⊢
  have hbl:=hB bl rfl
  obtain⟨s1,s2,s3⟩:=kF hw
  have nb:¬ bY I.bm I.bw bl:=λh=>hbl.2 (s3 bl h).1
  obtain⟨mks,hwb,_,_⟩:=hw.blk
  have d0:w.cell? ⟨I.bW,0,none⟩=some (.pointer (some ⟨I.bm,0,none⟩)):=by rw [aA hwb];exact iV
  have d1:w.cell? ⟨bl,1,none⟩=some (.bool true):=by rw [aA h1];rfl
  have d2:w.cell? ⟨bl,2,none⟩=some (.int .i64 (a:Int)):=by rw [aA h1];rfl
  have Rd:=Lib.hid (λ(u:World) (h:Chg noB w u)=>zB I.bm I.bw wd.mem (a:Int) u (hw.mem.chg h (λh=>h) (λ_ _ h=>h)) hcn)
  obtain⟨g,hg⟩:∃ g,g=gD wd a:=⟨_,rfl⟩
  have hg2:(cZ wd.mem (a:Int)).2=g:=hg.symm
  rw [hg2] at Rd
  rw [<-hg]
  have H1:=Lib.hid h1;have Hw:=Lib.hid hw;have Hbl:=Lib.hid hbl;have Nb:=Lib.hid nb;have S2:=Lib.hid s2;have He0:=Lib.hid e0;have Ha:=Lib.hid ha
  clear h1 hw hB hl hT hnow hp hcn hbase hst hbl nb s1 s2 s3 hwb hk2 hn hm hv e0 ha hg hg2
  go_enter Try.func143,Try.ntmps143
  go_upto_region 2 with fail
  clear d1
  go_region_held3 (λu=>u.cell? ⟨I.bW,0,none⟩=some (.pointer (some ⟨I.bm,0,none⟩))/\u.cell? ⟨bl,2,none⟩=some (.int .i64 (a:Int)))
   (first|exact⟨d0,d2⟩|exact⟨z0,z2⟩|exact⟨aY ((Chg.refl (λk=>k=bl) w6).setCell (p:=⟨bl,3,none⟩) (.inl rfl) _) Nw0 z0,k2⟩)
   (first|(go_at_call 144;refine(Rd.out _ ?_).mono ?_;(exact(Chg.refl _ _).drew);rintro e w6 ⟨rfl,hm1,hc1⟩;have hc1':Chg (bY I.bm I.bw) w w6:=((Chg.refl _ w).drew).trans hc1;have z0:=aY hc1' S2.out d0;have z2:=aY hc1' Nb.out d2;have DI:=(hc1'.block bl (aC H1.out) Nb.out).trans H1.out;have z3:w6.cell? ⟨bl,3,none⟩=some (.int .u64 (l.val:Int)):=(by rw [aA DI];rfl);have zf:=aB DI 3;have zl:=aC DI;have Nw0:¬ (I.bW=bl):=(λe=>Hbl.out.2 (.inl e.symm));have k2:(w6.setCell ⟨bl,3,none⟩ (.int .u64 (g:Int))).cell? ⟨bl,2,none⟩=some (.int .i64 (a:Int)):=(by rw [aA (aH DI _ _)];rfl)))
  obtain⟨iR,jC⟩:=Hw.out.mems hc1' hm1
  obtain⟨w7,hw7⟩:∃ w7,w7=w6.setCell ⟨bl,3,none⟩ (.int .u64 (g:Int)):=⟨_,rfl⟩
  have QA:w7.heap[bl]?=some (.cells (gX .nilIface true a g) 212 (0,0)):=by rw [hw7,aH DI];rfl
  have KF:Chg (λk=>k=bl) w6 w7:=by rw [hw7];exact(Chg.refl (λk=>k=bl) w6).setCell (p:=⟨bl,3,none⟩) (.inl rfl) _
  have F:=Lib.hid (show DF w w7 Mut (λk=>k=bl) I N (dI wd a) n m p bl { l with val:=g } true (.returned (.bool true)) from by
   have SA:=fG iR KF (λk e=>by rw [show k=bl from e];exact Hbl.out)
   refine⟨rfl,λk=>k=bl,.inr (.inl ⟨He0.out,by show w7.heap[bl]?=some (.cells (gX .nilIface true (l.v - aK n) g) _ _);rw [<-Ha.out];exact QA,rfl⟩),?_,(jC.mono (λ_ _ h=>.inl h)).trans (KF.mono (λ_ _ e=>.inr e)),λk hk=>.inl hk⟩
   rw [kG (λk hk=>by rw [show k=bl from hk];exact Hbl.out.1)]
   exact SA)
  have Hw7:=Lib.hid hw7
  clear iR jC hc1 hc1' hm1 DI z0 z2 z3 zf zl k2 Nw0 QA KF hw7 d0 d2
  go_wp2
  rw [<-Hw7.out]
  go_ret
  exact F.out
 ·exact absurd e0 hk2
end
end Go.Proofs.Ytifhldnmcdbpfaa
