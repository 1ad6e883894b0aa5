/- Layer 6: how a play begins: Check, Begin. -/
import Derived.Test.YtifhldnmcdbpfaaW14
set_option maxRecDepth 100000
set_option linter.unusedVariables false
set_option linter.unusedSimpArgs false
set_option linter.unnecessarySimpa false
namespace Go.Proofs.Ytifhldnmcdbpfaa
open Go.RowKit
variable {S:Sys} {R:Real S}
def checkN (n:Int) (calls:List aF) (np:Nat):Int:=if n<1∨16<n then 1 else if 1000<calls.length∨65536<np then 3 else fI n calls
theorem uM (n:Int) (calls:List aF) (np:Nat) (ca pa:Option Addr) (cc pc:Nat) (w:World) (hcs:bS w ca calls.length 6 (gJ calls)) (hp:np<=maxLen) (hwf:∀ x∈calls,(Lit.int .i64 x.thread).wf=true) :
  Calls Try.prog 25 #[.int .i64 n,.slice ca calls.length cc,.slice pa np pc] w λe w'=>e=.returned (.int .i64 (checkN n calls np))/\Below w.heap.size w w':=by
 have N:=Lib.hid (BU n calls ca cc w hcs hwf)
 have hm:=hcs.1
 unfold maxLen at hm hp
 clear hcs hwf
 by_cases h1:n<1
 ·have hk:checkN n calls np=1:=by unfold checkN;rw [if_pos (.inl h1)]
  rw [hk];clear hk
  go_enter Try.func25,Try.ntmps25
  go_wp2
  go_ret
  exact⟨rfl,Gr.refl _⟩
 by_cases h2:16<n
 ·have hk:checkN n calls np=1:=by unfold checkN;rw [if_pos (.inr h2)]
  rw [hk];clear hk
  go_enter Try.func25,Try.ntmps25
  go_wp2
  go_ret
  exact⟨rfl,Gr.refl _⟩
 by_cases h3:(1000:Int)<(calls.length:Int)
 ·have hk:checkN n calls np=3:=by unfold checkN;rw [if_neg (by omega),if_pos (by omega)]
  rw [hk];clear hk
  go_enter Try.func25,Try.ntmps25
  go_wp2
  go_ret
  exact⟨rfl,Gr.refl _⟩
 by_cases h4:(65536:Int)<(np:Int)
 ·have hk:checkN n calls np=3:=by unfold checkN;rw [if_neg (by omega),if_pos (by omega)]
  rw [hk];clear hk
  go_enter Try.func25,Try.ntmps25
  go_wp2
  go_ret
  exact⟨rfl,Gr.refl _⟩
 have hk:checkN n calls np=fI n calls:=by unfold checkN;rw [if_neg (by omega),if_neg (by omega)]
 rw [hk];clear hk
 go_enter Try.func25,Try.ntmps25
 go_wp2_with fail
 refine N.out.mono ?_
 rintro e w1 (⟨h0,rfl,hb⟩|⟨h0,rfl,hb,M,hl⟩)
 ·have Hb:=Lib.hid hb
  clear hb h0
  go_wp2
  go_ret
  exact⟨rfl,Hb.out⟩
 ·have Hb:=Lib.hid hb;have H0:=Lib.hid h0
  clear hb hl h0
  go_wp2
  go_ret
  exact⟨by rw [H0.out];rfl,Hb.out⟩
theorem lI {α:Type} {n p:Nat} {x d:α} (h:p<n):(List.replicate n x).getD p d=x:=by simp [List.getD_eq_getElem?_getD,h]
theorem iX {α:Type} {n p:Nat} {x:α}:(List.replicate n x).getD p x=x:=by
 simp only [List.getD_eq_getElem?_getD,List.getElem?_replicate];split<;>rfl
structure RL (R:Real S) (X:Nat->Prop) (w:World) (o0:S.ω) (n:Int) (calls:List aF) (ws:List Nat) (ov cv wv:Value):Prop where
 cs:∃ ca cc,cv=.slice ca calls.length cc/\bS w ca calls.length 6 (gJ calls)/\(0<calls.length->∀ b off,ca=some ⟨b,off,none⟩->¬ X b)
 ok:∀ x∈calls,mY x
 objs:∃ bo oo oc,ov=.slice (some ⟨bo,oo,none⟩) 1 oc/\w.cell? ⟨bo,oo,none⟩=some (.iface R.T R.x)/\¬ X bo
 wsl:∃ wa wc,wv=.slice wa ws.length wc/\bS w wa ws.length 1 (oV ws)/\(wa=none->wc=0)
 wlen:ws.length<=65536
 wval:∀ x∈ws,x<18446744073709551616
 noOB:∀ b,¬ R.OB b
 orep:∀(u:World) (M:Nat->Prop),R.ORep u M o0
 oinv:R.inv o0 (dK ws)
 xlt:∀ b,X b->b<w.heap.size
structure jU (R:Real S) (X:Nat->Prop) (w:World) (o0:S.ω) (n:Int) (calls:List aF) (ws:List Nat) (ov cv wv:Value):Prop where
 cs:∃ ca cc,cv=.slice ca calls.length cc/\bS w ca calls.length 6 (gJ calls)/\(0<calls.length->∀ b off,ca=some ⟨b,off,none⟩->¬ X b)
 ok:∀ x∈calls,mY x
 objs:∃ bo oo oc,ov=.slice (some ⟨bo,oo,none⟩) 1 oc/\w.cell? ⟨bo,oo,none⟩=some (.iface R.T R.x)/\¬ X bo
 wsl:∃ wa wc,wv=.slice wa ws.length wc/\bS w wa ws.length 1 (oV ws)/\(wa=none->wc=0)
 wlen:ws.length<=65536
 wval:∀ x∈ws,x<18446744073709551616
 ob:∀ b,R.OB b->X b
 orep:∀(u:World) (M:Nat->Prop),Below w.heap.size w u->(∀ b,R.OB b->M b)->R.ORep u M o0
 oinv:R.inv o0 (dK ws)
 xlt:∀ b,X b->b<w.heap.size
theorem jU.grown {X X':Nat->Prop} {w w':World} {o0:S.ω} {n:Int} {calls:List aF} {ws:List Nat} {ov cv wv:Value} (h:jU R X w o0 n calls ws ov cv wv) (hb:Below w.heap.size w w') (hX:∀ b,X' b->X b∨(w.heap.size<=b/\b<w'.heap.size)) (hI:∀ b,X b->X' b):jU R X' w' o0 n calls ws ov cv wv:=by
 obtain⟨⟨ca,cc,h1,h2,h2x⟩,h3,⟨bo,oo,oc,h4,h5,h5x⟩,⟨wa,wc,h6,h7,h8⟩,h9,h10,h11,h12,h13,h14⟩:=h
 have hlt:=World.block_lt_of_cell? _ _ h5
 refine⟨⟨ca,cc,h1,h2.grown hb,λhp b off e hx=>?_⟩,h3,⟨bo,oo,oc,h4,(hb.cell hlt).trans h5,λhx=>?_⟩,⟨wa,wc,h6,h7.grown hb,h8⟩,h9,h10,λb kQ=>hI b (h11 b kQ),λu M hu hM=>h12 u M (Gr.trans hb hu) hM,h13,λb hx=>?_⟩
 ·obtain⟨b0,yO,e0,hb0⟩:=h2.lt hp
  rw [e0] at e;cases e
  rcases hX _ hx with hy|hy
  ·exact h2x hp _ _ e0 hy
  ·omega
 ·simp only at hlt
  rcases hX _ hx with hy|hy
  ·exact h5x hy
  ·omega
 ·rcases hX _ hx with hy|hy
  ·exact Nat.lt_of_lt_of_le (h14 b hy) hb.size
  ·exact hy.2
def nG (bm bt:Nat):Array Value:=bF bm 0 (List.replicate 16 0) (List.replicate 16 (.slice none 0 0)) bt
def vO (bW bl:Nat) (ov cv:Value):Array Value:=aN bW bl ov cv 0 (List.replicate 16 (.nilIface,0)) (.slice none 0 0) 0
theorem FJ {X:Nat->Prop} {w w1 w2 w5:World} {o0:S.ω} {n:Int} {calls:List aF} {ws:List Nat} {ov cv wv:Value} {bm:Nat} {bw:Option Nat} {M:Int->Value} (h:jU R X w o0 n calls ws ov cv wv) (hn:fI n calls=0)
  (hm:cB w1 bm bw ⟨ws,c0⟩) (hb1:Below w.heap.size w w1) (hq1:w.heap.size<=bm) (hq2:∀ q,bw=some q->w.heap.size<=q)
  (hb2:Below w1.heap.size w1 w2) (hl:fC w2 (λb=>w1.heap.size<=b/\b<w2.heap.size) (w1.heap.size+1) w1.heap.size calls.length M (qF calls (List.replicate calls.length false)) (calls.length:Int))
  (h5:w5=((w2.alloc (.map #[] 0)).alloc (.cells (nG bm w2.heap.size) 121)).alloc (.cells (vO (w2.heap.size+1) (w1.heap.size+1) ov cv) 128)) :
  Below w.heap.size w w5/\sU R calls w5 ⟨⟨w2.heap.size+1,bm,w2.heap.size,bw⟩,w2.heap.size+2,w1.heap.size+1,w1.heap.size,X⟩ ov cv w.heap.size (bT S o0 ws calls):=by
 have lF:Below w2.heap.size w2 w5:=by rw [h5];exact Gr.alloc (Gr.alloc (Gr.new _ _) _) _
 have QT:Below w1.heap.size w1 w5:=Gr.trans hb2 lF
 have FK:Below w.heap.size w w5:=Gr.trans hb1 QT
 have hX:=h.xlt
 have s1:=hb1.size;have s2:=hb2.size
 have s5:w5.heap.size=w2.heap.size+3:=by rw [h5];simp
 have hllt:=aC hl.line
 have hmlt:=hm.lt;have hmlow:=hm.low
 obtain⟨z1,z2,z3,z4⟩:=iL hn
 have hA:(w2.alloc (.map #[] 0)).heap.size=w2.heap.size+1:=by simp
 have hB:((w2.alloc (.map #[] 0)).alloc (.cells (nG bm w2.heap.size) 121)).heap.size=w2.heap.size+2:=by simp
 have kW:w5.heap[w2.heap.size+1]?=some (.cells (nG bm w2.heap.size) 121 (0,0)):=by
  rw [h5,Below.heap_alloc _ _ _ (by rw [hB];omega)]
  have:=heap_alloc_new (w2.alloc (.map #[] 0)) (.cells (nG bm w2.heap.size) 121 (0,0))
  rw [hA] at this;exact this
 have kP:w5.heap[w2.heap.size+2]?=some (.cells (vO (w2.heap.size+1) (w1.heap.size+1) ov cv) 128 (0,0)):=by
  rw [h5]
  have:=heap_alloc_new ((w2.alloc (.map #[] 0)).alloc (.cells (nG bm w2.heap.size) 121)) (.cells (vO (w2.heap.size+1) (w1.heap.size+1) ov cv) 128 (0,0))
  rw [hB] at this;exact this
 have kT:MapAt w5 w2.heap.size 0 (λ_=>.slice none 0 0):=by
  refine(MapAt.made w2).block ?_
  rw [h5,Below.heap_alloc _ _ _ (by rw [hB];omega),Below.heap_alloc _ _ _ (by rw [hA];omega)]
 obtain⟨I,hI⟩:∃ I:dG,I=⟨w2.heap.size+1,bm,w2.heap.size,bw⟩:=⟨_,rfl⟩
 have hWS:∀ b,aW I b->(b=w2.heap.size+1∨b=bm∨b=w2.heap.size∨some b=bw):=λb hb=>by rw [hI] at hb;exact hb
 have hWlow:∀ b,aW I b->w.heap.size<=b/\b<w5.heap.size/\(b<w1.heap.size∨b=w2.heap.size∨b=w2.heap.size+1):=by
  intro b hb
  rcases hWS b hb with rfl|rfl|rfl|e
  ·omega
  ·omega
  ·omega
  ·have:=hq2 b e.symm;have:=hmlow b e.symm;omega
 refine⟨FK,{ Mut:=λb=>(aW I b∨b=w2.heap.size+2∨b=w1.heap.size+1∨b=w1.heap.size)∨X b,MB:=λ_=>noB,hs:=List.replicate 16 (.nilIface,0),ev:=.slice none 0 0,ers:=[],turn:=0,N:=0 },?_⟩
 rw [<-hI]
 have hMlow:∀ b,(aW I b∨b=w2.heap.size+2∨b=w1.heap.size+1∨b=w1.heap.size)->w.heap.size<=b/\b<w5.heap.size:=by
  rintro b (hb|rfl|rfl|rfl)
  ·have:=hWlow b hb;omega
  ·omega
  ·omega
  ·omega
 have hIW:I.bW=w2.heap.size+1:=by rw [hI]
 have hIm:I.bm=bm:=by rw [hI]
 have hIt:I.bt=w2.heap.size:=by rw [hI]
 have hIb:I.bw=bw:=by rw [hI]
 refine⟨?_,by simp,by simp [oL,bT],λp hp=>?_,?_,h.orep _ _ FK (λb hb=>.inr (h.ob b hb)),h.oinv,⟨calls.length,M,calls.length,?_,?_,?_⟩,by simp [bT],⟨World.ownsRow_nil _ _ _ _,rfl,λi hi=>by simp [bT] at hi⟩,by simp [bT],λp hp m hm=>?_,?_,λb hb=>?_,λb hb hx=>by { have h8:=hX b (h.ob b hb);have h9:=(hWlow b hx).1;omega },?_,λp b _ hb=>hb.elim,λp q b _ _ _ hb=>hb.elim,?_,by simp [bT,dK],by simp [bT],?_,λi=>by simp [bT,jY],λb hb=>⟨.inr hb,hX b hb⟩⟩
 ·rw [hIW];exact kP
 ·rw [fT]
  show gH R w5 _ noB p ((List.replicate 16 ((.nilIface:Value),0)).getD p (undef,0)) (((List.replicate 16 ((none:Option S.σ),0)).getD p (none,0)).1.map Mh.run,((List.replicate 16 ((none:Option S.σ),0)).getD p (none,0)).2)
  rw [lI hp,lI hp]
  exact⟨rfl,rfl⟩
 ·refine⟨⟨List.replicate 16 (.slice none 0 0),by rw [hIW,hIm,hIt];exact kW,by simp,λp hp=>?_⟩,by simp [bT,dK],by simp [bT,dK],by rw [hIm,hIb];exact hm.gr QT,⟨0,_,by rw [hIt];exact kT,Nat.le_refl _,λ_=>Lst.nil _ _⟩,?_,λb hb=>.inl (.inl hb),λb hb=>by rcases hb with hb|hb;exact(hMlow b hb).2;have:=hX b hb;omega,by simp [bT,dK],by simp⟩
  ·rw [lI hp]
   show Lst w5 _ _ ((List.replicate 16 ([]:List Int)).getD p [])
   rw [lI hp]
   exact Lst.nil _ _
  ·rw [hIW,hIm,hIt,hIb]
   refine⟨by omega,by omega,by omega,λe=>?_,λe=>?_⟩
   ·have:=hmlow _ e;omega
   ·have:=hmlow _ e;omega
 ·have hl5:=hl.chg (S:=noB) (Chg.of_below lF) (λh=>h) (λh=>h) (λ_ _ h=>h)
  refine⟨hl5.line,hl5.map,λp=>?_⟩
  obtain⟨a,c,g1,g2,g3,g4⟩:=hl5.rows p
  refine⟨a,c,g1,g2,g3,λb off e=>⟨(g4 b off e).1,(g4 b off e).2.1,?_,?_⟩⟩
  ·have:=(g4 b off e).2.2;omega
  ·obtain⟨f1,f2,f3,f4⟩:=g4 b off e
   rintro((hb|hb|hb|hb)|hb)
   ·have:=hWlow b hb;omega
   ·omega
   ·exact f1 hb
   ·exact f2 hb
   ·have:=hX b hb;omega
 ·omega
 ·show(calls.length:Int)=(calls.length:Int) - ((List.replicate calls.length false).count true:Int)
  rw [List.count_replicate];simp
 ·rw [fT] at hm
  rw [show(bT S o0 ws calls).hands.getD p (none,0)=(none,0) from lI hp] at hm
  cases hm
 ·obtain⟨ca,cc,e1,e2,e2x⟩:=h.cs
  obtain⟨bo,oo,oc,e3,e4,e4x⟩:=h.objs
  refine⟨⟨ca,cc,e1,e2.grown FK,λhp b off e hx=>?_⟩,λx hx=>⟨h.ok x hx,?_⟩,z3,⟨bo,oo,oc,e3,(FK.cell (World.block_lt_of_cell? _ _ e4)).trans e4,λhx=>?_⟩⟩
  ·obtain⟨b0,yO,e0,hb0⟩:=e2.lt hp
   rw [e0] at e;cases e
   rcases hx with hx|hx
   ·have:=hMlow _ hx;omega
   ·exact e2x hp _ _ e0 hx
  ·have h9:pE n x=false:=by
    unfold iQ at z4
    rw [List.any_eq_false] at z4
    simpa using z4 x hx
   unfold pE at h9
   simp at h9
   omega
  ·have:=World.block_lt_of_cell? _ _ e4
   simp only at this
   rcases hx with hx|hx
   ·have:=(hMlow _ hx).1;omega
   ·exact e4x hx
 ·have hb':b=w2.heap.size+2∨b=w1.heap.size+1∨b=w1.heap.size:=by
   rcases hb with hb|hb|hb|hb
   ·exact .inl hb
   ·exact .inr (.inl hb)
   ·exact .inr (.inr hb)
   ·cases hb
  refine⟨.inl (.inr hb'),λhx=>?_,λhx=>?_⟩
  ·have:=hWlow b hx
   omega
  ·have h8:=hX b (h.ob b hx)
   omega
 ·refine⟨by show w2.heap.size+2≠w1.heap.size+1;omega,by show w2.heap.size+2≠w1.heap.size;omega,(by intro e;cases e),(by intro e;cases e),(by intro e;cases e)⟩
 ·show dV.all c0<=0;decide
 ·exact⟨FK.size,by show w.heap.size<=w2.heap.size+2;omega,λb hb=>(hWlow b hb).1,by show w.heap.size<=w1.heap.size+1;omega,by show w.heap.size<=w1.heap.size;omega,λb hb=>.inr hb,λp b _ hb=>hb.elim⟩
def KR (X:Nat->Prop) (R:Real S) (calls:List aF) (w w':World) (ov cv:Value) (st:aQ S) (e:Ending):Prop:=
 ∃ J:iZ,J.old=X/\e=.returned (.tuple #[.pointer (some ⟨J.bP,0,none⟩),.int .i64 0])/\Below w.heap.size w w'/\sU R calls w' J ov cv w.heap.size st
theorem DI (X:Nat->Prop) (w:World) (o0:S.ω) (n:Int) (calls:List aF) (ws:List Nat) (ov cv wv:Value) (h:jU R X w o0 n calls ws ov cv wv) (hn:fI n calls=0) :
  Calls Try.prog 41 #[.int .i64 n,ov,wv,cv] w λe w'=>KR X R calls w w' ov cv (bT S o0 ws calls) e:=by
 obtain⟨ca,cc,rfl,hcs,_⟩:=h.cs
 obtain⟨wa,wc,rfl,hws,hwn⟩:=h.wsl
 obtain⟨bo,oo,oc,rfl,hbo,_⟩:=h.objs
 have N:=Lib.hid (KF wa wc ws w hws h.wlen hwn h.wval)
 have P:=Lib.hid (λ(u:World) (hu:Below w.heap.size w u)=>BU n calls ca cc u (hcs.grown hu) (λx hx=>(h.ok x hx).thread))
 have Hh:=Lib.hid h;have Hn:=Lib.hid hn
 have hmm:=@run_makeMap Try.prog
 clear h hcs hws hwn hbo hn
 go_enter Try.func41,Try.ntmps41
 go_wp2_with fail
 refine N.out.mono ?_
 rintro e w1 ⟨bm,bw,rfl,hm,hb1,hq1,hq2⟩
 have Hm:=Lib.hid hm;have Hb1:=Lib.hid hb1;have Hq1:=Lib.hid hq1;have Hq2:=Lib.hid hq2
 clear hm hb1 hq1 hq2
 go_wp2_with fail
 refine(P.out _ Hb1.out).mono ?_
 rintro e w2 (⟨h0,_⟩|⟨_,rfl,hb2,M,hl⟩)
 ·exact absurd Hn.out h0
 have Hb2:=Lib.hid hb2;have Hl:=Lib.hid hl
 clear hb2 hl
 go_wp2
 go_ret2
 obtain⟨b1,b2⟩:=FJ (X:=X) Hh.out Hn.out Hm.out Hb1.out Hq1.out Hq2.out Hb2.out Hl.out rfl
 exact⟨_,rfl,rfl,b1,b2⟩
end Go.Proofs.Ytifhldnmcdbpfaa
