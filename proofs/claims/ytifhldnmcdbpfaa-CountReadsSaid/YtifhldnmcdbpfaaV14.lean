/- Layer 6: how a play begins: Check, Begin. -/
import Derived.Test.YtifhldnmcdbpfaaV13
import Derived.Test.YtifhldnmcdbpfaaV08
set_option maxRecDepth 100000
set_option linter.unusedVariables false
set_option linter.unusedSimpArgs false
set_option linter.unnecessarySimpa false
namespace Go.Proofs.Ytifhldnmcdbpfaa
open List renaming getElem_toArray → zq1, getElem_cons_zero → zq2, getElem_cons_succ → zq3, setIfInBounds_toArray → zq4, set_cons_zero → zq5, set_cons_succ → zq6
section
open Go.RowKit
variable {S:Sys} {R:Real S}
def checkN (n:Int) (calls:List aF) (np:Nat):Int:=if n<1∨16<n then 1 else if 1000<calls.length∨65536<np then 3 else fH n calls
theorem uV (n:Int) (calls:List aF) (np:Nat) (ca pa:Option Addr) (cc pc:Nat) (w:World) (hcs:bQ w ca calls.length 6 (gK calls)) (hp:np<=maxLen) (hwf:∀ x∈calls,(Lit.int .i64 x.thread).wf=true) :
  Calls Try.prog 25 #[.int .i64 n,.slice ca calls.length cc,.slice pa np pc] w λe w'=>e=.returned (.int .i64 (checkN n calls np))/\Below w.heap.size w w':=by
 have N:=Lib.hid (CO n calls ca cc w hcs hwf)
 have hm:=hcs.1
 unfold maxLen at hm hp
 clear hcs hwf
 by_cases h1:n<1
 ·have hk:checkN n calls np=1:=by unfold checkN;rw [if_pos (.inl h1)]
  rw [hk];clear hk
  go_enter Try.func25,Try.ntmps25
  go_wp2
  go_ret
  exact⟨rfl,Gr.refl _⟩
 by_cases h2:16<n
 ·have hk:checkN n calls np=1:=by unfold checkN;rw [if_pos (.inr h2)]
  rw [hk];clear hk
  go_enter Try.func25,Try.ntmps25
  go_wp2
  go_ret
  exact⟨rfl,Gr.refl _⟩
 by_cases h3:(1000:Int)<(calls.length:Int)
 ·have hk:checkN n calls np=3:=by unfold checkN;rw [if_neg (by omega),if_pos (by omega)]
  rw [hk];clear hk
  go_enter Try.func25,Try.ntmps25
  go_wp2
  go_ret
  exact⟨rfl,Gr.refl _⟩
 by_cases h4:(65536:Int)<(np:Int)
 ·have hk:checkN n calls np=3:=by unfold checkN;rw [if_neg (by omega),if_pos (by omega)]
  rw [hk];clear hk
  go_enter Try.func25,Try.ntmps25
  go_wp2
  go_ret
  exact⟨rfl,Gr.refl _⟩
 have hk:checkN n calls np=fH n calls:=by unfold checkN;rw [if_neg (by omega),if_neg (by omega)]
 rw [hk];clear hk
 go_enter Try.func25,Try.ntmps25
 go_wp2_with fail
 refine N.out.mono ?_
 rintro e w1 (⟨h0,rfl,hb⟩|⟨h0,rfl,hb,M,hl⟩)
 ·have Hb:=Lib.hid hb
  clear hb h0
  go_wp2
  go_ret
  exact⟨rfl,Hb.out⟩
 ·have Hb:=Lib.hid hb;have H0:=Lib.hid h0
  clear hb hl h0
  go_wp2
  go_ret
  exact⟨by rw [H0.out];rfl,Hb.out⟩
theorem kU {α:Type} {n p:Nat} {x d:α} (h:p<n):(List.replicate n x).getD p d=x:=by simp [List.getD_eq_getElem?_getD,h]
theorem iX {α:Type} {n p:Nat} {x:α}:(List.replicate n x).getD p x=x:=by
 simp only [List.getD_eq_getElem?_getD,List.getElem?_replicate];split<;>rfl
structure RO (R:Real S) (X:Nat->Prop) (w:World) (o0:S.ω) (n:Int) (calls:List aF) (ws:List Nat) (ov cv wv:Value):Prop where
 cs:∃ ca cc,cv=.slice ca calls.length cc/\bQ w ca calls.length 6 (gK calls)/\(0<calls.length->∀ b off,ca=some ⟨b,off,none⟩->¬ X b)
 ok:∀ x∈calls,mY x
 objs:∃ bo oo oc,ov=.slice (some ⟨bo,oo,none⟩) 1 oc/\w.cell? ⟨bo,oo,none⟩=some (.iface R.T R.x)/\¬ X bo
 wsl:∃ wa wc,wv=.slice wa ws.length wc/\bQ w wa ws.length 1 (pR ws)/\(wa=none->wc=0)
 wlen:ws.length<=65536
 wval:∀ x∈ws,x<18446744073709551616
 noOB:∀ b,¬ R.OB b
 orep:∀(u:World) (M:Nat->Prop),R.ORep u M o0
 oinv:R.inv o0 (dK ws)
 xlt:∀ b,X b->b<w.heap.size
structure jR (R:Real S) (X:Nat->Prop) (w:World) (o0:S.ω) (n:Int) (calls:List aF) (ws:List Nat) (ov cv wv:Value):Prop where
 cs:∃ ca cc,cv=.slice ca calls.length cc/\bQ w ca calls.length 6 (gK calls)/\(0<calls.length->∀ b off,ca=some ⟨b,off,none⟩->¬ X b)
 ok:∀ x∈calls,mY x
 objs:∃ bo oo oc,ov=.slice (some ⟨bo,oo,none⟩) 1 oc/\w.cell? ⟨bo,oo,none⟩=some (.iface R.T R.x)/\¬ X bo
 wsl:∃ wa wc,wv=.slice wa ws.length wc/\bQ w wa ws.length 1 (pR ws)/\(wa=none->wc=0)
 wlen:ws.length<=65536
 wval:∀ x∈ws,x<18446744073709551616
 ob:∀ b,R.OB b->X b
 orep:∀(u:World) (M:Nat->Prop),Below w.heap.size w u->(∀ b,R.OB b->M b)->R.ORep u M o0
 oinv:R.inv o0 (dK ws)
 xlt:∀ b,X b->b<w.heap.size
theorem jR.grown {X X':Nat->Prop} {w w':World} {o0:S.ω} {n:Int} {calls:List aF} {ws:List Nat} {ov cv wv:Value} (h:jR R X w o0 n calls ws ov cv wv) (hb:Below w.heap.size w w') (hX:∀ b,X' b->X b∨(w.heap.size<=b/\b<w'.heap.size)) (hI:∀ b,X b->X' b):jR R X' w' o0 n calls ws ov cv wv:=by
 obtain⟨⟨ca,cc,h1,h2,h2x⟩,h3,⟨bo,oo,oc,h4,h5,h5x⟩,⟨wa,wc,h6,h7,h8⟩,h9,h10,h11,h12,h13,h14⟩:=h
 have hlt:=World.block_lt_of_cell? _ _ h5
 refine⟨⟨ca,cc,h1,h2.grown hb,λhp b off e hx=>?_⟩,h3,⟨bo,oo,oc,h4,(hb.cell hlt).trans h5,λhx=>?_⟩,⟨wa,wc,h6,h7.grown hb,h8⟩,h9,h10,λb jO=>hI b (h11 b jO),λu M hu hM=>h12 u M (Gr.trans hb hu) hM,h13,λb hx=>?_⟩
 ·obtain⟨b0,yG,e0,hb0⟩:=h2.lt hp
  rw [e0] at e;cases e
  rcases hX _ hx with hy|hy
  ·exact h2x hp _ _ e0 hy
  ·omega
 ·simp only at hlt
  rcases hX _ hx with hy|hy
  ·exact h5x hy
  ·omega
 ·rcases hX _ hx with hy|hy
  ·exact Nat.lt_of_lt_of_le (h14 b hy) hb.size
  ·exact hy.2
def nE (bm bt:Nat):Array Value:=bF bm 0 (List.replicate 16 0) (List.replicate 16 (.slice none 0 0)) bt
def wO (bW bl:Nat) (ov cv:Value):Array Value:=aN bW bl ov cv 0 (List.replicate 16 (.nilIface,0)) (.slice none 0 0) 0
theorem HV {X:Nat->Prop} {w w1 w2 w5:World} {o0:S.ω} {n:Int} {calls:List aF} {ws:List Nat} {ov cv wv:Value} {bm:Nat} {bw:Option Nat} {M:Int->Value} (h:jR R X w o0 n calls ws ov cv wv) (hn:fH n calls=0)
  (hm:bZ w1 bm bw ⟨ws,c0⟩) (hb1:Below w.heap.size w w1) (hq1:w.heap.size<=bm) (hq2:∀ q,bw=some q->w.heap.size<=q)
  (hb2:Below w1.heap.size w1 w2) (hl:fD w2 (λb=>w1.heap.size<=b/\b<w2.heap.size) (w1.heap.size+1) w1.heap.size calls.length M (qF calls (List.replicate calls.length false)) (calls.length:Int))
  (h5:w5=((w2.alloc (.map #[] 0)).alloc (.cells (nE bm w2.heap.size) 121)).alloc (.cells (wO (w2.heap.size+1) (w1.heap.size+1) ov cv) 128)) :
  Below w.heap.size w w5/\tX R calls w5 ⟨⟨w2.heap.size+1,bm,w2.heap.size,bw⟩,w2.heap.size+2,w1.heap.size+1,w1.heap.size,X⟩ ov cv w.heap.size (bT S o0 ws calls):=by
 have lD:Below w2.heap.size w2 w5:=by rw [h5];exact Gr.alloc (Gr.alloc (Gr.new _ _) _) _
 have RG:Below w1.heap.size w1 w5:=Gr.trans hb2 lD
 have JK:Below w.heap.size w w5:=Gr.trans hb1 RG
 have hX:=h.xlt
 have s1:=hb1.size;have s2:=hb2.size
 have s5:w5.heap.size=w2.heap.size+3:=by rw [h5];simp
 have hllt:=aC hl.line
 have hmlt:=hm.lt;have hmlow:=hm.low
 obtain⟨z1,z2,z3,z4⟩:=iO hn
 have hA:(w2.alloc (.map #[] 0)).heap.size=w2.heap.size+1:=by simp
 have hB:((w2.alloc (.map #[] 0)).alloc (.cells (nE bm w2.heap.size) 121)).heap.size=w2.heap.size+2:=by simp
 have kW:w5.heap[w2.heap.size+1]?=some (.cells (nE bm w2.heap.size) 121 (0,0)):=by
  rw [h5,Below.heap_alloc _ _ _ (by rw [hB];omega)]
  have:=heap_alloc_new (w2.alloc (.map #[] 0)) (.cells (nE bm w2.heap.size) 121 (0,0))
  rw [hA] at this;exact this
 have kP:w5.heap[w2.heap.size+2]?=some (.cells (wO (w2.heap.size+1) (w1.heap.size+1) ov cv) 128 (0,0)):=by
  rw [h5]
  have:=heap_alloc_new ((w2.alloc (.map #[] 0)).alloc (.cells (nE bm w2.heap.size) 121)) (.cells (wO (w2.heap.size+1) (w1.heap.size+1) ov cv) 128 (0,0))
  rw [hB] at this;exact this
 have kT:MapAt w5 w2.heap.size 0 (λ_=>.slice none 0 0):=by
  refine(MapAt.made w2).block ?_
  rw [h5,Below.heap_alloc _ _ _ (by rw [hB];omega),Below.heap_alloc _ _ _ (by rw [hA];omega)]
 obtain⟨I,hI⟩:∃ I:dG,I=⟨w2.heap.size+1,bm,w2.heap.size,bw⟩:=⟨_,rfl⟩
 have hWS:∀ b,aW I b->(b=w2.heap.size+1∨b=bm∨b=w2.heap.size∨some b=bw):=λb hb=>by rw [hI] at hb;exact hb
 have hWlow:∀ b,aW I b->w.heap.size<=b/\b<w5.heap.size/\(b<w1.heap.size∨b=w2.heap.size∨b=w2.heap.size+1):=by
  intro b hb
  rcases hWS b hb with rfl|rfl|rfl|e
  ·omega
  ·omega
  ·omega
  ·have:=hq2 b e.symm;have:=hmlow b e.symm;omega
 refine⟨JK,{ Mut:=λb=>(aW I b∨b=w2.heap.size+2∨b=w1.heap.size+1∨b=w1.heap.size)∨X b,MB:=λ_=>noB,hs:=List.replicate 16 (.nilIface,0),ev:=.slice none 0 0,ers:=[],turn:=0,N:=0 },?_⟩
 rw [<-hI]
 have hMlow:∀ b,(aW I b∨b=w2.heap.size+2∨b=w1.heap.size+1∨b=w1.heap.size)->w.heap.size<=b/\b<w5.heap.size:=by
  rintro b (hb|rfl|rfl|rfl)
  ·have:=hWlow b hb;omega
  ·omega
  ·omega
  ·omega
 have hIW:I.bW=w2.heap.size+1:=by rw [hI]
 have hIm:I.bm=bm:=by rw [hI]
 have hIt:I.bt=w2.heap.size:=by rw [hI]
 have hIb:I.bw=bw:=by rw [hI]
 refine⟨?_,by simp,by simp [nZ,bT],λp hp=>?_,?_,h.orep _ _ JK (λb hb=>.inr (h.ob b hb)),h.oinv,⟨calls.length,M,calls.length,?_,?_,?_⟩,by simp [bT],⟨World.ownsRow_nil _ _ _ _,rfl,λi hi=>by simp [bT] at hi⟩,by simp [bT],λp hp m hm=>?_,?_,λb hb=>?_,λb hb hx=>by { have h8:=hX b (h.ob b hb);have h9:=(hWlow b hx).1;omega },?_,λp b _ hb=>hb.elim,λp q b _ _ _ hb=>hb.elim,?_,by simp [bT,dK],by simp [bT],?_,λi=>by simp [bT,jZ],λb hb=>⟨.inr hb,hX b hb⟩⟩
 ·rw [hIW];exact kP
 ·rw [fQ]
  show gH R w5 _ noB p ((List.replicate 16 ((.nilIface:Value),0)).getD p (undef,0)) (((List.replicate 16 ((none:Option S.σ),0)).getD p (none,0)).1.map Mh.run,((List.replicate 16 ((none:Option S.σ),0)).getD p (none,0)).2)
  rw [kU hp,kU hp]
  exact⟨rfl,rfl⟩
 ·refine⟨⟨List.replicate 16 (.slice none 0 0),by rw [hIW,hIm,hIt];exact kW,by simp,λp hp=>?_⟩,by simp [bT,dK],by simp [bT,dK],by rw [hIm,hIb];exact hm.gr RG,⟨0,_,by rw [hIt];exact kT,Nat.le_refl _,λ_=>Lst.nil _ _⟩,?_,λb hb=>.inl (.inl hb),λb hb=>by rcases hb with hb|hb;exact(hMlow b hb).2;have:=hX b hb;omega,by simp [bT,dK],by simp⟩
  ·rw [kU hp]
   show Lst w5 _ _ ((List.replicate 16 ([]:List Int)).getD p [])
   rw [kU hp]
   exact Lst.nil _ _
  ·rw [hIW,hIm,hIt,hIb]
   refine⟨by omega,by omega,by omega,λe=>?_,λe=>?_⟩
   ·have:=hmlow _ e;omega
   ·have:=hmlow _ e;omega
 ·have hl5:=hl.chg (S:=noB) (Chg.of_below lD) (λh=>h) (λh=>h) (λ_ _ h=>h)
  refine⟨hl5.line,hl5.map,λp=>?_⟩
  obtain⟨a,c,g1,g2,g3,g4⟩:=hl5.rows p
  refine⟨a,c,g1,g2,g3,λb off e=>⟨(g4 b off e).1,(g4 b off e).2.1,?_,?_⟩⟩
  ·have:=(g4 b off e).2.2;omega
  ·obtain⟨f1,f2,f3,f4⟩:=g4 b off e
   rintro((hb|hb|hb|hb)|hb)
   ·have:=hWlow b hb;omega
   ·omega
   ·exact f1 hb
   ·exact f2 hb
   ·have:=hX b hb;omega
 ·omega
 ·show(calls.length:Int)=(calls.length:Int) - ((List.replicate calls.length false).count true:Int)
  rw [List.count_replicate];simp
 ·rw [fQ] at hm
  rw [show(bT S o0 ws calls).hands.getD p (none,0)=(none,0) from kU hp] at hm
  cases hm
 ·obtain⟨ca,cc,e1,e2,e2x⟩:=h.cs
  obtain⟨bo,oo,oc,e3,e4,e4x⟩:=h.objs
  refine⟨⟨ca,cc,e1,e2.grown JK,λhp b off e hx=>?_⟩,λx hx=>⟨h.ok x hx,?_⟩,z3,⟨bo,oo,oc,e3,(JK.cell (World.block_lt_of_cell? _ _ e4)).trans e4,λhx=>?_⟩⟩
  ·obtain⟨b0,yG,e0,hb0⟩:=e2.lt hp
   rw [e0] at e;cases e
   rcases hx with hx|hx
   ·have:=hMlow _ hx;omega
   ·exact e2x hp _ _ e0 hx
  ·have h9:pG n x=false:=by
    unfold iQ at z4
    rw [List.any_eq_false] at z4
    simpa using z4 x hx
   unfold pG at h9
   simp at h9
   omega
  ·have:=World.block_lt_of_cell? _ _ e4
   simp only at this
   rcases hx with hx|hx
   ·have:=(hMlow _ hx).1;omega
   ·exact e4x hx
 ·have hb':b=w2.heap.size+2∨b=w1.heap.size+1∨b=w1.heap.size:=by
   rcases hb with hb|hb|hb|hb
   ·exact .inl hb
   ·exact .inr (.inl hb)
   ·exact .inr (.inr hb)
   ·cases hb
  refine⟨.inl (.inr hb'),λhx=>?_,λhx=>?_⟩
  ·have:=hWlow b hx
   omega
  ·have h8:=hX b (h.ob b hx)
   omega
 ·refine⟨by show w2.heap.size+2≠w1.heap.size+1;omega,by show w2.heap.size+2≠w1.heap.size;omega,(by intro e;cases e),(by intro e;cases e),(by intro e;cases e)⟩
 ·show dV.all c0<=0;decide
 ·exact⟨JK.size,by show w.heap.size<=w2.heap.size+2;omega,λb hb=>(hWlow b hb).1,by show w.heap.size<=w1.heap.size+1;omega,by show w.heap.size<=w1.heap.size;omega,λb hb=>.inr hb,λp b _ hb=>hb.elim⟩
def LP (X:Nat->Prop) (R:Real S) (calls:List aF) (w w':World) (ov cv:Value) (st:aQ S) (e:Ending):Prop:=
 ∃ J:jD,J.old=X/\e=.returned (.tuple #[.pointer (some ⟨J.bP,0,none⟩),.int .i64 0])/\Below w.heap.size w w'/\tX R calls w' J ov cv w.heap.size st
theorem EG (X:Nat->Prop) (w:World) (o0:S.ω) (n:Int) (calls:List aF) (ws:List Nat) (ov cv wv:Value) (h:jR R X w o0 n calls ws ov cv wv) (hn:fH n calls=0) :
  Calls Try.prog 41 #[.int .i64 n,ov,wv,cv] w λe w'=>LP X R calls w w' ov cv (bT S o0 ws calls) e:=by
 obtain⟨ca,cc,rfl,hcs,_⟩:=h.cs
 obtain⟨wa,wc,rfl,hws,hwn⟩:=h.wsl
 obtain⟨bo,oo,oc,rfl,hbo,_⟩:=h.objs
 have N:=Lib.hid (KM wa wc ws w hws h.wlen hwn h.wval)
 have P:=Lib.hid (λ(u:World) (hu:Below w.heap.size w u)=>CO n calls ca cc u (hcs.grown hu) (λx hx=>(h.ok x hx).thread))
 have Hh:=Lib.hid h;have Hn:=Lib.hid hn
 have hmm:=@run_makeMap Try.prog
 clear h hcs hws hwn hbo hn
 go_enter Try.func41,Try.ntmps41
 go_wp2_with fail
 refine N.out.mono ?_
 rintro e w1 ⟨bm,bw,rfl,hm,hb1,hq1,hq2⟩
 have Hm:=Lib.hid hm;have Hb1:=Lib.hid hb1;have Hq1:=Lib.hid hq1;have Hq2:=Lib.hid hq2
 clear hm hb1 hq1 hq2
 go_wp2_with fail
 refine(P.out _ Hb1.out).mono ?_
 rintro e w2 (⟨h0,_⟩|⟨_,rfl,hb2,M,hl⟩)
 ·exact absurd Hn.out h0
 have Hb2:=Lib.hid hb2;have Hl:=Lib.hid hl
 clear hb2 hl
 go_wp2
 go_ret2
 obtain⟨b1,b2⟩:=HV (X:=X) Hh.out Hn.out Hm.out Hb1.out Hq1.out Hq2.out Hb2.out Hl.out rfl
 exact⟨_,rfl,rfl,b1,b2⟩
end
section
open Go.RowKit
def tn (calls:List aF) (e:EvD):Nat:=(calls.getD e.call d0).thread.toNat
def aD (evs:List EvD) (i:Nat):EvD:=evs.getD i jZ
structure iD (calls:List aF) (now:Nat) (fin:List Bool) (hnd:Nat->Option Nat) (evs:List EvD):Prop where
 flen:fin.length=calls.length
 call:∀ i,i<evs.length->(aD evs i).call<calls.length
 tick:∀ i,i<evs.length->1<=(aD evs i).inv/\(aD evs i).inv<=now/\1<=(aD evs i).steps/\(aD evs i).resp<=now
 resp:∀ i,i<evs.length->(aD evs i).resp≠0->(aD evs i).inv<=(aD evs i).resp/\(aD evs i).steps<=(aD evs i).resp - (aD evs i).inv+1/\fin.getD (aD evs i).call false=true
 open_:∀ i,i<evs.length->(aD evs i).resp=0->(aD evs i).steps<=now - (aD evs i).inv+1/\hnd (tn calls (aD evs i))=some i
 rise:∀ i j,i<j->j<evs.length->(aD evs i).inv<(aD evs j).inv
 same:∀ i j,i<j->j<evs.length->tn calls (aD evs i)=tn calls (aD evs j)->(aD evs i).resp≠0/\(aD evs i).resp<(aD evs j).inv/\(aD evs i).call<(aD evs j).call
 hand:∀ p k,hnd p=some k->k<evs.length/\tn calls (aD evs k)=p/\(aD evs k).resp=0/\iI calls fin (p:Int)=some (aD evs k).call
 ord:∀ c c',c<calls.length->c'<calls.length->(calls.getD c d0).thread=(calls.getD c' d0).thread->fin.getD c false=true->fin.getD c' false=false->c<c'
 sum:(evs.map (·.steps)).sum=now
theorem jH (f:EvD->Nat):∀(l:List EvD) (k:Nat) (e:EvD),k<l.length->((l.set k e).map f).sum+f (aD l k)=(l.map f).sum+f e
 | [],_,_,h=>by simp at h
 | a::l,0,e,_=>by simp [aD];omega
 | a::l,k+1,e,h=>by
  have:=jH f l k e (by simpa using h)
  simp only [aD,zq6,List.map_cons,List.sum_cons,List.getD_cons_succ] at this ⊢
  omega
theorem jM {l:List EvD} {k:Nat} (e:EvD) (hk:k<l.length) (i:Nat):aD (l.set k e) i=if i=k then e else aD l i:=by
 unfold aD
 by_cases h:i=k
 ·rw [if_pos h,h,aL hk]
 ·rw [if_neg h,aR (Ne.symm h)]
theorem CY (l:List EvD) (e:EvD) (i:Nat) (hi:i<(l++[e]).length):aD (l++[e]) i=if i=l.length then e else aD l i:=by
 unfold aD
 by_cases h:i=l.length
 ·rw [if_pos h,h,dW]
 ·rw [if_neg h,gZ (by simp at hi;omega)]
variable {calls:List aF} {now:Nat} {fin:List Bool} {hnd:Nat->Option Nat} {evs:List EvD}
theorem iD.step (h:iD calls now fin hnd evs) {p k:Nat} (hk:hnd p=some k):iD calls (now+1) fin hnd (cB evs k aZ):=by
 obtain⟨k1,k2,k3,k4⟩:=h.hand p k hk
 have hE:=jM (aZ (aD evs k)) k1
 have hL:(cB evs k aZ).length=evs.length:=by simp [cB]
 have hM:cB evs k aZ=evs.set k (aZ (aD evs k)):=rfl
 have hc:∀ i,(aD (evs.set k (aZ (aD evs k))) i).call=(aD evs i).call/\(aD (evs.set k (aZ (aD evs k))) i).inv=(aD evs i).inv/\(aD (evs.set k (aZ (aD evs k))) i).resp=(aD evs i).resp/\(aD (evs.set k (aZ (aD evs k))) i).steps=(aD evs i).steps+(if i=k then 1 else 0):=by
  intro i
  rw [hE]
  by_cases h:i=k
  ·subst h;simp [aZ]
  ·simp [h]
 have ht:∀ i,tn calls (aD (evs.set k (aZ (aD evs k))) i)=tn calls (aD evs i):=λi=>by unfold tn;rw [(hc i).1]
 have hks:=(h.open_ k k1 k3).1
 have hkt:=h.tick k k1
 refine⟨h.flen,λi hi=>?_,λi hi=>?_,λi hi hr=>?_,λi hi hr=>?_,λi j hij hj=>?_,λi j hij hj=>?_,λq j hq=>?_,h.ord,?_⟩
 all_goals try rw [hL] at hi
 all_goals try rw [hL] at hj
 all_goals try rw [hM]
 ·rw [(hc i).1];exact h.call i hi
 ·rw [(hc i).2.1,(hc i).2.2.1,(hc i).2.2.2];have:=h.tick i hi;omega
 ·rw [hM,(hc i).2.2.1] at hr
  rw [(hc i).1,(hc i).2.1,(hc i).2.2.1,(hc i).2.2.2]
  have hik:i≠k:=by rintro rfl;exact hr k3
  rw [if_neg hik];exact h.resp i hi hr
 ·rw [hM,(hc i).2.2.1] at hr
  rw [(hc i).2.1,(hc i).2.2.2,ht]
  obtain⟨a1,a2⟩:=h.open_ i hi hr
  have:=h.tick i hi
  refine⟨?_,a2⟩
  split<;>omega
 ·rw [(hc i).2.1,(hc j).2.1];exact h.rise i j hij hj
 ·rw [ht,ht,(hc i).2.2.1,(hc j).2.1,(hc i).1,(hc j).1];exact h.same i j hij hj
 ·rw [<-hM,hL,hM,ht,(hc j).2.2.1,(hc j).1];exact h.hand q j hq
 ·have:=jH (·.steps) evs k (aZ (aD evs k)) k1
  have e2:(aZ (aD evs k)).steps=(aD evs k).steps+1:=rfl
  have h8:=h.sum
  omega
theorem FU {fin:List Bool} {p:Int} {c:Nat} (hlen:fin.length=calls.length) (h:iI calls fin p=some c) {x:Int} (hx:x≠p):iI calls (fin.set c true) x=iI calls fin x:=by
 rw [iY] at h
 cases hq:qF calls fin p with
 | nil=>rw [hq] at h;cases h
 | cons a r=>
  rw [hq] at h;cases h
  rw [iY,iY,IJ hlen hq]
  unfold qE;rw [if_neg hx]
theorem iD.done (h:iD calls now fin hnd evs) {p k:Nat} (hk:hnd p=some k) {e:EvD} (he:e.call=(aD evs k).call/\e.inv=(aD evs k).inv/\e.steps=(aD evs k).steps/\e.resp=now) :
  iD calls now (fin.set (aD evs k).call true) (λq=>if q=p then none else hnd q) (evs.set k e):=by
 obtain⟨k1,k2,k3,k4⟩:=h.hand p k hk
 obtain⟨e1,e2,e3,e4⟩:=he
 have hE:=jM e k1
 have hL:(evs.set k e).length=evs.length:=by simp
 have hcl:=h.call k k1
 have hfl:(aD evs k).call<fin.length:=by rw [h.flen];exact hcl
 have hc:∀ i,(aD (evs.set k e) i).call=(aD evs i).call/\(aD (evs.set k e) i).inv=(aD evs i).inv/\(aD (evs.set k e) i).resp=(if i=k then now else (aD evs i).resp)/\(aD (evs.set k e) i).steps=(aD evs i).steps:=by
  intro i
  rw [hE]
  by_cases h:i=k
  ·subst h;simp [e1,e2,e3,e4]
  ·simp [h]
 have ht:∀ i,tn calls (aD (evs.set k e) i)=tn calls (aD evs i):=λi=>by unfold tn;rw [(hc i).1]
 have hks:=(h.open_ k k1 k3).1
 have hkt:=h.tick k k1
 have hf:∀ c,(fin.set (aD evs k).call true).getD c false=true↔c=(aD evs k).call∨fin.getD c false=true:=by
  intro c
  by_cases hcc:c=(aD evs k).call
  ·rw [hcc,aL hfl];simp
  ·rw [aR (Ne.symm hcc)];simp [hcc]
 obtain⟨n1,n2,n3⟩:=dO k4
 refine⟨by simpa using h.flen,λi hi=>?_,λi hi=>?_,λi hi hr=>?_,λi hi hr=>?_,λi j hij hj=>?_,λi j hij hj hs=>?_,λq j hq=>?_,λc c' hc1 hc2 hth hfc hfc'=>?_,?_⟩
 all_goals try rw [hL] at hi
 all_goals try rw [hL] at hj
 ·rw [(hc i).1];exact h.call i hi
 ·rw [(hc i).2.1,(hc i).2.2.1,(hc i).2.2.2];have:=h.tick i hi;split<;>omega
 ·rw [(hc i).2.2.1] at hr
  rw [(hc i).1,(hc i).2.1,(hc i).2.2.1,(hc i).2.2.2,hf]
  by_cases hik:i=k
  ·subst hik;simp only [if_true];exact⟨hkt.2.1,hks,.inl trivial⟩
  ·rw [if_neg hik] at hr ⊢;have:=h.resp i hi hr;exact⟨this.1,this.2.1,.inr this.2.2⟩
 ·rw [(hc i).2.2.1] at hr
  rw [(hc i).2.1,(hc i).2.2.2,ht]
  by_cases hik:i=k
  ·subst hik;simp only [if_true] at hr;omega
  ·rw [if_neg hik] at hr
   obtain⟨a1,a2⟩:=h.open_ i hi hr
   refine⟨a1,?_⟩
   have:tn calls (aD evs i)≠p:=by
    intro hp;rw [hp,hk] at a2;cases a2;exact hik rfl
   rw [if_neg this];exact a2
 ·rw [(hc i).2.1,(hc j).2.1];exact h.rise i j hij hj
 ·rw [ht,ht] at hs
  rw [(hc i).2.2.1,(hc j).2.1,(hc i).1,(hc j).1]
  have:=h.same i j hij hj hs
  by_cases hik:i=k
  ·subst hik;exact absurd k3 this.1
  ·rw [if_neg hik];exact this
 ·try simp only at hq
  by_cases hqp:q=p
  ·rw [if_pos hqp] at hq;cases hq
  ·rw [if_neg hqp] at hq
   obtain⟨a1,a2,a3,a4⟩:=h.hand q j hq
   have hjk:j≠k:=by rintro rfl;exact hqp (a2.symm.trans k2)
   rw [hL,ht,(hc j).2.2.1,(hc j).1,if_neg hjk]
   refine⟨a1,a2,a3,?_⟩
   rw [FU h.flen k4 (by omega)];exact a4
 ·rw [hf] at hfc
  have OI:¬ (c'=(aD evs k).call∨fin.getD c' false=true):=by rw [<-hf,hfc'];simp
  rcases hfc with rfl|hfc
  ·-- the call that is finished now was the first one that was not
   rcases Nat.lt_or_ge (aD evs k).call c' with hlt|hge
   ·exact hlt
   ·exfalso
    have hlt:c'<(aD evs k).call:=by have:c'≠(aD evs k).call:=λe=>OI (.inl e);omega
    unfold iI at k4
    rw [List.find?_eq_some_iff_append] at k4
    obtain⟨_,xs,bs,hab,hno⟩:=k4
    have hlen:xs.length=(aD evs k).call:=by
     have h1:(List.range calls.length)[xs.length]?=some (aD evs k).call:=by rw [hab];simp
     rw [List.getElem?_range (by have:=congrArg List.length hab;simp at this;omega)] at h1
     simpa using h1
    have hmem:c'∈xs:=by
     have h1:(List.range calls.length)[c']?=some c':=by rw [List.getElem?_range hc2]
     rw [hab,List.getElem?_append_left (by omega)] at h1
     exact List.mem_of_getElem? h1
    have:=hno c' hmem
    unfold oD at this
    rw [<-hth,n2] at this
    have h9:fin.getD c' false=false:=by
     cases hb:fin.getD c' false with
     | false=>rfl
     | true=>exact absurd (.inr hb) OI
    rw [h9] at this
    simp at this
  ·refine h.ord c c' hc1 hc2 hth hfc ?_
   cases hb:fin.getD c' false with
   | false=>rfl
   | true=>exact absurd (.inr hb) OI
 ·have:=jH (·.steps) evs k e k1
  have h8:=h.sum
  omega
theorem iD.begun (h:iD calls now fin hnd evs) {p ci:Nat} (hpos:∀ c,c<calls.length->0<=(calls.getD c d0).thread) (hp:hnd p=none) (hN:iI calls fin (p:Int)=some ci) {e:EvD} (he:e.call=ci/\e.inv=now+1/\e.steps=1/\e.resp=0) :
  iD calls (now+1) fin (λq=>if q=p then some evs.length else hnd q) (evs++[e]):=by
 obtain⟨e1,e2,e3,e4⟩:=he
 obtain⟨n1,n2,n3⟩:=dO hN
 have hE:=CY evs e
 have hte:tn calls e=p:=by unfold tn;rw [e1,n2];simp
 have hL:(evs++[e]).length=evs.length+1:=by simp
 have hlast:aD (evs++[e]) evs.length=e:=by rw [hE _ (by simp)];simp
 have hold:∀ i,i<evs.length->aD (evs++[e]) i=aD evs i:=λi hi=>by rw [hE _ (by simp;omega),if_neg (by omega)]
 have hcase:∀ {P:EvD->Prop} {i:Nat},i<(evs++[e]).length->(i<evs.length->P (aD evs i))->(i=evs.length->P e)->P (aD (evs++[e]) i):=by
  intro P i hi h1 h2
  by_cases hil:i=evs.length
  ·rw [hil,hlast];exact h2 hil
  ·have:i<evs.length:=by rw [hL] at hi;omega
   rw [hold i this];exact h1 this
 refine⟨h.flen,λi hi=>?_,λi hi=>?_,λi hi=>?_,λi hi=>?_,λi j hij hj=>?_,λi j hij hj=>?_,λq j hq=>?_,h.ord,?_⟩
 ·exact hcase (P:=λx=>x.call<calls.length) hi (h.call i) (λ_=>by rw [e1];exact n1)
 ·exact hcase (P:=λx=>1<=x.inv/\x.inv<=now+1/\1<=x.steps/\x.resp<=now+1) hi (λhi=>by have:=h.tick i hi;omega) (λ_=>by omega)
 ·exact hcase (P:=λx=>x.resp≠0->x.inv<=x.resp/\x.steps<=x.resp - x.inv+1/\fin.getD x.call false=true) hi (h.resp i) (λ_ hr=>absurd e4 hr)
 ·refine hcase (P:=λx=>x.resp=0->x.steps<=now+1 - x.inv+1/\(if tn calls x=p then some evs.length else hnd (tn calls x))=some i) hi (λhi hr=>?_) (λhil _=>⟨by omega,by rw [if_pos hte,hil]⟩)
  obtain⟨a1,a2⟩:=h.open_ i hi hr
  refine⟨by omega,?_⟩
  have:tn calls (aD evs i)≠p:=by intro hpp;rw [hpp,hp] at a2;cases a2
  rw [if_neg this];exact a2
 ·by_cases hjl:j=evs.length
  ·subst hjl
   rw [hlast,hold i hij,e2];have:=h.tick i hij;omega
  ·have FZ:j<evs.length:=by rw [hL] at hj;omega
   rw [hold i (by omega),hold j FZ];exact h.rise i j hij FZ
 ·by_cases hjl:j=evs.length
  ·subst hjl
   rw [hlast,hold i hij,hte,e2,e1]
   intro hs
   have hr:(aD evs i).resp≠0:=by
    intro hr
    have:=(h.open_ i hij hr).2
    rw [hs,hp] at this;cases this
   have hti:=h.tick i hij
   have hfi:=(h.resp i hij hr).2.2
   refine⟨hr,by omega,?_⟩
   have hth:(calls.getD (aD evs i).call d0).thread=(calls.getD ci d0).thread:=by
    have h8:=hpos _ (h.call i hij)
    have h9:(calls.getD (aD evs i).call d0).thread.toNat=p:=hs
    rw [n2];omega
   exact h.ord _ _ (h.call i hij) n1 hth hfi n3
  ·have FZ:j<evs.length:=by rw [hL] at hj;omega
   rw [hold i (by omega),hold j FZ];exact h.same i j hij FZ
 ·try simp only at hq
  by_cases hqp:q=p
  ·rw [if_pos hqp] at hq;cases hq
   rw [hlast,hL,hte,e1]
   exact⟨by omega,hqp.symm,e4,by rw [hqp];exact hN⟩
  ·rw [if_neg hqp] at hq
   obtain⟨a1,a2,a3,a4⟩:=h.hand q j hq
   rw [hold j a1,hL]
   exact⟨by omega,a2,a3,a4⟩
 ·rw [List.map_append,List.sum_append,h.sum];simp [e3]
end
end Go.Proofs.Ytifhldnmcdbpfaa
