/- Layer 11: the counter as the loom's object: it is one. -/
import Derived.Test.YtifhldnmcdbpfaaW38
set_option maxRecDepth 100000
set_option linter.unusedVariables false
set_option linter.unusedSimpArgs false
set_option linter.unnecessarySimpa false
namespace Go.Proofs.Ytifhldnmcdbpfaa
open Go.RowKit
theorem EP.keep {w w':World} {Mut Mut' Q BB:Nat->Prop} {n m p b bP:Nat} {x:AdD} (h:EP w Mut n m p b bP x BB) (hc:Chg Q w w') (hQ:∀ b,Q b->Mut b) (hB:∀ b,BB b->¬ Q b) (hm:aV Mut w Mut'):EP w' Mut' n m p b bP x BB:=by
 rcases h with⟨e1,e2,h1,rfl⟩|⟨e1,bl,br,BL,BR,B,⟨wv,hb,hA⟩,hl,hr,hn,hd1,hd2,rfl⟩
 ·exact .inl ⟨e1,e2,(hc.block b (aC h1) (hB b rfl)).trans h1,rfl⟩
 ·refine .inr ⟨e1,bl,br,BL,BR,B,⟨wv,(hc.block b (aC hb) (hB b (.inl rfl))).trans hb,?_⟩,hl.keep hc hQ (λk hk=>hB k (.inr (.inl hk))) hm,hr.keep hc hQ (λk hk=>hB k (.inr (.inr (.inl hk)))) hm,hn,hd1,hd2,rfl⟩
  rcases hA with h9|⟨h8,bm,tv,kv,h7,h6,h5,h4,rfl⟩
  ·exact .inl h9
  ·exact .inr ⟨h8,bm,tv,kv,h7,h6.chg hc (λk hk=>hB k (.inr (.inr (.inr hk)))),h5.keep hc hQ hm,h4,rfl⟩
theorem tJ.keep {w w':World} {Q BB:Nat->Prop} {p b bP:Nat} {x:AdD} (h:tJ w p b bP x BB) (hc:Chg Q w w') (hB:∀ b,BB b->¬ Q b):tJ w' p b bP x BB:=by
 obtain⟨lv,rv,wv,h1,h2,h3,rfl⟩:=h
 exact⟨lv,rv,wv,(hc.block b (aC h1) (hB b rfl)).trans h1,h2,h3,rfl⟩
theorem xE {n m:Nat} {o:List Nat} {wd:WD} {p:Nat} {x:AdD} (h:x.pc=0):dU n m o wd p x=(fJ o p ((aJ n+p) / 2),kG wd p (o.getD p 0+1),x.climb n m ((aJ n+p) / 2),decide ((aJ n+p) / 2<1)):=if_pos h
theorem xW {n m:Nat} {o:List Nat} {wd:WD} {p:Nat} {x:AdD} (h:x.pc=1):dU n m o wd p x=(o,(aI n m p wd x.left).1,if (aI n m p wd x.left).2.2=true then ({ x with left:=(aI n m p wd x.left).2.1,pc:=2 }:AdD).pass m else { x with left:=(aI n m p wd x.left).2.1 },false):=(if_neg (by omega)).trans (if_pos h)
theorem yS {n m:Nat} {o:List Nat} {wd:WD} {p:Nat} {x:AdD} (h:x.pc=2):dU n m o wd p x=(o,(aI n m p wd x.right).1,if (aI n m p wd x.right).2.2=true then ({ x with right:=(aI n m p wd x.right).2.1 }:AdD).sum m else { x with right:=(aI n m p wd x.right).2.1 },false):=(if_neg (by omega)).trans ((if_neg (by omega)).trans (if_pos h))
theorem yE {n m:Nat} {o:List Nat} {wd:WD} {p:Nat} {x:AdD} (h:x.pc=3):dU n m o wd p x=(if (aO (aG n m x.v) p wd x.wr).2.2=true then (fJ o p (x.v / 2),(aO (aG n m x.v) p wd x.wr).1,({ x with wr:=(aO (aG n m x.v) p wd x.wr).2.1 }:AdD).climb n m (x.v / 2),decide (x.v / 2<1)) else (o,(aO (aG n m x.v) p wd x.wr).1,{ x with wr:=(aO (aG n m x.v) p wd x.wr).2.1 },false)):=(if_neg (by omega)).trans ((if_neg (by omega)).trans (if_neg (by omega)))
theorem vF (o:List Nat) (p v:Nat):(fJ o p v).length=o.length:=by
 unfold fJ;split
 ·rw [List.length_set]
 ·rfl
theorem xI {o:List Nat} {p v:Nat} (h:∀ q,o.getD q 0<999999) (q:Nat):(fJ o p v).getD q 0<1000000:=by
 unfold fJ;split
 ·by_cases hp:p<o.length
  ·by_cases hq:p=q
   ·subst hq
    rw [aL hp]
    have:=h p;omega
   ·rw [aR hq]
    have:=h q;omega
  ·rw [List.set_eq_of_length_le (by omega)];have:=h q;omega
 ·have:=h q;omega
theorem lU {n m:Nat} {o:List Nat} {wd:WD} {p:Nat} {x:AdD} {r:List Nat×WD×AdD×Bool} (h:dU n m o wd p x=r):(bH n m).step o wd p (.ad x)=(r.1,r.2.1,.ad r.2.2.1,r.2.2.2):=by rw [<-h];rfl
theorem uH {n m:Nat} {o:List Nat} {wd:WD} {p:Nat} {x:AdD} (h:x.pc=3) (hd:(aO (aG n m x.v) p wd x.wr).2.2=true):dU n m o wd p x=(fJ o p (x.v / 2),(aO (aG n m x.v) p wd x.wr).1,({ x with wr:=(aO (aG n m x.v) p wd x.wr).2.1 }:AdD).climb n m (x.v / 2),decide (x.v / 2<1)):=(yE h).trans (if_pos hd)
theorem uN {n m:Nat} {o:List Nat} {wd:WD} {p:Nat} {x:AdD} (h:x.pc=3) (hd:(aO (aG n m x.v) p wd x.wr).2.2=false):dU n m o wd p x=(o,(aO (aG n m x.v) p wd x.wr).1,{ x with wr:=(aO (aG n m x.v) p wd x.wr).2.1 },false):=(yE h).trans (if_neg (by rw [hd];decide))
theorem oM {n m bP bO:Nat} {w w':World} {Mut BB:Nat->Prop} {I:dG} {N:Nat} {wd wd':WD} {o o':List Nat} {b p:Nat} {x x':AdD} {done:Bool} {e:Ending} (hst:(bH n m).step o wd p (.ad x)=(o',wd',.ad x',done)) (hB:∀ k,BB k->Mut k/\¬ aW I k/\¬ (k=bP∨k=bO)) (hPO:bP≠bO) (hWP:¬ aW I bP) (hm1:Mut bP) (hm2:Mut bO) (hol:o'.length=n) (hoL:∀ q,o'.getD q 0<1000000) (hP:w.heap[bP]?=some (.cells (ctL n m (aJ n) (lM bO n)) 80 (0,0)))
  (h:kR w w' Mut BB I (N+1) wd' n m p b bP bO o o' x' done e):oC (rM n m bP bO) w Mut BB I N wd o 203 (.pointer (some ⟨b,0,none⟩)) p (.ad x) e w':=by
 obtain⟨h1,h2,h3,BB',h4,h5,h6,h7⟩:=h
 unfold oC
 rw [hst]
 refine⟨h1,h2.mono (λk _ hk=>?_),BB',h5,h6,h4,⟨(h2.block bP (aC hP) ?_).trans hP,h3,hol,.inl ⟨hm1,λh=>(hB bP h).2.2 (.inl rfl)⟩,.inl ⟨hm2,λh=>(hB bO h).2.2 (.inr rfl)⟩,hoL⟩,rfl,b,rfl,?_⟩
 ·rcases hk with hk|hk|hk
  ·exact .inl hk
  ·exact .inr (.inl (.inr hk))
  ·exact .inr (.inr hk)
 ·rintro(hk|hk|hk)
  ·exact hWP hk
  ·exact hPO hk
  ·exact(hB bP hk).2.2 (.inl rfl)
 ·by_cases hd:done=true
  ·rw [if_pos hd] at h7;exact .inr h7
  ·rw [if_neg hd] at h7;exact .inl h7
theorem GU (n m bP bO:Nat) (hn:n<=16) (hm:m<=8) (w:World) (Mut B:Nat->Prop) (I:dG) (N:Nat) (wd:WD) (o:List Nat) (T':TypeId) (x':Value) (p:Nat) (s:CtS) (hw:aM w Mut I N wd) (ho:(rM n m bP bO).ORep w Mut o) (hmr:QZ n m bP w Mut B T' x' p s) (hp:p<16) (hN:N+1<1000000000) (hcn:wd.mem.c.all+1<1000000000000) (hB:∀ b,B b->Mut b/\¬ aW I b/\¬ (b=bP∨b=bO)) (hOW:∀ b,(b=bP∨b=bO)->¬ aW I b) (hlv:vY n m o wd p s/\∀ q,o.getD q 0<999999) :
  ∃ K recv, lK T' x' "Step" K recv ∧ Calls Try.prog K #[recv, .pointer (some ⟨I.bW, 0, none⟩)] w (oC (rM n m bP bO) w Mut B I N wd o T' x' p s) := by
 obtain⟨hP,hO,hol,m1,m2,hoL⟩:=ho
 obtain⟨⟨hT,hnow,hpn,hop,hlv⟩,hoL2⟩:=hlv
 have hB2:∀ b,B b->Mut b/\¬ aW I b:=λb hb=>⟨(hB b hb).1,(hB b hb).2.1⟩
 have hB3:∀ b,B b->Mut b/\¬ aW I b/\¬ (b=bP∨b=bO):=hB
 have hB4:∀ b,B b->Mut b/\¬ aW I b/\b≠bP/\b≠bO:=λb hb=>⟨(hB3 b hb).1,(hB3 b hb).2.1,λe=>(hB3 b hb).2.2 (.inl e),λe=>(hB3 b hb).2.2 (.inr e)⟩
 have hWP:¬ aW I bP:=hOW bP (.inl rfl)
 have hWO:¬ aW I bO:=hOW bO (.inr rfl)
 have hN2:N+1<1000000000:=hN
 have hPO:bP≠bO:=λe=>by
  subst e
  rw [hP] at hO
  exact absurd (Obj.cells.inj (Option.some.inj hO)).2.1 (by decide)
 match s with
 | .rd l=>
  obtain⟨rfl,bl,rfl,h3⟩:=hmr
  obtain⟨l1,l2,l3⟩:=hlv
  refine⟨_,_,uG _,(xJ n m p bl l hn hm l2 w Mut B I N wd hw h3 hB2 l1 l3 hT hnow hp hcn).mono ?_⟩
  rintro e w' ⟨rfl,B',h4,h5,h6,h7⟩
  have xC:∀ k,(k=bP∨k=bO)->¬ aW I k->¬ (aW I k∨B k):=λk hk hW h=>h.elim hW (λh=>(hB3 k h).2.2 hk)
  exact⟨rfl,h6.mono (λk _ hk=>hk.imp_right .inr),B',h7,h4.lt,h5.more (Nat.le_succ _) hN2,⟨(h6.block bP (aC hP) (xC bP (.inl rfl) hWP)).trans hP,(h6.block bO (aC hO) (xC bO (.inr rfl) hWO)).trans hO,hol,.inl ⟨m1,λh=>(hB3 bP h).2.2 (.inl rfl)⟩,.inl ⟨m2,λh=>(hB3 bO h).2.2 (.inr rfl)⟩,hoL⟩,rfl,bl,rfl,h4⟩
 | .ad x=>
  obtain⟨rfl,b,rfl,h3⟩:=hmr
  have hA:EP w Mut n m p b bP x B:=by
   rcases h3 with h3|⟨lv,rv,wv,h4,h5,h6,h7⟩
   ·exact h3
   ·rcases hlv with⟨h8,h9⟩|⟨h8,_⟩
    ·obtain⟨rfl,rfl,rfl⟩:=h6 h8
     rw [h8,h9] at h4
     exact .inl ⟨h8,h9,h4,h7⟩
    ·omega
  rcases hlv with⟨hpc,hxv⟩|⟨hv1,wH,hlv⟩
  ·rcases hA with⟨_,_,hb,rfl⟩|⟨h9,_⟩
   case inr=>exact absurd hpc h9
   refine⟨_,_,iJ _,(ET n m p b bP bO o x hn hm hpn hol hop hpc hxv w Mut I N wd hw (hB2 b rfl) ⟨m2,hWO⟩ hWP hb hP hO hcn).mono λe w' h=>?_⟩
   refine oM (o':=fJ o p ((aJ n+p) / 2)) (lU (xE hpc)) hB3 hPO hWP m1 m2 ((vF ..).trans hol) (xI hoL2) hP ?_
   obtain⟨h1,h2,h3,BB',h4,h5,h6,h7⟩:=h
   exact⟨h1,h2,h3,BB',h4.more (Nat.le_succ _) hN2,h5,h6,h7⟩
  ·rcases hA with⟨h9,_⟩|⟨_,bl,br,BL,BR,BW,⟨wv,hb,hW⟩,hl,hr,xC,hd1,hd2,rfl⟩
   ·rcases hlv with⟨h8,_⟩|⟨h8,_⟩|⟨h8,_⟩<;>omega
   have hbB:(λk=>k=b∨BL k∨BR k∨BW k) b:=.inl rfl
   rcases hlv with⟨hpc,⟨l1,l2,l3⟩,l4⟩|⟨hpc,⟨l1,l2,l3⟩,l4⟩|⟨hpc,l1,l2⟩
   ·rcases hW with⟨_,rfl⟩|⟨h8,_⟩
    case inr=>omega
    rw [hpc] at hb
    refine⟨_,_,iJ _,(EA n m p b bP bO bl br o x hn hm hp hpc hv1 wH w Mut _ BL BR I N wd (lM bO n) wv hw hB4 hWO hWP hbB (λk hk=>⟨.inr (.inl hk),xC k (.inl hk),(hd1 k hk).1⟩) (λk hk=>⟨.inr (.inr (.inl hk)),xC k (.inr (.inl hk))⟩) hb hP hO hl hr l2 l1 l3 hT hnow hcn l4).mono λe w' h=>?_⟩
    refine oM (o':=o) (lU (xW hpc)) hB3 hPO hWP m1 m2 hol hoL hP ?_
    obtain⟨h1,h2,h3,BB',h4,h5,h6,h7⟩:=h
    exact⟨h1,h2,h3,BB',h4.more (Nat.le_succ _) hN2,h5,h6,h7⟩
   ·rcases hW with⟨_,rfl⟩|⟨h8,_⟩
    case inr=>omega
    rw [hpc] at hb
    refine⟨_,_,iJ _,(EC n m p b bP bO bl br o x hn hm hp hpc hv1 wH w Mut _ BL BR I N wd (lM bO n) wv hw hB4 hWO hWP hbB (λk hk=>⟨.inr (.inl hk),xC k (.inl hk)⟩) (λk hk=>⟨.inr (.inr (.inl hk)),xC k (.inr (.inl hk)),λh=>(hd1 k h).1 hk⟩) hb hP hO hl hr l2 l1 l3 hT hnow hcn l4).mono λe w' h=>?_⟩
    refine oM (o':=o) (lU (yS hpc)) hB3 hPO hWP m1 m2 hol hoL hP ?_
    obtain⟨h1,h2,h3,BB',h4,h5,h6,h7⟩:=h
    exact⟨h1,h2,h3,BB',h4.more (Nat.le_succ _) hN2,h5,h6,h7⟩
   ·rcases hW with⟨h8,_⟩|⟨_,bm,tv,kv,rfl,hwr,hkv,hok,rfl⟩
    ·exact absurd hpc h8
    rw [hpc] at hb
    refine⟨_,_,iJ _,(EM n m p b bP bO bl br bm o x hn hm hpn hol hop hpc hv1 wH w Mut _ BL BR I N wd tv kv hw hB4 ⟨m2,hWO⟩ hWP rfl (λk hk=>xC k hk) hd1 hd2 hb hP hO hl hr hwr hkv hok l1 l2 hT hnow hcn hN2).mono λe w' h=>?_⟩
    cases hdn:(aO (aG n m x.v) p wd x.wr).2.2 with
    | true=>
     rw [hdn,if_pos rfl,if_pos rfl,Bool.true_and] at h
     exact oM (o':=fJ o p (x.v / 2)) (lU (uH hpc hdn)) hB3 hPO hWP m1 m2 ((vF ..).trans hol) (xI hoL2) hP h
    | false=>
     rw [hdn,if_neg (by decide),if_neg (by decide),Bool.false_and] at h
     exact oM (o':=o) (lU (uN hpc hdn)) hB3 hPO hWP m1 m2 hol hoL hP h
theorem HY (n m bP bO:Nat) (hn1:1<=n) (hn:n<=16) (hm:m<=8):dP (rM n m bP bO) where
 keepM:=by
  intro w w' Q Mut Mut' B T x p s h hc hQ hB hm
  match s with
  | .rd l=>
   obtain⟨h1,bl,h2,h3⟩:=h
   exact⟨h1,bl,h2,h3.keep hc hQ hB hm⟩
  | .ad y=>
   obtain⟨h1,b,h2,h3⟩:=h
   exact⟨h1,b,h2,h3.imp (λh=>h.keep hc hQ hB hm) (λh=>h.keep hc hB)⟩
 keepO:=λ_ _ _ _ _ _ h hc _ hB _ hM=>⟨(hc.block bP (aC h.1) (hB bP (.inl rfl))).trans h.1,(hc.block bO (aC h.2.1) (hB bO (.inr rfl))).trans h.2.1,h.2.2.1,hM bP (.inl rfl),hM bO (.inr rfl),h.2.2.2.2.2⟩
 lowO:=by
  rintro w Mut o ⟨_,_,_,h1,h2,_⟩ b (rfl|rfl)
  ·exact h1
  ·exact h2
 start:=⟨_,_,wU _,λw Mut I N wd o p c hw ho _ hp hc=>EJ n m bP bO hn1 hn hm w Mut I N wd o p c hw ho (by have hp:p<n:=hp;omega) hp hc⟩
 step:=λw Mut B I N wd o T' x' p s hw ho hmr _ hp hN hcn hB hOW hlv=>GU n m bP bO hn hm w Mut B I N wd o T' x' p s hw ho hmr hp hN hcn hB hOW hlv
 answer:=by
  intro w Mut B T' x' p s hmr _
  match s with
  | .rd l=>
   obtain⟨rfl,bl,rfl,h3⟩:=hmr
   refine⟨_,_,qR _,(uE n m p bl l w Mut B h3).mono ?_⟩
   rintro e' w' ⟨rfl,hb⟩
   exact⟨none,0,_,rfl,jK.nil _ _,Lst.nil _ _,hb⟩
  | .ad x=>
   obtain⟨rfl,b,rfl,h3⟩:=hmr
   refine⟨_,_,qW _,(uF b w).mono ?_⟩
   rintro e' w' ⟨rfl,hb⟩
   exact⟨none,0,_,rfl,jK.nil _ _,Lst.nil _ _,hb⟩
 now:=by
  have hlk:∀(p:Nat) (wd:WD) (l:LkD),(aI n m p wd l).1.now=wd.now:=λp wd l=>by
   unfold aI
   split
   ·rfl
   ·split
    ·rw [gI];rfl
    ·rw [gI];rfl
  have hwg:∀(b p:Nat) (wd:WD) (x:WrD),(aO b p wd x).1.now=wd.now:=λb p wd x=>by
   rw [kE]
   unfold dE
   split
   ·rfl
   ·split<;>rfl
  intro o wd p s
  match s with
  | .rd l=>exact hlk p wd l
  | .ad x=>
   show(dU n m o wd p x).2.1.now=_
   unfold dU
   split
   ·rfl
   ·split
    ·exact hlk p wd _
    ·split
     ·exact hlk p wd _
     ·split
      ·exact hwg _ p wd _
      ·exact hwg _ p wd _
 cnt:=by
  have hlk:∀(p:Nat) (wd:WD) (l:LkD),(aI n m p wd l).1.mem.c.all<=wd.mem.c.all+1:=λp wd l=>by
   unfold aI
   split
   ·exact jI _ _
   ·split
    ·rw [gI];exact jI _ _
    ·rw [gI];exact jI _ _
  have hwg:∀(b p:Nat) (wd:WD) (x:WrD),(aO b p wd x).1.mem.c.all<=wd.mem.c.all+1:=λb p wd x=>by
   rw [kE]
   unfold dE
   split
   ·exact nA _ _ _
   ·split<;>exact jI _ _
  intro o wd p s
  match s with
  | .rd l=>exact hlk p wd l
  | .ad x=>
   show(dU n m o wd p x).2.1.mem.c.all<=_
   unfold dU
   split
   ·exact nA _ _ _
   ·split
    ·exact hlk p wd _
    ·split
     ·exact hlk p wd _
     ·split
      ·exact hwg _ p wd _
      ·exact hwg _ p wd _
 invStep:=λ_ _ _ _ _=>trivial
 invTick:=λ_ _ _=>trivial
 invBegin:=λ_ _ _ _=>trivial
theorem AL (n m bP bO:Nat):pQ (rM n m bP bO) where
 late:=λ_ _ _ _=>rfl
 kind:=by
  intro w Mut B T' x' p s hm v u
  match s with
  | .rd l=>
   obtain⟨rfl,_⟩:=hm
   exact yD _ u
  | .ad x=>
   obtain⟨rfl,_⟩:=hm
   exact wP _ u
end Go.Proofs.Ytifhldnmcdbpfaa
