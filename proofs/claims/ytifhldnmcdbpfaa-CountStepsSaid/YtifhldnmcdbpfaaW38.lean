/- Layer 11: one that counts: it writes a sum. -/
import Derived.Test.YtifhldnmcdbpfaaW37
set_option maxRecDepth 100000
set_option linter.unusedVariables false
set_option linter.unusedSimpArgs false
set_option linter.unnecessarySimpa false
namespace Go.Proofs.Ytifhldnmcdbpfaa
section
open Go.RowKit
set_option maxHeartbeats 8000000 in
theorem EM (n m p b bP bO bl br bm:Nat) (o:List Nat) (x:AdD) (hn:n<=16) (hm:m<=8) (hp:p<n) (ho:o.length=n) (hop:o.getD p 0<1000000) (hpc:x.pc=3) (hv1:1<=x.v) (hv:x.v<=15) (w:World) (Mut BB BL BR:Nat->Prop) (I:dG) (N:Nat) (wd:WD) (tv kv:Value) (hw:aM w Mut I N wd) (hM:∀ k,BB k->Mut k/\¬ aW I k/\k≠bP/\k≠bO) (hOM:Mut bO/\¬ aW I bO) (hPW:¬ aW I bP)
  (hBB:BB=λk=>k=b∨BL k∨BR k∨bC bm tv k) (hne:∀ k,(BL k∨BR k∨bC bm tv k)->k≠b) (hd1:∀ k,BL k->¬ BR k/\¬ bC bm tv k) (hd2:∀ k,BR k->¬ bC bm tv k)
  (hb:w.heap[b]?=some (.cells (bM bP p x.v 3 (.pointer (some ⟨bl,0,none⟩)) (.pointer (some ⟨br,0,none⟩)) (.iface 243 (.pointer (some ⟨bm,0,none⟩)))) 205 (0,0))) (hP:w.heap[bP]?=some (.cells (ctL n m (aJ n) (lM bO n)) 80 (0,0))) (hO:w.heap[bO]?=some (.cells (jE o) 40 (0,0)))
  (hl:dL w Mut n m p bl x.left BL) (hr:dL w Mut n m p br x.right BR) (hwr:bV w bm (bA x.wr.v x.wr.up x.wr.nx kv) 246 (aG n m x.v) m p x.wr.y tv) (hkv:Lst w Mut kv x.wr.ky) (hok:fZ m x.wr) (hlf:if x.wr.up=true then 1<=x.wr.nx else 0<x.wr.y.left) (hlast:x.wr.y.last<=1000000) (hT:iT wd) (hnow:wd.now<=1000000) (hcn:wd.mem.c.all+1<1000000000000) (hN:N+1<1000000000) :
  Calls Try.prog 149 #[.pointer (some ⟨b,0,none⟩),.pointer (some ⟨I.bW,0,none⟩)] w λe w'=>kR w w' Mut BB I (N+1) (aO (aG n m x.v) p wd x.wr).1 n m p b bP bO o (if (aO (aG n m x.v) p wd x.wr).2.2=true then fJ o p (x.v / 2) else o) (if (aO (aG n m x.v) p wd x.wr).2.2=true then ({ x with wr:=(aO (aG n m x.v) p wd x.wr).2.1 }:AdD).climb n m (x.v / 2) else { x with wr:=(aO (aG n m x.v) p wd x.wr).2.1 }) ((aO (aG n m x.v) p wd x.wr).2.2 && decide (x.v / 2<1)) e:=by
 have hM2:∀ k,BB k->Mut k/\¬ aW I k:=λk hk=>⟨(hM k hk).1,(hM k hk).2.1⟩
 have hbB:BB b:=by rw [hBB];exact .inl rfl
 have hWB:∀ k,bC bm tv k->BB k:=λk hk=>by rw [hBB];exact .inr (.inr (.inr hk))
 have hLB:∀ k,BL k->BB k:=λk hk=>by rw [hBB];exact .inr (.inl hk)
 have hRB:∀ k,BR k->BB k:=λk hk=>by rw [hBB];exact .inr (.inr (.inl hk))
 have hbase:=pM (v:=x.v) hn hm (by omega)
 have WS:=Lib.hid (MJ x.wr hw hwr hkv (λk hk=>hM2 k (hWB k hk)) hok (by omega) hbase.2 hT hnow hlast (by omega) hcn hN hlf)
 have hok':=hok.step (aG n m x.v) p wd (λhu=>by rw [hu,if_neg Bool.false_ne_true] at hlf;exact hlf)
 have nO:bO≠b:=λe=>(hM b hbB).2.2.2 e.symm
 have nP:bP≠b:=λe=>(hM b hbB).2.2.1 e.symm
 have hMe:=EL ⟨bm,0,none⟩
 have m1:=hMe.ahead;have m2:=hMe.meth;have m3:=hMe.enter
 have x3:w.cell? ⟨b,3,none⟩=some (.int .i64 3):=by rw [aA hb];rfl
 have x6:w.cell? ⟨b,6,none⟩=some (.iface 243 (.pointer (some ⟨bm,0,none⟩))):=by rw [aA hb];rfl
 have AB:=Lib.hid (λ(w1:World) (hc:Chg (λk=>aW I k∨bC bm tv k) w w1)=>(show w1.heap[b]?=some (.cells (bM bP p x.v 3 (.pointer (some ⟨bl,0,none⟩)) (.pointer (some ⟨br,0,none⟩)) (.iface 243 (.pointer (some ⟨bm,0,none⟩)))) 205 (0,0))/\w1.heap[bO]?=some (.cells (jE o) 40 (0,0))/\w1.heap[bP]?=some (.cells (ctL n m (aJ n) (lM bO n)) 80 (0,0)) from
  ⟨(hc.block b (aC hb) (λh=>h.elim (hM2 b hbB).2 (λh=>hne b (.inr (.inr h)) rfl))).trans hb,(hc.block bO (aC hO) (λh=>h.elim hOM.2 (λh=>(hM bO (hWB bO h)).2.2.2 rfl))).trans hO,(hc.block bP (aC hP) (λh=>h.elim hPW (λh=>(hM bP (hWB bP h)).2.2.1 rfl))).trans hP⟩))
 obtain⟨R,hR⟩:∃ R,R=aO (aG n m x.v) p wd x.wr:=⟨_,rfl⟩
 rw [<-hR] at WS hok' ⊢
 obtain⟨wd',wr',dn⟩:=R
 simp only at WS hok' ⊢
 have NOT:=Lib.hid (λ(w1:World) (tv' kv':Value) (h1:aU w w1 Mut I (N+1) wd' bm (bA wr'.v wr'.up wr'.nx kv') 246 (aG n m x.v) m p tv wr'.y tv') (h2:Lst w1 (aT Mut (bC bm tv) (bC bm tv')) kv' wr'.ky)=>(show kR w w1 Mut BB I (N+1) wd' n m p b bP bO o o ({ x with wr:=wr' }:AdD) false (.returned (.bool false)) from by
  obtain⟨a1,a2,a3⟩:=AB.out w1 h1.chg
  have hbw:=aC hb
  have hnw:∀ k,bC bm tv' k->k≠b/\¬ BL k/\¬ BR k:=λk hk=>by
   rcases h1.sub k hk with h9|h9
   ·exact⟨hne k (.inr (.inr h9)),λh=>(hd1 k h).2 h9,λh=>hd2 k h h9⟩
   ·exact⟨by omega,λh=>by have:=hl.lt k h;omega,λh=>by have:=hr.lt k h;omega⟩
  have hlt:∀ k,(k=b∨BL k∨BR k∨bC bm tv' k)->k<w1.heap.size:=by
   have hs:=h1.chg.size
   rintro k (a|a|a|a)
   ·rw [a];omega
   ·exact Nat.lt_of_lt_of_le (hl.lt k a) hs
   ·exact Nat.lt_of_lt_of_le (hr.lt k a) hs
   ·exact h1.way.lt k a
  have hmv:∀ k,(k=b∨BL k∨BR k∨bC bm tv' k)->bC bm tv' k∨(Mut k/\¬ bC bm tv k):=by
   rintro k (a|a|a|a)
   ·rw [a];exact .inr ⟨(hM2 b hbB).1,λh=>hne b (.inr (.inr h)) rfl⟩
   ·exact .inr ⟨(hM2 k (hLB k a)).1,(hd1 k a).2⟩
   ·exact .inr ⟨(hM2 k (hRB k a)).1,hd2 k a⟩
   ·exact .inl a
  have hup:aV Mut w (aT Mut BB (λk=>k=b∨BL k∨BR k∨bC bm tv' k)):=by
   rintro k (⟨a,_⟩|a|a|a|a)
   ·exact .inl a
   ·rw [a];exact .inl (hM2 b hbB).1
   ·exact .inl (hM2 k (hLB k a)).1
   ·exact .inl (hM2 k (hRB k a)).1
   ·exact(h1.sub k a).imp_left (λh=>(hM2 k (hWB k h)).1)
  have hQ:∀ k,(aW I k∨bC bm tv k)->Mut k:=λk h=>h.elim (hw.muts k) (λh=>(hM2 k (hWB k h)).1)
  refine⟨rfl,h1.chg.mono (λk _ h=>h.elim .inl (λh=>.inr (.inr (hWB k h)))),a2,λk=>k=b∨BL k∨BR k∨bC bm tv' k,jS h1.world hWB hmv hlt (λk hk=>⟨hw.muts k hk,λh9=>(hM2 k h9).2 hk⟩),λk hk=>?_,hlt,?_⟩
  ·rcases hk with a|a|a|a
   ·rw [a];exact .inl hbB
   ·exact .inl (hLB k a)
   ·exact .inl (hRB k a)
   ·exact(h1.sub k a).imp_left (hWB k)
  ·rw [if_neg (by decide)]
   refine .inr ⟨by show x.pc≠0;omega,bl,br,BL,BR,bC bm tv',⟨_,by show w1.heap[b]?=some (.cells (bM bP p x.v x.pc _ _ _) _ _);rw [hpc];exact a1,.inr ⟨hpc,bm,tv',kv',rfl,h1.way,h2.keep (S:=noB) (Chg.refl _ _) (λ_ h=>h.elim) (λk hk=>?_),hok',rfl⟩⟩,hl.keep h1.chg hQ (λk hk h=>h.elim (hM2 k (hLB k hk)).2 (hd1 k hk).2) hup,hr.keep h1.chg hQ (λk hk h=>h.elim (hM2 k (hRB k hk)).2 (hd2 k hk)) hup,?_,λk hk=>⟨(hd1 k hk).1,λh=>(hnw k h).2.1 hk⟩,λk hk h=>(hnw k h).2.2 hk,rfl⟩
   ·rcases hk with⟨a,c⟩|a
    ·exact .inl (.inl ⟨a,λh=>c (hWB k h)⟩)
    ·exact(hmv k a).elim (λh=>.inl (.inr h)) (λh=>.inl (.inl h))
   ·rintro k (a|a|a)
    ·exact hne k (.inl a)
    ·exact hne k (.inr (.inl a))
    ·exact(hnw k a).1))
 have DON:=Lib.hid (λ(w1:World) (tv' kv':Value) (h1:aU w w1 Mut I (N+1) wd' bm (bA wr'.v wr'.up wr'.nx kv') 246 (aG n m x.v) m p tv wr'.y tv')=>(show aM w1 (aT Mut BB (λk=>k=b)) I (N+1) wd'/\aT Mut BB (λk=>k=b) bO/\b<w1.heap.size/\Chg (λk=>aW I k∨k=bO∨BB k) w w1 from by
  have hbw:=aC hb
  have hs:=h1.chg.size
  exact⟨jS h1.world hWB (λk hk=>by rw [show k=b from hk];exact .inr ⟨(hM2 b hbB).1,λh=>hne b (.inr (.inr h)) rfl⟩) (λk hk=>by rw [show k=b from hk];omega) (λk hk=>⟨hw.muts k hk,λh9=>(hM2 k h9).2 hk⟩),.inl ⟨hOM.1,λh=>(hM bO h).2.2.2 rfl⟩,by omega,h1.chg.mono (λk _ h=>h.elim .inl (λh=>.inr (.inr (hWB k h))))⟩))
 have HbW:=Lib.hid (hM2 b hbB).2;have Hpc3:=Lib.hid hpc
 have HbB:=Lib.hid hbB;have NO:=Lib.hid nO;have NP:=Lib.hid nP
 obtain⟨v,hvv⟩:∃ v,v=x.v / 2:=⟨_,rfl⟩
 have e1:(x.v:Int).tdiv 2=(v:Int):=by rw [hvv,Int.tdiv_eq_ediv_of_nonneg (by omega)];omega
 have e2:(x.v:Int) / 2=(v:Int):=by omega
 have XJ:IntKind.i64.wrap (v:Int)=(v:Int):=by rw [IntKind.wrap_i64];omega
 have wH:v<=15:=by omega
 have UY:∀ w1:World,w1.heap[b]?=some (.cells (bM bP p x.v 3 (.pointer (some ⟨bl,0,none⟩)) (.pointer (some ⟨br,0,none⟩)) (.iface 243 (.pointer (some ⟨bm,0,none⟩)))) 205 (0,0))->w1.cell? ⟨b,2,none⟩=some (.int .i64 (x.v:Int)):=λw1 h=>by rw [aA h];rfl
 have XV:=Lib.hid UY;have Hv15:=Lib.hid wH
 have Hn:=Lib.hid hn;have Hm:=Lib.hid hm;have Hp:=Lib.hid hp;have Ho:=Lib.hid ho;have Hop:=Lib.hid hop;have HOM:=Lib.hid hOM;have Hvv:=Lib.hid hvv
 rw [<-hvv]
 obtain⟨D,hD⟩:∃ D,D=decide (v<1):=⟨_,rfl⟩
 rw [<-hD]
 have HD:=Lib.hid hD
 clear hD
 clear hw hM hM2 hOM hPW hBB hne hd1 hd2 hb hP hO hl hr hwr hkv hok hok' hlf hlast hT hnow hcn hN hbB hWB hLB hRB hbase nO nP hMe hR hvv wH UY hn hm hp ho hop hv1 hv hpc
 go_enter Try.func149,Try.ntmps149
 go_wp2_with fail
 refine WS.out.mono ?_
 rintro e w1 ⟨rfl,tv',kv',hto,hlst⟩
 obtain⟨vH,zB,CR⟩:=AB.out w1 hto.chg
 cases dn with
 | false=>
  have F:=Lib.hid (NOT.out w1 tv' kv' hto hlst)
  clear hto hlst vH zB CR
  go_wp2
  go_ret
  exact F.out
 | true=>
  obtain⟨hW1,hO1,qV,hc1⟩:=DON.out w1 tv' kv' hto
  obtain⟨X,hX⟩:∃ X,X=({ x with wr:=wr' }:AdD):=⟨_,rfl⟩
  have FIN:=Lib.hid (λ(w':World) (e:Ending) (h:(v<1/\xM w1 w' b bP bO p 3 o (.pointer (some ⟨bl,0,none⟩)) (.pointer (some ⟨br,0,none⟩)) (.iface 243 (.pointer (some ⟨bm,0,none⟩))) e)∨(¬ v<1/\oK w1 w' (aT Mut BB (λk=>k=b)) n m p b bP (X.climb n m v) e))=>(show kR w w' Mut BB I (N+1) wd' n m p b bP bO o (fJ o p v) (({ x with wr:=wr' }:AdD).climb n m v) D e from by
   rw [<-hX,HD.out]
   exact(xF (BB:=λk=>k=b) hW1 (Chg.refl _ w1) ⟨.inr rfl,HbW.out⟩ ⟨hO1,HOM.out.2,λh=>NO.out h⟩ (λk hk=>by rw [show k=b from hk];exact⟨.inr rfl,HbW.out⟩) rfl (λk hk=>by rw [show k=b from hk];exact qV) zB (λ_=>by rw [hX];exact⟨Hpc3.out.symm,λe=>by have e:x.pc=0:=e;rw [Hpc3.out] at e;cases e⟩) h NO.out).trans hc1 HbB.out))
  have y2:=XV.out w1 vH
  by_cases hv0:v<1
  ·have hvz:v=0:=by omega
   subst hvz
   have TP:=Lib.hid (IU n m p b bP bO x.v 3 o (.pointer (some ⟨bl,0,none⟩)) (.pointer (some ⟨br,0,none⟩)) (.iface 243 (.pointer (some ⟨bm,0,none⟩))) Hn.out Hp.out Ho.out Hop.out w1 vH CR zB)
   clear hto hlst vH zB CR hW1 hO1 qV hc1 hv0
   go_wp2_with fail
   refine TP.out.mono ?_
   intro e w7 h7
   have F7:=Lib.hid (FIN.out w7 e (.inl ⟨Nat.lt_succ_self 0,h7⟩))
   obtain⟨rfl,_⟩:=h7
   go_wp2
   go_ret
   exact F7.out
  ·have CL:=Lib.hid (yV n m p b bP v 3 X (.pointer (some ⟨bl,0,none⟩)) (.pointer (some ⟨br,0,none⟩)) (.iface 243 (.pointer (some ⟨bm,0,none⟩))) (lM bO n) Hn.out Hm.out (by omega) Hv15.out w1 (aT Mut BB (λk=>k=b)) I (N+1) wd' hW1 ⟨.inr rfl,HbW.out⟩ (by rw [hX];exact vH) CR)
   have Hv0:=Lib.hid hv0
   clear hto hlst vH zB CR hW1 hO1 qV hc1 hv0 hX
   go_wp2_with fail
   refine CL.out.mono ?_
   intro e w7 h7
   have F7:=Lib.hid (FIN.out w7 e (.inr ⟨Hv0.out,h7⟩))
   obtain⟨rfl,_⟩:=h7
   go_wp2
   go_ret
   exact F7.out
end
section
open Go.RowKit
def QZ (n m bP:Nat) (w:World) (Mut B:Nat->Prop) (T:TypeId) (x:Value) (p:Nat):CtS->Prop
 | .rd l=>T=202/\∃ bl,x=.agg #[.pointer (some ⟨bl,0,none⟩)]/\dL w Mut n m p bl l B
 | .ad y=>T=203/\∃ b,x=.pointer (some ⟨b,0,none⟩)/\(EP w Mut n m p b bP y B∨tJ w p b bP y B)
def vM (l:LkD):Prop:=l.kind≠2/\l.v<=32/\(l.kind=0->0<l.x.y.left)
def OL (n m:Nat) (wd:WD) (p:Nat) (x:AdD):Prop:=
 (x.pc=0/\x.v=0)∨(1<=x.v/\x.v<=15/\((x.pc=1/\vM x.left/\((aI n m p wd x.left).2.2=true->(aI n m p wd x.left).2.1.val+x.right.val<2^m))∨(x.pc=2/\vM x.right/\((aI n m p wd x.right).2.2=true->x.left.val+(aI n m p wd x.right).2.1.val<2^m))∨(x.pc=3/\(if x.wr.up=true then 1<=x.wr.nx else 0<x.wr.y.left)/\x.wr.y.last<=1000000)))
def vY (n m:Nat) (o:List Nat) (wd:WD) (p:Nat) (s:CtS):Prop:=iT wd/\wd.now<=1000000/\p<n/\o.getD p 0<1000000/\match s with
 | .rd l=>vM l
 | .ad x=>OL n m wd p x
def rM (n m bP bO:Nat):Real (bH n m) where
 T:=59
 x:=.pointer (some ⟨bP,0,none⟩)
 OB:=λb=>b=bP∨b=bO
 ORep:=λw Mut o=>w.heap[bP]?=some (.cells (ctL n m (aJ n) (lM bO n)) 80 (0,0))/\w.heap[bO]?=some (.cells (jE o) 40 (0,0))/\List.length (α:=Nat) o=n/\Mut bP/\Mut bO/\∀ p,List.getD (α:=Nat) o p 0<1000000
 MRep:=QZ n m bP
 thr:=λp=>p<n
 inv:=λ_ _=>True
 dN:=1
 live:=λo wd p s=>vY n m o wd p s/\∀ q,List.getD (α:=Nat) o q 0<999999
set_option maxHeartbeats 8000000 in
theorem EJ (n m bP bO:Nat) (hn1:1<=n) (hn:n<=16) (hm:m<=8) (w:World) (Mut:Nat->Prop) (I:dG) (N:Nat) (wd:WD) (o:List Nat) (p:Nat) (c:aF) (hw:aM w Mut I N wd) (ho:w.heap[bP]?=some (.cells (ctL n m (aJ n) (lM bO n)) 80 (0,0))/\w.heap[bO]?=some (.cells (jE o) 40 (0,0))/\o.length=n/\Mut bP/\Mut bO/\∀ p,o.getD p 0<1000000) (hp:p<16) (hpn:p<n) (hc:mY c) :
  Calls Try.prog 122 #[.pointer (some ⟨bP,0,none⟩),.pointer (some ⟨I.bW,0,none⟩),.int .i64 (p:Int),qY c] w (vE (rM n m bP bO) w Mut I wd o p c):=by
 obtain⟨th,ob,kd,ca,cb,cc⟩:=c
 have hlow:=hw.low
 obtain⟨hP,hO,hol,hm1,hm2,hoL⟩:=ho
 unfold qY
 simp only
 have hPl:=hlow _ hm1
 have nm:∀(d k:Nat),w.heap.size<=k->k≠d->¬ (aT Mut noB (λb=>b=d) k):=λd k hk hkd=>by
  rintro(⟨hx,_⟩|hx)
  ·have:=hlow _ hx;omega
  ·exact hkd hx
 have Nm:=Lib.hid nm
 obtain⟨wa,hwa⟩:∃ wa,wa=w.alloc (.cells #[.int .i64 th,.int .i64 ob,.int .i64 kd,.int .u64 (ca:Int),.int .u64 (cb:Int),.int .u64 (cc:Int)] 46):=⟨_,rfl⟩
 have hga:Below w.heap.size w wa:=by rw [hwa];exact Gr.new _ _
 have hsz:wa.heap.size=w.heap.size+1:=by rw [hwa];simp
 have ha1:wa.heap[w.heap.size]?=some (.cells #[.int .i64 th,.int .i64 ob,.int .i64 kd,.int .u64 (ca:Int),.int .u64 (cb:Int),.int .u64 (cc:Int)] 46 (0,0)):=by rw [hwa];exact heap_alloc_new _ _
 have f2:wa.cell? ⟨w.heap.size,2,none⟩=some (.int .i64 kd):=by rw [aA ha1];rfl
 have hPa:=(hga.block bP hPl).trans hP
 have hOa:=(hga.block bO (aC hO)).trans hO
 obtain⟨u,hu⟩:∃ u,u=o.getD p 0:=⟨_,rfl⟩
 have STh:=Lib.hid (show(bH n m).start o wd p ⟨th,ob,kd,ca,cb,cc⟩=(if kd=1 then Mc.run (CtS.rd (dR n m 1)) else if kd≠0 then .refuse 9 else if 2^m - 1<(o.getD p 0+1)*n then .refuse 6 else .run (.ad ad0)) from rfl)
 rw [<-hu] at STh
 have hul:u<1000000:=by rw [hu];exact hoL p
 have u1:wa.cell? ⟨bP,1,none⟩=some (.int .i64 (n:Int)):=by rw [aA hPa];rfl
 have u2:wa.cell? ⟨bP,2,none⟩=some (.int .i64 (m:Int)):=by rw [aA hPa];rfl
 have u4:wa.cell? ⟨bP,4,none⟩=some (.slice (some ⟨bO,0,none⟩) n n):=by rw [aA hPa];rfl
 have u5:wa.cell? ⟨bO,p,none⟩=some (.int .u64 (u:Int)):=by rw [aA hOa,hu];exact rY (by omega)
 have lp:(p:Int)<(n:Int):=by omega
 have TZ:(0:Int)<=(p:Int):=by omega
 have hp2:2^m<=256:=Nat.pow_le_pow_right (n:=2) (by decide) hm
 obtain⟨S,hS⟩:∃ S,S=2^m - 1:=⟨_,rfl⟩
 rw [<-hS] at STh
 obtain⟨q,hq⟩:∃ q,q=(u+1)*n:=⟨_,rfl⟩
 rw [<-hq] at STh
 have hql:q<=16000000:=by rw [hq];have:=Nat.mul_le_mul (show u+1<=1000000 by omega) hn;omega
 have eq:((u:Int)+1)*(n:Int)=(q:Int):=by rw [hq];simp
 have XB:IntKind.u64.wrap ((u:Int)+1)=(u:Int)+1:=by rw [IntKind.wrap_u64];omega
 have wn:IntKind.u64.wrap (n:Int)=(n:Int):=by rw [IntKind.wrap_u64];omega
 have wq:IntKind.u64.wrap (((u:Int)+1)*(n:Int))=(q:Int):=by rw [eq,IntKind.wrap_u64];omega
 have wS:IntKind.u64.wrap (S:Int)=(S:Int):=by rw [IntKind.wrap_u64];omega
 have SZ:=Lib.hid (λ(g:gY wa)=>((rG m (by omega) g.u).mono (λe w' h=>⟨h.1,by rw [<-h.2];exact Gr.refl _⟩):Calls Try.prog 44 #[.int .i64 (m:Int)] g.u λe w'=>e=.returned (.int .i64 ((2^m - 1:Nat):Int))/\Below g.u.heap.size g.u w'))
 rw [<-hS] at SZ
 have LK:=Lib.hid (vN bP n m 1 p (lM bO n) hn hm (by omega) (by omega) wa Mut hPa)
 have Hwa:=Lib.hid hwa;have Hga:=Lib.hid hga;have Hsz:=Lib.hid hsz;have HPa:=Lib.hid hPa
 have Hlw:=Lib.hid hlow
 clear hw hc hlow hP hO hm1 hm2 hu nm hwa hga hsz ha1 hPa hOa hp hpn hoL hol hul hS hq eq hp2 hn hm hn1
 by_cases h1:kd=1
 ·have Hst:=Lib.hid (show(bH n m).start o wd p ⟨th,ob,kd,ca,cb,cc⟩=.run (.rd (dR n m 1)) by rw [STh.out,if_pos h1];rfl)
  subst h1
  go_enter Try.func122,Try.ntmps122
  go_upto_region 1 with fail
  rw [<-Hwa.out]
  go_wp2_with fail
  refine LK.out.mono ?_
  rintro e w3 ⟨bl,B,rfl,hb3,hl3,JH⟩
  have Hb3:=Lib.hid hb3;have Hl3:=Lib.hid hl3;have Hge:=Lib.hid JH
  clear hb3 hl3 JH
  go_wp2
  go_ret
  have h5:=Hsz.out
  refine⟨_,_,B,rfl,Gr.trans Hga.out Hb3.out,λb hb=>⟨by have:=Hge.out b hb;omega,Hl3.out.lt b hb⟩,?_⟩
  rw [Hst.out]
  refine⟨rfl,bl,rfl,?_⟩
  exact Hl3.out.any rfl
 by_cases h0:kd=0
 ·by_cases hf:S<q
  ·have Hst:=Lib.hid (show(bH n m).start o wd p ⟨th,ob,kd,ca,cb,cc⟩=.refuse 6 by rw [STh.out,if_neg h1,if_neg (by simpa using h0),if_pos hf];rfl)
   have Rf:=Lib.hid (mU 6)
   have l1:(S:Int)<(q:Int):=by omega
   have E1:=dY u1;have E2:=dY u2;have E4:=dY u4;have E5:=dY u5
   subst h0
   clear h1 hf STh
   go_enter Try.func122,Try.ntmps122
   go_upto_region 5 with fail
   rw [<-Hwa.out]
   clear f2
   ((with_reducible refine fU (by kernel_rfl) (by kernel_rfl) ?_);(repeat ((with_reducible refine wpQuiet_step (λK hK=>?_));go_simp;first|((with_reducible refine hK _ ?_);clear hK K)|((with_reducible apply Exists.intro);(with_reducible refine⟨λ_=>?_,hK _ ?_⟩);((go_at_call 44;first|exact zU (SZ.out _)|exact vS (SZ.out _)));clear hK K)));(with_reducible refine wpQuiet_nil ?_);intro _ hw';obtain⟨nq,hw''⟩:=hw';subst hw'')
   have Hq:=Lib.hid nq.below
   go_wp2_with (go_at_call 96;refine(Rf.out _).mono ?_;rintro e w' ⟨rfl,hrf,hbr⟩)
   go_ret
   have hsw:=Hsz.out
   have hqs:=Hq.out.size
   refine⟨_,_,λb=>b=nq.u.heap.size+1,rfl,Gr.trans Hga.out (Gr.trans Hq.out hbr),λb hb=>by subst hb;exact⟨by omega,aC hrf.1⟩,?_⟩
   rw [Hst.out]
   exact⟨rfl,nq.u.heap.size+1,nq.u.heap.size,rfl,hrf,rfl,Nm.out _ _ (by omega) (by omega)⟩
  ·have Hst:=Lib.hid (show(bH n m).start o wd p ⟨th,ob,kd,ca,cb,cc⟩=.run (.ad ad0) by rw [STh.out,if_neg h1,if_neg (by simpa using h0),if_neg hf];rfl)
   have l1:¬ (S:Int)<(q:Int):=by omega
   have E1:=dY u1;have E2:=dY u2;have E4:=dY u4;have E5:=dY u5
   subst h0
   clear h1 hf STh
   go_enter Try.func122,Try.ntmps122
   go_upto_region 5 with fail
   rw [<-Hwa.out]
   clear f2
   ((with_reducible refine fU (by kernel_rfl) (by kernel_rfl) ?_);(repeat ((with_reducible refine wpQuiet_step (λK hK=>?_));go_simp;first|((with_reducible refine hK _ ?_);clear hK K)|((with_reducible apply Exists.intro);(with_reducible refine⟨λ_=>?_,hK _ ?_⟩);((go_at_call 44;first|exact zU (SZ.out _)|exact vS (SZ.out _)));clear hK K)));(with_reducible refine wpQuiet_nil ?_);intro _ hw';obtain⟨nq,hw''⟩:=hw';subst hw'')
   have Hq:=Lib.hid nq.below
   go_wp2
   go_ret
   have hblk:=heap_alloc_new nq.u (.cells (bM bP p 0 0 (.pointer none) (.pointer none) .nilIface) 205 (0,0))
   have h5:=Hsz.out;have h6:=Hq.out.size
   refine⟨_,_,λb=>b=nq.u.heap.size,rfl,Gr.trans (Gr.trans Hga.out Hq.out) (Gr.new _ _),λb hb=>?_,?_⟩
   ·subst hb
    simp only [World.size_alloc]
    omega
   rw [Hst.out]
   exact⟨rfl,nq.u.heap.size,rfl,.inl (.inl ⟨rfl,rfl,hblk,rfl⟩)⟩
 ·have Hst:=Lib.hid (show(bH n m).start o wd p ⟨th,ob,kd,ca,cb,cc⟩=.refuse 9 by rw [STh.out,if_neg h1,if_pos h0];rfl)
  have Rf:=Lib.hid (mU 9)
  have q1:(kd != 0)=true:=by simp [h0]
  have q0:(kd == 1)=false:=by simp [h1]
  go_enter Try.func122,Try.ntmps122
  go_upto_region 1 with fail
  rw [<-Hwa.out]
  go_wp2_with (go_at_call 96;refine(Rf.out _).mono ?_;rintro e w' ⟨rfl,hrf,hbr⟩)
  go_ret
  have hsw:=Hsz.out
  refine⟨_,_,λb=>b=wa.heap.size+1,rfl,Gr.trans Hga.out hbr,λb hb=>by subst hb;exact⟨by omega,aC hrf.1⟩,?_⟩
  rw [Hst.out]
  exact⟨rfl,wa.heap.size+1,wa.heap.size,rfl,hrf,rfl,Nm.out _ _ (by omega) (by omega)⟩
end
end Go.Proofs.Ytifhldnmcdbpfaa
