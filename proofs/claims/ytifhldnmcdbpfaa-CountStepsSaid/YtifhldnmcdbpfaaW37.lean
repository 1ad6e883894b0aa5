/- Layer 11: one that counts: it looks at a node's children; it writes. -/
import Derived.Test.YtifhldnmcdbpfaaW36
import Derived.Test.YtifhldnmcdbpfaaW27
set_option maxRecDepth 100000
set_option linter.unusedVariables false
set_option linter.unusedSimpArgs false
set_option linter.unnecessarySimpa false
namespace Go.Proofs.Ytifhldnmcdbpfaa
open Go.RowKit
theorem MF (m:Nat) (x:AdD) (h:x.pc=1∨x.pc=2):(x.pass m).pc≠0/\((x.pass m).pc=3->(x.pass m).wr.ky=[]):=by
 unfold AdD.pass AdD.pass2 AdD.pass1 AdD.sum
 split
 ·split
  ·exact⟨Nat.succ_ne_zero 2,λ_=>jR _ _⟩
  ·exact⟨Nat.succ_ne_zero 1,λh=>by cases h⟩
 ·split
  ·exact⟨Nat.succ_ne_zero 2,λ_=>jR _ _⟩
  ·exact⟨by omega,λh9=>by omega⟩
theorem VO (b:Nat) (A B:Nat->Prop):(λk=>k=b∨A k∨B k)=(λk=>k=b∨B k∨A k):=by
 funext k
 apply propext
 constructor
 ·rintro(h|h|h)
  ·exact .inl h
  ·exact .inr (.inr h)
  ·exact .inr (.inl h)
 ·rintro(h|h|h)
  ·exact .inl h
  ·exact .inr (.inr h)
  ·exact .inr (.inl h)
theorem JB {w w1:World} {Mut BB BL BL' BR:Nat->Prop} {I:dG} {N:Nat} {wd':WD} {n m p b bl br:Nat} {l' r:LkD} (hw:∀ k,aW I k->Mut k) (hlow:∀ k,Mut k->k<w.heap.size) (hM:∀ k,BB k->Mut k/\¬ aW I k) (hb:BB b) (hBL:∀ k,BL k->BB k/\k≠b/\¬ BR k) (hBR:∀ k,BR k->BB k/\k≠b) (hbl:b<w.heap.size) (hrl:dL w Mut n m p br r BR)
  (hl1:dL w1 (aT Mut BL BL') n m p bl l' BL') (hW1:aM w1 (aT Mut BL BL') I N wd') (hc1:Chg (λk=>aW I k∨BL k) w w1) (hs1:∀ k,BL' k->BL k∨w.heap.size<=k) :
  aM w1 (aT Mut BB (λk=>k=b∨BL' k∨BR k)) I N wd'/\dL w1 (aT Mut BB (λk=>k=b∨BL' k∨BR k)) n m p bl l' BL'/\dL w1 (aT Mut BB (λk=>k=b∨BL' k∨BR k)) n m p br r BR/\(∀ k,(BL' k∨BR k)->(BB k∨w.heap.size<=k)/\k≠b)/\(∀ k,BL' k->¬ BR k)/\(∀ k,BR k->¬ (aW I k∨BL k)):=by
 have hRn:∀ k,BR k->¬ (aW I k∨BL k):=λk hk h=>h.elim (hM k (hBR k hk).1).2 (λh9=>(hBL k h9).2.2 hk)
 have hup:aV Mut w (aT Mut BB (λk=>k=b∨BL' k∨BR k)):=by
  rintro k (⟨a,_⟩|a|a|a)
  ·exact .inl a
  ·rw [a];exact .inl (hM b hb).1
  ·exact(hs1 k a).imp_left (λh=>(hM k (hBL k h).1).1)
  ·exact .inl (hM k (hBR k a).1).1
 have hlt:∀ k,(k=b∨BL' k∨BR k)->k<w1.heap.size:=by
  rintro k (a|a|a)
  ·rw [a];exact Nat.lt_of_lt_of_le hbl hc1.size
  ·exact hl1.lt k a
  ·exact Nat.lt_of_lt_of_le (hrl.lt k a) hc1.size
 refine⟨jS hW1 (λk hk=>(hBL k hk).1) (λk hk=>?_) hlt (λk hk=>⟨hw k hk,λh9=>(hM k h9).2 hk⟩),hl1.keep (Q:=noB) (Chg.refl _ _) (λ_ h=>h.elim) (λ_ _ h=>h) (λk hk=>?_),hrl.keep hc1 (λk hk=>hk.elim (hw k) (λh=>(hM k (hBL k h).1).1)) hRn hup,λk hk=>?_,λk hk h9=>?_,hRn⟩
 ·rcases hk with a|a|a
  ·rw [a];exact .inr ⟨(hM b hb).1,λh=>(hBL b h).2.1 rfl⟩
  ·exact .inl a
  ·exact .inr ⟨(hM k (hBR k a).1).1,λh=>(hBL k h).2.2 a⟩
 ·rcases hk with⟨a,c⟩|a|a|a
  ·exact .inl (.inl ⟨a,λh=>c (hBL k h).1⟩)
  ·rw [a];exact .inl (.inl ⟨(hM b hb).1,λh=>(hBL b h).2.1 rfl⟩)
  ·exact .inl (.inr a)
  ·exact .inl (.inl ⟨(hM k (hBR k a).1).1,λh=>(hBL k h).2.2 a⟩)
 ·rcases hk with a|a
  ·refine⟨(hs1 k a).imp_left (λh=>(hBL k h).1),λe=>?_⟩
   rcases hs1 k a with h|h
   ·exact(hBL k h).2.1 e
   ·omega
  ·exact⟨.inl (hBR k a).1,(hBR k a).2⟩
 ·rcases hs1 k hk with h|h
  ·exact(hBL k h).2.2 h9
  ·have:=hrl.lt k h9;omega
set_option maxHeartbeats 8000000 in
theorem EA (n m p b bP bO bl br:Nat) (o:List Nat) (x:AdD) (hn:n<=16) (hm:m<=8) (hp:p<16) (hpc:x.pc=1) (hv1:1<=x.v) (hv:x.v<=15) (w:World) (Mut BB BL BR:Nat->Prop) (I:dG) (N:Nat) (wd:WD) (ov wv:Value) (hw:aM w Mut I N wd) (hM:∀ k,BB k->Mut k/\¬ aW I k/\k≠bP/\k≠bO) (hOW:¬ aW I bO) (hPW:¬ aW I bP) (hbB:BB b) (hBL:∀ k,BL k->BB k/\k≠b/\¬ BR k) (hBR:∀ k,BR k->BB k/\k≠b)
  (hb:w.heap[b]?=some (.cells (bM bP p x.v 1 (.pointer (some ⟨bl,0,none⟩)) (.pointer (some ⟨br,0,none⟩)) wv) 205 (0,0))) (hP:w.heap[bP]?=some (.cells (ctL n m (aJ n) ov) 80 (0,0))) (hO:w.heap[bO]?=some (.cells (jE o) 40 (0,0)))
  (hl:dL w Mut n m p bl x.left BL) (hr:dL w Mut n m p br x.right BR) (hlv:x.left.v<=32) (hk2:x.left.kind≠2) (hlf:x.left.kind=0->0<x.left.x.y.left) (hT:iT wd) (hnow:wd.now<=1000000) (hcn:wd.mem.c.all+1<1000000000000)
  (hs:(aI n m p wd x.left).2.2=true->(aI n m p wd x.left).2.1.val+x.right.val<2^m) :
  Calls Try.prog 149 #[.pointer (some ⟨b,0,none⟩),.pointer (some ⟨I.bW,0,none⟩)] w λe w'=>kR w w' Mut BB I N (aI n m p wd x.left).1 n m p b bP bO o o (if (aI n m p wd x.left).2.2=true then ({ x with left:=(aI n m p wd x.left).2.1,pc:=2 }:AdD).pass m else { x with left:=(aI n m p wd x.left).2.1 }) false e:=by
 have hM2:∀ k,BB k->Mut k/\¬ aW I k:=λk hk=>⟨(hM k hk).1,(hM k hk).2.1⟩
 have LS:=Lib.hid (pF n m p bl x.left hn hm hlv w Mut BL I N wd hw hl (λk hk=>hM2 k (hBL k hk).1) hk2 hlf hT hnow hp hcn)
 have nO:bO≠b:=λe=>(hM b hbB).2.2.2 e.symm
 have nP:bP≠b:=λe=>(hM b hbB).2.2.1 e.symm
 have x3:w.cell? ⟨b,3,none⟩=some (.int .i64 1):=by rw [aA hb];rfl
 have x4:w.cell? ⟨b,4,none⟩=some (.pointer (some ⟨bl,0,none⟩)):=by rw [aA hb];rfl
 have AB:=Lib.hid (λ(w1:World) (hc:Chg (λk=>aW I k∨BL k) w w1)=>(show w1.heap[b]?=some (.cells (bM bP p x.v 1 (.pointer (some ⟨bl,0,none⟩)) (.pointer (some ⟨br,0,none⟩)) wv) 205 (0,0))/\w1.heap[bO]?=some (.cells (jE o) 40 (0,0))/\w1.heap[bP]?=some (.cells (ctL n m (aJ n) ov) 80 (0,0)) from
  ⟨(hc.block b (aC hb) (λh=>h.elim (hM2 b hbB).2 (λh=>(hBL b h).2.1 rfl))).trans hb,(hc.block bO (aC hO) (λh=>h.elim hOW (λh=>(hM bO (hBL bO h).1).2.2.2 rfl))).trans hO,(hc.block bP (aC hP) (λh=>h.elim hPW (λh=>(hM bP (hBL bP h).1).2.2.1 rfl))).trans hP⟩))
 have KS:=Lib.hid (λ(w1:World) (BL':Nat->Prop) (l':LkD) (wd':WD) (h1:dL w1 (aT Mut BL BL') n m p bl l' BL') (h2:aM w1 (aT Mut BL BL') I N wd') (h3:Chg (λk=>aW I k∨BL k) w w1) (h4:∀ k,BL' k->BL k∨w.heap.size<=k)=>JB (BB:=BB) (b:=b) hw.muts hw.low hM2 hbB hBL hBR (aC hb) hr h1 h2 h3 h4)
 obtain⟨R,hR⟩:∃ R,R=aI n m p wd x.left:=⟨_,rfl⟩
 rw [<-hR] at LS hs ⊢
 obtain⟨wd',l',dn⟩:=R
 simp only at LS hs ⊢
 have Hs:=Lib.hid hs;have HM2:=Lib.hid hM2;have HBL:=Lib.hid hBL;have HbB:=Lib.hid hbB;have NO:=Lib.hid nO;have NP:=Lib.hid nP;have Hpc:=Lib.hid hpc
 have Hn:=Lib.hid hn;have Hm:=Lib.hid hm;have Hv1:=Lib.hid hv1;have Hv:=Lib.hid hv
 clear hw hM hM2 hOW hPW hbB hBL hBR hb hP hO hl hr hlv hk2 hlf hT hnow hcn hs hR nO nP hn hm hv1 hv hpc
 go_enter Try.func149,Try.ntmps149
 go_wp2_with fail
 refine LS.out.mono ?_
 rintro e w1 ⟨rfl,BL',hl1,hW1,hc1,hs1⟩
 obtain⟨vH,zB,CR⟩:=AB.out w1 hc1
 obtain⟨k1,k2,k3,k4,k5,k6⟩:=KS.out w1 BL' l' wd' hl1 hW1 hc1 hs1
 have hcB:Chg (λk=>aW I k∨k=bO∨BB k) w w1:=hc1.mono (λk _ h=>h.elim .inl (λh=>.inr (.inr (HBL.out k h).1)))
 cases dn with
 | false=>
  have F:=Lib.hid (show kR w w1 Mut BB I N wd' n m p b bP bO o o ({ x with left:=l' }:AdD) false (.returned (.bool false)) from
   rD (X:={ x with left:=l' }) (bl:=bl) (br:=br) (e:=.returned (.tuple #[])) HM2.out HbB.out NO.out k1 k2 k3 hcB k4 k5 zB (by show x.pc≠0;rw [Hpc.out];decide) (λh=>by have h:x.pc=3:=h;rw [Hpc.out] at h;cases h) ⟨rfl,Chg.refl _ _,noB,⟨wv,by show w1.heap[b]?=some (.cells (bM bP p x.v x.pc _ _ wv) _ _);rw [Hpc.out];exact vH,.inl ⟨by show x.pc≠3;rw [Hpc.out];decide,rfl⟩⟩,λ_ h=>h.elim⟩)
  clear hl1 hW1 hc1 hs1 vH zB CR k1 k2 k3 k4 k5 k6 hcB
  go_wp2
  go_ret
  exact F.out
 | true=>
  obtain⟨X,hX⟩:∃ X,X=({ x with left:=l',pc:=2 }:AdD):=⟨_,rfl⟩
  obtain⟨w2,hw2⟩:∃ w2,w2=w1.setCell ⟨b,3,none⟩ (.int .i64 2):=⟨_,rfl⟩
  have hb2:w2.heap[b]?=some (.cells (bM bP p x.v 2 (.pointer (some ⟨bl,0,none⟩)) (.pointer (some ⟨br,0,none⟩)) wv) 205 (0,0)):=by rw [hw2,aH vH];rfl
  have hc2:Chg (λk=>k=b) w1 w2:=by rw [hw2];exact(Chg.refl (λk=>k=b) w1).setCell (p:=⟨b,3,none⟩) (.inl rfl) _
  have hbm:aT Mut BB (λk=>k=b∨BL' k∨BR k) b:=.inr (.inl rfl)
  have zT:∀ k,k=b->aT Mut BB (λk=>k=b∨BL' k∨BR k) k:=λk e=>by rw [e];exact hbm
  have hW2:=fH k1 hc2 (λk e=>by rw [show k=b from e];exact⟨hbm,(HM2.out b HbB.out).2⟩)
  have hl2:dL w2 (aT Mut BB (λk=>k=b∨BL' k∨BR k)) n m p bl X.left BL':=by rw [hX];exact k2.keep hc2 zT (λk hk e=>(k4 k (.inl hk)).2 e) (aV.refl _ _)
  have hr2:dL w2 (aT Mut BB (λk=>k=b∨BL' k∨BR k)) n m p br X.right BR:=by rw [hX];exact k3.keep hc2 zT (λk hk e=>(k4 k (.inr hk)).2 e) (aV.refl _ _)
  have hP2:=(hc2.block bP (aC CR) NP.out).trans CR
  have hO2:=(hc2.block bO (aC zB) NO.out).trans zB
  have hXp:X.pc=1∨X.pc=2:=by rw [hX];exact .inr rfl
  have PS:=Lib.hid (BK n m p b bP bl br X wv ov hXp Hn.out Hm.out (by rw [hX];exact Hv1.out) (by rw [hX];have:=Hv.out;show x.v<=32;omega) w2 _ BL' BR I N wd' hW2 ⟨hbm,(HM2.out b HbB.out).2⟩ (by rw [hX];exact hb2) hP2 hl2 hr2 (λ_=>by rw [hX];exact Hs.out rfl))
  obtain⟨q1,q2⟩:=MF m X hXp
  have G:=Lib.hid (λ(w3:World) (e:Ending) (h:jJ w2 w3 (aT Mut BB (λk=>k=b∨BL' k∨BR k)) n m p b bP (X.pass m) (.pointer (some ⟨bl,0,none⟩)) (.pointer (some ⟨br,0,none⟩)) e)=>(show kR w w3 Mut BB I N wd' n m p b bP bO o o (if (true:Bool)=true then ({ x with left:=l',pc:=2 }:AdD).pass m else { x with left:=l' }) false (.returned (.bool false)) from by
   rw [if_pos rfl,<-hX]
   exact rD (X:=X.pass m) HM2.out HbB.out NO.out hW2 (by rw [(iU m X).1];exact hl2) (by rw [(iU m X).2.1];exact hr2) (hcB.trans (hc2.mono (λk _ e=>.inr (.inr (by rw [show k=b from e];exact HbB.out))))) k4 k5 hO2 q1 q2 h))
  have y3:w1.cell? ⟨b,3,none⟩=some (.int .i64 1):=by rw [aA vH];rfl
  have yf:=aB vH 3
  have yl:=aC vH
  have Hw2:=Lib.hid hw2
  clear hl1 hW1 hc1 hs1 vH zB CR k1 k2 k3 k4 k5 k6 hcB hw2 hb2 hc2 hbm zT hW2 hl2 hr2 hP2 hO2 hX hXp q1 q2 x3 x4
  go_upto_region 8 with fail
  rw [<-Hw2.out]
  clear y3 yf yl
  go_wp2_with fail
  refine PS.out.mono ?_
  intro e w3 h3
  have F:=Lib.hid (G.out w3 e h3)
  obtain⟨rfl,_⟩:=h3
  go_wp2
  go_ret
  exact F.out
set_option maxHeartbeats 8000000 in
theorem EC (n m p b bP bO bl br:Nat) (o:List Nat) (x:AdD) (hn:n<=16) (hm:m<=8) (hp:p<16) (hpc:x.pc=2) (hv1:1<=x.v) (hv:x.v<=15) (w:World) (Mut BB BL BR:Nat->Prop) (I:dG) (N:Nat) (wd:WD) (ov wv:Value) (hw:aM w Mut I N wd) (hM:∀ k,BB k->Mut k/\¬ aW I k/\k≠bP/\k≠bO) (hOW:¬ aW I bO) (hPW:¬ aW I bP) (hbB:BB b) (hBL:∀ k,BL k->BB k/\k≠b) (hBR:∀ k,BR k->BB k/\k≠b/\¬ BL k)
  (hb:w.heap[b]?=some (.cells (bM bP p x.v 2 (.pointer (some ⟨bl,0,none⟩)) (.pointer (some ⟨br,0,none⟩)) wv) 205 (0,0))) (hP:w.heap[bP]?=some (.cells (ctL n m (aJ n) ov) 80 (0,0))) (hO:w.heap[bO]?=some (.cells (jE o) 40 (0,0)))
  (hl:dL w Mut n m p bl x.left BL) (hr:dL w Mut n m p br x.right BR) (hlv:x.right.v<=32) (hk2:x.right.kind≠2) (hlf:x.right.kind=0->0<x.right.x.y.left) (hT:iT wd) (hnow:wd.now<=1000000) (hcn:wd.mem.c.all+1<1000000000000)
  (hs:(aI n m p wd x.right).2.2=true->x.left.val+(aI n m p wd x.right).2.1.val<2^m) :
  Calls Try.prog 149 #[.pointer (some ⟨b,0,none⟩),.pointer (some ⟨I.bW,0,none⟩)] w λe w'=>kR w w' Mut BB I N (aI n m p wd x.right).1 n m p b bP bO o o (if (aI n m p wd x.right).2.2=true then ({ x with right:=(aI n m p wd x.right).2.1 }:AdD).sum m else { x with right:=(aI n m p wd x.right).2.1 }) false e:=by
 have hM2:∀ k,BB k->Mut k/\¬ aW I k:=λk hk=>⟨(hM k hk).1,(hM k hk).2.1⟩
 have LS:=Lib.hid (pF n m p br x.right hn hm hlv w Mut BR I N wd hw hr (λk hk=>hM2 k (hBR k hk).1) hk2 hlf hT hnow hp hcn)
 have nO:bO≠b:=λe=>(hM b hbB).2.2.2 e.symm
 have nP:bP≠b:=λe=>(hM b hbB).2.2.1 e.symm
 have x3:w.cell? ⟨b,3,none⟩=some (.int .i64 2):=by rw [aA hb];rfl
 have x5:w.cell? ⟨b,5,none⟩=some (.pointer (some ⟨br,0,none⟩)):=by rw [aA hb];rfl
 have AB:=Lib.hid (λ(w1:World) (hc:Chg (λk=>aW I k∨BR k) w w1)=>(show w1.heap[b]?=some (.cells (bM bP p x.v 2 (.pointer (some ⟨bl,0,none⟩)) (.pointer (some ⟨br,0,none⟩)) wv) 205 (0,0))/\w1.heap[bO]?=some (.cells (jE o) 40 (0,0))/\w1.heap[bP]?=some (.cells (ctL n m (aJ n) ov) 80 (0,0)) from
  ⟨(hc.block b (aC hb) (λh=>h.elim (hM2 b hbB).2 (λh=>(hBR b h).2.1 rfl))).trans hb,(hc.block bO (aC hO) (λh=>h.elim hOW (λh=>(hM bO (hBR bO h).1).2.2.2 rfl))).trans hO,(hc.block bP (aC hP) (λh=>h.elim hPW (λh=>(hM bP (hBR bP h).1).2.2.1 rfl))).trans hP⟩))
 have KS:=Lib.hid (λ(w1:World) (BR':Nat->Prop) (l':LkD) (wd':WD) (h1:dL w1 (aT Mut BR BR') n m p br l' BR') (h2:aM w1 (aT Mut BR BR') I N wd') (h3:Chg (λk=>aW I k∨BR k) w w1) (h4:∀ k,BR' k->BR k∨w.heap.size<=k)=>JB (BB:=BB) (b:=b) hw.muts hw.low hM2 hbB hBR hBL (aC hb) hl h1 h2 h3 h4)
 obtain⟨R,hR⟩:∃ R,R=aI n m p wd x.right:=⟨_,rfl⟩
 rw [<-hR] at LS hs ⊢
 obtain⟨wd',l',dn⟩:=R
 simp only at LS hs ⊢
 have Hs:=Lib.hid hs;have HM2:=Lib.hid hM2;have HBR:=Lib.hid hBR;have HbB:=Lib.hid hbB;have NO:=Lib.hid nO;have NP:=Lib.hid nP;have Hpc:=Lib.hid hpc
 have Hn:=Lib.hid hn;have Hm:=Lib.hid hm;have Hv1:=Lib.hid hv1;have Hv:=Lib.hid hv
 clear hw hM hM2 hOW hPW hbB hBL hBR hb hP hO hl hr hlv hk2 hlf hT hnow hcn hs hR nO nP hn hm hv1 hv hpc
 go_enter Try.func149,Try.ntmps149
 go_wp2_with fail
 refine LS.out.mono ?_
 rintro e w1 ⟨rfl,BR',hl1,hW1,hc1,hs1⟩
 obtain⟨vH,zB,CR⟩:=AB.out w1 hc1
 obtain⟨k1,k2,k3,k4,k5,k6⟩:=KS.out w1 BR' l' wd' hl1 hW1 hc1 hs1
 rw [VO b BR' BL] at k1 k2 k3
 have hcB:Chg (λk=>aW I k∨k=bO∨BB k) w w1:=hc1.mono (λk _ h=>h.elim .inl (λh=>.inr (.inr (HBR.out k h).1)))
 have k4':∀ k,(BL k∨BR' k)->(BB k∨w.heap.size<=k)/\k≠b:=λk h=>k4 k h.symm
 have k5':∀ k,BL k->¬ BR' k:=λk h h9=>k5 k h9 h
 cases dn with
 | false=>
  have F:=Lib.hid (show kR w w1 Mut BB I N wd' n m p b bP bO o o ({ x with right:=l' }:AdD) false (.returned (.bool false)) from
   rD (X:={ x with right:=l' }) (bl:=bl) (br:=br) (e:=.returned (.tuple #[])) HM2.out HbB.out NO.out k1 k3 k2 hcB k4' k5' zB (by show x.pc≠0;rw [Hpc.out];decide) (λh=>by have h:x.pc=3:=h;rw [Hpc.out] at h;cases h) ⟨rfl,Chg.refl _ _,noB,⟨wv,by show w1.heap[b]?=some (.cells (bM bP p x.v x.pc _ _ wv) _ _);rw [Hpc.out];exact vH,.inl ⟨by show x.pc≠3;rw [Hpc.out];decide,rfl⟩⟩,λ_ h=>h.elim⟩)
  clear hl1 hW1 hc1 hs1 vH zB CR k1 k2 k3 k4 k5 k6 hcB k4' k5'
  go_wp2
  go_ret
  exact F.out
 | true=>
  obtain⟨X,hX⟩:∃ X,X=({ x with right:=l' }:AdD):=⟨_,rfl⟩
  have hbm:aT Mut BB (λk=>k=b∨BL k∨BR' k) b:=.inr (.inl rfl)
  have hsum:X.left.val+X.right.val<2^m:=by rw [hX];exact Hs.out rfl
  have SM:=Lib.hid (GG n m p b bP x.v 2 bl br X.left X.right wv ov Hn.out Hm.out Hv1.out (by have:=Hv.out;omega) w1 _ BL BR' I N wd' k1 ⟨hbm,(HM2.out b HbB.out).2⟩ vH CR (by rw [hX];exact k3) (by rw [hX];exact k2) hsum)
  have G:=Lib.hid (λ(w3:World) (e:Ending) (h:qA w1 w3 b bP n m p x.v (.pointer (some ⟨bl,0,none⟩)) (.pointer (some ⟨br,0,none⟩)) (dB m (X.left.val+X.right.val)) e)=>(show kR w w3 Mut BB I N wd' n m p b bP bO o o (if (true:Bool)=true then ({ x with right:=l' }:AdD).sum m else { x with right:=l' }) false (.returned (.bool false)) from by
   rw [if_pos rfl,<-hX]
   exact rD (X:=X.sum m) HM2.out HbB.out NO.out k1 (by rw [hX];exact k3) (by rw [hX];exact k2) hcB k4' k5' zB (Nat.succ_ne_zero 2) (λ_=>jR _ _) (qA.adB (x:=X) (by rw [hX] at h ⊢;exact h) hsum)))
  clear hl1 hW1 hc1 hs1 vH zB CR k1 k2 k3 k4 k5 k6 hcB k4' k5' hX hbm hsum x3 x5
  go_wp2_with fail
  refine SM.out.mono ?_
  intro e w3 h3
  have F:=Lib.hid (G.out w3 e h3)
  obtain⟨rfl,_⟩:=h3
  go_wp2
  go_ret
  exact F.out
end Go.Proofs.Ytifhldnmcdbpfaa
