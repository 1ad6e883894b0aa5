/- Layer 11: one that counts: its first step; what is left behind others. -/
import Derived.Test.YtifhldnmcdbpfaaW35
set_option maxRecDepth 100000
set_option linter.unusedVariables false
set_option linter.unusedSimpArgs false
set_option linter.unnecessarySimpa false
namespace Go.Proofs.Ytifhldnmcdbpfaa
open Go.RowKit
theorem kR.trans {w w1 w':World} {Mut BB:Nat->Prop} {I:dG} {N:Nat} {wd':WD} {n m p b bP bO:Nat} {o o':List Nat} {x':AdD} {done:Bool} {e:Ending} (h:kR w1 w' (aT Mut BB (λk=>k=b)) (λk=>k=b) I N wd' n m p b bP bO o o' x' done e) (hc:Chg (λk=>aW I k∨k=bO∨BB k) w w1) (hb:BB b):kR w w' Mut BB I N wd' n m p b bP bO o o' x' done e:=by
 obtain⟨h1,h2,h3,BB',h4,h5,h6,h7⟩:=h
 have e9:aT (aT Mut BB (λk=>k=b)) (λk=>k=b) BB'=aT Mut BB BB':=by
  funext k
  apply propext
  unfold aT
  constructor
  ·rintro(⟨⟨a,c⟩|a,d⟩|a)
   ·exact .inl ⟨a,c⟩
   ·exact absurd a d
   ·exact .inr a
  ·rintro(⟨a,c⟩|a)
   ·exact .inl ⟨.inl ⟨a,c⟩,λd=>c (by rw [show k=b from d];exact hb)⟩
   ·exact .inr a
 rw [e9] at h4 h7
 exact⟨h1,hc.trans (h2.mono (λk _ hk=>hk.imp_right (λh=>h.imp_right (λh=>by rw [show k=b from h];exact hb)))),h3,BB',h4,λk hk=>(h5 k hk).elim (λh=>.inl (by rw [show k=b from h];exact hb)) (λh=>.inr (Nat.le_trans hc.size h)),h6,h7⟩
theorem rD {w w2 w3:World} {Mut BB BL' BR:Nat->Prop} {I:dG} {N:Nat} {wd':WD} {n m p b bP bO bl br:Nat} {o:List Nat} {X:AdD} {e:Ending} (hM:∀ k,BB k->Mut k/\¬ aW I k) (hb:BB b) (hbO:bO≠b) (hW2:aM w2 (aT Mut BB (λk=>k=b∨BL' k∨BR k)) I N wd') (hl2:dL w2 (aT Mut BB (λk=>k=b∨BL' k∨BR k)) n m p bl X.left BL') (hr2:dL w2 (aT Mut BB (λk=>k=b∨BL' k∨BR k)) n m p br X.right BR)
  (hc:Chg (λk=>aW I k∨k=bO∨BB k) w w2) (hsub:∀ k,(BL' k∨BR k)->(BB k∨w.heap.size<=k)/\k≠b) (hd:∀ k,BL' k->¬ BR k) (hO2:w2.heap[bO]?=some (.cells (jE o) 40 (0,0))) (hp0:X.pc≠0) (hky:X.pc=3->X.wr.ky=[]) (h:jJ w2 w3 (aT Mut BB (λk=>k=b∨BL' k∨BR k)) n m p b bP X (.pointer (some ⟨bl,0,none⟩)) (.pointer (some ⟨br,0,none⟩)) e) :
  kR w w3 Mut BB I N wd' n m p b bP bO o o X false (.returned (.bool false)):=by
 obtain⟨_,hc3,B,⟨wv,hbk,hA⟩,hge⟩:=h
 have hbM:=hM b hb
 have hlB:∀ k,B k->k<w3.heap.size:=by
  rcases hA with⟨_,rfl⟩|⟨_,bm,tv,kv,_,h9,_,_,rfl⟩
  ·exact λ_ h=>h.elim
  ·exact h9.lt
 have hlL:=hl2.lt;have hlR:=hr2.lt
 have hb2:b<w2.heap.size:=hW2.low b (.inr (.inl rfl))
 have hs3:=hc3.size
 have hs2:=hc.size
 have hup:aV (aT Mut BB (λk=>k=b∨BL' k∨BR k)) w2 (aT Mut BB (λk=>k=b∨BL' k∨BR k∨B k)):=by
  rintro k (⟨a,c⟩|a|a|a|a)
  ·exact .inl (.inl ⟨a,c⟩)
  ·exact .inl (.inr (.inl a))
  ·exact .inl (.inr (.inr (.inl a)))
  ·exact .inl (.inr (.inr (.inr a)))
  ·exact .inr (hge k a)
 have zT:∀ k,k=b->aT Mut BB (λk=>k=b∨BL' k∨BR k) k:=λk e=>.inr (.inl e)
 have hlt:∀ k,(k=b∨BL' k∨BR k∨B k)->k<w3.heap.size:=by
  rintro k (hk|hk|hk|hk)
  ·rw [hk];exact aC hbk
  ·exact Nat.lt_of_lt_of_le (hlL k hk) hs3
  ·exact Nat.lt_of_lt_of_le (hlR k hk) hs3
  ·exact hlB k hk
 refine⟨rfl,hc.trans (hc3.mono (λk _ hk=>by rw [show k=b from hk];exact .inr (.inr hb))),(hc3.block bO (aC hO2) hbO).trans hO2,λk=>k=b∨BL' k∨BR k∨B k,?_,λk hk=>?_,hlt,?_⟩
 ·refine hW2.keep hc3 zT (λk hk=>by rw [show k=b from hk];exact hbM.2) hup ?_ (λk hk=>?_)
  ·rintro k (⟨a,c⟩|hk)
   ·exact Nat.lt_of_lt_of_le (hW2.low k (.inl ⟨a,c⟩)) hs3
   ·exact hlt k hk
  ·rcases hW2.muts k hk with h9|h9|h9|h9
   ·exact .inl h9
   ·exact .inr (.inl h9)
   ·exact .inr (.inr (.inl h9))
   ·exact .inr (.inr (.inr (.inl h9)))
 ·rcases hk with hk|hk|hk|hk
  ·rw [hk];exact .inl hb
  ·exact(hsub k (.inl hk)).1
  ·exact(hsub k (.inr hk)).1
  ·exact .inr (Nat.le_trans hs2 (hge k hk))
 ·rw [if_neg (by decide)]
  refine .inr ⟨hp0,bl,br,BL',BR,B,⟨wv,hbk,?_⟩,hl2.keep hc3 zT (λk hk e=>(hsub k (.inl hk)).2 e) hup,hr2.keep hc3 zT (λk hk e=>(hsub k (.inr hk)).2 e) hup,?_,λk hk=>⟨hd k hk,λh9=>?_⟩,λk hk h9=>?_,rfl⟩
  ·rcases hA with h9|⟨h8,bm,tv,kv,h7,h6,h5,h4,h3⟩
   ·exact .inl h9
   ·exact .inr ⟨h8,bm,tv,kv,h7,h6,h5.any (hky h8),h4,h3⟩
  ·rintro k (hk|hk|hk)
   ·exact(hsub k (.inl hk)).2
   ·exact(hsub k (.inr hk)).2
   ·have:=hge k hk;omega
  ·have:=hge k h9;have:=hlL k hk;omega
  ·have:=hge k h9;have:=hlR k hk;omega
set_option maxHeartbeats 8000000 in
theorem ET (n m p b bP bO:Nat) (o:List Nat) (x:AdD) (hn:n<=16) (hm:m<=8) (hp:p<n) (ho:o.length=n) (hop:o.getD p 0<1000000) (hpc:x.pc=0) (hxv:x.v=0) (w:World) (Mut:Nat->Prop) (I:dG) (N:Nat) (wd:WD) (hw:aM w Mut I N wd) (hbM:Mut b/\¬ aW I b) (hOM:Mut bO/\¬ aW I bO) (hPW:¬ aW I bP)
  (hb:w.heap[b]?=some (.cells (bM bP p 0 0 (.pointer none) (.pointer none) .nilIface) 205 (0,0))) (hP:w.heap[bP]?=some (.cells (ctL n m (aJ n) (lM bO n)) 80 (0,0))) (hO:w.heap[bO]?=some (.cells (jE o) 40 (0,0))) (hcn:wd.mem.c.all+1<1000000000000) :
  Calls Try.prog 149 #[.pointer (some ⟨b,0,none⟩),.pointer (some ⟨I.bW,0,none⟩)] w λe w'=>kR w w' Mut (λk=>k=b) I N (kG wd p (o.getD p 0+1)) n m p b bP bO o (fJ o p ((aJ n+p) / 2)) (x.climb n m ((aJ n+p) / 2)) (decide ((aJ n+p) / 2<1)) e:=by
 have nT:∀ {a c:Nat} {cs cs':Array Value} {T T':TypeId} {fz fz':Nat×Nat},w.heap[a]?=some (.cells cs T fz)->w.heap[c]?=some (.cells cs' T' fz')->T≠T'->a≠c:=λh1 h2 h3 e=>by
  subst e
  rw [h1] at h2
  exact h3 (Obj.cells.inj (Option.some.inj h2)).2.1
 have n1:bP≠b:=nT hP hb (by decide)
 have n2:bO≠b:=nT hO hb (by decide)
 have n3:bP≠bO:=nT hP hO (by decide)
 have hL9:=bL hn
 obtain⟨L,hL⟩:∃ L,L=aJ n:=⟨_,rfl⟩
 obtain⟨v,hv⟩:∃ v,v=(aJ n+p) / 2:=⟨_,rfl⟩
 obtain⟨u,hu⟩:∃ u,u=o.getD p 0:=⟨_,rfl⟩
 rw [<-hL] at hL9 hv
 have wH:v<=15:=by omega
 obtain⟨s1,s2,s3⟩:=kH hw
 have nb:¬ bY I.bm I.bw b:=λh=>hbM.2 (s3 b h).1
 have nO:¬ bY I.bm I.bw bO:=λh=>hOM.2 (s3 bO h).1
 have nP:¬ bY I.bm I.bw bP:=λh=>hPW (s3 bP h).1
 obtain⟨mks,hwb,_,_⟩:=hw.blk
 have x3:w.cell? ⟨b,3,none⟩=some (.int .i64 0):=by rw [aA hb];rfl
 have c0:w.cell? ⟨I.bW,0,none⟩=some (.pointer (some ⟨I.bm,0,none⟩)):=by rw [aA hwb];exact iV
 have c1:w.cell? ⟨b,0,none⟩=some (.pointer (some ⟨bP,0,none⟩)):=by rw [aA hb];rfl
 have c2:w.cell? ⟨bP,0,none⟩=some (.int .i64 0):=by rw [aA hP];rfl
 have c3:w.cell? ⟨b,1,none⟩=some (.int .i64 (p:Int)):=by rw [aA hb];rfl
 have c4:w.cell? ⟨bP,4,none⟩=some (.slice (some ⟨bO,0,none⟩) n n):=by rw [aA hP];rfl
 have c5:w.cell? ⟨bO,p,none⟩=some (.int .u64 (u:Int)):=by rw [aA hO,hu];exact rY (by omega)
 have lp:(p:Int)<(n:Int):=by omega
 have TZ:(0:Int)<=(p:Int):=by omega
 have wp:IntKind.i64.wrap (0+(p:Int))=(p:Int):=by rw [IntKind.wrap_i64];omega
 have VX:IntKind.i64.wrap (p:Int)=(p:Int):=by rw [IntKind.wrap_i64];omega
 rw [<-hu] at hop
 have wu:IntKind.u64.wrap ((u:Int)+1)=((u+1:Nat):Int):=by rw [IntKind.wrap_u64];omega
 obtain⟨u1,hu1⟩:∃ u1,u1=u+1:=⟨_,rfl⟩
 rw [<-hu1] at wu
 have Wr:=Lib.hid (λ(z:World) (h:Chg noB w z)=>uK I.bm I.bw wd.mem (p:Int) u1 z (hw.mem.chg h (λh=>h) (λ_ _ h=>h)) (by omega) hcn)
 have hbw:=hw.blk
 rw [<-hL,<-hv,<-hu,<-hu1]
 have Hw:=Lib.hid hw;have Hb:=Lib.hid hb;have HP:=Lib.hid hP;have HO:=Lib.hid hO;have HbM:=Lib.hid hbM;have HOM:=Lib.hid hOM;have HPW:=Lib.hid hPW;have N1:=Lib.hid n1;have N2:=Lib.hid n2;have N3:=Lib.hid n3;have HL:=Lib.hid hL;have Hu:=Lib.hid hu
 have Nb:=Lib.hid nb;have NO:=Lib.hid nO;have NP:=Lib.hid nP;have S2:=Lib.hid s2
 have ws:IntKind.i64.wrap ((L:Int)+(p:Int))=(L:Int)+(p:Int):=by rw [IntKind.wrap_i64];omega
 have e1:((L:Int)+(p:Int)).tdiv 2=(v:Int):=by rw [hv,Int.tdiv_eq_ediv_of_nonneg (by omega)];omega
 have e2:((L:Int)+(p:Int)) / 2=(v:Int):=by omega
 have wv:IntKind.i64.wrap (v:Int)=(v:Int):=by rw [IntKind.wrap_i64];omega
 have Hn:=Lib.hid hn;have Hm:=Lib.hid hm;have Hp:=Lib.hid hp;have Ho:=Lib.hid ho;have Hv:=Lib.hid wH;have Hop:=Lib.hid hop;have Hpc:=Lib.hid hpc;have Hxv:=Lib.hid hxv
 clear hw hb hP hO hbM hOM hPW n1 n2 n3 hL hL9 hv hu hop hu1 nb nO nP s1 s2 s3 hwb hbw nT hn hm hp ho wH hcn hpc hxv
 go_enter Try.func149,Try.ntmps149
 go_upto_region 3 with fail
 clear x3
 go_region_held3 (λz=>z.cell? ⟨I.bW,0,none⟩=some (.pointer (some ⟨I.bm,0,none⟩))/\z.cell? ⟨b,0,none⟩=some (.pointer (some ⟨bP,0,none⟩))/\z.cell? ⟨bP,0,none⟩=some (.int .i64 0)/\z.cell? ⟨b,1,none⟩=some (.int .i64 (p:Int))/\z.cell? ⟨bP,4,none⟩=some (.slice (some ⟨bO,0,none⟩) n n)/\z.cell? ⟨bO,p,none⟩=some (.int .u64 (u:Int)))
  (first|exact⟨c0,c1,c2,c3,c4,c5⟩|exact⟨z0,z1,z2,z3,z4,z5⟩)
  (first|(go_at_call 151;refine(Wr.out _ ?_).mono ?_;(exact(Chg.refl _ _).drew);rintro e w6 ⟨rfl,hm1,hc1⟩;have hc1':Chg (bY I.bm I.bw) w w6:=((Chg.refl _ w).drew).trans hc1;have z0:=aY hc1' S2.out c0;have z1:=aY hc1' Nb.out c1;have z2:=aY hc1' NP.out c2;have z3:=aY hc1' Nb.out c3;have z4:=aY hc1' NP.out c4;have z5:=aY hc1' NO.out c5))
 obtain⟨iR,jA⟩:=Hw.out.mems hc1' hm1
 have hb6:=(jA.block b (aC Hb.out) HbM.out.2).trans Hb.out
 have hP6:=(jA.block bP (aC HP.out) HPW.out).trans HP.out
 have hO6:=(jA.block bO (aC HO.out) HOM.out.2).trans HO.out
 have y3:w6.cell? ⟨bP,3,none⟩=some (.int .i64 (L:Int)):=by rw [aA hP6,HL.out];rfl
 have Fin:=Lib.hid (λ(w':World) (e:Ending) (h:(v<1/\xM w6.drew w' b bP bO p 0 o (.pointer none) (.pointer none) .nilIface e)∨(¬ v<1/\oK w6.drew w' Mut n m p b bP (x.climb n m v) e))=>(show kR w w' Mut (λk=>k=b) I N (kG wd p u1) n m p b bP bO o (fJ o p v) (x.climb n m v) (decide (v<1)) e from
  xF (fH (w':=w6.drew) (S:=noB) iR ((Chg.refl noB w6).drew) (λ_ h=>h.elim)) ((jA.drew).mono (λ_ _ h=>.inl h)) HbM.out ⟨HOM.out.1,HOM.out.2,λh=>N2.out h⟩ (λk hk=>by rw [show k=b from hk];exact HbM.out) rfl (λk hk=>by rw [show k=b from hk];exact aC Hb.out) hO6 (λ_=>⟨Hpc.out.symm,λ_=>⟨rfl,rfl,rfl⟩⟩) h N2.out))
 have Hw6:=Lib.hid iR;have Hb6:=Lib.hid hb6;have HP6:=Lib.hid hP6;have HO6:=Lib.hid hO6
 clear iR jA hc1 hc1' hm1 hb6 hP6 hO6 z0 z2 z4 z5 c0 c1 c2 c3 c4 c5 lp TZ wp VX wu
 by_cases hv0:v<1
 ·have hvz:v=0:=by omega
  subst hvz
  have TP:=Lib.hid (IU n m p b bP bO 0 0 o (.pointer none) (.pointer none) .nilIface Hn.out Hp.out Ho.out (by rw [<-Hu.out];exact Hop.out) w6.drew Hb6.out HP6.out HO6.out)
  have HC:=Lib.hid (λ(w':World) (h:Chg (λk=>k=b∨k=bO) w6.drew w')=>(h.block bP (aC HP6.out) (λh9=>h9.elim N1.out N3.out)).trans HP6.out)
  clear hv0
  go_upto_region 4 with fail
  go_region_held3 (λz=>z.cell? ⟨b,0,none⟩=some (.pointer (some ⟨bP,0,none⟩))/\z.cell? ⟨bP,3,none⟩=some (.int .i64 (L:Int))/\z.cell? ⟨b,1,none⟩=some (.int .i64 (p:Int)))
   (first|exact⟨z1,y3,z3⟩|exact⟨k1,k2,k3⟩)
   (first|(go_at_call 152;refine TP.out.mono ?_;intro e w7 h7;have F7:=Lib.hid (Fin.out w7 e (.inl ⟨Nat.lt_succ_self 0,h7⟩));obtain⟨rfl,MK,PE,_⟩:=h7;have hP7:=HC.out w7 MK;have k1:=(aA PE 0).trans (show _=some (Value.pointer (some ⟨bP,0,none⟩)) from rfl);have k3:=(aA PE 1).trans (show _=some (Value.int .i64 (p:Int)) from rfl);have k2:=(aA hP7 3).trans (show _=some (Value.int .i64 (L:Int)) from by rw [HL.out];rfl)))
  clear MK PE hP7 k1 k2 k3 z1 y3 z3
  go_wp2
  go_ret
  exact F7.out
 ·have CL:=Lib.hid (yV n m p b bP v 0 x (.pointer none) (.pointer none) .nilIface (lM bO n) Hn.out Hm.out (by omega) Hv.out w6.drew Mut I N (kG wd p u1) (fH (w':=w6.drew) (S:=noB) Hw6.out ((Chg.refl noB w6).drew) (λ_ h=>h.elim)) HbM.out (by rw [Hxv.out];exact Hb6.out) HP6.out)
  have HC:=Lib.hid (λ(w':World) (h:Chg (λk=>k=b) w6.drew w')=>(h.block bP (aC HP6.out) (λh9=>N1.out h9)).trans HP6.out)
  have Hv0:=Lib.hid hv0
  clear hv0
  go_upto_region 4 with fail
  go_region_held3 (λz=>z.cell? ⟨b,0,none⟩=some (.pointer (some ⟨bP,0,none⟩))/\z.cell? ⟨bP,3,none⟩=some (.int .i64 (L:Int))/\z.cell? ⟨b,1,none⟩=some (.int .i64 (p:Int)))
   (first|exact⟨z1,y3,z3⟩|exact⟨k1,k2,k3⟩)
   (first|(go_at_call 152;refine CL.out.mono ?_;intro e w7 h7;have F7:=Lib.hid (Fin.out w7 e (.inr ⟨Hv0.out,h7⟩));obtain⟨rfl,MK,bl,br,BL,BR,B,⟨WZ,PE,_⟩,_⟩:=h7;have hP7:=HC.out w7 MK;have k1:=(aA PE 0).trans (show _=some (Value.pointer (some ⟨bP,0,none⟩)) from rfl);have k3:=(aA PE 1).trans (show _=some (Value.int .i64 (p:Int)) from rfl);have k2:=(aA hP7 3).trans (show _=some (Value.int .i64 (L:Int)) from by rw [HL.out];rfl)))
  clear MK PE hP7 k1 k2 k3 z1 y3 z3
  go_wp2
  go_ret
  exact F7.out
end Go.Proofs.Ytifhldnmcdbpfaa
