/- Layer 11: a node is looked at: a step. -/
import Derived.Test.YtifhldnmcdbpfaaW31
set_option maxRecDepth 100000
set_option linter.unusedVariables false
set_option linter.unusedSimpArgs false
set_option linter.unnecessarySimpa false
namespace Go.Proofs.Ytifhldnmcdbpfaa
section
open Go.RowKit
def DL (w w':World) (Mut B:Nat->Prop) (I:dG) (N:Nat) (wd':WD) (n m p bl:Nat) (l':LkD) (done:Bool) (e:Ending):Prop:=
 e=.returned (.bool done)/\∃ B',dL w' (aT Mut B B') n m p bl l' B'/\aM w' (aT Mut B B') I N wd'/\Chg (λk=>aW I k∨B k) w w'/\∀ k,B' k->B k∨w.heap.size<=k
theorem jS {w':World} {Mut B B' Bw Bw':Nat->Prop} {I:dG} {N:Nat} {wd:WD} (h:aM w' (aT Mut Bw Bw') I N wd) (h1:∀ k,Bw k->B k) (h2:∀ k,B' k->Bw' k∨(Mut k/\¬ Bw k)) (h3:∀ k,B' k->k<w'.heap.size) (h4:∀ k,aW I k->Mut k/\¬ B k):aM w' (aT Mut B B') I N wd:=by
 refine h.keep (S:=noB) (Chg.refl _ _) (λ_ h=>h.elim) (λ_ h=>h.elim) ?_ ?_ (λk hk=>.inl (h4 k hk))
 ·rintro k (⟨a,b⟩|a)
  ·exact .inl (.inl ⟨a,λx=>b (h1 k x)⟩)
  ·rcases h2 k a with x|x
   ·exact .inl (.inr x)
   ·exact .inl (.inl x)
 ·rintro k (⟨a,b⟩|a)
  ·exact h.low k (.inl ⟨a,λx=>b (h1 k x)⟩)
  ·exact h3 k a
theorem fH {w w':World} {Mut:Nat->Prop} {I:dG} {N:Nat} {wd:WD} {S:Nat->Prop} (h:aM w Mut I N wd) (hc:Chg S w w') (h1:∀ b,S b->Mut b/\¬ aW I b):aM w' Mut I N wd:=
 h.keep hc (λb hb=>(h1 b hb).1) (λb hb=>(h1 b hb).2) (aV.refl _ _) (λb hb=>Nat.lt_of_lt_of_le (h.low b hb) hc.size) h.muts
set_option maxHeartbeats 8000000 in
theorem pF (n m p bl:Nat) (l:LkD) (hn:n<=16) (hm:m<=8) (hv:l.v<=32) (w:World) (Mut B:Nat->Prop) (I:dG) (N:Nat) (wd:WD) (hw:aM w Mut I N wd) (h:dL w Mut n m p bl l B) (hB:∀ k,B k->Mut k/\¬ aW I k) (hk2:l.kind≠2) (hl:l.kind=0->0<l.x.y.left) (hT:iT wd) (hnow:wd.now<=1000000) (hp:p<16) (hcn:wd.mem.c.all+1<1000000000000) :
  Calls Try.prog 143 #[.pointer (some ⟨bl,0,none⟩),.pointer (some ⟨I.bW,0,none⟩)] w λe w'=>DL w w' Mut B I N (aI n m p wd l).1 n m p bl (aI n m p wd l).2.1 (aI n m p wd l).2.2 e:=by
 have hbase:=pM (v:=l.v) hn hm hv
 rcases h with⟨e0,bm,tv,kv,h1,h2,h3,h4,rfl⟩|⟨e0,h1,rfl⟩|⟨e0,_⟩
 ·have hBm:∀ k,bC bm tv k->Mut k/\¬ aW I k:=λk hk=>hB k (.inr hk)
  have hbl:=hB bl (.inl rfl)
  have hne:∀ k,bC bm tv k->k≠bl:=λk hk e=>by
   rcases hk with rfl|hk
   ·subst e
    have h9:=h2.blk
    rw [h1] at h9
    exact absurd (Obj.cells.inj (Option.some.inj h9)).2.1 (by decide)
   ·subst e
    exact vK h2.row h1 (by decide) hk
  have RS:=Lib.hid (LH l.x hw h2 h3 hBm h4 (hl e0) (by omega) hbase.2 hT hnow hp hcn)
  have hM:=EO ⟨bm,0,none⟩
  have hA:=yK ⟨bm,0,none⟩
  have hst:aI n m p wd l=(if (rdStep (aG n m l.v) p wd l.x).2.2=true then ((rdStep (aG n m l.v) p wd l.x).1,{ l with x:=(rdStep (aG n m l.v) p wd l.x).2.1,val:=(rdStep (aG n m l.v) p wd l.x).2.1.val },true) else ((rdStep (aG n m l.v) p wd l.x).1,{ l with x:=(rdStep (aG n m l.v) p wd l.x).2.1 },false)):=if_neg (by omega)
  rw [hst]
  obtain⟨R,hR⟩:∃ R,R=rdStep (aG n m l.v) p wd l.x:=⟨_,rfl⟩
  rw [<-hR] at RS ⊢
  obtain⟨wd',x',dn⟩:=R
  simp only at RS
  have d0:w.cell? ⟨bl,0,none⟩=some (.iface 206 (.pointer (some ⟨bm,0,none⟩))):=by rw [aA h1];rfl
  have d1:w.cell? ⟨bl,1,none⟩=some (.bool false):=by rw [aA h1];rfl
  have hok:=h4.step (aG n m l.v) p wd (hl e0)
  rw [<-hR] at hok
  have H1:=Lib.hid h1;have Hw:=Lib.hid hw;have Hbl:=Lib.hid hbl;have Hne:=Lib.hid hne;have HBm:=Lib.hid hBm;have Hok:=Lib.hid (show nZ m x' from hok);have He0:=Lib.hid e0
  clear h1 h2 h3 h4 hB hw hl hT hnow hp hcn hbase hst hR hok hbl hne hBm hk2 hn hm hv e0
  have m1:=hM.ahead;have m2:=hM.meth;have m3:=hM.enter
  have a1:=hA.ahead;have a2:=hA.meth;have a3:=hA.enter
  go_enter Try.func143,Try.ntmps143
  go_wp2_with fail
  refine RS.out.mono ?_
  rintro e w1 ⟨rfl,tv',kv',hto,hlst⟩
  have qV:=(hto.chg.block bl (aC H1.out) (λe=>e.elim Hbl.out.2 (λe=>Hne.out bl e rfl))).trans H1.out
  have hsub:=hto.sub
  have hne':∀ k,bC bm tv' k->k≠bl:=λk hk e=>by
   rcases hto.sub k hk with h9|h9
   ·exact Hne.out k h9 e
   ·have:=aC H1.out;omega
  cases dn with
  | false=>
   have F:=Lib.hid (show DL w w1 Mut (λk=>k=bl∨bC bm tv k) I N wd' n m p bl { l with x:=x' } false (.returned (.bool false)) from by
    refine⟨rfl,λk=>k=bl∨bC bm tv' k,.inl ⟨He0.out,bm,tv',kv',qV,hto.way,hlst.keep (S:=noB) (Chg.refl _ _) (λ_ h=>h.elim) (λk hk=>?_),Hok.out,rfl⟩,jS hto.world (λk hk=>.inr hk) (λk hk=>?_) (λk hk=>?_) (λk hk=>⟨Hw.out.muts k hk,?_⟩),hto.chg.mono (λk _ hk=>hk.elim .inl (λh=>.inr (.inr h))),λk hk=>?_⟩
    ·rcases hk with⟨x,y⟩|x|x
     ·exact .inl (.inl ⟨x,λz=>y (.inr z)⟩)
     ·rw [x];exact .inl (.inl ⟨Hbl.out.1,λz=>Hne.out bl z rfl⟩)
     ·exact .inl (.inr x)
    ·rcases hk with x|x
     ·rw [x];exact .inr ⟨Hbl.out.1,λz=>Hne.out bl z rfl⟩
     ·exact .inl x
    ·rcases hk with x|x
     ·rw [x];exact aC qV
     ·exact hto.way.lt k x
    ·rintro(x|x)
     ·rw [x] at hk;exact Hbl.out.2 hk
     ·exact(HBm.out k x).2 hk
    ·rcases hk with x|x
     ·exact .inl (.inl x)
     ·exact(hto.sub k x).imp_left .inr)
   clear hto hlst qV hsub hne'
   go_wp2
   go_ret
   exact F.out
  | true=>
   obtain⟨ka,kc,rfl⟩:∃ a c,kv'=.slice a x'.ky.length c:=by obtain⟨a,c,e,_⟩:=hlst;exact⟨a,c,e⟩
   have AN:=Lib.hid (EZ x'.val ka x'.ky.length kc hto.way)
   have x0:w1.cell? ⟨bl,0,none⟩=some (.iface 206 (.pointer (some ⟨bm,0,none⟩))):=by rw [aA qV];rfl
   have Hto:=Lib.hid hto;have Hlst:=Lib.hid hlst;have Hbl1:=Lib.hid qV;have Hne':=Lib.hid hne'
   clear hto hlst qV hsub hne'
   unfold mD at AN
   go_wp2_with fail
   refine AN.out.mono ?_
   rintro e w2 ⟨rfl,hb2⟩
   have JP:=(hb2.block bl (aC Hbl1.out)).trans Hbl1.out
   have x3:w2.cell? ⟨bl,3,none⟩=some (.int .u64 (l.val:Int)):=by rw [aA JP];rfl
   have xf:=aB JP 3
   have xl:=aC JP
   obtain⟨w3,hw3⟩:∃ w3,w3=w2.alloc (.cells #[.int .i64 0,.int .u64 (x'.val:Int),.slice none 0 0] 42):=⟨_,rfl⟩
   have hb3:Below w2.heap.size w2 w3:=by rw [hw3];exact Gr.new _ _
   have IC:=(hb3.block bl xl).trans JP
   obtain⟨w4,hw4⟩:∃ w4,w4=w3.setCell ⟨bl,3,none⟩ (.int .u64 (x'.val:Int)):=⟨_,rfl⟩
   have QR:w4.heap[bl]?=some (.cells (gT (.iface 206 (.pointer (some ⟨bm,0,none⟩))) false 0 x'.val) 212 (0,0)):=by rw [hw4,aH IC];rfl
   have hc4:Chg (λk=>k=bl) w3 w4:=by rw [hw4];exact(Chg.refl (λk=>k=bl) w3).setCell (p:=⟨bl,3,none⟩) (.inl rfl) _
   have hc24:Chg (λk=>k=bl) w1 w4:=(Chg.of_below (S:=λk=>k=bl) (Gr.trans hb2 hb3)).trans hc4
   have F:=Lib.hid (show DL w w4 Mut (λk=>k=bl∨bC bm tv k) I N wd' n m p bl { l with x:=x',val:=x'.val } true (.returned (.bool true)) from by
    have hto:=Hto.out;have hlst:=Hlst.out
    have qV:=Hbl1.out
    have hWd:aM w1 (aT Mut (λk=>k=bl∨bC bm tv k) (λk=>k=bl∨bC bm tv' k)) I N wd':=jS hto.world (λk hk=>.inr hk) (λk hk=>by
     rcases hk with x|x
     ·rw [x];exact .inr ⟨Hbl.out.1,λz=>Hne.out bl z rfl⟩
     ·exact .inl x) (λk hk=>by
     rcases hk with x|x
     ·rw [x];exact aC qV
     ·exact hto.way.lt k x) (λk hk=>⟨Hw.out.muts k hk,by
     rintro(x|x)
     ·rw [x] at hk;exact Hbl.out.2 hk
     ·exact(HBm.out k x).2 hk⟩)
    refine⟨rfl,λk=>k=bl∨bC bm tv' k,.inl ⟨He0.out,bm,tv',_,QR,hto.way.chg hc24 (λk hk e=>Hne'.out k hk e),?_,Hok.out,rfl⟩,fH hWd hc24 (λk e=>by rw [show k=bl from e];exact⟨.inr (.inl rfl),Hbl.out.2⟩),(hto.chg.mono (λk _ hk=>hk.elim .inl (λh=>.inr (.inr h)))).trans (hc24.mono (λk _ e=>.inr (.inl e))),λk hk=>?_⟩
    ·refine hlst.keep hc24 (λk e=>by rw [show k=bl from e];exact .inl ⟨Hbl.out.1,λz=>Hne.out bl z rfl⟩) (λk hk=>?_)
     rcases hk with⟨x,y⟩|x|x
     ·exact .inl (.inl ⟨x,λz=>y (.inr z)⟩)
     ·rw [x];exact .inl (.inl ⟨Hbl.out.1,λz=>Hne.out bl z rfl⟩)
     ·exact .inl (.inr x)
    ·rcases hk with x|x
     ·exact .inl (.inl x)
     ·exact(hto.sub k x).imp_left .inr)
   have Hw3:=Lib.hid hw3;have Hw4:=Lib.hid hw4
   have y3:w3.cell? ⟨bl,3,none⟩=some (.int .u64 (l.val:Int)):=by rw [aA IC];rfl
   have yf:=aB IC 3
   have yl:=aC IC
   have z1:w3.cell? ⟨w2.heap.size,1,none⟩=some (.int .u64 (x'.val:Int)):=by rw [hw3,dZ];rfl
   clear hb2 JP hb3 IC QR hc4 hc24 hw3 hw4 x0 x3 xf xl
   go_upto_region 7 with fail
   rw [<-Hw3.out]
   go_wp2
   rw [<-Hw4.out]
   go_ret
   exact F.out
 ·have hst:aI n m p wd l=(dJ wd (l.v - aJ n),{ l with val:=gF wd (l.v - aJ n) },true):=if_pos e0
  rw [hst]
  obtain⟨a,ha⟩:∃ a,a=l.v - aJ n:=⟨_,rfl⟩
  rw [<-ha] at h1 ⊢
  have hbl:=hB bl rfl
  obtain⟨s1,s2,s3⟩:=kH hw
  have nb:¬ bY I.bm I.bw bl:=λh=>hbl.2 (s3 bl h).1
  obtain⟨mks,hwb,_,_⟩:=hw.blk
  have d0:w.cell? ⟨I.bW,0,none⟩=some (.pointer (some ⟨I.bm,0,none⟩)):=by rw [aA hwb];exact iV
  have d1:w.cell? ⟨bl,1,none⟩=some (.bool true):=by rw [aA h1];rfl
  have d2:w.cell? ⟨bl,2,none⟩=some (.int .i64 (a:Int)):=by rw [aA h1];rfl
  have Rd:=Lib.hid (λ(u:World) (h:Chg noB w u)=>yG I.bm I.bw wd.mem (a:Int) u (hw.mem.chg h (λh=>h) (λ_ _ h=>h)) hcn)
  obtain⟨g,hg⟩:∃ g,g=gF wd a:=⟨_,rfl⟩
  have hg2:(cZ wd.mem (a:Int)).2=g:=hg.symm
  rw [hg2] at Rd
  rw [<-hg]
  have H1:=Lib.hid h1;have Hw:=Lib.hid hw;have Hbl:=Lib.hid hbl;have Nb:=Lib.hid nb;have S2:=Lib.hid s2;have He0:=Lib.hid e0;have Ha:=Lib.hid ha
  clear h1 hw hB hl hT hnow hp hcn hbase hst hbl nb s1 s2 s3 hwb hk2 hn hm hv e0 ha hg hg2
  go_enter Try.func143,Try.ntmps143
  go_upto_region 2 with fail
  clear d1
  go_region_held3 (λu=>u.cell? ⟨I.bW,0,none⟩=some (.pointer (some ⟨I.bm,0,none⟩))/\u.cell? ⟨bl,2,none⟩=some (.int .i64 (a:Int)))
   (first|exact⟨d0,d2⟩|exact⟨z0,z2⟩|exact⟨aY ((Chg.refl (λk=>k=bl) w6).setCell (p:=⟨bl,3,none⟩) (.inl rfl) _) Nw0 z0,k2⟩)
   (first|(go_at_call 144;refine(Rd.out _ ?_).mono ?_;(exact(Chg.refl _ _).drew);rintro e w6 ⟨rfl,hm1,hc1⟩;have hc1':Chg (bY I.bm I.bw) w w6:=((Chg.refl _ w).drew).trans hc1;have z0:=aY hc1' S2.out d0;have z2:=aY hc1' Nb.out d2;have EB:=(hc1'.block bl (aC H1.out) Nb.out).trans H1.out;have z3:w6.cell? ⟨bl,3,none⟩=some (.int .u64 (l.val:Int)):=(by rw [aA EB];rfl);have zf:=aB EB 3;have zl:=aC EB;have Nw0:¬ (I.bW=bl):=(λe=>Hbl.out.2 (.inl e.symm));have k2:(w6.setCell ⟨bl,3,none⟩ (.int .u64 (g:Int))).cell? ⟨bl,2,none⟩=some (.int .i64 (a:Int)):=(by rw [aA (aH EB _ _)];rfl)))
  obtain⟨iR,jA⟩:=Hw.out.mems hc1' hm1
  obtain⟨w7,hw7⟩:∃ w7,w7=w6.setCell ⟨bl,3,none⟩ (.int .u64 (g:Int)):=⟨_,rfl⟩
  have QW:w7.heap[bl]?=some (.cells (gT .nilIface true a g) 212 (0,0)):=by rw [hw7,aH EB];rfl
  have MK:Chg (λk=>k=bl) w6 w7:=by rw [hw7];exact(Chg.refl (λk=>k=bl) w6).setCell (p:=⟨bl,3,none⟩) (.inl rfl) _
  have F:=Lib.hid (show DL w w7 Mut (λk=>k=bl) I N (dJ wd a) n m p bl { l with val:=g } true (.returned (.bool true)) from by
   have SN:=fH iR MK (λk e=>by rw [show k=bl from e];exact Hbl.out)
   refine⟨rfl,λk=>k=bl,.inr (.inl ⟨He0.out,by show w7.heap[bl]?=some (.cells (gT .nilIface true (l.v - aJ n) g) _ _);rw [<-Ha.out];exact QW,rfl⟩),?_,(jA.mono (λ_ _ h=>.inl h)).trans (MK.mono (λ_ _ e=>.inr e)),λk hk=>.inl hk⟩
   rw [kJ (λk hk=>by rw [show k=bl from hk];exact Hbl.out.1)]
   exact SN)
  have Hw7:=Lib.hid hw7
  clear iR jA hc1 hc1' hm1 EB z0 z2 z3 zf zl k2 Nw0 QW MK hw7 d0 d2
  go_wp2
  rw [<-Hw7.out]
  go_ret
  exact F.out
 ·exact absurd e0 hk2
end
section
open Go.RowKit
def bM (bP p v pc:Nat) (lv rv wv:Value):Array Value:=#[.pointer (some ⟨bP,0,none⟩),.int .i64 (p:Int),.int .i64 (v:Int),.int .i64 (pc:Int),lv,rv,wv]
def qA (w w':World) (b bP n m p v:Nat) (lv rv:Value) (x:WrD) (e:Ending):Prop:=
 e=.returned (.tuple #[])/\Chg (λk=>k=b) w w'/\∃ bm tv,w'.heap[b]?=some (.cells (bM bP p v 3 lv rv (.iface 243 (.pointer (some ⟨bm,0,none⟩)))) 205 (0,0))/\bV w' bm (bA x.v x.up x.nx (.slice none 0 0)) 246 (aG n m v) m p x.y tv/\∀ k,bC bm tv k->w.heap.size<=k
def OX (w w':World) (b bP B m p v:Nat) (lv rv:Value) (s:Nat) (x:WrD):Prop:=
 Chg (λk=>k=b) w w'/\∃ bm tv,w'.heap[b]?=some (.cells (bM bP p v 3 lv rv (.iface 243 (.pointer (some ⟨bm,0,none⟩)))) 205 (0,0))/\bV w' bm (bA s x.up x.nx (.slice none 0 0)) 246 B m p x.y tv/\∀ k,bC bm tv k->w.heap.size<=k
set_option maxHeartbeats 8000000 in
theorem GG (n m p b bP v pc bl br:Nat) (l r:LkD) (wv ov:Value) (hn:n<=16) (hm:m<=8) (hv1:1<=v) (hv:v<=32) (w:World) (Mut BL BR:Nat->Prop) (I:dG) (N:Nat) (wd:WD) (hw:aM w Mut I N wd) (hbM:Mut b/\¬ aW I b)
  (hb:w.heap[b]?=some (.cells (bM bP p v pc (.pointer (some ⟨bl,0,none⟩)) (.pointer (some ⟨br,0,none⟩)) wv) 205 (0,0))) (hP:w.heap[bP]?=some (.cells (ctL n m (aJ n) ov) 80 (0,0)))
  (hl:dL w Mut n m p bl l BL) (hr:dL w Mut n m p br r BR) (hs:l.val+r.val<2^m) :
  Calls Try.prog 153 #[.pointer (some ⟨b,0,none⟩)] w λe w'=>qA w w' b bP n m p v (.pointer (some ⟨bl,0,none⟩)) (.pointer (some ⟨br,0,none⟩)) (dB m (l.val+r.val)) e:=by
 obtain⟨XK,lf1,a1,hlb⟩:=hl.blk
 obtain⟨XF,lf2,a2,hrb⟩:=hr.blk
 have hp2:2^m<=256:=Nat.pow_le_pow_right (n:=2) (by decide) hm
 have nT:∀ {x y:Nat} {cs cs':Array Value} {T T':TypeId} {fz fz':Nat×Nat},w.heap[x]?=some (.cells cs T fz)->w.heap[y]?=some (.cells cs' T' fz')->T≠T'->x≠y:=λh1 h2 h3 e=>by
  subst e
  rw [h1] at h2
  exact h3 (Obj.cells.inj (Option.some.inj h2)).2.1
 have n1:bl≠b:=nT hlb hb (by decide)
 have n2:br≠b:=nT hrb hb (by decide)
 have n3:bP≠b:=nT hP hb (by decide)
 obtain⟨w1,hw1⟩:∃ w1,w1=w.setCell ⟨b,3,none⟩ (.int .i64 3):=⟨_,rfl⟩
 have hb1:w1.heap[b]?=some (.cells (bM bP p v 3 (.pointer (some ⟨bl,0,none⟩)) (.pointer (some ⟨br,0,none⟩)) wv) 205 (0,0)):=by rw [hw1,aH hb];rfl
 have hc1:Chg (λk=>k=b) w w1:=by rw [hw1];exact(Chg.refl (λk=>k=b) w).setCell (p:=⟨b,3,none⟩) (.inl rfl) _
 have hz1:w1.heap.size=w.heap.size:=by rw [hw1];simp [World.setCell]
 have hP1:=(hc1.block bP (aC hP) n3).trans hP
 have hl1:=(hc1.block bl (aC hlb) n1).trans hlb
 have hr1:=(hc1.block br (aC hrb) n2).trans hrb
 have nC:=fH hw hc1 (λk e=>by rw [show k=b from e];exact hbM)
 obtain⟨s,FH⟩:∃ s,s=l.val+r.val:=⟨_,rfl⟩
 obtain⟨lv,hlv⟩:∃ lv,lv=l.val:=⟨_,rfl⟩
 obtain⟨rv,hrv⟩:∃ rv,rv=r.val:=⟨_,rfl⟩
 rw [<-hlv] at hl1
 rw [<-hrv] at hr1
 rw [<-FH] at hs ⊢
 have ws:IntKind.u64.wrap ((lv:Int)+(rv:Int))=(s:Int):=by rw [IntKind.wrap_u64];omega
 have c0:w1.cell? ⟨b,0,none⟩=some (.pointer (some ⟨bP,0,none⟩)):=by rw [aA hb1];rfl
 have c1:w1.cell? ⟨b,1,none⟩=some (.int .i64 (p:Int)):=by rw [aA hb1];rfl
 have c2:w1.cell? ⟨b,2,none⟩=some (.int .i64 (v:Int)):=by rw [aA hb1];rfl
 have c4:w1.cell? ⟨b,4,none⟩=some (.pointer (some ⟨bl,0,none⟩)):=by rw [aA hb1];rfl
 have c5:w1.cell? ⟨b,5,none⟩=some (.pointer (some ⟨br,0,none⟩)):=by rw [aA hb1];rfl
 have c6:w1.cell? ⟨bl,3,none⟩=some (.int .u64 (lv:Int)):=by rw [aA hl1];rfl
 have c7:w1.cell? ⟨br,3,none⟩=some (.int .u64 (rv:Int)):=by rw [aA hr1];rfl
 have ND:=Lib.hid (λ(u:World) (h:Below w1.heap.size w1 u)=>CV bP n m (aJ n) v ov hn hm hv1 hv u ((h.block bP (aC hP1)).trans hP1))
 have NW:=Lib.hid (λ(u:World) (h:Below w1.heap.size w1 u)=>zW (I:=I) (N:=N) (wd:=wd) (Mut:=Mut) m s (lC nC h) hs (by omega) (aG n m v) p)
 have x3:w.cell? ⟨b,3,none⟩=some (.int .i64 (pc:Int)):=by rw [aA hb];rfl
 have xf:=aB hb 3
 have xl:=aC hb
 have Hw1:=Lib.hid hw1;have Hb1:=Lib.hid hb1;have Hc1:=Lib.hid hc1;have Hz1:=Lib.hid hz1
 have N1:=Lib.hid n1;have N2:=Lib.hid n2
 obtain⟨B,hB⟩:∃ B,B=aG n m v:=⟨_,rfl⟩
 rw [<-hB] at ND NW
 have hev:(dB m s).v=s:=by unfold dB WrD.down;split<;>rfl
 unfold qA
 rw [<-hB,hev]
 obtain⟨X,hX⟩:∃ X,X=dB m s:=⟨_,rfl⟩
 rw [<-hX] at NW ⊢
 clear hw hbM hb hP hl hr hs hlb hrb hp2 nT n1 n2 n3 hw1 hb1 hc1 hz1 hP1 hl1 hr1 nC FH hlv hrv hn hm hv1 hv hev hX hB
 go_enter Try.func153,Try.ntmps153
 go_upto_region 1 with fail
 rw [<-Hw1.out]
 clear x3 xf xl
 go_region_held3 (λu=>u.cell? ⟨b,0,none⟩=some (.pointer (some ⟨bP,0,none⟩))/\u.cell? ⟨b,1,none⟩=some (.int .i64 (p:Int))/\u.cell? ⟨b,2,none⟩=some (.int .i64 (v:Int))/\u.cell? ⟨b,4,none⟩=some (.pointer (some ⟨bl,0,none⟩))/\u.cell? ⟨b,5,none⟩=some (.pointer (some ⟨br,0,none⟩))/\u.cell? ⟨bl,3,none⟩=some (.int .u64 (lv:Int))/\u.cell? ⟨br,3,none⟩=some (.int .u64 (rv:Int)))
  (first|exact⟨c0,c1,c2,c4,c5,c6,c7⟩|exact⟨y0,y1,y2,y4,y5,y6,y7⟩|exact⟨z0,z1,z2,z4,z5,z6,z7⟩|exact⟨k0,k1,k2,k4,k5,k6,k7⟩)
  (first|(go_at_call 125;refine(ND.out _ ?_).mono ?_;(exact(Gr.refl w1).drew);rintro e w2 ⟨rfl,hb2⟩;have hb2':Below w1.heap.size w1 w2:=Gr.trans (Gr.refl w1).drew hb2;have y0:=(hb2'.cell (World.block_lt_of_cell? _ _ c0)).trans c0;have y1:=(hb2'.cell (World.block_lt_of_cell? _ _ c1)).trans c1;have y2:=(hb2'.cell (World.block_lt_of_cell? _ _ c2)).trans c2;have y4:=(hb2'.cell (World.block_lt_of_cell? _ _ c4)).trans c4;have y5:=(hb2'.cell (World.block_lt_of_cell? _ _ c5)).trans c5;have y6:=(hb2'.cell (World.block_lt_of_cell? _ _ c6)).trans c6;have y7:=(hb2'.cell (World.block_lt_of_cell? _ _ c7)).trans c7)|(go_at_call 156;refine(NW.out _ ?_).mono ?_;(exact hb2');rintro e w3 ⟨rfl,hb3,tv,hwr,hge⟩;have zP:Below w1.heap.size w1 w3:=Gr.trans hb2' hb3;have z0:=(hb3.cell (World.block_lt_of_cell? _ _ y0)).trans y0;have z1:=(hb3.cell (World.block_lt_of_cell? _ _ y1)).trans y1;have z2:=(hb3.cell (World.block_lt_of_cell? _ _ y2)).trans y2;have z4:=(hb3.cell (World.block_lt_of_cell? _ _ y4)).trans y4;have z5:=(hb3.cell (World.block_lt_of_cell? _ _ y5)).trans y5;have z6:=(hb3.cell (World.block_lt_of_cell? _ _ y6)).trans y6;have z7:=(hb3.cell (World.block_lt_of_cell? _ _ y7)).trans y7;have pU:=(zP.block b (aC Hb1.out)).trans Hb1.out;have q6:w3.cell? ⟨b,6,none⟩=some wv:=(by rw [aA pU];rfl);have qf:=aB pU 6;have ql:=aC pU;have qO:=aH pU 6 (.iface 243 (.pointer (some ⟨w2.heap.size+1,0,none⟩)));have hc4:=(Chg.refl (λk=>k=b) w3).setCell (p:=⟨b,6,none⟩) (.inl rfl) (.iface 243 (.pointer (some ⟨w2.heap.size+1,0,none⟩)));have k0:=(aA qO 0).trans (show _=some (Value.pointer (some ⟨bP,0,none⟩)) from rfl);have k1:=(aA qO 1).trans (show _=some (Value.int .i64 (p:Int)) from rfl);have k2:=(aA qO 2).trans (show _=some (Value.int .i64 (v:Int)) from rfl);have k4:=(aA qO 4).trans (show _=some (Value.pointer (some ⟨bl,0,none⟩)) from rfl);have k5:=(aA qO 5).trans (show _=some (Value.pointer (some ⟨br,0,none⟩)) from rfl);have k6:=aY hc4 N1.out z6;have k7:=aY hc4 N2.out z7))
 obtain⟨w4,hw4⟩:∃ w4,w4=w3.setCell ⟨b,6,none⟩ (.iface 243 (.pointer (some ⟨w2.heap.size+1,0,none⟩))):=⟨_,rfl⟩
 have F:=Lib.hid (show OX w w4 b bP B m p v (.pointer (some ⟨bl,0,none⟩)) (.pointer (some ⟨br,0,none⟩)) s X from by
  have h4:=qO
  rw [<-hw4] at h4
  have c4':=hc4
  rw [<-hw4] at c4'
  have hlow:∀ k,bC (w2.heap.size+1) tv k->w1.heap.size<=k:=λk hk=>Nat.le_trans hb2'.size (hge k hk)
  refine⟨(Hc1.out.trans (Chg.of_below (S:=λk=>k=b) zP)).trans c4',w2.heap.size+1,tv,?_,hwr.chg c4' (λk hk e=>by have:=hlow k hk;have:=aC Hb1.out;have e:k=b:=e;omega),λk hk=>by rw [<-Hz1.out];exact hlow k hk⟩
  rw [h4];rfl)
 have Hw4:=Lib.hid hw4
 clear hw4 hb2 hb2' hb3 zP hwr hge y0 y1 y2 y4 y5 y6 y7 z0 z1 z2 z4 z5 z6 z7 pU qO hc4 q6 qf ql k0 k1 k2 k4 k5 k6 k7
 go_wp2
 rw [<-Hw4.out]
 (first|go_end0|((try simp only [Exit.inBlock,Exit.then]);refine bodyPost_ret (results_none rfl _ _ _) rfl ?_))
 exact⟨rfl,F.out⟩
end
end Go.Proofs.Ytifhldnmcdbpfaa
