/- A snapshot in the reference's play: what its function does: one that updates. -/
import Derived.Test.YtfkokppncipgnaaGreatW42
import Derived.Deep.Cut
set_option maxRecDepth 100000
set_option linter.unusedVariables false
set_option linter.unusedSimpArgs false
set_option linter.unnecessarySimpa false
namespace Go.Proofs.YtfkokppncipgnaaGreat
section
open Go.RowKit
variable {B:fD} {w w':World} {t:aJ} {r:RWD}
def Pf (n:Nat) (Rn:aJ×RWD) (K:List Nat->Int->Pq) (e:Ending) (V:Value) (tt:aJ) (rr:RWD) (l:List Nat):Prop:=
 ∃ mm,e=.returned (.tuple #[V,.int .i64 mm])/\(l=[]->V=.slice none 0 0)/\l.length<=n/\(∀ x,x∈l->x<18446744073709551616)/\(tt.halt=true->∃ o,Rn=(tt.out o,rr))/\(tt.halt=false->∃ c,Rn=(K l c).run tt rr/\zM c tt rr mm/\l.length=n)
theorem Jg {rows:PR} {bs:FF} (h:eT B w t r rows bs) (n:Nat) (hn1:1<=n) (hn:n<=16) (F:Nat) (K:List Nat->Int->Pq) (hF:iC t<=F) (h0:t.at_=0) (hB:CB t r) (hlen:r.traces.length<=1000000) :
  Calls Tryz.prog 98 #[.pointer (some ⟨B.I.tb,B.I.pre.length,none⟩),.int .i64 (n:Int),.int .i64 0] w λe w'=>∃ V tt rr l,Pf n ((kR (gJ n) n F (List.replicate n false) K).run t r) K e V tt rr l/\eT B w' tt rr ((V,l)::rows) bs:=
 h.callX (R:=Pf n ((kR (gJ n) n F (List.replicate n false) K).run t r) K) (λB' e1 e2 hA=>by
  rw [<-e1,<-e2]
  refine(UC n hn1 hn F K hA hF h0 hB hlen).mono ?_
  rintro e w' ⟨V,mm,tt,rr,l,rfl,hV,h1,h2,h3,h4,h5⟩
  exact⟨V,tt,rr,l,⟨mm,rfl,h1,h2,h3,h4,h5⟩,hV⟩)
theorem Er (a:Nat) (k:Pq) (l:List Nat) {i:Nat} (hi:i<l.length) (t:aJ) (r:RWD):(wrT a k (l.drop i) i).run t r=(wrT a k (l.drop (i+1)) (i+1)).run (aX 1 ((a+1+i:Nat):Int) (l.getD i 0) 0 t r).2.1 (aX 1 ((a+1+i:Nat):Int) (l.getD i 0) 0 t r).2.2:=by
 rw [List.drop_eq_getElem_cons hi,show l.getD i 0=l[i] by rw [List.getD_eq_getElem?_getD,List.getElem?_eq_getElem hi];rfl]
 show(wrT a k (l.drop (i+1)) (i+1)).run _ (vV kY _ _)=_
 rw [CV]
theorem Nj {a:Nat} {c mm:Int} (h9:EK c t r=mm):vV (λt r=>wZ a [EK c t r] r) t r=zL (a:Int) [mm] t r:=by
 show(if kD t=true then wZ a [EK c t r] r else r)=_
 rw [h9]
 unfold zL wZ
 by_cases hj:kD t=true
 ·rw [if_pos hj]
  by_cases ha:a<r.traces.length
  ·rw [if_pos ha,if_pos ⟨hj,by omega,by omega⟩];rfl
  ·rw [if_neg ha,if_neg (λx=>ha (by omega))]
 ·rw [if_neg hj,if_neg (λx=>hj x.1)]
theorem Kl (a cell u:Nat) (c:Int) (t:aJ) (r:RWD) {mm:Int} (hd:zM c t r mm):(MH a cell u c).run t r=({ (aX 1 (cell:Int) a 0 t r).2.1 with priv:=[u+1] },zL (a:Int) [mm] (aX 1 (cell:Int) a 0 t r).2.1 (aX 1 (cell:Int) a 0 t r).2.2):=by
 rw [<-Nj (hd.acc 1 (cell:Int) a 0).dec]
 rfl
set_option maxHeartbeats 16000000 in
theorem Mo (n k:Nat) (hn1:1<=n) (hn:n<=16) (hk:k<=64) (c:aD) (th:Int) (xa xb xc:Nat) (hxa:xa<18446744073709551616) (h:RAt B w t r) (hp:VG n c t r) :
  Calls Tryz.prog 70 #[.pointer (some ⟨B.I.tb,B.I.pre.length,none⟩),.int .i64 (n:Int),.int .i64 0,.agg #[.int .i64 5,.int .i64 (k:Int),.int .i64 0],.agg #[.int .i64 th,.int .i64 0,.int .i64 0,.int .u64 (xa:Int),.int .u64 (xb:Int),.int .u64 (xc:Int)]] w λe u=>e=.returned (.tuple #[])/\∃ t',RAt B u t' (iE n k ⟨th,0,0,xa,xb,xc⟩ t r).2/\vM c t t' (iE n k ⟨th,0,0,xa,xb,xc⟩ t r).1:=by
 obtain⟨wb,hwb,hg,hS,hC⟩:=zB w 5 (k:Int) 0 th 0 xa xb xc
 have hA:=h.grown hg
 obtain⟨bS,hbS⟩:∃ bS,bS=w.heap.size:=⟨_,rfl⟩
 obtain⟨bC,hbC⟩:∃ bC,bC=w.heap.size+1:=⟨_,rfl⟩
 rw [<-hbS] at hS
 rw [<-hbC] at hC
 obtain⟨SO,hSO⟩:∃ SO:Obj,SO=.cells #[.int .i64 5,.int .i64 (k:Int),.int .i64 0] 39 (0,0):=⟨_,rfl⟩
 obtain⟨CO,hCO⟩:∃ CO:Obj,CO=.cells #[.int .i64 th,.int .i64 0,.int .i64 0,.int .u64 (xa:Int),.int .u64 (xb:Int),.int .u64 (xc:Int)] 48 (0,0):=⟨_,rfl⟩
 rw [<-hSO] at hS
 rw [<-hCO] at hC
 have HR:eT B wb t r [] [(bS,SO),(bC,CO)]:=eT.boxes h hg (λx hx=>by
  rcases List.mem_cons.1 hx with rfl|hx
  ·exact⟨hS,by show w.heap.size<=bS;omega⟩
  ·obtain rfl:=List.mem_singleton.1 hx
   exact⟨hC,by show w.heap.size<=bC;omega⟩)
 have boxS:∀ u:World,u.heap[bS]?=some SO->u.cell? ⟨bS,1,none⟩=some (.int .i64 (k:Int)):=λu hu=>by rw [hSO] at hu;rw [aA hu];rfl
 have boxC:∀ u:World,u.heap[bC]?=some CO->u.cell? ⟨bC,2,none⟩=some (.int .i64 0)/\u.cell? ⟨bC,3,none⟩=some (.int .u64 (xa:Int)):=λu hu=>by rw [hCO] at hu;exact⟨by rw [aA hu];rfl,by rw [aA hu];rfl⟩
 have p1:=boxS wb hS
 have q2:=(boxC wb hC).1
 obtain⟨us,hus⟩:∃ us,us=t.priv.headD 0:=⟨_,rfl⟩
 have aAM:us<=64:=by rw [hus];exact hp.own
 obtain⟨p,hpt⟩:∃ p,p=t.thread:=⟨_,rfl⟩
 have hpn:p<n:=by rw [hpt];exact hp.thr
 obtain⟨R,hR⟩:∃ R,R=iE n k ⟨th,0,0,xa,xb,xc⟩ t r:=⟨_,rfl⟩
 have RU:=(xD n k).runs ⟨th,0,0,xa,xb,xc⟩ t r
 rw [<-hR] at RU ⊢
 obtain⟨a,ha⟩:∃ a,a=bG n k p us:=⟨_,rfl⟩
 have hR2:R=if k<=us then ({ t with err:=6 },r) else (kR (gJ n) n zA (List.replicate n false) (VW a p us xa)).run t r:=by
  rw [hR,ha,hpt,hus]
  show(vY n k ⟨th,0,0,xa,xb,xc⟩ t.thread t.priv).run t r=_
  unfold vY
  rw [if_neg (show ¬ (0:Int)=1 by decide),if_neg (show ¬ (0:Int)≠0 by decide)]
  split<;>rfl
 have SC:=Jg HR n hn1 hn zA (VW a p us xa) (Ke hA) hp.at0 ⟨hp.got,hA.words⟩ hp.tr
 obtain⟨oa,oc,x8,hsl⟩:=hA.privCell
 obtain⟨PL,hPL⟩:∃ PL,PL=t.priv.length:=⟨_,rfl⟩
 rw [<-hPL] at x8
 have hu0:PL=0->us=0:=λe=>by rw [hus,List.eq_nil_of_length_eq_zero (hPL.symm.trans e)];rfl
 have hu1:0<PL->∃ gb off,oa=some ⟨gb,off,none⟩/\wb.cell? ⟨gb,off,none⟩=some (.int .u64 (us:Int)):=λe=>by
  obtain⟨gb,off,e1,_,hc⟩:=hsl.2 0 (by rw [<-hPL];exact e)
  refine⟨gb,off,e1,?_⟩
  have h9:=hc 0 (by omega)
  rw [Nat.mul_one,Nat.add_zero] at h9
  rw [h9,hus]
  cases hpv:t.priv with
  | nil=>rw [hpv] at hPL;simp at hPL;omega
  | cons y ys=>rfl
 have e9:wb.cell? ⟨B.I.tb,B.I.pre.length+9,none⟩=some (.int .i64 t.err):=hA.cErr
 have f9:=hA.frozen (B.I.pre.length+9)
 have HE:=Lib.hid (hA.putErr 6)
 have HSC:=Lib.hid SC;have Hwb:=Lib.hid hwb;have HbS:=Lib.hid hbS;have HbC:=Lib.hid hbC;have HR2:=Lib.hid hR2;have HbxS:=Lib.hid boxS;have HbxC:=Lib.hid boxC;have Hu1:=Lib.hid hu1;have Ha:=Lib.hid ha;have Hth:=Lib.hid RU.thread;have Hin:=Lib.hid RU.inv;have Hpt:=Lib.hid hpt;have Hu0:=Lib.hid hu0
 clear hwb hg hS hC h hA hR hR2 SC RU hp HR boxS boxC hbS hbC hSO hCO hsl hus hpt ha hu1 hu0 hPL
 go_enter Tryz.func70,Tryz.ntmps70
 go_upto_region 1 with fail
 rw [<-Hwb.out,<-HbC.out,<-HbS.out]
 go_upto_if 51 with fail
 go_cut [12] from 51 to 58 (λv wx=>v=.int .i64 (us:Int)/\wx=wb)
 case first=>
  by_cases h0:PL=0
  ·have l1:¬ (0:Int)<(PL:Int):=by omega
   have He:=Lib.hid (Hu0.out h0)
   clear h0
   go_wp2_with fail
   go_meet
   exact⟨by rw [He.out];rfl,rfl⟩
  ·have l1:(0:Int)<(PL:Int):=by omega
   obtain⟨gb,off,rfl,y0⟩:=Hu1.out (by omega)
   have a1:IntKind.i64.wrap (us:Int)=(us:Int):=by rw [IntKind.wrap_i64];omega
   clear h0
   go_wp2_with fail
   go_meet
   exact⟨rfl,rfl⟩
 case rest=>
  obtain⟨hv9,TA⟩:=hcut
  subst hv9
  rw [TA]
  clear TA x8 Hu1 Hu0
  by_cases hku:k<=us
  ·have l2:(k:Int)<=(us:Int):=by omega
   have hT:R=({ t with err:=6 },r):=by rw [HR2.out,if_pos hku]
   have F9:=Lib.hid (show ∃ t',RAt B (wb.setCell ⟨B.I.tb,B.I.pre.length+9,none⟩ (.int .i64 6)) t' R.2/\vM c t t' R.1 from by rw [hT];exact⟨_,HE.out,vM.same rfl rfl⟩)
   clear hku hT
   go_wp2
   ((refine bodyPost_ret (results_none rfl _ _ _) rfl ?_))
   exact⟨rfl,F9.out⟩
  ·have l2:¬ (k:Int)<=(us:Int):=by omega
   have hR2:R=(kR (gJ n) n zA (List.replicate n false) (VW a p us xa)).run t r:=by rw [HR2.out,if_neg hku]
   have HR3:=Lib.hid hR2;have Hku:=Lib.hid hku
   clear hku hR2 HR2 HE e9 f9
   go_upto_region 13 with(go_at_call 98;refine HSC.out.mono ?_;intro e w2 hres;obtain⟨V,tt,rr,l,hX,hV⟩:=hres;obtain⟨mm,rfl,hnl,hln,hlM,Dt,Pb⟩:=hX;have x7:=hV.at.cHalt;have HV:=Lib.hid hV;clear hV)
   clear p1 q2 HSC
   by_cases hh:tt.halt=true
   ·rw [hh] at x7
    obtain⟨o,ho⟩:=Dt hh
    rw [<-HR3.out] at ho
    have F9:=Lib.hid (show ∃ t',RAt B w2 t' R.2/\vM c t t' R.1 from by
     have e1:R.1=tt.out o:=by rw [ho]
     have h1:tt.thread=t.thread:=by have:=Hth.out;rw [e1] at this;exact this
     have h2:tt.inv=t.inv:=by have:=Hin.out;rw [e1] at this;exact this
     refine⟨tt,?_,vM.halted h1 h2 e1 hh⟩
     rw [ho];exact HV.out.at)
    clear ho hh Dt Pb hnl hln hlM
    go_wp2
    ((refine bodyPost_ret (results_none rfl _ _ _) rfl ?_))
    exact⟨rfl,F9.out⟩
   ·have hh':tt.halt=false:=by simpa using hh
    rw [hh'] at x7
    obtain⟨cc,hc,hd,Cs⟩:=Pb hh'
    rw [<-HR3.out] at hc
    obtain⟨va,vc,hVf⟩:=HV.out.headForm
    rw [Cs] at hVf
    subst hVf
    have HVr:=HV.out
    have WR:=HVr.write (a:Int) xa hxa
    have hd2:=hd.acc 1 (a:Int) xa 0
    have hc2:R=(wrT a (MH a p us cc) (l.drop 0) 0).run (aX 1 (a:Int) xa 0 tt rr).2.1 (aX 1 (a:Int) xa 0 tt rr).2.2:=by
     rw [hc]
     show(wrT a (MH a p us cc) l 0).run _ (vV kY _ _)=_
     rw [CV];rfl
    have MQ:=(lG.acc 1 (a:Int) xa 0 tt rr).thread
    have hpf:tt.thread=p:=by
     have h9:=(Pq.runs _ tt rr (show((VW a p us xa) l cc).effs from⟨xB,λ_=>LX (QI _ _ _ _) _ _⟩)).thread
     rw [<-hc,Hth.out] at h9
     rw [Hpt.out];exact h9.symm
    rw [hpf] at MQ
    have x1:w2.cell? ⟨B.I.tb,B.I.pre.length+1,none⟩=some (.int .i64 (p:Int)):=by rw [HVr.at.cThread,hpf]
    have p1:=HbxS.out w2 (HVr.box _ List.mem_cons_self)
    have q3:=(HbxC.out w2 (HVr.box _ (List.mem_cons_of_mem _ List.mem_cons_self))).2
    obtain⟨Z,hZ⟩:∃ Z,Z=aX 1 (a:Int) xa 0 tt rr:=⟨_,rfl⟩
    rw [<-hZ] at WR hd2 hc2 MQ
    obtain⟨_,t2,r2⟩:=Z
    simp only at WR hd2 hc2 MQ
    have hk2:=Hku.out
    obtain⟨pk,hpk⟩:∃ pk,pk=p*k:=⟨_,rfl⟩
    have aAC:pk<=16*64:=by rw [hpk];exact Nat.mul_le_mul (by omega) hk
    obtain⟨M,hM⟩:∃ M,M=(pk+us)*(n+1):=⟨_,rfl⟩
    have hM1:M<=1088*17:=by rw [hM];exact Nat.mul_le_mul (by omega) (by omega)
    have ha2:a=n+M:=by rw [Ha.out,hM,hpk];rfl
    have m0:IntKind.i64.wrap (n:Int)=(n:Int):=by rw [IntKind.wrap_i64];omega
    have m1:IntKind.i64.wrap ((p:Int)*(k:Int))=(pk:Int):=by rw [show((p:Int)*(k:Int))=(pk:Int) by rw [hpk];exact(Int.natCast_mul p k).symm,IntKind.wrap_i64];omega
    have m2:IntKind.i64.wrap ((pk:Int)+(us:Int))=(pk:Int)+(us:Int):=by rw [IntKind.wrap_i64];omega
    have m3:IntKind.i64.wrap ((n:Int)+1)=(n:Int)+1:=by rw [IntKind.wrap_i64];omega
    have m4:IntKind.i64.wrap (((pk:Int)+(us:Int))*((n:Int)+1))=(M:Int):=by
     rw [show((pk:Int)+(us:Int))*((n:Int)+1)=(M:Int) by rw [hM];push_cast;rfl,IntKind.wrap_i64];omega
    have m5:IntKind.i64.wrap ((n:Int)+(M:Int))=(a:Int):=by rw [IntKind.wrap_i64];omega
    have ha9:a<=100000:=by omega
    have HWR:=Lib.hid (λ(u:World) (hu:Below w2.heap.size w2 u)=>(show Calls Tryz.prog 89 #[.pointer (some ⟨B.I.tb,B.I.pre.length,none⟩),.int .i64 (a:Int),.int .u64 (xa:Int)] u λe w'=>e=.returned (.tuple #[])/\eT B w' t2 r2 [(.slice va n vc,l)] [(bS,SO),(bC,CO)] from by
     have h9:=(HVr.grown hu).write (a:Int) xa hxa
     rw [<-hZ] at h9;exact h9))
    have Hd2:=Lib.hid hd2;have Hc2:=Lib.hid hc2;have Hth2:=Lib.hid MQ;have Hln:=Lib.hid Cs;have HlM:=Lib.hid hlM;have Hq3:=Lib.hid q3
    have lb2:bC<w2.heap.size:=Ag (HVr.box _ (List.mem_cons_of_mem _ List.mem_cons_self))
    clear WR hd2 hc2 MQ hZ Cs hlM hh hh' Dt Pb hnl hln hc hd hpf HVr HV HR3 hk2 hpk aAC hM hM1 ha2 q3
    go_upto_region 14 with fail
    go_quiet (fail)
    have hbq:=below_drewN (Gr.refl w2) nq
    obtain⟨w3,hw3⟩:∃ w3,w3=w2.drewN nq:=⟨_,rfl⟩
    rw [<-hw3] at hbq ⊢
    have q3:=(hbq.cell (p:=⟨bC,3,none⟩) lb2).trans Hq3.out
    have HW3:=Lib.hid (HWR.out w3 hbq)
    clear hw3 hbq x7 x1 p1 lb2 HWR Hq3
    go_upto_region 17 with(go_at_call 89;refine HW3.out.mono ?_;rintro e w4 ⟨rfl,hV4⟩;have HV4:=Lib.hid hV4;clear hV4)
    go_loopw [100] (λiv wr=>∃(i:Nat) (tt:aJ) (rr:RWD),iv=.int .i64 (i:Int)/\i<=n/\eT B wr tt rr [(.slice va n vc,l)] [(bS,SO),(bC,CO)]/\R=(wrT a (MH a p us cc) (l.drop i) i).run tt rr/\zM cc tt rr mm/\tt.thread=p) (λiv _=>n - (intOf iv).toNat)
    case atStart=>exact⟨0,t2,r2,rfl,Nat.zero_le _,HV4.out,Hc2.out,Hd2.out,Hth2.out⟩
    case round=>
     obtain⟨i,t3,r3,rfl,hi,hV,hr,hd,ht3⟩:=hrel
     clear HV4 Hc2 Hd2 Hth2 q3 HW3
     by_cases hlt:i<n
     ·have l3:(i:Int)<(n:Int):=by omega
      obtain⟨g9,c9,e9,y1,_,_⟩:=(hV.row _ List.mem_cons_self).at (i:=i) (by show i<l.length;rw [Hln.out];exact hlt)
      obtain rfl:=(Value.slice.inj e9).1
      simp only at y1
      obtain⟨x,hx⟩:∃ x,x=l.getD i 0:=⟨_,rfl⟩
      have hxM:x<18446744073709551616:=by
       have hil:i<l.length:=by rw [Hln.out];exact hlt
       rw [hx,List.getD_eq_getElem?_getD,List.getElem?_eq_getElem hil]
       exact HlM.out _ (List.getElem_mem hil)
      have hst:=Er a (MH a p us cc) l (i:=i) (by rw [Hln.out];exact hlt) t3 r3
      rw [<-hr,<-hx] at hst
      rw [<-hx] at y1
      obtain⟨A,hA⟩:∃ A,A=a+1+i:=⟨_,rfl⟩
      rw [<-hA] at hst
      have WR:=hV.write (A:Int) x hxM
      have hd2:=hd.acc 1 (A:Int) x 0
      have MQ:=(lG.acc 1 (A:Int) x 0 t3 r3).thread
      rw [ht3] at MQ
      obtain⟨Z,hZ⟩:∃ Z,Z=aX 1 (A:Int) x 0 t3 r3:=⟨_,rfl⟩
      rw [<-hZ] at WR hd2 hst MQ
      obtain⟨_,t4,r4⟩:=Z
      simp only at WR hd2 hst MQ
      have m6:IntKind.i64.wrap ((a:Int)+1)=(a:Int)+1:=by rw [IntKind.wrap_i64];omega
      have m7:IntKind.i64.wrap ((a:Int)+1+(i:Int))=(A:Int):=by rw [IntKind.wrap_i64];omega
      have HWR:=Lib.hid WR;have Hd2:=Lib.hid hd2;have Hst:=Lib.hid hst;have Hth2:=Lib.hid MQ;have Hlt:=Lib.hid hlt
      clear WR hd2 hst MQ hZ hr hd ht3 hV hx hxM hA hlt hi e9
      go_wp2_with (go_at_call 89;refine HWR.out.mono ?_;rintro e w5 ⟨rfl,hV5⟩)
      go_roundw
      case rel=>exact⟨i+1,t4,r4,by go_num,Hlt.out,hV5,Hst.out,Hd2.out,Hth2.out⟩
      case measure=>(have:=Hlt.out;simp [intOf]<;>omega)
     ·have l3:¬ (i:Int)<(n:Int):=by omega
      obtain rfl:i=n:=by omega
      have hdr:l.drop i=[]:=List.drop_eq_nil_of_le (by rw [Hln.out];exact Nat.le_refl _)
      rw [hdr] at hr
      have hr2:R=(MH a p us cc).run t3 r3:=hr
      rw [Kl a p us cc t3 r3 hd] at hr2
      have WR:=hV.at
      have WRC:=NA WR (p:Int) a (by omega)
      obtain⟨Z,hZ⟩:∃ Z,Z=aX 1 (p:Int) a 0 t3 r3:=⟨_,rfl⟩
      rw [<-hZ] at WRC hr2
      obtain⟨_,t4,r4⟩:=Z
      simp only at WRC hr2
      have x1:wr.cell? ⟨B.I.tb,B.I.pre.length+1,none⟩=some (.int .i64 (p:Int)):=by rw [WR.cThread,ht3]
      have NTE:=Lib.hid (λ(u:World) (hA:RAt B u t4 r4)=>(show Calls Tryz.prog 94 #[.pointer (some ⟨B.I.tb,B.I.pre.length,none⟩),.int .i64 (a:Int),.slice (some ⟨u.heap.size,0,none⟩) 1 1] (u.alloc (.cells #[.int .i64 mm] 3)) λe w'=>e=.returned (.tuple #[])/\RAt B w' t4 (zL (a:Int) [mm] t4 r4) from
       XZ (hA.newL (l:=[mm]) (c:=1) (Gr.new _ _) ⟨by unfold maxLen;simp,λi hi=>⟨u.heap.size,0,rfl,by simp,λf hf=>by
        obtain rfl:f=0:=by omega
        rw [iI]
        obtain rfl:i=0:=by simpa using hi
        rfl⟩⟩ (λe=>by cases e) (λb off e=>by cases e;exact Nat.le_refl _)) a (by omega)))
      have m6:IntKind.i64.wrap (p:Int)=(p:Int):=by rw [IntKind.wrap_i64];omega
      have m7:IntKind.u64.wrap (a:Int)=(a:Int):=by rw [IntKind.wrap_u64];omega
      have m8:IntKind.u64.wrap (us:Int)=(us:Int):=by rw [IntKind.wrap_u64];omega
      have m9:IntKind.u64.wrap ((us:Int)+1)=(us:Int)+1:=by rw [IntKind.wrap_u64];omega
      have HWC:=Lib.hid WRC;have Hr2:=Lib.hid hr2
      clear WR WRC hr2 hZ hr hdr hd ht3 hV hlt hi
      go_upto_region 23 with(first|(go_at_call 89;refine HWC.out.mono ?_;rintro e w5 ⟨rfl,hA5⟩;have N5:=Lib.hid (NTE.out w5 hA5);clear hA5)|(go_at_call 94;refine N5.out.mono ?_;rintro e w6 ⟨rfl,hA6⟩;have HA6:=Lib.hid hA6;clear hA6))
      obtain⟨_,_,y8,_⟩:=HA6.out.privCell
      have f8:=HA6.out.frozen (B.I.pre.length+8)
      have Pv:=HA6.out.lt
      go_wp2
      (go_end0)
      refine⟨rfl,{ t4 with priv:=[us+1] },?_,?_⟩
      ·rw [Hr2.out]
       have hnew:EN B (w6.alloc (.cells #[.int .u64 ((us:Int)+1)] 46)) t4 (zL (a:Int) [mm] t4 r4) (.slice (some ⟨w6.heap.size,0,none⟩) 1 1) [us+1]:=HA6.out.newU (l:=[us+1]) (c:=1) (Gr.new _ _) ⟨by unfold maxLen;simp,λi hi=>⟨w6.heap.size,0,rfl,by simp,λf hf=>by
        obtain rfl:f=0:=by omega
        rw [iI]
        obtain rfl:i=0:=by simpa using hi
        rfl⟩⟩ (λ_ b off e=>by cases e;exact Nat.le_refl _)
       have h9:=hnew.putPriv
       rw [World.setCell_alloc_past _ _ _ _ Pv] at h9
       exact h9
      ·have h1:=Hth.out
       have h2:=Hin.out
       rw [Hr2.out] at h1 h2 ⊢
       exact vM.same h1 h2
end
section
open Go.RowKit
section err
variable {B:fD} {w:World} {t:aJ} {r:RWD}
set_option maxHeartbeats 4000000 in
theorem Og (n k:Nat) (th kd:Int) (xa xb xc:Nat) (h:RAt B w t r) (h1:¬ kd=1) (h0:¬ kd=0) :
  Calls Tryz.prog 70 #[.pointer (some ⟨B.I.tb,B.I.pre.length,none⟩),.int .i64 (n:Int),.int .i64 0,.agg #[.int .i64 5,.int .i64 (k:Int),.int .i64 0],.agg #[.int .i64 th,.int .i64 0,.int .i64 kd,.int .u64 (xa:Int),.int .u64 (xb:Int),.int .u64 (xc:Int)]] w λe u=>e=.returned (.tuple #[])/\RAt B u (iE n k ⟨th,0,kd,xa,xb,xc⟩ t r).1 (iE n k ⟨th,0,kd,xa,xb,xc⟩ t r).2:=by
 obtain⟨wb,hwb,hg,hS,hC⟩:=zB w 5 (k:Int) 0 th kd xa xb xc
 have hA:=h.grown hg
 have q2:wb.cell? ⟨w.heap.size+1,2,none⟩=some (.int .i64 kd):=by rw [aA hC];rfl
 have e9:wb.cell? ⟨B.I.tb,B.I.pre.length+9,none⟩=some (.int .i64 t.err):=hA.cErr
 have f9:wb.frozen? ⟨B.I.tb,B.I.pre.length+9,none⟩=false:=hA.frozen _
 have l1:(kd == 1)=false:=by simp [h1]
 have Hwb:=Lib.hid hwb
 have hT:iE n k ⟨th,0,kd,xa,xb,xc⟩ t r=({ t with err:=9 },r):=by
  show(vY n k ⟨th,0,kd,xa,xb,xc⟩ t.thread t.priv).run t r=_
  unfold vY
  rw [if_neg (show ¬ kd=1 from h1),if_pos (show kd≠0 from h0)]
  rfl
 rw [hT]
 have Fin:=Lib.hid (hA.putErr 9)
 have l0:(kd == 0)=false:=by simp [h0]
 have l5:(kd != 0)=true:=by simp [h0]
 clear hwb hg hS hC h hA hT
 go_enter Tryz.func70,Tryz.ntmps70
 go_upto_region 1 with fail
 rw [<-Hwb.out]
 go_wp2
 ((refine bodyPost_ret (results_none rfl _ _ _) rfl ?_))
 exact⟨rfl,Fin.out⟩
end err
theorem Kz (n k:Nat) (hn1:1<=n) (hn:n<=16) (hk:k<=64):DoC 5 (k:Int) 0 n (VG n) (iE n k):=by
 intro B u c t r hok hob hpre hA
 obtain⟨th,ob,kd,xa,xb,xc⟩:=c
 obtain rfl:ob=0:=hob
 have R:=(xD n k).runs ⟨th,0,kd,xa,xb,xc⟩ t r
 refine(Nu (B:=B) (w:=u) (t:=t) (r:=r) (λu'=>∃ t',RAt B u' t' (iE n k ⟨th,0,kd,xa,xb,xc⟩ t r).2/\vM ⟨th,0,kd,xa,xb,xc⟩ t t' (iE n k ⟨th,0,kd,xa,xb,xc⟩ t r).1) n (k:Int) 0 th kd xa xb xc hA (λu' h'=>?_)).mono (λe u' h=>h)
 by_cases h1:kd=1
 ·subst h1
  exact Ng n k hn1 hn _ th xa xb xc h' ⟨hpre.list,hpre.at0,hpre.got,hpre.tr,hpre.thr,hpre.own⟩
 ·by_cases h0:kd=0
  ·subst h0
   exact Mo n k hn1 hn hk _ th xa xb xc hok.a h' ⟨hpre.list,hpre.at0,hpre.got,hpre.tr,hpre.thr,hpre.own⟩
  ·exact(Og n k th kd xa xb xc h' h1 h0).mono (λe u'' h=>⟨h.1,_,h.2,vM.same R.thread R.inv⟩)
end
section
open Go.RowKit
theorem getD_take {α:Type} {l:List α} {n i:Nat} {d:α} (h:i<n):(l.take n).getD i d=l.getD i d:=by
 rw [List.getD_eq_getElem?_getD,List.getD_eq_getElem?_getD,List.getElem?_take_of_lt h]
theorem ET {old now:List Nat} {n:Nat}:∀(m i:Nat) (s:Bool) (f:Nat) (d:List Bool),i+m<=n->vC (old.take n) (now.take n) m i s f (d.take n)=((vC old now m i s f d).1,(vC old now m i s f d).2.1,(vC old now m i s f d).2.2.take n)
 | 0,_,_,_,_,_=>rfl
 | m+1,i,s,f,d,h=>by
  unfold vC
  rw [getD_take (by omega),getD_take (by omega),getD_take (by omega)]
  split
  ·exact ET m (i+1) s f d (by omega)
  ·rw [<-List.take_set]
   exact ET m (i+1) _ _ _ (by omega)
theorem zR {old now:List Nat}:∀(m i:Nat) (s:Bool) (f:Nat) (d:List Bool),((vC old now m i s f d).1=true↔s=true/\∀ x,i<=x->x<i+m->old.getD x 0=now.getD x 0)
 | 0,i,s,_,_=>⟨λh=>⟨h,λx h1 h2=>(by omega)⟩,λh=>h.1⟩
 | m+1,i,s,f,d=>by
  unfold vC
  by_cases he:old.getD i 0=now.getD i 0
  ·rw [if_pos he,zR m (i+1) s f d]
   refine⟨λ⟨a,b⟩=>⟨a,λx h1 h2=>?_⟩,λ⟨a,b⟩=>⟨a,λx h1 h2=>b x (by omega) (by omega)⟩⟩
   by_cases e:x=i
   ·rw [e];exact he
   ·exact b x (by omega) (by omega)
  ·rw [if_neg he,zR m (i+1) false _ _]
   exact⟨λ⟨a,_⟩=>(by cases a),λ⟨_,b⟩=>absurd (b i (Nat.le_refl _) (by omega)) he⟩
theorem EX {old now:List Nat}:∀(m i:Nat) (s:Bool) (f:Nat) (d:List Bool),f≠0->(vC old now m i s f d).2.1=f
 | 0,_,_,_,_,_=>rfl
 | m+1,i,s,f,d,h=>by
  unfold vC
  split
  ·exact EX m _ _ _ _ h
  ·rw [if_neg (λe=>h e.2)]
   exact EX m _ _ _ _ h
theorem OD {old now:List Nat}:∀(m i:Nat) (s:Bool) (d:List Bool),(∀ d' g,iA old now m i d=(d',some g)->g≠0->(vC old now m i s 0 d).2.1=g)/\(∀ d',iA old now m i d=(d',none)->(vC old now m i s 0 d).2=(0,d'))
 | 0,_,_,_=>⟨λd' g h=>(by cases h),λd' h=>(by cases h;rfl)⟩
 | m+1,i,s,d=>by
  unfold iA vC
  by_cases he:old.getD i 0=now.getD i 0
  ·rw [if_pos he,if_pos he]
   exact OD m (i+1) s d
  ·rw [if_neg he,if_neg he]
   by_cases hd:d.getD i false=true
   ·rw [if_pos hd,if_pos ⟨hd,rfl⟩]
    refine⟨λd' g h hg=>?_,λd' h=>by cases h⟩
    cases h
    exact EX m _ _ _ _ hg
   ·rw [if_neg hd,if_neg (λe=>hd e.1)]
    exact OD m (i+1) false _
theorem QC {now:List Nat} {K:List Nat->Pq} {n:Nat} (hl:n<=now.length):∀(m b:Nat) (l:List Nat),b+m<=n->(∀ x,b<=x->x<b+m->now.getD x 0=0)->iY ((now.take n).drop b) l K=iY ((now.take n).drop (b+m)) (l++List.replicate m 0) K
 | 0,b,l,_,_=>by simp
 | m+1,b,l,h,hz=>by
  have hb:b<(now.take n).length:=by rw [List.length_take];omega
  have e0:(now.take n)[b]=0:=by
   have:=hz b (Nat.le_refl _) (by omega)
   rw [<-getD_take (n:=n) (by omega),List.getD_eq_getElem?_getD,List.getElem?_eq_getElem hb] at this
   exact this
  rw [List.drop_eq_getElem_cons hb,e0]
  show(if 0=0 then iY _ (l++[0]) K else _)=_
  rw [if_pos rfl,QC hl m (b+1) (l++[0]) (by omega) (λx h1 h2=>hz x (by omega) (by omega)),List.append_assoc,show b+1+m=b+(m+1) by omega]
  rfl
theorem ZP {now:List Nat} {K:List Nat->Pq} {n b:Nat} (hl:n<=now.length) (l:List Nat) (hb:b<n) (hz:now.getD b 0≠0):iY ((now.take n).drop b) l K=.acc 0 (wI (now.getD b 0)) 0 0 kY λg=>iY ((now.take n).drop (b+1)) (l++[g]) K:=by
 have hb':b<(now.take n).length:=by rw [List.length_take];omega
 have e0:(now.take n)[b]=now.getD b 0:=by
  rw [<-getD_take (n:=n) hb,List.getD_eq_getElem?_getD,List.getElem?_eq_getElem hb'];rfl
 rw [List.drop_eq_getElem_cons hb',e0]
 show(if now.getD b 0=0 then _ else _)=_
 rw [if_neg hz]
theorem Fh {now:List Nat} {K:List Nat->Pq} {n:Nat} (l:List Nat):iY ((now.take n).drop n) l K=K l:=by
 rw [List.drop_eq_nil_of_le (by rw [List.length_take];omega)];rfl
theorem NJ {c:Nat} (h:c<=1000000):wI c=(c:Int):=by unfold wI;rw [IntKind.wrap_i64];omega
theorem WX {a j:Nat} (h:a+1+j<=1000000):Cu a j=((a+1+j:Nat):Int):=by
 unfold Cu
 rw [NJ (by omega),show IntKind.i64.wrap ((a:Int)+1)=(a:Int)+1 by rw [IntKind.wrap_i64];omega,IntKind.wrap_i64]
 omega
theorem PY {l:List Nat} {i g:Nat} (h:i<l.length):(l.set i g).take (i+1)=l.take i++[g]:=by
 rw [List.take_add_one,List.take_set_of_le (Nat.le_refl i),List.getElem?_set_self h];rfl
theorem ED {K:List Nat->Pq} {n j:Nat} (l:List Nat) (h:j<n):vB (n - j) j l K=.acc 0 (j:Int) 0 0 kY λg=>vB (n - (j+1)) (j+1) (l++[g]) K:=by
 rw [show n - j=(n - (j+1))+1 by omega];rfl
theorem PU {K:List Nat->Pq} {n:Nat} (l:List Nat):vB (n - n) n l K=K l:=by rw [Nat.sub_self];rfl
theorem ZJ {K:List Nat->Pq} {a n j:Nat} (o:List Nat) (h:j<n):CQ a (n - j) j o K=.acc 0 (Cu a j) 0 0 kY λg=>CQ a (n - (j+1)) (j+1) (o++[g]) K:=by
 rw [show n - j=(n - (j+1))+1 by omega];rfl
theorem Dw {K:List Nat->Pq} {a n:Nat} (o:List Nat):CQ a (n - n) n o K=K o:=by rw [Nat.sub_self];rfl
theorem Fu {k:Pq} {a i:Nat} {l:List Nat} (h:i<l.length):wrT a k (l.drop i) i=.acc 1 ((a+1+i:Nat):Int) (l.getD i 0) 0 kY λ_=>wrT a k (l.drop (i+1)) (i+1):=by
 have e0:l[i]=l.getD i 0:=by rw [List.getD_eq_getElem?_getD,List.getElem?_eq_getElem h];rfl
 rw [List.drop_eq_getElem_cons h,e0];rfl
theorem ZR {k:Pq} {a i:Nat} {l:List Nat} (h:l.length<=i):wrT a k (l.drop i) i=k:=by rw [List.drop_eq_nil_of_le h];rfl
end
section
open Go.RowKit
variable {n k:Nat} {calls:List aD} {st:aP (aV n k)} {rho:Nat->Nat} {q i j:Nat} {aQ:List EvD} {cZ:WD} {σ:SnS}
def JH (n k:Nat) (o:List Nat) (f:Nat):Prop:=∃ t r,t<n/\r<o.getD t 0/\f=bG n k t r
structure EL (n k:Nat) (st:aP (aV n k)) (wd:WD) (s:ScD):Prop where
 addr:bK s<st.wd.mem.ws.length
 l1:s.old.length=16
 l2:s.now.length=16
 l3:s.diff.length=16
 z:∀ i,n<=i->s.old.getD i 0=0/\s.now.getD i 0=0
 at_:s.at_<n
 pc:(s.pc=0/\s.list=[]/\s.rounds<=n)∨(s.pc=1/\s.now.getD s.at_ 0≠0/\s.list.length=s.at_)∨(s.pc=2/\s.list.length=s.at_)
 bor:s.pc=0->s.at_+1=n->s.rounds+1≠1->s.old≠s.now.set s.at_ (dZ wd s.at_)->∀ d f,iA s.old (s.now.set s.at_ (dZ wd s.at_)) n 0 s.diff=(d,some f)->f≠0/\f<20000/\JH n k st.obj f
 mom:(bE n wd s).pc=3->∃ m:Nat,(bE n wd s).moment=(m:Int)/\m<=st.wd.now+1
theorem Si (hg:bQ calls st) (hf:From calls st q i j σ aQ cZ):gF calls st.fin (q:Int)=some i∨eG (aV n k) st.obj (st.wd.tick.begin q) q (calls.getD i d0)=.run σ:=by
 rcases hf.or with⟨hh,hk,hc,hr0,rfl,rfl⟩|⟨hh,hs,rfl,rfl,rfl⟩
 ·left
  have hh':fQ st.hands q=some j:=by unfold fQ;rw [hh];rfl
  obtain⟨k1,k2,k3,k4⟩:=hg.ev.hand q j hh'
  rw [k4,hc]
 ·right;exact hs
theorem Kc (hs:eG (aV n k) st.obj (st.wd.tick.begin q) q (calls.getD i d0)=.run σ):σ=.rd AQ []∨(List.getD (α:=Nat) st.obj q 0<k/\σ=.up AQ q (bG n k q (List.getD (α:=Nat) st.obj q 0)) 0 (calls.getD i d0).a false):=by
 unfold eG at hs
 by_cases h0:(calls.getD i d0).obj=0
 ·rw [if_pos h0] at hs
  have hs':(if (calls.getD i d0).kind=1 then Mc.run (SnS.rd AQ []) else if (calls.getD i d0).kind≠0 then .refuse 9 else if k<=List.getD (α:=Nat) st.obj q 0 then .refuse 6 else .run (.up AQ q (bG n k q (List.getD (α:=Nat) st.obj q 0)) 0 (calls.getD i d0).a false))=Mc.run σ:=hs
  split at hs'
  ·cases hs';exact .inl rfl
  ·split at hs'
   ·cases hs'
   ·split at hs'
    ·cases hs'
    ·rename_i k2
     cases hs';exact .inr ⟨Nat.lt_of_not_le k2,rfl⟩
 ·rw [if_neg h0] at hs;cases hs
theorem TU (hn:1<=n) (hn16:n<=16) (h:gY n k calls st rho) (wd:WD):EL n k st wd AQ:=by
 have hw:n<=st.wd.mem.ws.length:=h.rc.nw
 refine⟨by show 0<_;omega,rfl,rfl,rfl,λi _=>⟨jN,jN⟩,hn,.inl ⟨rfl,rfl,Nat.zero_le n⟩,λ_ _ e=>absurd rfl e,λe=>?_⟩
 exfalso
 have hs:(bE n wd AQ).pc=0:=by
  show(jJ n wd (dZ wd (bK AQ)) AQ).pc=0
  unfold jJ
  rw [if_pos (show AQ.pc=0 from rfl)]
  split
  ·unfold eH
   rw [if_pos (show AQ.rounds+1=1 from rfl)];rfl
  ·rfl
 rw [hs] at e;cases e
theorem EP (hn:1<=n) (hn16:n<=16) (hk:k<=64) (hthr:∀ c,c<calls.length->0<=(calls.getD c d0).thread/\(calls.getD c d0).thread<n) (hg:bQ calls st) (h:gY n k calls st rho) (hf:From calls st q i j σ aQ cZ) :
  match σ with
  | .rd s _=>EL n k st cZ s
  | .up s p r nx v false=>EL n k st cZ s/\p=q/\r=bG n k q (List.getD (α:=Nat) st.obj q 0)/\List.getD (α:=Nat) st.obj q 0<k
  | .up s p r nx v true=>s.pc=3/\s.list.length=n/\nx<=n+1/\(∃ m:Nat,s.moment=(m:Int)/\m<=st.wd.now+1)/\p=q/\r=bG n k q (List.getD (α:=Nat) st.obj q 0)/\List.getD (α:=Nat) st.obj q 0<k:=by
 rcases Si hg hf with hN|hs
 ·have hopen:(aF aQ j).resp=0:=hf.open_
  have hnx:=hf.next hg hN (aS (aF aQ j)) rfl
  have hqn:=YM hthr hN
  have hwl:st.wd.mem.ws.length<=20000:=by rw [h.wl];exact kF hn16 hk
  obtain⟨g1,g2⟩:=wV hn hthr hg h hN hf hnx (.inl hopen)
  have sc:∀(x:ScD) (N:Nat),x.pc≠3->BH n calls FK EI rho (aQ.set j (aS (aF aQ j))) st.wd.traces (st.wd.now+1) q (aF aQ j).inv N x->EL n k st cZ x:=λx N h3 hx=>by
   obtain⟨a1,a2,a3⟩:=xV hn hn16 hthr hg h hN hf hnx (.inl hopen) (kL hopen) h3 hx
   have hm:(bE n cZ x).pc=3->∃ m:Nat,(bE n cZ x).moment=(m:Int)/\m<=st.wd.now+1:=λe=>by
    rcases a2.body with⟨e',_⟩|⟨e',_⟩|⟨e',_⟩|⟨_,c'⟩
    ·omega
    ·omega
    ·omega
    ·obtain⟨m,m1,_,m3,_⟩:=c'.mom
     exact⟨m,m1,m3⟩
   rcases hx.body with⟨e,c⟩|⟨e,c⟩|⟨e,c⟩|⟨e,_⟩
   ·refine⟨a1,hx.l1,hx.l2,hx.l3,hx.z,c.at_,.inl ⟨e,c.nil,?_⟩,λ_ hl hr hne d f hd=>?_,hm⟩
    ·have h1:=SA hqn (by have:=hx.l3;omega) hx.dn hx.own
     have h2:=c.few
     omega
    ·have hgo:bE n cZ x={ x with now:=x.now.set x.at_ (dZ cZ x.at_),at_:=0,rounds:=x.rounds+1,diff:=d,pc:=2,from_:=f,moment:=(cZ.traces f).headD 0 }:=by
      have ha:bK x=x.at_:=by unfold bK;rw [if_pos e]
      unfold bE jJ
      rw [if_pos e,if_pos hl,ha]
      exact wF (s:={ x with now:=x.now.set x.at_ (dZ cZ x.at_),at_:=x.at_+1 }) (by show 1<=x.rounds;omega) hne hd
     rw [hgo] at a2
     rcases a2.body with⟨e',_⟩|⟨e',_⟩|⟨_,c'⟩|⟨e',_⟩
     ·cases e'
     ·cases e'
     ·obtain⟨jj,j1,j2,j3⟩:=c'.ref
      have j3':f=rho jj:=j3
      obtain⟨r,r1,r2⟩:=TG hnx (kL hopen) h jj j1 j2
      have hp:=a3.pos jj j1 j2
      have htn:tn calls (aF (aQ.set j (aS (aF aQ j))) jj)<n:=by
       have hne:jj≠j:=λe9=>by subst e9;rw [hnx.self] at j2;exact kL (e:=aS (aF aQ jj)) hopen j2
       obtain⟨x1,x2⟩:=hnx.other jj j1 hne
       have hi':=hg.ev.call jj x1
       rw [x2]
       have:=hthr _ hi'
       unfold tn
       omega
      exact⟨by omega,by rw [j3'];omega,_,r,htn,r1,by rw [j3'];exact r2⟩
     ·cases e'
   ·exact⟨a1,hx.l1,hx.l2,hx.l3,hx.z,c.at_,.inr (.inl ⟨e,c.pos,c.len⟩),(λe'=>by omega),hm⟩
   ·exact⟨a1,hx.l1,hx.l2,hx.l3,hx.z,c.at_,.inr (.inr ⟨e,c.len⟩),(λe'=>by omega),hm⟩
   ·exact absurd e h3
  match σ,g2 with
  | .rd s key,⟨_,_,g3,g4⟩=>exact sc s _ g3 g4
  | .up s p r nx v false,⟨_,g3,_,g5,g6,g7⟩=>
   rcases g7 with⟨_,_,g8,g9⟩|⟨g8,_⟩
   ·exact⟨sc s _ g8 g9,g3,g6,g5⟩
   ·cases g8
  | .up s p r nx v true,⟨_,g3,_,g5,g6,g7⟩=>
   rcases g7 with⟨g8,_⟩|⟨_,g9,g10,⟨N,g11,_⟩,_,_⟩
   ·cases g8
   ·rcases g11.body with⟨e',_⟩|⟨e',_⟩|⟨e',_⟩|⟨_,c'⟩
    ·omega
    ·omega
    ·omega
    ·obtain⟨m,m1,_,m3,_⟩:=c'.mom
     exact⟨g9,c'.len,g10,⟨m,m1,m3⟩,g3,g6,g5⟩
 ·rcases Kc hs with rfl|⟨e,rfl⟩
  ·exact TU hn hn16 h cZ
  ·exact⟨TU hn hn16 h cZ,rfl,rfl,e⟩
end
end Go.Proofs.YtfkokppncipgnaaGreat
