/- Layer 16: a collect is whole, and a view is borrowed. -/
import Derived.Test.YtifhldnmcdbpfaaU26
set_option maxRecDepth 100000
set_option linter.unusedVariables false
set_option linter.unusedSimpArgs false
set_option linter.unnecessarySimpa false
namespace Go.Proofs.Ytifhldnmcdbpfaa
open Go.RowKit
set_option maxHeartbeats 8000000 in
theorem jX (m a:Nat):(cB m a).length=m:=by unfold cB;rw [List.length_map,List.length_range]
theorem GR {m a k:Nat} (h:k<m):(cB m a).getD k 0=a+1+k:=by
 unfold cB
 rw [List.getD_eq_getElem?_getD,List.getElem?_map,List.getElem?_range h];rfl
set_option maxHeartbeats 8000000 in
theorem AV (n m q bU:Nat) (hm:1<=m) (dF:m<=16) (hq:1<=q) (dQ:q<=64) (w:World) (Mut:Nat->Prop) (I:eO) (NW:Nat) (b bP:Nat) (v:MuV) (s:MuD) (wd:WD) (hWU:∀ u,Chg (MuB b v) w u->aT u Mut I NW wd) (h:MuAt w b bP v s) (hP:w.heap[bP]?=some (.cells (jM n m q bU) 89 (0,0))) (hbP:¬ MuB b v bP) (hch:s.chosen=false) (hno:s.old.length=m) (hnn:s.now.length=m) (hne:s.old≠s.now)
  (hlv:∀ k,k<m->s.old.getD k 0≠s.now.getD k 0->m<=s.now.getD k 0/\s.now.getD k 0<=1000000/\aX m q (s.now.getD k 0)<16) (d:List Nat) (A:Nat) (hsn:fU m q s.old s.now m 0 s.noted=(d,some A)) (hA:A<=1000000) (mo:Int) (rest:List Int) (htr:wd.traces (A:Int)=mo::rest) :
  Calls Try.prog 173 #[.pointer (some ⟨b,0,none⟩),.pointer (some ⟨I.bW,0,none⟩)] w λe w'=>nD w w' b bP v (dH m q wd s) e:=by
 have ho:s.old≠[]:=λe=>by rw [e] at hno;have:(0:Nat)=m:=hno;omega
 have hmw:dH m q wd s={ s with noted:=d,chosen:=true,moment:=mo,reads:=cB m A }:=by unfold dH;rw [if_neg ho,if_neg hne,hsn];show({ s with noted:=d,chosen:=true,moment:=(wd.traces (A:Int)).headD 0,reads:=s.reads++cB m A }:MuD)=_;rw [htr,(h.nilR hch).1];rfl
 rw [hmw]
 obtain⟨S,hS⟩:∃ S:MuD,S={ s with noted:=d,chosen:=true,moment:=mo,reads:=cB m A }:=⟨_,rfl⟩
 rw [<-hS]
 obtain⟨hr0,hv0⟩:=h.nilR hch
 obtain⟨og,oc,hov,_,_,lo⟩:=h.old.at (i:=0) (by omega)
 obtain⟨ng,nc,hnv,_,_,ln⟩:=h.now.at (i:=0) (by omega)
 rw [hno] at hov
 rw [hnn] at hnv
 obtain⟨a1,c1,e1,sl1,q1⟩:=h.old.sl (by omega)
 obtain⟨a2,c2,e2,sl2,q2⟩:=h.now.sl (by omega)
 have g1:a1=some ⟨og,0,none⟩:=(Value.slice.inj (e1.symm.trans hov)).1
 have g2:a2=some ⟨ng,0,none⟩:=(Value.slice.inj (e2.symm.trans hnv)).1
 rw [g1] at sl1
 rw [g2] at sl2
 have EQ:=Lib.hid (λ(n:gL w)=>(show Calls Try.prog 174 #[.slice (some ⟨og,0,none⟩) m oc,.slice (some ⟨ng,0,none⟩) m nc] n.u λe w'=>e=.returned (.bool false)/\Below n.u.heap.size n.u w' from by
  have h9:=qH n.u (some ⟨og,0,none⟩) (some ⟨ng,0,none⟩) oc nc s.old s.now (sl1.below n.below (λ_ _ e=>by cases e;exact lo)) (sl2.below n.below (λ_ _ e=>by cases e;exact ln)) (by omega) (by omega)
  rw [hno,hnn,show decide (s.old=s.now)=false by simp [hne]] at h9
  exact h9))
 have SN:=Lib.hid (λ(u:World) (hu:Below w.heap.size w u)=>(show Calls Try.prog 175 #[.pointer (some ⟨b,0,none⟩)] u λe w'=>sZ u w' b bP v s (d,some A) e from by
  have h9:=EF n m q bU hm dF hq dQ u b bP v s (h.grown hu) ((hu.block _ (aH hP)).trans hP) hbP hno hnn hlv
  rw [hsn] at h9
  exact h9))
 have y1:w.cell? ⟨b,1,none⟩=some (.slice (some ⟨og,0,none⟩) m oc):=(h.get 1).trans (by rw [<-hov];rfl)
 have y2:w.cell? ⟨b,2,none⟩=some (.slice (some ⟨ng,0,none⟩) m nc):=(h.get 2).trans (by rw [<-hnv];rfl)
 have hnl:=fE (some ⟨og,0,none⟩) m oc
 have TR:=Lib.hid (λ(u:World) (hu:Chg (MuB b v) w u)=>GD u Mut I NW wd (A:Int) (hWU u hu) (show(Lit.int .i64 (A:Int)).wf=true by simp [Lit.wf,IntKind.min,IntKind.max,IntKind.signed,IntKind.bits];omega))
 have HP:=Lib.hid (λ(u:World) (hu:Chg (MuB b v) w u)=>(show u.heap[bP]?=some (.cells (jM n m q bU) 89 (0,0)) from(hu.block _ (aH hP) hbP).trans hP))
 have HbP:=Lib.hid (show bP≠b from λe=>hbP (.inl e))
 have HR0:=Lib.hid hr0;have HV0:=Lib.hid hv0;have HS:=Lib.hid hS;have Htr:=Lib.hid htr;have HA:=Lib.hid hA;have HL:=Lib.hid h.get;have Hm16:=Lib.hid dF
 clear h ho hno hnn hne hov hnv e1 sl1 q1 g1 a1 c1 e2 sl2 q2 g2 a2 c2 hmw lo ln hP hbP hWU hlv hsn hr0 hv0 hS htr hA hch hm dF hq dQ
 go_enter Try.func173,Try.ntmps173
 go_upto_region 9 with fail
 have Y1:=bG y1;have Y2:=bG y2
 clear y1 y2 hnl
 go_wp2_with fail
 ((with_reducible refine dA (by kernel_rfl) (by kernel_rfl) ?_);(repeat ((with_reducible refine wpQuiet_step (λK hK=>?_));go_simp;first|((with_reducible refine hK _ ?_);clear hK K)|((with_reducible apply Exists.intro);(with_reducible refine⟨λ_=>?_,hK _ ?_⟩);((go_at_call 174;first|exact oF (EQ.out _)|exact lW (EQ.out _)));clear hK K)));(with_reducible refine wpQuiet_nil ?_);intro _ hw';obtain⟨nq,hw''⟩:=hw';subst hw'')
 obtain⟨w0,hw0⟩:∃ w0,w0=nq.u:=⟨_,rfl⟩
 have hb0:=nq.below
 rw [<-hw0] at hb0 ⊢
 have SN0:=Lib.hid (SN.out w0 hb0)
 have Hb0:=Lib.hid hb0
 clear Y1 Y2 hw0 nq EQ SN hb0
 go_upto_region 2 with(go_at_call 175;refine SN0.out.mono ?_;rintro e w2 ⟨rfl,hM2,LP⟩;have HM2:=Lib.hid hM2;have HT2:=Lib.hid LP;clear hM2 LP)
 have hc2:Chg (MuB b v) w w2:=sM (S1:=MuB b v) (Chg.of_below Hb0.out) HT2.out.chg (λ_ _ h=>h)
 have TR2:=Lib.hid (TR.out w2 hc2)
 have HP2:=HP.out w2 hc2
 have cA:IntKind.i64.wrap (A:Int)=(A:Int):=by have:=HA.out;rw [IntKind.wrap_i64];omega
 have cA2:wrap64 (A:Int)=(A:Int):=by have:=HA.out;unfold wrap64;omega
 have y6:w2.cell? ⟨b,6,none⟩=some (.bool s.chosen):=HM2.out.get 6
 have y8:w2.cell? ⟨b,8,none⟩=some (.int .i64 s.moment):=HM2.out.get 8
 have f6:=HM2.out.frozen 6
 have f8:=HM2.out.frozen 8
 have lb:=HM2.out.lt
 obtain⟨A1,T1⟩:=HM2.out.put 6 (.bool true) (s':={ s with noted:=d,chosen:=true }) rfl rfl rfl rfl rfl rfl (λe=>by cases e)
 obtain⟨A2,T2⟩:=A1.put 8 (.int .i64 mo) (s':={ s with noted:=d,chosen:=true,moment:=mo }) rfl rfl rfl rfl rfl rfl (λe=>by cases e)
 have HT0:=Lib.hid ((((gQ.grown (b:=b) (v:=v) Hb0.out).trans HT2.out).trans T1).trans T2)
 have HA2:=Lib.hid A2
 have hbP0:w2.heap[bP]?=some (.cells (jM n m q bU) 89 (0,0)):=HP2
 clear A1 T1 A2 T2 hc2 TR HP HM2 HT2 Hb0 SN0 HP2 HL
 have Htl:∃ tn:Nat,tn=(wd.traces (A:Int)).length/\0<tn:=⟨_,rfl,by rw [Htr.out];exact Nat.succ_pos _⟩
 obtain⟨tn,htn,ZX⟩:=Htl
 have Htn:=Lib.hid htn
 clear htn
 have tl:(0:Int)<(tn:Int):=by omega
 go_upto_region 3 with(go_at_call 168;refine TR2.out.mono ?_;rintro e w4 ⟨⟨vt,rfl,hL⟩,rfl⟩;obtain⟨ta,tc,rfl,_,hsl,_⟩:=hL;rw [Htr.out] at hsl;obtain⟨tb,to_,rfl,_,htc⟩:=hsl.2 0 (by simp);have t0:w2.cell? ⟨tb,to_,none⟩=some (.int .i64 mo):=htc 0 (by omega);rw [<-Htn.out];clear htc hsl)
 obtain⟨w1,hw1⟩:∃ w1,w1=(w2.setCell ⟨b,6,none⟩ (.bool true)).setCell ⟨b,8,none⟩ (.int .i64 mo):=⟨_,rfl⟩
 have p1:w1.heap[bP]?=some (.cells (jM n m q bU) 89 (0,0)):=by rw [hw1];exact((aL (by simpa using HbP.out) _ _).trans (aL (by simpa using HbP.out) _ _)).trans hbP0
 rw [<-hw1]
 rw [<-hw1] at HA2 HT0
 clear hw1 y6 y8 f6 f8 lb t0 hbP0
 have p2:w1.cell? ⟨bP,2,none⟩=some (.int .i64 (m:Int)):=by rw [aA p1];rfl
 have y0:w1.cell? ⟨b,0,none⟩=some (.pointer (some ⟨bP,0,none⟩)):=HA2.out.get 0
 clear p1
 go_wp2_with fail
 clear p2 y0
 go_loopw [34] (λi wr=>∃(k:Nat) (v1:MuV),i=.int .i64 (k:Int)/\k<=m/\MuAt wr b bP v1 { s with noted:=d,chosen:=true,moment:=mo,reads:=(cB m A).take k }/\yV wr v1.rv ((cB m A).take k)/\gQ w wr b v v1) (λi _=>m - (intOf i).toNat)
 case atStart=>
  refine⟨0,v,rfl,Nat.zero_le _,?_,?_,HT0.out⟩
  ·have h9:=HA2.out
   have e:s.reads=[]:=HR0.out
   rw [List.take_zero]
   rw [e] at h9
   exact h9
  ·rw [HV0.out];exact⟨rfl,.inl ⟨rfl,rfl⟩⟩
 case round=>
  obtain⟨k,v1,rfl,hk,hM,hrow,hto⟩:=hrel
  clear HT0 HA2
  by_cases hlt:k<m
  ·have l1:(k:Int)<(m:Int):=by omega
   obtain⟨x,hx⟩:∃ x,x=A+1+k:=⟨_,rfl⟩
   have hA9:=HA.out
   have VR:=Hm16.out
   have hkl:k=((cB m A).take k).length:=by rw [List.length_take,jX];omega
   obtain⟨ra,rc,hrv⟩:=fO hrow
   rw [<-hkl] at hrv
   have y5:wr.cell? ⟨b,5,none⟩=some (.slice ra k rc):=(hM.get 5).trans (by rw [<-hrv];rfl)
   have f5:=hM.frozen 5
   have lb:=hM.lt
   have hrow':wr.ownsRow 0 3 1 (.slice ra k rc) k ((fK ((cB m A).take k)).map (Value.int .i64)):=by
    have h9:wr.ownsRow 0 3 1 v1.rv ((cB m A).take k).length ((fK ((cB m A).take k)).map (Value.int .i64)):=hrow
    rw [hrv,<-hkl] at h9;exact h9
   have hkr:k=(fK ((cB m A).take k)).length:=by unfold fK;rw [List.length_map];exact hkl
   have HX:=Lib.hid hx
   have ADD:=Lib.hid (λ(g vc M:Nat) (u:World) (hM9:M=k+1) (hown:u.ownsRow 0 3 1 (.slice (some ⟨g,0,none⟩) M vc) M ((fK ((cB m A).take k)++[(x:Int)]).map (Value.int .i64))) (JN:Chg (λb=>(Value.slice ra k rc).ownBlock=some b) (wr.alloc (.cells #[.int .i64 (x:Int)] 3)) u) (hat:(Value.slice ra k rc).ownBlock=some g∨g=(wr.alloc (.cells #[.int .i64 (x:Int)] 3)).heap.size)=>
    hM.addReads (w1:=u) (rv:=.slice (some ⟨g,0,none⟩) M vc) (l:=(cB m A).take (k+1)) rfl hrow (by rw [hrv];exact((Chg.refl _ wr).alloc _).trans JN) (by
     have e8:((cB m A).take (k+1)).length=M:=by rw [List.length_take,jX];omega
     show World.ownsRow _ 0 _ 1 _ ((cB m A).take (k+1)).length ((fK ((cB m A).take (k+1))).map (Value.int .i64))
     rw [e8,wF (by rw [jX];omega),GR hlt,<-HX.out,rA]
     exact hown) (by rw [List.length_take,jX];omega) (λj e=>by
     have e':g=j:=Option.some.inj e
     rw [<-e',hrv]
     exact hat.imp_right (λh9=>by rw [h9];simp)))
   have NB:=Lib.hid (λj (e:(Value.slice ra k rc).ownBlock=some j)=>(show j≠b from(hM.s3 j (by rw [<-hrv] at e;exact e)).1))
   have c3:IntKind.i64.wrap ((A:Int)+1)=(A:Int)+1:=by rw [IntKind.wrap_i64];omega
   have c4:IntKind.i64.wrap ((A:Int)+1+(k:Int))=(x:Int):=by rw [IntKind.wrap_i64];omega
   have WG:k<=1000000:=by omega
   have HBk:=Lib.hid hM.blk;have HTo:=Lib.hid hto;have Hrow:=Lib.hid hrow';have HKl:=Lib.hid hkr
   clear hM hrow hrow' hto hx hrv hA9 VR hkl hkr hk
   go_upto_region 7 with(at_builtin;refine mD rfl _ _ rfl _ (fK ((cB m A).take k)) k HKl.out WG rfl (gK Hrow.out (Gr.new _ _)) wr.heap.size (x:Int) rfl (heap_alloc_new _ _) ?_;intro g7 MN M w7 hM7 rM dZ zS LX;obtain⟨A7,R7,T7⟩:=ADD.out g7 MN M w7 hM7 rM dZ zS;have HA7:=Lib.hid A7;have HR7:=Lib.hid R7;have HT7:=Lib.hid T7;have t7:w7.cell? ⟨b,5,none⟩=some (.slice ra k rc):=(aJ (((Chg.refl _ wr).alloc _).trans dZ) (λe=>NB.out b e rfl) y5);have tf:w7.frozen? ⟨b,5,none⟩=false:=aC (((((Chg.refl _ wr).alloc _).trans dZ).block b lb (λe=>NB.out b e rfl)).trans HBk.out) _;have YV:b<w7.heap.size:=Nat.lt_of_lt_of_le lb (((Chg.refl _ wr).alloc _).trans dZ).size;clear A7 R7 T7 hM7)
   obtain⟨w8,hw8⟩:∃ w8,w8=w7.setCell ⟨b,5,none⟩ (.slice (some ⟨g7,0,none⟩) M MN):=⟨_,rfl⟩
   rw [<-hw8]
   rw [<-hw8] at HA7 HR7 HT7
   clear hw8 t7 tf YV rM dZ zS LX y5 f5 lb
   go_wp2
   go_roundw
   case rel=>exact⟨k+1,_,by go_num,by omega,HA7.out,HR7.out,HTo.out.trans HT7.out⟩
   case measure=>simp [intOf]<;>omega
  ·have l1:¬ (k:Int)<(m:Int):=by omega
   obtain rfl:k=m:=by omega
   have hall:(cB k A).take k=cB k A:=List.take_of_length_le (by rw [jX];exact Nat.le_refl _)
   rw [hall] at hM
   have F:=Lib.hid (show nD w wr b bP v S (.returned (.tuple #[])) from⟨rfl,v1,by rw [HS.out];exact hM,hto⟩)
   clear hM hrow hto hall hk hlt
   go_wp2
   (first|go_end0|((try simp only [Exit.inBlock,Exit.then]);refine bodyPost_ret (results_none rfl _ _ _) rfl ?_))
   exact F.out
end Go.Proofs.Ytifhldnmcdbpfaa
