/- Layer 16: what is to be read grows; a collect that is as the one ahead. -/
import Derived.Test.YtifhldnmcdbpfaaU25
import Derived.Test.YtifhldnmcdbpfaaU22
import Derived.Test.YtifhldnmcdbpfaaU23
set_option maxRecDepth 100000
set_option linter.unusedVariables false
set_option linter.unusedSimpArgs false
set_option linter.unnecessarySimpa false
namespace Go.Proofs.Ytifhldnmcdbpfaa
open List renaming getElem_toArray → zq1, getElem_cons_zero → zq2, getElem_cons_succ → zq3, setIfInBounds_toArray → zq4, set_cons_zero → zq5, set_cons_succ → zq6
section
open Go.RowKit
def fK (l:List Nat):List Int:=l.map (λ(n:Nat)=>(n:Int))
def yV (w:World) (V:Value) (l:List Nat):Prop:=w.ownsRow 0 3 1 V l.length ((fK l).map (Value.int .i64))
theorem yV.rds {w:World} {V:Value} {l:List Nat} (h:yV w V l) (hl:l.length<=1000000):∃ a c,V=.slice a l.length c/\l.length<=c/\aW w a l.length 1 (qB l):=by
 obtain⟨a,c,rfl⟩:=fO h
 refine⟨a,c,rfl,?_,(tQ h (by unfold maxLen;omega) (g:=qB l) (λj hj=>by simp [qB,fK,List.getD_eq_getElem?_getD,hj])).1⟩
 obtain⟨_,h2⟩:=h
 rcases h2 with⟨h3,h4⟩|⟨g,cap,cur,hv,hg,hh,r1,_⟩
 ·rw [h4];exact Nat.zero_le _
 ·cases hv;exact r1
section
variable {w w' w1 w2:World} {b bP:Nat} {v v' v2:MuV} {s:MuD}
theorem MuAt.addReads {rv:Value} {l:List Nat} (h:MuAt w b bP v s) (hch:s.chosen=true) (hrow:yV w v.rv s.reads) (hc:Chg (λg=>v.rv.ownBlock=some g) w w1) (hr:yV w1 rv l) (hl:l.length<=1000000) (hg:∀ g,rv.ownBlock=some g->v.rv.ownBlock=some g∨w.heap.size<=g) :
  MuAt (w1.setCell ⟨b,5,none⟩ rv) b bP { v with rv:=rv } { s with reads:=l }/\yV (w1.setCell ⟨b,5,none⟩ rv) rv l/\gQ w (w1.setCell ⟨b,5,none⟩ rv) b v { v with rv:=rv }:=by
 obtain⟨t1,t2,t3,t4,t5,t6,t7⟩:=h.ty
 have hc2:Chg (λg=>v.rv.ownBlock=some g∨g=b) w (w1.setCell ⟨b,5,none⟩ rv):=(hc.mono (λ_ _ e=>.inl e)).setCell (p:=⟨b,5,none⟩) (.inl (.inr rfl)) _
 have nb:v.rv.ownBlock≠some b:=λe=>(h.s3 b e).1 rfl
 have hb1:w1.heap[b]?=_:=(hc.block _ h.lt nb).trans h.blk
 have hcb:Chg (λg=>g=b) w1 (w1.setCell ⟨b,5,none⟩ rv):=(Chg.refl (λg=>g=b) w1).setCell (p:=⟨b,5,none⟩) (.inl rfl) _
 have low:=h.low
 have hr2:yV (w1.setCell ⟨b,5,none⟩ rv) rv l:=fJ hr hcb (λg e e9=>oG hr hb1 (by decide) (by rw [<-e9];exact e))
 have own:∀ g,rv.ownBlock=some g->g≠b/\g≠v.bN/\g<(w1.setCell ⟨b,5,none⟩ rv).heap.size:=λg e=>by
  obtain⟨cs,fz,h9⟩:=mQ hr2 e
  refine⟨?_,?_,aH h9⟩
  ·rcases hg g e with h8|h8
   ·exact(h.s3 g h8).1
   ·have:=h.lt;omega
  ·rcases hg g e with h8|h8
   ·exact(h.s3 g h8).2.1
   ·have:=h.nt.lt;omega
 refine⟨⟨?_,h.old.chg hc2 (λg e e9=>?_),h.now.chg hc2 (λg e e9=>?_),h.lst.chg hc2 (λg e e9=>?_),hr2.rds hl,h.nt.block (hc2.block _ h.nt.lt (λe9=>?_)),h.n16,h.nilO,λe=>?_,λg e=>⟨(h.s1 g e).1,(h.s1 g e).2.1,λe9=>?_⟩,λg e=>⟨(h.s2 g e).1,λe9=>?_⟩,own⟩,hr2,⟨hc2.mono (λj _ e=>e.elim (λe=>.inr (.inr (.inr (.inr (.inl e))))) .inl),λj hj=>?_⟩⟩
 ·rw [aG hb1];rfl
 ·rcases e9 with e9|e9
  ·exact PH hrow h.old (by decide) e e9
  ·exact t1 (by rw [<-e9];exact e)
 ·rcases e9 with e9|e9
  ·exact(h.s1 g e).2.2 e9
  ·exact t2 (by rw [<-e9];exact e)
 ·rcases e9 with e9|e9
  ·exact(h.s2 g e).2 e9
  ·exact t3 (by rw [<-e9];exact e)
 ·rcases e9 with e9|e9
  ·exact(h.s3 _ e9).2.1 rfl
  ·exact t4 e9
 ·have e':s.chosen=false:=e
  rw [hch] at e';cases e'
 ·rcases hg g e9 with h9|h9
  ·exact(h.s1 g e).2.2 h9
  ·have:=low g (.inr (.inr (.inr (.inl e))));omega
 ·rcases hg g e9 with h9|h9
  ·exact(h.s2 g e).2 h9
  ·have:=low g (.inr (.inr (.inr (.inr (.inr e)))));omega
 ·rcases hj with e|e|e|e|e|e
  ·exact .inl (.inl e)
  ·exact .inl (.inr (.inl e))
  ·exact .inl (.inr (.inr (.inl e)))
  ·exact .inl (.inr (.inr (.inr (.inl e))))
  ·exact(hg j e).imp_left (λh9=>.inr (.inr (.inr (.inr (.inl h9)))))
  ·exact .inl (.inr (.inr (.inr (.inr (.inr e)))))
end
end
section
open Go.RowKit
theorem rA (l:List Nat) (x:Nat):fK (l++[x])=fK l++[(x:Int)]:=by unfold fK;rw [List.map_append];rfl
theorem wF {l:List Nat} {k:Nat} (h:k<l.length):l.take (k+1)=l.take k++[l.getD k 0]:=by
 rw [List.take_add_one,List.getElem?_eq_getElem h,List.getD_eq_getElem?_getD,List.getElem?_eq_getElem h];rfl
set_option maxHeartbeats 8000000 in
theorem yC (m q:Nat) (w:World) (b bP bW:Nat) (v:MuV) (s:MuD) (wd:WD) (h:MuAt w b bP v s) (hch:s.chosen=false) (ho:s.old≠[]) (heq:s.old=s.now) (hn16:s.now.length<=16) (TA:∀ k,s.now.getD k 0<=1000000) (hl:s.list.length<=900) :
  Calls Try.prog 173 #[.pointer (some ⟨b,0,none⟩),.pointer (some ⟨bW,0,none⟩)] w λe w'=>nD w w' b bP v (dH m q wd s) e:=by
 obtain⟨hr0,hv0⟩:=h.nilR hch
 have hmw:dH m q wd s=gH { s with chosen:=true,moment:=(s.last:Int),reads:=s.now }:=by unfold dH;rw [if_neg ho,if_pos heq,hr0];rfl
 obtain⟨S,hS⟩:∃ S,S=dH m q wd s:=⟨_,rfl⟩
 rw [<-hS]
 rw [hmw] at hS
 obtain⟨N,hN⟩:∃ N,N=s.now.length:=⟨_,rfl⟩
 have hN0:0<N:=by
  rw [hN,<-heq]
  exact List.length_pos_iff.2 ho
 have hNo:s.old.length=N:=by rw [heq,hN]
 obtain⟨og,oc,hov,_,_,lo⟩:=h.old.at (i:=0) (by omega)
 obtain⟨ng,nc,hnv,_,_,ln⟩:=h.now.at (i:=0) (by omega)
 rw [hNo] at hov
 rw [<-hN] at hnv
 obtain⟨a1,c1,e1,sl1,q1⟩:=h.old.sl (by omega)
 obtain⟨a2,c2,e2,sl2,q2⟩:=h.now.sl (by omega)
 have g1:a1=some ⟨og,0,none⟩:=(Value.slice.inj (e1.symm.trans hov)).1
 have g2:a2=some ⟨ng,0,none⟩:=(Value.slice.inj (e2.symm.trans hnv)).1
 rw [g1] at sl1
 rw [g2] at sl2
 have EQ:=Lib.hid (λ(n:gL w)=>(show Calls Try.prog 174 #[.slice (some ⟨og,0,none⟩) N oc,.slice (some ⟨ng,0,none⟩) N nc] n.u λe w'=>e=.returned (.bool true)/\Below n.u.heap.size n.u w' from by
  have h9:=qH n.u (some ⟨og,0,none⟩) (some ⟨ng,0,none⟩) oc nc s.old s.now (sl1.below n.below (λ_ _ e=>by cases e;exact lo)) (sl2.below n.below (λ_ _ e=>by cases e;exact ln)) (by omega) (by omega)
  rw [hNo,<-hN,show decide (s.old=s.now)=true by simp [heq]] at h9
  exact h9))
 have y1:w.cell? ⟨b,1,none⟩=some (.slice (some ⟨og,0,none⟩) N oc):=(h.get 1).trans (by rw [<-hov];rfl)
 have y2:w.cell? ⟨b,2,none⟩=some (.slice (some ⟨ng,0,none⟩) N nc):=(h.get 2).trans (by rw [<-hnv];rfl)
 have hnn:=fE (some ⟨og,0,none⟩) N oc
 have HM:=Lib.hid h;have HS:=Lib.hid hS;have HN:=Lib.hid hN;have Hnv:=Lib.hid hnv;have Hx:=Lib.hid TA;have Hl:=Lib.hid hl;have HV0:=Lib.hid hv0;have Hn16:=Lib.hid hn16;have HN0:=Lib.hid hN0
 have HR0:=Lib.hid hr0
 clear h hch ho heq hS hN hov hnv e1 sl1 q1 g1 a1 c1 e2 sl2 q2 g2 a2 c2 hNo hmw hr0 hv0 TA hl hn16 hN0 lo ln
 go_enter Try.func173,Try.ntmps173
 go_upto_region 9 with fail
 have Y1:=bG y1;have Y2:=bG y2
 clear y1 y2 hnn
 go_wp2_with fail
 ((with_reducible refine dA (by kernel_rfl) (by kernel_rfl) ?_);(repeat ((with_reducible refine wpQuiet_step (λK hK=>?_));go_simp;first|((with_reducible refine hK _ ?_);clear hK K)|((with_reducible apply Exists.intro);(with_reducible refine⟨λ_=>?_,hK _ ?_⟩);((go_at_call 174;first|exact oF (EQ.out _)|exact lW (EQ.out _)));clear hK K)));(with_reducible refine wpQuiet_nil ?_);intro _ hw';obtain⟨nq,hw''⟩:=hw';subst hw'')
 obtain⟨w0,hw0⟩:∃ w0,w0=nq.u:=⟨_,rfl⟩
 have hb0:=nq.below
 rw [<-hw0] at hb0 ⊢
 have h0:=HM.out.grown hb0
 clear Y1 Y2 hw0 nq EQ
 have y3:w0.cell? ⟨b,3,none⟩=some (.int .i64 (s.last:Int)):=h0.get 3
 have y6:w0.cell? ⟨b,6,none⟩=some (.bool s.chosen):=h0.get 6
 have y8:w0.cell? ⟨b,8,none⟩=some (.int .i64 s.moment):=h0.get 8
 have f6:=h0.frozen 6
 have f8:=h0.frozen 8
 have lb:=h0.lt
 obtain⟨A1,T1⟩:=h0.put 6 (.bool true) (s':={ s with chosen:=true }) rfl rfl rfl rfl rfl rfl (λe=>by cases e)
 obtain⟨A2,T2⟩:=A1.put 8 (.int .i64 (s.last:Int)) (s':={ s with chosen:=true,moment:=(s.last:Int) }) rfl rfl rfl rfl rfl rfl (λe=>by cases e)
 have HT0:=Lib.hid (((gQ.grown (b:=b) (v:=v) hb0).trans T1).trans T2)
 have HA2:=Lib.hid A2
 clear hb0 h0 A1 T1 A2 T2
 go_upto_region 11 with fail
 obtain⟨w1,hw1⟩:∃ w1,w1=(w0.setCell ⟨b,6,none⟩ (.bool true)).setCell ⟨b,8,none⟩ (.int .i64 (s.last:Int)):=⟨_,rfl⟩
 rw [<-hw1]
 rw [<-hw1] at HA2 HT0
 clear hw1 y3 y6 y8 f6 f8 lb
 have y2:w1.cell? ⟨b,2,none⟩=some (.slice (some ⟨ng,0,none⟩) N nc):=(HA2.out.get 2).trans (by rw [<-Hnv.out];rfl)
 go_wp2_with fail
 clear y2
 go_loopw [83] (λi wr=>∃(k:Nat) (v1:MuV),i=.int .i64 (k:Int)/\k<=N/\MuAt wr b bP v1 { s with chosen:=true,moment:=(s.last:Int),reads:=s.now.take k }/\yV wr v1.rv (s.now.take k)/\gQ w wr b v v1/\v1.nv=v.nv) (λi _=>N - (intOf i).toNat)
 case atStart=>
  refine⟨0,v,rfl,Nat.zero_le _,?_,?_,HT0.out,rfl⟩
  ·have h9:=HA2.out
   have e:s.reads=[]:=HR0.out
   rw [List.take_zero]
   rw [e] at h9
   exact h9
  ·rw [HV0.out];exact⟨rfl,.inl ⟨rfl,rfl⟩⟩
 case round=>
  obtain⟨k,v1,rfl,hk,hM,hrow,hto,NQ⟩:=hrel
  have HSS:=Lib.hid HS.out
  clear HM HS HT0 HA2
  by_cases hlt:k<N
  ·have l1:(k:Int)<(N:Int):=by omega
   obtain⟨_,_,e2,x2,_,_⟩:=hM.now.at (i:=k) (by show k<s.now.length;rw [<-HN.out];exact hlt)
   have e2':=Hnv.out.symm.trans (NQ.symm.trans e2)
   obtain rfl:=(Addr.mk.inj (Option.some.inj (Value.slice.inj e2').1)).1
   clear e2' e2
   obtain⟨x,hx⟩:∃ x,x=s.now.getD k 0:=⟨_,rfl⟩
   have hxb:x<=1000000:=by rw [hx];exact Hx.out k
   have x2':wr.cell? ⟨ng,k,none⟩=some (.int .u64 (x:Int)):=by rw [hx];exact x2
   have HX:=Lib.hid hx
   clear x2
   have UN:=Hn16.out
   have hN':=HN.out
   have hkl:k=(s.now.take k).length:=by rw [List.length_take];omega
   obtain⟨ra,rc,hrv⟩:=fO hrow
   rw [<-hkl] at hrv
   have y5:wr.cell? ⟨b,5,none⟩=some (.slice ra k rc):=(hM.get 5).trans (by rw [<-hrv];rfl)
   have f5:=hM.frozen 5
   have lb:=hM.lt
   have hrow':wr.ownsRow 0 3 1 (.slice ra k rc) k ((fK (s.now.take k)).map (Value.int .i64)):=by
    have h9:wr.ownsRow 0 3 1 v1.rv (s.now.take k).length ((fK (s.now.take k)).map (Value.int .i64)):=hrow
    rw [hrv,<-hkl] at h9;exact h9
   have hkr:k=(fK (s.now.take k)).length:=by unfold fK;rw [List.length_map];exact hkl
   have ADD:=Lib.hid (λ(g vc M:Nat) (u:World) (hM9:M=k+1) (hown:u.ownsRow 0 3 1 (.slice (some ⟨g,0,none⟩) M vc) M ((fK (s.now.take k)++[(x:Int)]).map (Value.int .i64))) (JN:Chg (λb=>(Value.slice ra k rc).ownBlock=some b) (wr.alloc (.cells #[.int .i64 (x:Int)] 3)) u) (hat:(Value.slice ra k rc).ownBlock=some g∨g=(wr.alloc (.cells #[.int .i64 (x:Int)] 3)).heap.size)=>
    hM.addReads (w1:=u) (rv:=.slice (some ⟨g,0,none⟩) M vc) (l:=s.now.take (k+1)) rfl hrow (by rw [hrv];exact((Chg.refl _ wr).alloc _).trans JN) (by
     have e8:(s.now.take (k+1)).length=M:=by rw [List.length_take];omega
     show World.ownsRow _ 0 _ 1 _ (s.now.take (k+1)).length ((fK (s.now.take (k+1))).map (Value.int .i64))
     rw [e8,wF (by omega),<-HX.out,rA]
     exact hown) (by rw [List.length_take];omega) (λj e=>by
     have e':g=j:=Option.some.inj e
     rw [<-e',hrv]
     exact hat.imp_right (λh9=>by rw [h9];simp)))
   have NB:=Lib.hid (λj (e:(Value.slice ra k rc).ownBlock=some j)=>(show j≠b from(hM.s3 j (by rw [<-hrv] at e;exact e)).1))
   have c1:IntKind.i64.wrap (x:Int)=(x:Int):=by rw [IntKind.wrap_i64];omega
   have WG:k<=1000000:=by omega
   have HBk:=Lib.hid hM.blk;have HTo:=Lib.hid hto;have Hrow:=Lib.hid hrow';have HKl:=Lib.hid hkr;have Hv1:=Lib.hid NQ
   have c2:wrap64 (x:Int)=(x:Int):=by unfold wrap64;omega
   clear hM hrow hrow' hto NQ hx hrv UN hN' hkl hkr hk
   go_upto_region 15 with(at_builtin;go_loud (refine mD rfl _ _ rfl _ (fK (s.now.take k)) k HKl.out WG rfl (gK Hrow.out (Gr.new _ _)) wr.heap.size (x:Int) rfl (heap_alloc_new _ _) ?_;intro g7 MN M w7 hM7 rM dZ zS LX;obtain⟨A7,R7,T7⟩:=ADD.out g7 MN M w7 hM7 rM dZ zS;have HA7:=Lib.hid A7;have HR7:=Lib.hid R7;have HT7:=Lib.hid T7;have t7:w7.cell? ⟨b,5,none⟩=some (.slice ra k rc):=(aJ (((Chg.refl _ wr).alloc _).trans dZ) (λe=>NB.out b e rfl) y5);have tf:w7.frozen? ⟨b,5,none⟩=false:=aC (((((Chg.refl _ wr).alloc _).trans dZ).block b lb (λe=>NB.out b e rfl)).trans HBk.out) _;have tl:b<w7.heap.size:=Nat.lt_of_lt_of_le lb (((Chg.refl _ wr).alloc _).trans dZ).size;clear A7 R7 T7 hM7))
   obtain⟨w8,hw8⟩:∃ w8,w8=w7.setCell ⟨b,5,none⟩ (.slice (some ⟨g7,0,none⟩) M MN):=⟨_,rfl⟩
   rw [<-hw8]
   rw [<-hw8] at HA7 HR7 HT7
   clear hw8 t7 tf tl rM dZ zS LX y5 f5 lb x2'
   go_wp2
   go_roundw
   case rel=>exact⟨k+1,_,by go_num,by omega,HA7.out,HR7.out,HTo.out.trans HT7.out,Hv1.out⟩
   case measure=>simp [intOf]<;>omega
  ·have l1:¬ (k:Int)<(N:Int):=by omega
   obtain rfl:k=N:=by omega
   have hall:s.now.take k=s.now:=List.take_of_length_le (by rw [<-HN.out];exact Nat.le_refl _)
   rw [hall] at hM
   have NG:=Lib.hid (tC wr b bP v1 _ hM rfl (by show s.now.length+s.list.length<=1000;have:=Hl.out;have:=Hn16.out;omega))
   have HTo:=Lib.hid hto
   clear hM hrow hto NQ hall hk hlt
   go_wp2_with (go_at_call 171;refine NG.out.mono ?_;rintro e w9 ⟨rfl,v9,A9,T9⟩)
   (first|go_end0|((try simp only [Exit.inBlock,Exit.then]);refine bodyPost_ret (results_none rfl _ _ _) rfl ?_))
   exact⟨rfl,v9,by rw [HSS.out];exact A9,HTo.out.trans T9⟩
end
section
open Go.RowKit
set_option maxHeartbeats 8000000 in
theorem CO (n m q bU:Nat) (hm:1<=m) (dF:m<=16) (hq:1<=q) (dQ:q<=64) (w:World) (b bP bW T:Nat) (v:MuV) (s:MuD) (wd:WD) (h:MuAt w b bP v s) (hP:w.heap[bP]?=some (.cells (jM n m q bU) 89 (0,0))) (hbP:¬ MuB b v bP) (hT:wd.now=T) (hW:w.cell? ⟨bW,1,none⟩=some (.int .i64 (T:Int))) (hbW:¬ MuB b v bW) (hno:s.old.length=m) (hnn:s.now.length=m) (hne:s.old≠s.now)
  (hlv:∀ k,k<m->s.old.getD k 0≠s.now.getD k 0->m<=s.now.getD k 0/\s.now.getD k 0<=1000000/\aX m q (s.now.getD k 0)<16) (d:List Nat) (hsn:fU m q s.old s.now m 0 s.noted=(d,none)) :
  Calls Try.prog 173 #[.pointer (some ⟨b,0,none⟩),.pointer (some ⟨bW,0,none⟩)] w λe w'=>nD w w' b bP v (dH m q wd s) e:=by
 have ho:s.old≠[]:=λe=>by rw [e] at hno;have:(0:Nat)=m:=hno;omega
 have hmw:dH m q wd s={ s with noted:=d,old:=s.now,last:=T,now:=[] }:=by unfold dH;rw [if_neg ho,if_neg hne,hsn,hT]
 rw [hmw]
 have TK:s.now≠[]:=λe=>by rw [e] at hnn;have:(0:Nat)=m:=hnn;omega
 obtain⟨og,oc,hov,_,_,lo⟩:=h.old.at (i:=0) (by omega)
 obtain⟨ng,nc,hnv,_,_,ln⟩:=h.now.at (i:=0) (by omega)
 rw [hno] at hov
 rw [hnn] at hnv
 obtain⟨a1,c1,e1,sl1,q1⟩:=h.old.sl (by omega)
 obtain⟨a2,c2,e2,sl2,q2⟩:=h.now.sl (by omega)
 have g1:a1=some ⟨og,0,none⟩:=(Value.slice.inj (e1.symm.trans hov)).1
 have g2:a2=some ⟨ng,0,none⟩:=(Value.slice.inj (e2.symm.trans hnv)).1
 rw [g1] at sl1
 rw [g2] at sl2
 have EQ:=Lib.hid (λ(n:gL w)=>(show Calls Try.prog 174 #[.slice (some ⟨og,0,none⟩) m oc,.slice (some ⟨ng,0,none⟩) m nc] n.u λe w'=>e=.returned (.bool false)/\Below n.u.heap.size n.u w' from by
  have h9:=qH n.u (some ⟨og,0,none⟩) (some ⟨ng,0,none⟩) oc nc s.old s.now (sl1.below n.below (λ_ _ e=>by cases e;exact lo)) (sl2.below n.below (λ_ _ e=>by cases e;exact ln)) (by omega) (by omega)
  rw [hno,hnn,show decide (s.old=s.now)=false by simp [hne]] at h9
  exact h9))
 have SN:=Lib.hid (λ(u:World) (hu:Below w.heap.size w u)=>(show Calls Try.prog 175 #[.pointer (some ⟨b,0,none⟩)] u λe w'=>sZ u w' b bP v s (d,none) e from by
  have h9:=EF n m q bU hm dF hq dQ u b bP v s (h.grown hu) ((hu.block _ (aH hP)).trans hP) hbP hno hnn hlv
  rw [hsn] at h9
  exact h9))
 have y1:w.cell? ⟨b,1,none⟩=some (.slice (some ⟨og,0,none⟩) m oc):=(h.get 1).trans (by rw [<-hov];rfl)
 have y2:w.cell? ⟨b,2,none⟩=some (.slice (some ⟨ng,0,none⟩) m nc):=(h.get 2).trans (by rw [<-hnv];rfl)
 have hnl:=fE (some ⟨og,0,none⟩) m oc
 have HM:=Lib.hid h;have Hnv:=Lib.hid hnv;have HW:=Lib.hid hW;have HbW:=Lib.hid hbW;have Hn0:=Lib.hid TK
 clear h ho hno hnn hne hov hnv e1 sl1 q1 g1 a1 c1 e2 sl2 q2 g2 a2 c2 hmw lo ln hP hbP hT hW hbW hlv hsn TK
 go_enter Try.func173,Try.ntmps173
 go_upto_region 9 with fail
 have Y1:=bG y1;have Y2:=bG y2
 clear y1 y2 hnl
 go_wp2_with fail
 ((with_reducible refine dA (by kernel_rfl) (by kernel_rfl) ?_);(repeat ((with_reducible refine wpQuiet_step (λK hK=>?_));go_simp;first|((with_reducible refine hK _ ?_);clear hK K)|((with_reducible apply Exists.intro);(with_reducible refine⟨λ_=>?_,hK _ ?_⟩);((go_at_call 174;first|exact oF (EQ.out _)|exact lW (EQ.out _)));clear hK K)));(with_reducible refine wpQuiet_nil ?_);intro _ hw';obtain⟨nq,hw''⟩:=hw';subst hw'')
 obtain⟨w0,hw0⟩:∃ w0,w0=nq.u:=⟨_,rfl⟩
 have hb0:=nq.below
 rw [<-hw0] at hb0 ⊢
 have SN0:=Lib.hid (SN.out w0 hb0)
 have Hb0:=Lib.hid hb0
 clear Y1 Y2 hw0 nq EQ SN hb0
 go_upto_region 17 with(go_at_call 175;refine SN0.out.mono ?_;rintro e w2 ⟨rfl,hM2,LP⟩;have HM2:=Lib.hid hM2;have HT2:=Lib.hid LP;clear hM2 LP)
 obtain⟨A,C⟩:=HM2.out.shift T Hn0.out
 have y2:w2.cell? ⟨b,2,none⟩=some (.slice (some ⟨ng,0,none⟩) m nc):=(HM2.out.get 2).trans (by rw [<-Hnv.out];rfl)
 have hc2:=HT2.out.chg
 have hW:w2.cell? ⟨bW,1,none⟩=some (.int .i64 (T:Int)):=aJ (Chg.trans (Chg.of_below Hb0.out) hc2) HbW.out HW.out
 have y1:w2.cell? ⟨b,1,none⟩=some v.ov:=HM2.out.get 1
 have y3:w2.cell? ⟨b,3,none⟩=some (.int .i64 (s.last:Int)):=HM2.out.get 3
 have f1:=HM2.out.frozen 1
 have f2:=HM2.out.frozen 2
 have f3:=HM2.out.frozen 3
 have lb:=HM2.out.lt
 have hbW':bW≠b:=λe=>HbW.out (.inl e)
 rw [Hnv.out] at A C
 have F:=Lib.hid (show nD w (((w2.setCell ⟨b,1,none⟩ (.slice (some ⟨ng,0,none⟩) m nc)).setCell ⟨b,3,none⟩ (.int .i64 (T:Int))).setCell ⟨b,2,none⟩ (.slice none 0 0)).drew b bP v { s with noted:=d,old:=s.now,last:=T,now:=[] } (.returned (.tuple #[])) from⟨rfl,_,A.grown (Gr.refl _).drew,(((gQ.grown (b:=b) (v:=v) Hb0.out).trans HT2.out).trans C).trans (gQ.grown (Gr.refl _).drew)⟩)
 have k2:(w2.setCell ⟨b,1,none⟩ (.slice (some ⟨ng,0,none⟩) m nc)).cell? ⟨b,2,none⟩=some (.slice (some ⟨ng,0,none⟩) m nc):=by rw [World.cell?_setCell_other _ _ _ _ (by simp)];exact y2
 have kW:(w2.setCell ⟨b,1,none⟩ (.slice (some ⟨ng,0,none⟩) m nc)).cell? ⟨bW,1,none⟩=some (.int .i64 (T:Int)):=by rw [World.cell?_setCell_other _ _ _ _ (by simp [hbW'])];exact hW
 have j2:((w2.setCell ⟨b,1,none⟩ (.slice (some ⟨ng,0,none⟩) m nc)).setCell ⟨b,3,none⟩ (.int .i64 (T:Int))).cell? ⟨b,2,none⟩=some (.slice (some ⟨ng,0,none⟩) m nc):=by rw [World.cell?_setCell_other _ _ _ _ (by simp)];exact k2
 have jW:((w2.setCell ⟨b,1,none⟩ (.slice (some ⟨ng,0,none⟩) m nc)).setCell ⟨b,3,none⟩ (.int .i64 (T:Int))).cell? ⟨bW,1,none⟩=some (.int .i64 (T:Int)):=by rw [World.cell?_setCell_other _ _ _ _ (by simp [hbW'])];exact kW
 clear A C hc2 hbW' HM2 HT2 HM Hnv HW HbW Hb0 SN0 Hn0
 refine fC ((λu=>u.cell? ⟨b,2,none⟩=some (.slice (some ⟨ng,0,none⟩) m nc)/\u.cell? ⟨bW,1,none⟩=some (.int .i64 (T:Int)))) 19 (by kernel_rfl) ?hS0L1 ?_
 case hS0L1=>
  (try dsimp only)
  (first|exact⟨y2,hW⟩|exact⟨k2,kW⟩|exact⟨j2,jW⟩)
 intro hS hcl
 refine aD (i:=0) (v:=?tv0L1) 20 rfl (by kernel_rfl) (by kernel_rfl) (by kernel_rfl) (by kernel_rfl) (by kernel_rfl) hcl (by first|exact λ_ _ _ h=>h|exact λ_ _ _ h=>HQp.out _ _ _ _ h) (Or.inl ⟨by rfl,?th0L1⟩) hS ?tr0L1
 (case th0L1=>(intro w hSw;(try dsimp only at hSw);go_simp;try with_reducible rfl))
 clear hcl;intro hcl
 (try simp only [Act.put,zs])
 refine aD (i:=1) (v:=?tv1L1) 20 rfl (by kernel_rfl) (by kernel_rfl) (by kernel_rfl) (by kernel_rfl) (by kernel_rfl) hcl (by first|exact λ_ _ _ h=>h|exact λ_ _ _ h=>HQp.out _ _ _ _ h) (Or.inl ⟨by rfl,?th1L1⟩) hS ?tr1L1
 (case th1L1=>(intro w hSw;(try dsimp only at hSw);go_simp;try with_reducible rfl))
 clear hcl;intro hcl
 (try simp only [Act.put,zs])
 refine aD (i:=2) (v:=?tv2L1) 20 rfl (by kernel_rfl) (by kernel_rfl) (by kernel_rfl) (by kernel_rfl) (by kernel_rfl) hcl (by first|exact λ_ _ _ h=>h|exact λ_ _ _ h=>HQp.out _ _ _ _ h) (Or.inl ⟨by rfl,?th2L1⟩) hS ?tr2L1
 (case th2L1=>(intro w hSw;(try dsimp only at hSw);go_simp;try with_reducible rfl))
 clear hcl;intro hcl
 (try simp only [Act.put,zs])
 refine aD (i:=3) (v:=?tv3L1) 20 rfl (by kernel_rfl) (by kernel_rfl) (by kernel_rfl) (by kernel_rfl) (by kernel_rfl) hcl (by first|exact λ_ _ _ h=>h|exact λ_ _ _ h=>HQp.out _ _ _ _ h) (Or.inl ⟨by rfl,?th3L1⟩) hS ?tr3L1
 (case th3L1=>(intro w hSw;(try dsimp only at hSw);go_simp;try with_reducible rfl))
 clear hcl;intro hcl
 (try simp only [Act.put,zs])
 refine aD (i:=4) (v:=?tv4L1) 20 rfl (by kernel_rfl) (by kernel_rfl) (by kernel_rfl) (by kernel_rfl) (by kernel_rfl) hcl (by first|exact λ_ _ _ h=>h|exact λ_ _ _ h=>HQp.out _ _ _ _ h) (Or.inl ⟨by rfl,?th4L1⟩) hS ?tr4L1
 (case th4L1=>(intro w hSw;(try dsimp only at hSw);go_simp;try with_reducible rfl))
 clear hcl;intro hcl
 (try simp only [Act.put,zs])
 refine aD (i:=5) (v:=?tv5L1) 20 rfl (by kernel_rfl) (by kernel_rfl) (by kernel_rfl) (by kernel_rfl) (by kernel_rfl) hcl (by first|exact λ_ _ _ h=>h|exact λ_ _ _ h=>HQp.out _ _ _ _ h) (Or.inl ⟨by rfl,?th5L1⟩) hS ?tr5L1
 (case th5L1=>(intro w hSw;(try dsimp only at hSw);go_simp;try with_reducible rfl))
 clear hcl;intro hcl
 (try simp only [Act.put,zs])
 refine aD (i:=6) (v:=?tv6L1) 20 rfl (by kernel_rfl) (by kernel_rfl) (by kernel_rfl) (by kernel_rfl) (by kernel_rfl) hcl (by first|exact λ_ _ _ h=>h|exact λ_ _ _ h=>HQp.out _ _ _ _ h) (Or.inl ⟨by rfl,?th6L1⟩) hS ?tr6L1
 (case th6L1=>(intro w hSw;(try dsimp only at hSw);go_simp;try with_reducible rfl))
 clear hcl;intro hcl
 (try simp only [Act.put,zs])
 refine aD (i:=7) (v:=?tv7L1) 20 rfl (by kernel_rfl) (by kernel_rfl) (by kernel_rfl) (by kernel_rfl) (by kernel_rfl) hcl (by first|exact λ_ _ _ h=>h|exact λ_ _ _ h=>HQp.out _ _ _ _ h) (Or.inl ⟨by rfl,?th7L1⟩) hS ?tr7L1
 (case th7L1=>(intro w hSw;(try dsimp only at hSw);go_simp;try with_reducible rfl))
 clear hcl;intro hcl
 (try simp only [Act.put,zs])
 refine aD (i:=8) (v:=?tv8L1) 20 rfl (by kernel_rfl) (by kernel_rfl) (by kernel_rfl) (by kernel_rfl) (by kernel_rfl) hcl (by first|exact λ_ _ _ h=>h|exact λ_ _ _ h=>HQp.out _ _ _ _ h) (Or.inl ⟨by rfl,?th8L1⟩) hS ?tr8L1
 (case th8L1=>(intro w hSw;(try dsimp only at hSw);go_simp;try with_reducible rfl))
 clear hcl;intro hcl
 (try simp only [Act.put,zs])
 refine aD (i:=9) (v:=?tv9L1) 20 rfl (by kernel_rfl) (by kernel_rfl) (by kernel_rfl) (by kernel_rfl) (by kernel_rfl) hcl (by first|exact λ_ _ _ h=>h|exact λ_ _ _ h=>HQp.out _ _ _ _ h) (Or.inl ⟨by rfl,?th9L1⟩) hS ?tr9L1
 (case th9L1=>(intro w hSw;(try dsimp only at hSw);go_simp;try with_reducible rfl))
 clear hcl;intro hcl
 (try simp only [Act.put,zs])
 refine aD (i:=10) (v:=?tv10L1) 20 rfl (by kernel_rfl) (by kernel_rfl) (by kernel_rfl) (by kernel_rfl) (by kernel_rfl) hcl (by first|exact λ_ _ _ h=>h|exact λ_ _ _ h=>HQp.out _ _ _ _ h) (Or.inl ⟨by rfl,?th10L1⟩) hS ?tr10L1
 (case th10L1=>(intro w hSw;(try dsimp only at hSw);go_simp;try with_reducible rfl))
 clear hcl;intro hcl
 (try simp only [Act.put,zs])
 refine aM (i:=11) (by kernel_rfl) rfl hcl (λK' hK=>?_)
 have HK:=Lib.hid hK;clear hK
 ((rw [if_pos (by kernel_rfl)]);(try simp only [zq1,zq2,zq3]);first|go_big_move|go_big_op)
 refine HK.out _ _ ?hS11L1 (λhcl=>?_)
 case hS11L1=>
  intro _
  (try dsimp only)
  (first|exact⟨y2,hW⟩|exact⟨k2,kW⟩|exact⟨j2,jW⟩)
 clear HK
 (try simp only [Act.put,zs])
 refine aM (i:=12) (by kernel_rfl) rfl hcl (λK' hK=>?_)
 have HK:=Lib.hid hK;clear hK
 ((rw [if_pos (by kernel_rfl)]);(try simp only [zq1,zq2,zq3]);first|go_big_move|go_big_op)
 refine HK.out _ _ ?hS12L1 (λhcl=>?_)
 case hS12L1=>
  intro _
  (try dsimp only)
  (first|exact⟨y2,hW⟩|exact⟨k2,kW⟩|exact⟨j2,jW⟩)
 clear HK
 (try simp only [Act.put,zs])
 refine aM (i:=13) (by kernel_rfl) rfl hcl (λK' hK=>?_)
 have HK:=Lib.hid hK;clear hK
 ((rw [if_pos (by kernel_rfl)]);(try simp only [zq1,zq2,zq3]);first|go_big_move|go_big_op)
 refine HK.out _ _ ?hS13L1 (λhcl=>?_)
 case hS13L1=>
  intro _
  (try dsimp only)
  (first|exact⟨y2,hW⟩|exact⟨k2,kW⟩|exact⟨j2,jW⟩)
 clear HK
 (try simp only [Act.put,zs])
 refine aM (i:=14) (by kernel_rfl) rfl hcl (λK' hK=>?_)
 have HK:=Lib.hid hK;clear hK
 ((rw [if_pos (by kernel_rfl)]);(try simp only [zq1,zq2,zq3]);first|go_big_move|go_big_op)
 refine HK.out _ _ ?hS14L1 (λhcl=>?_)
 case hS14L1=>
  intro _
  (try dsimp only)
  (first|exact⟨y2,hW⟩|exact⟨k2,kW⟩|exact⟨j2,jW⟩)
 clear HK
 (try simp only [Act.put,zs])
 refine aM (i:=15) (by kernel_rfl) rfl hcl (λK' hK=>?_)
 have HK:=Lib.hid hK;clear hK
 ((rw [if_pos (by kernel_rfl)]);(try simp only [zq1,zq2,zq3]);first|go_big_move|go_big_op)
 refine HK.out _ _ ?hS15L1 (λhcl=>?_)
 case hS15L1=>
  intro _
  (try dsimp only)
  (first|exact⟨y2,hW⟩|exact⟨k2,kW⟩|exact⟨j2,jW⟩)
 clear HK
 (try simp only [Act.put,zs])
 refine aM (i:=16) (by kernel_rfl) rfl hcl (λK' hK=>?_)
 have HK:=Lib.hid hK;clear hK
 ((rw [if_pos (by kernel_rfl)]);(try simp only [zq1,zq2,zq3]);first|go_big_move|go_big_op)
 refine HK.out _ _ ?hS16L1 (λhcl=>?_)
 case hS16L1=>
  intro _
  (try dsimp only)
  (first|exact⟨y2,hW⟩|exact⟨k2,kW⟩|exact⟨j2,jW⟩)
 clear HK
 (try simp only [Act.put,zs])
 refine aM (i:=17) (by kernel_rfl) rfl hcl (λK' hK=>?_)
 have HK:=Lib.hid hK;clear hK
 ((rw [if_pos (by kernel_rfl)]);(try simp only [zq1,zq2,zq3]);first|go_big_move|go_big_op)
 refine HK.out _ _ ?hS17L1 (λhcl=>?_)
 case hS17L1=>
  intro _
  (try dsimp only)
  (first|exact⟨y2,hW⟩|exact⟨k2,kW⟩|exact⟨j2,jW⟩)
 clear HK
 (try simp only [Act.put,zs])
 refine aM (i:=18) (by kernel_rfl) rfl hcl (λK' hK=>?_)
 have HK:=Lib.hid hK;clear hK
 ((rw [if_pos (by kernel_rfl)]);(try simp only [zq1,zq2,zq3]);first|go_big_move|go_big_op)
 refine HK.out _ _ ?hS18L1 (λhcl=>?_)
 case hS18L1=>
  intro _
  (try dsimp only)
  (first|exact⟨y2,hW⟩|exact⟨k2,kW⟩|exact⟨j2,jW⟩)
 clear HK
 (try simp only [Act.put,zs])
 refine aM (i:=19) (by kernel_rfl) rfl hcl (λK' hK=>?_)
 have HK:=Lib.hid hK;clear hK
 ((rw [if_pos (by kernel_rfl)]);(try simp only [zq1,zq2,zq3]);first|go_big_move|go_big_op)
 refine HK.out _ _ (λh=>by cases h.symm.trans (by kernel_rfl:_=true)) (λ_=>fD (by kernel_rfl) ?_ _)
 clear HK
 (try clear hS)
 (first|go_end0|((try simp only [Exit.inBlock,Exit.then]);refine bodyPost_ret (results_none rfl _ _ _) rfl ?_))
 exact F.out
end
end Go.Proofs.Ytifhldnmcdbpfaa
