/- Layer 10: one that writes makes a step on its way up. -/
import Derived.Test.YtifhldnmcdbpfaaW25
import Derived.Test.YtifhldnmcdbpfaaW20
set_option maxRecDepth 100000
set_option linter.unusedVariables false
set_option linter.unusedSimpArgs false
set_option linter.unnecessarySimpa false
namespace Go.Proofs.Ytifhldnmcdbpfaa
section
open Go.RowKit
variable {w w' w2:World} {Mut:Nat->Prop} {I:dG} {N N' N2:Nat} {wd wd' wd2:WD} {bm:Nat} {rest rest' mH:List Value} {T:TypeId} {b m p:Nat} {y y' y2:dQ} {tv tv' kI kv:Value}
set_option maxHeartbeats 8000000 in
theorem AP (x:WrD) (hw:aM w Mut I N wd) (h:bV w bm (bA x.v x.up x.nx kv) T b m p x.y tv) (hkv:Lst w Mut kv x.ky) (hB:∀ k,bC bm tv k->Mut k/\¬ aW I k) (hok:fZ m x) (hm:m<=12) (kQ:b+2^m<=1000000) (hT:iT wd) (hnow:wd.now<=1000000) (hlast:x.y.last<=1000000) (hp:p<16) (hc:wd.mem.c.all+1<1000000000000) (hN:N+1<1000000000) (hu:x.up=true) (hnx:1<=x.nx) :
  Calls Try.prog 196 #[.pointer (some ⟨bm,0,none⟩),.pointer (some ⟨I.bW,0,none⟩)] w λe w'=>e=.returned (.bool (aO b p wd x).2.2)/\GJ w w' Mut I (N+1) (aO b p wd x).1 bm T b m p tv (aO b p wd x).2.1:=by
 have hlen:=hok.way.len
 have AU:2^m<=4096:=Nat.pow_le_pow_right (n:=2) (by decide) hm
 have hgo:=hok.go b wd (λe=>by rw [hu] at e;cases e)
 have hup:=hok.up hu
 obtain⟨j,hj⟩:∃ j,j+1=x.nx:=⟨x.nx - 1,by omega⟩
 have hje:x.nx - 1=j:=by omega
 have hjl:j<x.y.turns.length:=by omega
 obtain⟨k,hk⟩:∃ k,k=wrK x:=⟨_,rfl⟩
 have hkt:(x.y.turns.getD j (0,false)).1=k:=by rw [hk];unfold wrK;rw [hje]
 have hkb:1<=k/\k<2^m:=by
  rw [<-hkt,List.getD_eq_getElem?_getD,List.getElem?_eq_getElem hjl]
  exact hok.way.tk _ (List.getElem_mem _)
 obtain⟨s1,s2,s3⟩:=kH hw
 obtain⟨mks,hwb,_,_⟩:=hw.blk
 have hb:=h.blk
 have lb:=aC hb
 have lW:=hw.wlt
 obtain⟨a,ha⟩:∃ a,a=b+k - 1:=⟨_,rfl⟩
 have hawf:(Lit.int .i64 (a:Int)).wf=true:=by simp [Lit.wf,IntKind.min,IntKind.max,IntKind.signed,IntKind.bits];omega
 have At:=Lib.hid (zD b m k hkb.1 (by omega))
 rw [<-ha] at At
 obtain⟨wda,hwda⟩:∃ wda:WD,wda={ wd with mem:=bR wd.mem (a:Int) 1 }:=⟨_,rfl⟩
 obtain⟨wdb,hwdb⟩:∃ wdb,wdb=qG b k wd:=⟨_,rfl⟩
 obtain⟨sv,hsv⟩:∃ sv,sv=jW wd.traces b k:=⟨_,rfl⟩
 obtain⟨nw,hnw⟩:∃ nw,nw=wd.now:=⟨_,rfl⟩
 have VB:sv=0->wdb={ wda with traces:=tV wda.traces (a:Int) [(nw:Int)] }:=λe=>by rw [hwdb,hwda,hnw,ha];unfold qG;rw [if_pos (by rw [<-hsv];exact e)]
 have UM:sv≠0->wdb=wda:=λe=>by rw [hwdb,hwda,ha];unfold qG;rw [if_neg (by rw [<-hsv];exact e)]
 have hg:dE b wd x=(wdb,{ x with nx:=bN x.y.turns j }):=by
  unfold dE
  rw [if_pos hu,<-hk,<-hwdb,hje]
 obtain⟨X,hX⟩:∃ X,X=({ x with nx:=bN x.y.turns j }:WrD):=⟨_,rfl⟩
 rw [<-hX] at hg
 rw [hg] at hgo
 have hTb:iT wdb:=by rw [hwdb];exact hT.put hnow _ _
 have TL:=vX hg hw hB hkv hgo hm kQ hTb (by rw [hX];exact hlast) hp (T:=T) (bm:=bm) (N:=N)
 obtain⟨R,hR⟩:∃ R,R=aO b p wd x:=⟨_,rfl⟩
 rw [<-hR] at TL ⊢
 have nb:¬ bY I.bm I.bw bm:=λh9=>(hB bm (.inl rfl)).2 (s3 bm h9).1
 have x0:w.cell? ⟨I.bW,0,none⟩=some (.pointer (some ⟨I.bm,0,none⟩)):=by rw [aA hwb];exact iV
 have y0:w.cell? ⟨bm,0,none⟩=some (.int .i64 (b:Int)):=by rw [aA hb];rfl
 have y1:w.cell? ⟨bm,1,none⟩=some (.int .i64 (m:Int)):=by rw [aA hb];rfl
 have c8:w.cell? ⟨bm,8,none⟩=some (.bool true):=by rw [aA hb,hu];rfl
 have c9:w.cell? ⟨bm,9,none⟩=some (.int .i64 (j:Int)):=by
  have e9:((x.nx:Int) - 1)=(j:Int):=by omega
  rw [aA hb,<-e9];rfl
 obtain⟨ta,tc,rfl,hat⟩:=h.turn_at (by omega)
 obtain⟨q,o,rfl,hq,ct,_⟩:=hat j hjl
 rw [hkt] at ct
 obtain⟨tn,htn⟩:∃ tn,tn=x.y.turns.length:=⟨_,rfl⟩
 have c5:w.cell? ⟨bm,5,none⟩=some (.slice (some ⟨q,o,none⟩) tn tc):=by rw [aA hb,htn];rfl
 obtain⟨tv,htv⟩:∃ tv,tv=Value.slice (some ⟨q,o,none⟩) x.y.turns.length tc:=⟨_,rfl⟩
 rw [<-htv] at h hB TL ⊢
 have Wr:=Lib.hid (λ(u:World) (DC:Chg noB w u)=>uK I.bm I.bw wd.mem (a:Int) 1 u (hw.mem.chg DC (λh=>h) (λ_ _ h=>h)) (by decide) hc)
 have W1:=Lib.hid (λ(u:World) (DC:Chg (bY I.bm I.bw) w u) (WK:cB u I.bm I.bw (bR wd.mem (a:Int) 1))=>(by
  obtain⟨h8,h9⟩:=hw.mems DC WK
  rw [<-hwda] at h8
  exact aU.of_world hw h hB h8 h9:aU w u Mut I N wda bm (bA x.v x.up x.nx kv) T b m p tv x.y tv))
 have SET:=Lib.hid (λ(u:World) (DC:aU w u Mut I N wda bm (bA x.v x.up x.nx kv) T b m p tv x.y tv)=>(by
  have h9:=BG DC.world DC.way k hkb.1 (by omega)
  have e9:jW wda.traces b k=sv:=by rw [hsv,hwda]
  rw [e9] at h9
  exact h9:Calls Try.prog 167 #[.pointer (some ⟨bm,0,none⟩),.pointer (some ⟨I.bW,0,none⟩),.int .i64 (k:Int)] u (λe w'=>e=.returned (.int .i64 sv)/\Below u.heap.size u w')))
 have NT:=Lib.hid (λ(u v:World) (bl:Nat) (hs0:sv=0) (DC:aU w u Mut I N wda bm (bA x.v x.up x.nx kv) T b m p tv x.y tv) (kQ:Below u.heap.size u v) (hbl:v.heap[bl]?=some (.cells #[.int .i64 (nw:Int)] 3 (0,0)))=>(by
  have h8:=DC.gr kQ
  refine(FW v _ I N wda (a:Int) (some ⟨bl,0,none⟩) 1 [(nw:Int)] h8.world hawf ⟨by unfold maxLen;simp,λi hi=>⟨bl,0,rfl,aC hbl,λf hf=>by
   obtain rfl:i=0:=by simpa using hi
   obtain rfl:f=0:=by omega
   rw [aA hbl];rfl⟩⟩ (by simp) (by simp) (by simp) hN).mono ?_
  rintro e w' ⟨rfl,h6,h7⟩
  rw [<-VB hs0] at h6
  exact⟨rfl,h8.trans (aU.of_world h8.world h8.way h8.muts h6 h7)⟩:Calls Try.prog 178 #[.pointer (some ⟨I.bW,0,none⟩),.int .i64 (a:Int),.slice (some ⟨bl,0,none⟩) 1 1] v (λe w'=>e=.returned (.tuple #[])/\aU w w' Mut I (N+1) wdb bm (bA x.v x.up x.nx kv) T b m p tv x.y tv)))
 have W2:=Lib.hid (λ(u v:World) (hs0:sv≠0) (DC:aU w u Mut I N wda bm (bA x.v x.up x.nx kv) T b m p tv x.y tv) (kQ:Below u.heap.size u v)=>(by
  have h8:=(DC.gr kQ).more (Nat.le_succ N) hN
  rw [UM hs0];exact h8:aU w v Mut I (N+1) wdb bm (bA x.v x.up x.nx kv) T b m p tv x.y tv))
 have SK:=Lib.hid (λ(u:World) (DC:aU w u Mut I (N+1) wdb bm (bA x.v x.up j kv) T b m p tv x.y tv)=>(by
  refine(CG j DC.way (by omega) (by omega)).mono ?_
  rintro e w3 ⟨rfl,h1,h2⟩
  exact⟨rfl,by rw [hX];exact DC.put h1 h2⟩:Calls Try.prog 160 #[.pointer (some ⟨bm,0,none⟩)] u (λe w'=>e=.returned (.tuple #[])/\aU w w' Mut I (N+1) wdb bm (bA X.v X.up X.nx kv) T b m p tv X.y tv)))
 have TL:=Lib.hid TL
 have Nb:=Lib.hid nb;have S2:=Lib.hid s2;have Hj:=Lib.hid (show((x.nx:Int) - 1)=(j:Int) from by omega);have Hnw:=Lib.hid hnw
 have Hdb:=Lib.hid (show wdb.now=nw from by rw [hwdb,hnw];rfl)
 have Hda:=Lib.hid (show wda.now=nw from by rw [hwda,hnw])
 have l1:(j:Int)<(tn:Int):=by omega
 have l2:(0:Int)<=(j:Int):=by omega
 have l3:¬ (j:Int)<0:=by omega
 have hji:(j:Int)<=12:=by omega
 have wj:IntKind.i64.wrap ((j:Int) - 1)=(j:Int) - 1:=by rw [IntKind.wrap_i64];omega
 clear hw h hkv hB hok hm kQ hT hnow hlast hp hc hN hu hnx hlen AU hgo hup hj hje hjl hk hkt hkb s1 s2 s3 hwb hb ha hawf hwda hwdb hsv hnw VB UM hg hX hTb hR nb hat hq htn htv
 go_enter Try.func196,Try.ntmps196
 go_upto_region 4 with fail
 go_quiet (fail)
 have z0:(w.drewN nq).cell? ⟨I.bW,0,none⟩=some (.pointer (some ⟨I.bm,0,none⟩)):=x0
 have QB:(w.drewN nq).cell? ⟨bm,0,none⟩=some (.int .i64 (b:Int)):=y0
 have RB:(w.drewN nq).cell? ⟨bm,1,none⟩=some (.int .i64 (m:Int)):=y1
 obtain⟨wq,hwq⟩:∃ wq,wq=w.drewN nq:=⟨_,rfl⟩
 have hcq:Chg noB w wq:=by rw [hwq];exact(Chg.refl _ w).drewN nq
 rw [<-hwq] at z0 QB RB ⊢
 have Hcq:=Lib.hid hcq
 clear x0 y0 y1 c5 c8 c9 ct hwq hcq
 go_upto_region 5 with fail
 go_region_held3 (λu=>u.cell? ⟨I.bW,0,none⟩=some (.pointer (some ⟨I.bm,0,none⟩))/\u.cell? ⟨bm,0,none⟩=some (.int .i64 (b:Int))/\u.cell? ⟨bm,1,none⟩=some (.int .i64 (m:Int)))
  (first|exact⟨z0,QB,RB⟩|exact⟨v0,u0,u1⟩|exact⟨k0,k1,k2⟩)
  (first|(go_at_call 166;refine(At.out _).mono ?_;rintro e w5 ⟨rfl,hb5⟩;have lY:Chg noB wq w5:=((Chg.refl _ wq).drew).trans (Chg.of_below hb5);have v0:=aY lY (λh=>h) z0;have u0:=aY lY (λh=>h) QB;have u1:=aY lY (λh=>h) RB)|(go_at_call 151;refine(Wr.out _ (Hcq.out.trans lY)).mono ?_;rintro e w1 ⟨rfl,hm1,hc1⟩;have hc1':Chg (bY I.bm I.bw) wq w1:=(lY.mono (λ_ _ h=>h.elim)).trans hc1;have k0:=aY hc1' S2.out z0;have k1:=aY hc1' Nb.out QB;have k2:=aY hc1' Nb.out RB))
 have h1:=W1.out w1 ((Hcq.out.mono (λ_ _ h=>h.elim)).trans hc1') hm1
 have SE:=Lib.hid (SET.out _ h1)
 clear hm1 hc1 hc1' lY hb5 v0 u0 u1 k0 k1 k2 z0 QB RB Wr W1 Hcq
 by_cases hs0:sv=0
 ·have N0:=Lib.hid (λu v bl h1 h2 h3=>NT.out u v bl hs0 h1 h2 h3)
  clear NT
  subst hs0
  go_upto_region 7 with(go_at_call 167;refine SE.out.mono ?_;rintro e w2 ⟨rfl,hb2⟩)
  have h2:=h1.gr hb2
  have hw2:=h2.world
  obtain⟨XH,NM,_,_⟩:=hw2.blk
  have n0:w2.cell? ⟨bm,0,none⟩=some (.int .i64 (b:Int)):=by rw [aA h2.way.blk];rfl
  have n1:w2.cell? ⟨bm,1,none⟩=some (.int .i64 (m:Int)):=by rw [aA h2.way.blk];rfl
  have n2:w2.cell? ⟨I.bW,1,none⟩=some (.int .i64 (nw:Int)):=by rw [aA NM,<-Hda.out];exact eO
  have KQ:=aC h2.way.blk
  have lW2:=aC NM
  have H2:=Lib.hid h2
  clear h1 h2 hw2 NM hb2 SE W2
  have VH:w2.drew.cell? ⟨bm,0,none⟩=some (.int .i64 (b:Int)):=n0
  have dd1:w2.drew.cell? ⟨bm,1,none⟩=some (.int .i64 (m:Int)):=n1
  have UN:w2.drew.cell? ⟨I.bW,1,none⟩=some (.int .i64 (nw:Int)):=n2
  refine wp_region_held_drew (S:=(λu=>u.cell? ⟨bm,0,none⟩=some (.int .i64 (b:Int))/\u.cell? ⟨bm,1,none⟩=some (.int .i64 (m:Int))/\u.cell? ⟨I.bW,1,none⟩=some (.int .i64 (nw:Int)))) (by kernel_rfl) ?_ (λhHeld=>?_)
  ·(with_reducible exact⟨VH,dd1,UN⟩)
  refine wpAnyH_take (i:=0) (v:=?WY) rfl (by kernel_rfl) (by kernel_rfl) (by kernel_rfl) (λ_ _ _ h=>h) (Or.inl ⟨by rfl,?TC⟩) (by assumption) ?VY
  (case TC=>(intro w hSw;go_simp;with_reducible rfl))
  (simp only [Act.put,zs])
  refine wpAnyH_take (i:=1) (v:=?kI) rfl (by kernel_rfl) (by kernel_rfl) (by kernel_rfl) (λ_ _ _ h=>h) (Or.inl ⟨by rfl,?TY⟩) (by assumption) ?WR
  (case TY=>(intro w hSw;go_simp;with_reducible rfl))
  (simp only [Act.put,zs])
  refine wpAnyH_take (i:=2) (v:=?PM) rfl (by kernel_rfl) (by kernel_rfl) (by kernel_rfl) (λ_ _ _ h=>h) (Or.inl ⟨by rfl,?TJ⟩) (by assumption) ?WT
  (case TJ=>(intro w hSw;go_simp;with_reducible rfl))
  (simp only [Act.put,zs])
  refine wpAnyH_take (i:=3) (v:=?VU) rfl (by kernel_rfl) (by kernel_rfl) (by kernel_rfl) (λ_ _ _ h=>h) (Or.inl ⟨by rfl,?UD⟩) (by assumption) ?VK
  (case UD=>(intro w hSw;go_simp;with_reducible rfl))
  (simp only [Act.put,zs])
  refine wpAnyH_take (i:=4) (v:=?VS) rfl (by kernel_rfl) (by kernel_rfl) (by kernel_rfl) (λ_ _ _ h=>h) (Or.inl ⟨by rfl,?UF⟩) (by assumption) ?WQ
  (case UF=>(intro w hSw;go_simp;with_reducible rfl))
  (simp only [Act.put,zs])
  refine wpAnyH_take (i:=5) (v:=?WL) rfl (by kernel_rfl) (by kernel_rfl) (by kernel_rfl) (λ_ _ _ h=>h) (Or.inl ⟨by rfl,?RU⟩) (by assumption) ?WW
  (case RU=>(intro w hSw;go_simp;with_reducible rfl))
  (simp only [Act.put,zs])
  refine wpAnyH_take (i:=6) (v:=?VW) rfl (by kernel_rfl) (by kernel_rfl) (by kernel_rfl) (λ_ _ _ h=>h) (Or.inl ⟨by rfl,?TB⟩) (by assumption) ?VV
  (case TB=>(intro w hSw;go_simp;with_reducible rfl))
  (simp only [Act.put,zs])
  refine wpAnyH_take (i:=8) (v:=?WG) rfl (by kernel_rfl) (by kernel_rfl) (by kernel_rfl) (λ_ _ _ h=>h) (Or.inl ⟨by rfl,?SY⟩) (by assumption) ?VT
  (case SY=>(intro w hSw;go_simp;with_reducible rfl))
  (simp only [Act.put,zs])
  refine wpAnyH_take (i:=9) (v:=?WI) rfl (by kernel_rfl) (by kernel_rfl) (by kernel_rfl) (λ_ _ _ h=>h) (Or.inl ⟨by rfl,?SF⟩) (by assumption) ?WN
  (case SF=>(intro w hSw;go_simp;with_reducible rfl))
  (simp only [Act.put,zs])
  refine wpAnyH_take (i:=10) (v:=?TG) rfl (by kernel_rfl) (by kernel_rfl) (by kernel_rfl) (λ_ _ _ h=>h) (Or.inl ⟨by rfl,?OC⟩) (by assumption) ?RY
  (case OC=>(intro w hSw;go_simp;with_reducible rfl))
  (simp only [Act.put,zs])
  refine wpAnyH_take (i:=11) (v:=?UE) rfl (by kernel_rfl) (by kernel_rfl) (by kernel_rfl) (λ_ _ _ h=>h) (Or.inl ⟨by rfl,?OM⟩) (by assumption) ?TI
  (case OM=>(intro w hSw;go_simp;with_reducible rfl))
  (simp only [Act.put,zs])
  refine wpAnyH_ready (rs:=[7,12]) (by kernel_rfl) (by simp) ?_
  refine AllReadyH.cons rfl (λK hK=>?_) (AllReadyH.cons rfl (λK hK=>?_) (AllReadyH.nil))
  go_simp
  ((go_at_call 166;refine(At.out _).mono ?_;rintro e w5 ⟨rfl,hb5⟩;have lF:Below w2.heap.size w2 w5:=(by exact rO hb5);have u0:=(lF.cell (p:=⟨bm,0,none⟩) KQ).trans n0;have u1:=(lF.cell (p:=⟨bm,1,none⟩) KQ).trans n1;have u2:=(lF.cell (p:=⟨I.bW,1,none⟩) lW2).trans n2;have l5:bm<w5.heap.size:=Nat.lt_of_lt_of_le KQ lF.size;have lW5:I.bW<w5.heap.size:=Nat.lt_of_lt_of_le lW2 lF.size))
  refine hK.out _ _ ?_ (λhHeld=>?_)
  ·(with_reducible exact⟨u0,u1,u2⟩)
  clear hK K
  refine wpAnyH_ready (rs:=[12]) (by kernel_rfl) (by simp) ?_
  refine AllReadyH.cons rfl (λK hK=>?_) AllReadyH.nil
  go_simp
  refine hK.out _ _ ?_ (λhHeld=>?_)
  ·(exact⟨((Gr.new w5 _).cell l5).trans u0,((Gr.new w5 _).cell l5).trans u1,((Gr.new w5 _).cell lW5).trans u2⟩)
  clear hK K
  refine wpAnyH_ready (rs:=[13]) (by kernel_rfl) (by simp) ?_
  refine AllReadyH.cons rfl (λK hK=>?_) AllReadyH.nil
  go_simp
  ((go_at_call 178;((with_reducible refine(N0.out w2 _ w5.heap.size H2.out (Gr.trans lF (Gr.new _ _)) (heap_alloc_new _ _)).mono ?_));rintro e w6 ⟨rfl,h6⟩;have m0:w6.cell? ⟨bm,0,none⟩=some (.int .i64 (b:Int)):=(by rw [aA h6.way.blk];rfl);have m1:w6.cell? ⟨bm,1,none⟩=some (.int .i64 (m:Int)):=(by rw [aA h6.way.blk];rfl);have m2:w6.cell? ⟨I.bW,1,none⟩=some (.int .i64 (nw:Int)):=(by obtain⟨WU,NY,_,_⟩:=h6.world.blk;rw [aA NY,<-Hdb.out];exact eO)))
  refine hK.out _ _ ?_ (λhHeld=>?_)
  ·(with_reducible exact⟨m0,m1,m2⟩)
  clear hK K
  refine wpAnyH_done (by kernel_rfl) ?_ _
  rotate_left
  go_simp
  refine hK.out _ _ ?_ (λhHeld=>?_)
  ·(exact⟨(((Gr.new w2 _).drew).cell KQ).trans n0,(((Gr.new w2 _).drew).cell KQ).trans n1,(((Gr.new w2 _).drew).cell lW2).trans n2⟩)
  clear hK K
  refine wpAnyH_ready (rs:=[7]) (by kernel_rfl) (by simp) ?_
  refine AllReadyH.cons rfl (λK hK=>?_) AllReadyH.nil
  go_simp
  ((go_at_call 166;refine(At.out _).mono ?_;rintro e w5 ⟨rfl,hb5⟩;have lF:Below w2.heap.size w2 w5:=(by exact Gr.trans (Gr.new w2 _) (rO hb5));have u0:=(lF.cell (p:=⟨bm,0,none⟩) KQ).trans n0;have u1:=(lF.cell (p:=⟨bm,1,none⟩) KQ).trans n1;have u2:=(lF.cell (p:=⟨I.bW,1,none⟩) lW2).trans n2;have l5:bm<w5.heap.size:=Nat.lt_of_lt_of_le KQ lF.size;have lW5:I.bW<w5.heap.size:=Nat.lt_of_lt_of_le lW2 lF.size))
  refine hK.out _ _ ?_ (λhHeld=>?_)
  ·(with_reducible exact⟨u0,u1,u2⟩)
  clear hK K
  refine wpAnyH_ready (rs:=[13]) (by kernel_rfl) (by simp) ?_
  refine AllReadyH.cons rfl (λK hK=>?_) AllReadyH.nil
  go_simp
  ((go_at_call 178;((with_reducible refine(N0.out w2 _ w2.heap.size H2.out lF (((rO hb5).block _ (by simp)).trans (heap_alloc_new _ _))).mono ?_));rintro e w6 ⟨rfl,h6⟩;have m0:w6.cell? ⟨bm,0,none⟩=some (.int .i64 (b:Int)):=(by rw [aA h6.way.blk];rfl);have m1:w6.cell? ⟨bm,1,none⟩=some (.int .i64 (m:Int)):=(by rw [aA h6.way.blk];rfl);have m2:w6.cell? ⟨I.bW,1,none⟩=some (.int .i64 (nw:Int)):=(by obtain⟨WU,NY,_,_⟩:=h6.world.blk;rw [aA NY,<-Hdb.out];exact eO)))
  refine hK.out _ _ ?_ (λhHeld=>?_)
  ·(with_reducible exact⟨m0,m1,m2⟩)
  clear hK K
  refine wpAnyH_done (by kernel_rfl) ?_ _
  all_goals
   clear hb5 lF u0 u1 u2 l5 lW5 n0 n1 n2 KQ lW2 H2 N0 m0 m1 m2 VH dd1 UN
   have hbu:=h6.way.blk
   have q9:(w6).cell? ⟨bm,9,none⟩=some (.int .i64 (j:Int)):=by rw [aA hbu,<-Hj.out];rfl
   have qf:=aB hbu 9
   obtain⟨w4,hw4⟩:∃ w4,w4=(w6).setCell ⟨bm,9,none⟩ (.int .i64 ((j:Int) - 1)):=⟨_,rfl⟩
   have hc4:Chg (λk=>k=bm) (w6) w4:=by rw [hw4];exact(Chg.refl (λk=>k=bm) (w6)).setCell (by exact .inl rfl) _
   have h4:=h6.put (mH:=bA x.v x.up j kv) hc4 (by rw [hw4,aH hbu];rfl)
   have S4:=Lib.hid (SK.out _ h4)
   have Hw4:=Lib.hid hw4
   clear hbu hw4 hc4 h4
   go_upto_region 9 with fail
   rw [<-Hw4.out]
   clear q9 qf Hw4
   go_upto_region 12 with(go_at_call 160;refine S4.out.mono ?_;rintro e w7 ⟨rfl,h7⟩)
   clear S4
   have hx:=TL.out _ _ h7
   have hbx:=h7.way.blk
   have c8:(w7).cell? ⟨bm,8,none⟩=some (.bool X.up):=by rw [aA hbx];rfl
   have c9:(w7).cell? ⟨bm,9,none⟩=some (.int .i64 ((X.nx:Int) - 1)):=by rw [aA hbx];rfl
   have c10:(w7).cell? ⟨bm,10,none⟩=some kv:=by rw [aA hbx];rfl
   have g10:=aB hbx 10
   have lbx:=aC hbx
   obtain⟨vT,mW⟩:∃ vT,vT=X.up:=⟨_,rfl⟩
   obtain⟨sS,mK⟩:∃ sS,sS=X.nx:=⟨_,rfl⟩
   rw [<-mW] at c8
   rw [<-mK] at c9
   have hdone:X.done=(vT && decide (sS=0)):=by rw [mW,mK];rfl
   rw [hdone] at hx
   obtain⟨hx1,hx2⟩:=hx
   clear hbx mW mK hdone h7
   cases vT with
   | false=>
    obtain⟨f1,f2⟩:=hx1 rfl
    have F1:=Lib.hid f1;have F2:=Lib.hid f2
    clear f1 f2 hx1 hx2
    go_wp2
    go_ret
    exact⟨by rw [F2.out];rfl,F1.out⟩
   | true=>
    by_cases h0:sS=0
    ·subst h0
     obtain⟨k1,f2⟩:=hx2 rfl
     have K1:=Lib.hid k1;have F2:=Lib.hid f2
     clear k1 f2 hx1 hx2
     have c9':(w7).cell? ⟨bm,9,none⟩=some (.int .i64 (-1)):=c9
     clear c9
     go_wp2_with (go_at_call 165;refine K1.out.mono ?_;rintro e w8 ⟨va,vn,vc,rfl,nI,f1⟩;have e8:=(nI.cell (p:=⟨bm,10,none⟩) lbx).trans c10;have ef:=(nI.frozen (p:=⟨bm,10,none⟩) lbx).trans g10;have F1:=Lib.hid f1;clear f1)
     go_ret
     exact⟨by rw [F2.out];rfl,F1.out⟩
    ·obtain⟨f1,f2⟩:=hx1 (by simp [h0])
     have F1:=Lib.hid f1;have F2:=Lib.hid f2
     have l9:(0:Int)<=(sS:Int) - 1:=by omega
     clear f1 f2 hx1 hx2
     go_wp2
     go_ret
     exact⟨by rw [F2.out];rfl,F1.out⟩
 ·have l4:(sv == 0)=false:=by simp [hs0]
  go_upto_region 8 with(go_at_call 167;refine SE.out.mono ?_;rintro e w2 ⟨rfl,hb2⟩)
  have h6:=W2.out w1 w2 hs0 h1 hb2
  clear h1 hb2 SE W2 NT
  have hbu:=h6.way.blk
  have q9:(w2).cell? ⟨bm,9,none⟩=some (.int .i64 (j:Int)):=by rw [aA hbu,<-Hj.out];rfl
  have qf:=aB hbu 9
  obtain⟨w4,hw4⟩:∃ w4,w4=(w2).setCell ⟨bm,9,none⟩ (.int .i64 ((j:Int) - 1)):=⟨_,rfl⟩
  have hc4:Chg (λk=>k=bm) (w2) w4:=by rw [hw4];exact(Chg.refl (λk=>k=bm) (w2)).setCell (by exact .inl rfl) _
  have h4:=h6.put (mH:=bA x.v x.up j kv) hc4 (by rw [hw4,aH hbu];rfl)
  have S4:=Lib.hid (SK.out _ h4)
  have Hw4:=Lib.hid hw4
  clear hbu hw4 hc4 h4
  go_upto_region 9 with fail
  rw [<-Hw4.out]
  clear q9 qf Hw4
  go_upto_region 12 with(go_at_call 160;refine S4.out.mono ?_;rintro e w7 ⟨rfl,h7⟩)
  clear S4
  have hx:=TL.out _ _ h7
  have hbx:=h7.way.blk
  have c8:(w7).cell? ⟨bm,8,none⟩=some (.bool X.up):=by rw [aA hbx];rfl
  have c9:(w7).cell? ⟨bm,9,none⟩=some (.int .i64 ((X.nx:Int) - 1)):=by rw [aA hbx];rfl
  have c10:(w7).cell? ⟨bm,10,none⟩=some kv:=by rw [aA hbx];rfl
  have g10:=aB hbx 10
  have lbx:=aC hbx
  obtain⟨vT,mW⟩:∃ vT,vT=X.up:=⟨_,rfl⟩
  obtain⟨sS,mK⟩:∃ sS,sS=X.nx:=⟨_,rfl⟩
  rw [<-mW] at c8
  rw [<-mK] at c9
  have hdone:X.done=(vT && decide (sS=0)):=by rw [mW,mK];rfl
  rw [hdone] at hx
  obtain⟨hx1,hx2⟩:=hx
  clear hbx mW mK hdone h7
  cases vT with
  | false=>
   obtain⟨f1,f2⟩:=hx1 rfl
   have F1:=Lib.hid f1;have F2:=Lib.hid f2
   clear f1 f2 hx1 hx2
   go_wp2
   go_ret
   exact⟨by rw [F2.out];rfl,F1.out⟩
  | true=>
   by_cases h0:sS=0
   ·subst h0
    obtain⟨k1,f2⟩:=hx2 rfl
    have K1:=Lib.hid k1;have F2:=Lib.hid f2
    clear k1 f2 hx1 hx2
    have c9':(w7).cell? ⟨bm,9,none⟩=some (.int .i64 (-1)):=c9
    clear c9
    go_wp2_with (go_at_call 165;refine K1.out.mono ?_;rintro e w8 ⟨va,vn,vc,rfl,nI,f1⟩;have e8:=(nI.cell (p:=⟨bm,10,none⟩) lbx).trans c10;have ef:=(nI.frozen (p:=⟨bm,10,none⟩) lbx).trans g10;have F1:=Lib.hid f1;clear f1)
    go_ret
    exact⟨by rw [F2.out];rfl,F1.out⟩
   ·obtain⟨f1,f2⟩:=hx1 (by simp [h0])
    have F1:=Lib.hid f1;have F2:=Lib.hid f2
    have l9:(0:Int)<=(sS:Int) - 1:=by omega
    clear f1 f2 hx1 hx2
    go_wp2
    go_ret
    exact⟨by rw [F2.out];rfl,F1.out⟩
theorem MJ (x:WrD) (hw:aM w Mut I N wd) (h:bV w bm (bA x.v x.up x.nx kv) T b m p x.y tv) (hkv:Lst w Mut kv x.ky) (hB:∀ k,bC bm tv k->Mut k/\¬ aW I k) (hok:fZ m x) (hm:m<=12) (kQ:b+2^m<=1000000) (hT:iT wd) (hnow:wd.now<=1000000) (hlast:x.y.last<=1000000) (hp:p<16) (hc:wd.mem.c.all+1<1000000000000) (hN:N+1<1000000000) (hl:if x.up=true then 1<=x.nx else 0<x.y.left) :
  Calls Try.prog 196 #[.pointer (some ⟨bm,0,none⟩),.pointer (some ⟨I.bW,0,none⟩)] w λe w'=>e=.returned (.bool (aO b p wd x).2.2)/\GJ w w' Mut I (N+1) (aO b p wd x).1 bm T b m p tv (aO b p wd x).2.1:=by
 cases hu:x.up with
 | true=>rw [hu,if_pos rfl] at hl;exact AP x hw h hkv hB hok hm kQ hT hnow hlast hp hc hN hu hl
 | false=>rw [hu,if_neg Bool.false_ne_true] at hl;exact vL x hw h hkv hB hok hm kQ hT hnow hlast hp hc hN hu hl
end
section
open Go.RowKit
end
section
open Go.RowKit
end
end Go.Proofs.Ytifhldnmcdbpfaa
