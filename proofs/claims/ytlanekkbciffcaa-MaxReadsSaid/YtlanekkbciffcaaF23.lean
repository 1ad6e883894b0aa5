/- Layer 10: one that writes makes a step on its way up. -/
import Derived.Test.YtlanekkbciffcaaF22
import Derived.Test.YtlanekkbciffcaaF17
import Derived.Test.YtlanekkbciffcaaF16
import Derived.Test.YtlanekkbciffcaaF12
set_option maxRecDepth 100000
set_option linter.unusedVariables false
set_option linter.unusedSimpArgs false
set_option linter.unnecessarySimpa false
namespace Go.Proofs.Ytlanekkbciffcaa
open List renaming getElem_toArray → zq1, getElem_cons_zero → zq2, getElem_cons_succ → zq3, setIfInBounds_toArray → zq4, set_cons_zero → zq5, set_cons_succ → zq6
section
open Go.RowKit
variable {w w' w2:World} {Mut:Nat->Prop} {I:WIds} {N N' N2:Nat} {wd wd' wd2:WD} {bm:Nat} {rest rest' rest2:List Value} {T:TypeId} {b m p:Nat} {y y' y2:WayD} {tv tv' tv2 kv:Value}
set_option maxHeartbeats 8000000 in
theorem wr_step_up (x:WrD) (hw:WorldAt w Mut I N wd) (h:WayAt w bm (wrRest x.v x.up x.nx kv) T b m p x.y tv) (hkv:Lst w Mut kv x.ky) (hB:∀ k,WayB bm tv k->Mut k/\¬ WSet I k) (hok:WrOk m x) (hm:m<=12) (hb9:b+2^m<=1000000) (hT:TrOk wd) (hnow:wd.now<=1000000) (hlast:x.y.last<=1000000) (hp:p<16) (hc:wd.mem.c.all+1<1000000000000) (hN:N+1<1000000000) (hu:x.up=true) (hnx:1<=x.nx) :
  Calls Try.prog 192 #[.pointer (some ⟨bm,0,none⟩),.pointer (some ⟨I.bW,0,none⟩)] w λe w'=>e=.returned (.bool (wrStep b p wd x).2.2)/\WrTo w w' Mut I (N+1) (wrStep b p wd x).1 bm T b m p tv (wrStep b p wd x).2.1:=by
 have hlen:=hok.way.len
 have hp12:2^m<=4096:=Nat.pow_le_pow_right (n:=2) (by decide) hm
 have hgo:=hok.go b wd (λe=>by rw [hu] at e;cases e)
 have hup:=hok.up hu
 obtain⟨j,hj⟩:∃ j,j+1=x.nx:=⟨x.nx - 1,by omega⟩
 have hje:x.nx - 1=j:=by omega
 have hjl:j<x.y.turns.length:=by omega
 obtain⟨k,hk⟩:∃ k,k=wrK x:=⟨_,rfl⟩
 have hkt:(x.y.turns.getD j (0,false)).1=k:=by rw [hk];unfold wrK;rw [hje]
 have hkb:1<=k/\k<2^m:=by
  rw [<-hkt,List.getD_eq_getElem?_getD,List.getElem?_eq_getElem hjl]
  exact hok.way.tk _ (List.getElem_mem _)
 obtain⟨s1,s2,s3⟩:=memSet_sub hw
 obtain⟨mks,hwb,_,_⟩:=hw.blk
 have hb:=h.blk
 have lb:=blk_lt hb
 have lW:=hw.wlt
 obtain⟨a,ha⟩:∃ a,a=b+k - 1:=⟨_,rfl⟩
 have hawf:(Lit.int .i64 (a:Int)).wf=true:=by simp [Lit.wf,IntKind.min,IntKind.max,IntKind.signed,IntKind.bits];omega
 have At:=Lib.hid (max_at b m k hkb.1 (by omega))
 rw [<-ha] at At
 obtain⟨wda,hwda⟩:∃ wda:WD,wda={ wd with mem:=memWrite wd.mem (a:Int) 1 }:=⟨_,rfl⟩
 obtain⟨wdb,hwdb⟩:∃ wdb,wdb=mxPut b k wd:=⟨_,rfl⟩
 obtain⟨sv,hsv⟩:∃ sv,sv=mxSet wd.traces b k:=⟨_,rfl⟩
 obtain⟨nw,hnw⟩:∃ nw,nw=wd.now:=⟨_,rfl⟩
 have eb0:sv=0->wdb={ wda with traces:=updT wda.traces (a:Int) [(nw:Int)] }:=λe=>by rw [hwdb,hwda,hnw,ha];unfold mxPut;rw [if_pos (by rw [<-hsv];exact e)]
 have eb1:sv≠0->wdb=wda:=λe=>by rw [hwdb,hwda,ha];unfold mxPut;rw [if_neg (by rw [<-hsv];exact e)]
 have hg:wrGo b wd x=(wdb,{ x with nx:=mxSkip x.y.turns j }):=by
  unfold wrGo
  rw [if_pos hu,<-hk,<-hwdb,hje]
 obtain⟨X,hX⟩:∃ X,X=({ x with nx:=mxSkip x.y.turns j }:WrD):=⟨_,rfl⟩
 rw [<-hX] at hg
 rw [hg] at hgo
 have hTb:TrOk wdb:=by rw [hwdb];exact hT.put hnow _ _
 have TL:=wr_tail hg hw hB hkv hgo hm hb9 hTb (by rw [hX];exact hlast) hp (T:=T) (bm:=bm) (N:=N)
 obtain⟨R,hR⟩:∃ R,R=wrStep b p wd x:=⟨_,rfl⟩
 rw [<-hR] at TL ⊢
 have nb:¬ MemSet I.bm I.bw bm:=λh9=>(hB bm (.inl rfl)).2 (s3 bm h9).1
 have x0:w.cell? ⟨I.bW,0,none⟩=some (.pointer (some ⟨I.bm,0,none⟩)):=by rw [cell_blk hwb];exact world_mem
 have y0:w.cell? ⟨bm,0,none⟩=some (.int .i64 (b:Int)):=by rw [cell_blk hb];rfl
 have y1:w.cell? ⟨bm,1,none⟩=some (.int .i64 (m:Int)):=by rw [cell_blk hb];rfl
 have c8:w.cell? ⟨bm,8,none⟩=some (.bool true):=by rw [cell_blk hb,hu];rfl
 have c9:w.cell? ⟨bm,9,none⟩=some (.int .i64 (j:Int)):=by
  have e9:((x.nx:Int) - 1)=(j:Int):=by omega
  rw [cell_blk hb,<-e9];rfl
 obtain⟨ta,tc,rfl,hat⟩:=h.turn_at (by omega)
 obtain⟨q,o,rfl,hq,ct,_⟩:=hat j hjl
 rw [hkt] at ct
 obtain⟨tn,htn⟩:∃ tn,tn=x.y.turns.length:=⟨_,rfl⟩
 have c5:w.cell? ⟨bm,5,none⟩=some (.slice (some ⟨q,o,none⟩) tn tc):=by rw [cell_blk hb,htn];rfl
 obtain⟨tv,htv⟩:∃ tv,tv=Value.slice (some ⟨q,o,none⟩) x.y.turns.length tc:=⟨_,rfl⟩
 rw [<-htv] at h hB TL ⊢
 have Wr:=Lib.hid (λ(u:World) (hu9:Chg noB w u)=>write_any I.bm I.bw wd.mem (a:Int) 1 u (hw.mem.chg hu9 (λh=>h) (λ_ _ h=>h)) (by decide) hc)
 have W1:=Lib.hid (λ(u:World) (hu9:Chg (MemSet I.bm I.bw) w u) (hm9:MemAt u I.bm I.bw (memWrite wd.mem (a:Int) 1))=>(by
  obtain⟨h8,h9⟩:=hw.mems hu9 hm9
  rw [<-hwda] at h8
  exact WayTo.of_world hw h hB h8 h9:WayTo w u Mut I N wda bm (wrRest x.v x.up x.nx kv) T b m p tv x.y tv))
 have SET:=Lib.hid (λ(u:World) (hu9:WayTo w u Mut I N wda bm (wrRest x.v x.up x.nx kv) T b m p tv x.y tv)=>(by
  have h9:=way_set hu9.world hu9.way k hkb.1 (by omega)
  have e9:mxSet wda.traces b k=sv:=by rw [hsv,hwda]
  rw [e9] at h9
  exact h9:Calls Try.prog 188 #[.pointer (some ⟨bm,0,none⟩),.pointer (some ⟨I.bW,0,none⟩),.int .i64 (k:Int)] u (λe w'=>e=.returned (.int .i64 sv)/\Below u.heap.size u w')))
 have NT:=Lib.hid (λ(u v:World) (bl:Nat) (hs0:sv=0) (hu9:WayTo w u Mut I N wda bm (wrRest x.v x.up x.nx kv) T b m p tv x.y tv) (hb9:Below u.heap.size u v) (hbl:v.heap[bl]?=some (.cells #[.int .i64 (nw:Int)] 3 (0,0)))=>(by
  have h8:=hu9.gr hb9
  refine(note_any v _ I N wda (a:Int) (some ⟨bl,0,none⟩) 1 [(nw:Int)] h8.world hawf ⟨by unfold maxLen;simp,λi hi=>⟨bl,0,rfl,blk_lt hbl,λf hf=>by
   obtain rfl:i=0:=by simpa using hi
   obtain rfl:f=0:=by omega
   rw [cell_blk hbl];rfl⟩⟩ (by simp) (by simp) (by simp) hN).mono ?_
  rintro e w' ⟨rfl,h6,h7⟩
  rw [<-eb0 hs0] at h6
  exact⟨rfl,h8.trans (WayTo.of_world h8.world h8.way h8.muts h6 h7)⟩:Calls Try.prog 193 #[.pointer (some ⟨I.bW,0,none⟩),.int .i64 (a:Int),.slice (some ⟨bl,0,none⟩) 1 1] v (λe w'=>e=.returned (.tuple #[])/\WayTo w w' Mut I (N+1) wdb bm (wrRest x.v x.up x.nx kv) T b m p tv x.y tv)))
 have W2:=Lib.hid (λ(u v:World) (hs0:sv≠0) (hu9:WayTo w u Mut I N wda bm (wrRest x.v x.up x.nx kv) T b m p tv x.y tv) (hb9:Below u.heap.size u v)=>(by
  have h8:=(hu9.gr hb9).more (Nat.le_succ N) hN
  rw [eb1 hs0];exact h8:WayTo w v Mut I (N+1) wdb bm (wrRest x.v x.up x.nx kv) T b m p tv x.y tv))
 have SK:=Lib.hid (λ(u:World) (hu9:WayTo w u Mut I (N+1) wdb bm (wrRest x.v x.up j kv) T b m p tv x.y tv)=>(by
  refine(wr_skip j hu9.way (by omega) (by omega)).mono ?_
  rintro e w3 ⟨rfl,h1,h2⟩
  exact⟨rfl,by rw [hX];exact hu9.put h1 h2⟩:Calls Try.prog 128 #[.pointer (some ⟨bm,0,none⟩)] u (λe w'=>e=.returned (.tuple #[])/\WayTo w w' Mut I (N+1) wdb bm (wrRest X.v X.up X.nx kv) T b m p tv X.y tv)))
 have TL:=Lib.hid TL
 have Nb:=Lib.hid nb;have S2:=Lib.hid s2;have Hj:=Lib.hid (show((x.nx:Int) - 1)=(j:Int) from by omega);have Hnw:=Lib.hid hnw
 have Hdb:=Lib.hid (show wdb.now=nw from by rw [hwdb,hnw];rfl)
 have Hda:=Lib.hid (show wda.now=nw from by rw [hwda,hnw])
 have l1:(j:Int)<(tn:Int):=by omega
 have l2:(0:Int)<=(j:Int):=by omega
 have l3:¬ (j:Int)<0:=by omega
 have hji:(j:Int)<=12:=by omega
 have wj:IntKind.i64.wrap ((j:Int) - 1)=(j:Int) - 1:=by rw [IntKind.wrap_i64];omega
 clear hw h hkv hB hok hm hb9 hT hnow hlast hp hc hN hu hnx hlen hp12 hgo hup hj hje hjl hk hkt hkb s1 s2 s3 hwb hb ha hawf hwda hwdb hsv hnw eb0 eb1 hg hX hTb hR nb hat hq htn htv
 go_enter Try.func192,Try.ntmps192
 go_upto_region 4 with fail
 go_quiet (fail)
 have z0:(w.drewN nq).cell? ⟨I.bW,0,none⟩=some (.pointer (some ⟨I.bm,0,none⟩)):=x0
 have zy0:(w.drewN nq).cell? ⟨bm,0,none⟩=some (.int .i64 (b:Int)):=y0
 have zy1:(w.drewN nq).cell? ⟨bm,1,none⟩=some (.int .i64 (m:Int)):=y1
 obtain⟨wq,hwq⟩:∃ wq,wq=w.drewN nq:=⟨_,rfl⟩
 have hcq:Chg noB w wq:=by rw [hwq];exact(Chg.refl _ w).drewN nq
 rw [<-hwq] at z0 zy0 zy1 ⊢
 have Hcq:=Lib.hid hcq
 clear x0 y0 y1 c5 c8 c9 ct hwq hcq
 go_upto_region 5 with fail
 go_region_held3 (λu=>u.cell? ⟨I.bW,0,none⟩=some (.pointer (some ⟨I.bm,0,none⟩))/\u.cell? ⟨bm,0,none⟩=some (.int .i64 (b:Int))/\u.cell? ⟨bm,1,none⟩=some (.int .i64 (m:Int)))
  (first|exact⟨z0,zy0,zy1⟩|exact⟨v0,u0,u1⟩|exact⟨k0,k1,k2⟩)
  (first|(go_at_call 122;refine(At.out _).mono ?_;rintro e w5 ⟨rfl,hb5⟩;have hc5:Chg noB wq w5:=((Chg.refl _ wq).drew).trans (Chg.of_below hb5);have v0:=box_keep hc5 (λh=>h) z0;have u0:=box_keep hc5 (λh=>h) zy0;have u1:=box_keep hc5 (λh=>h) zy1)|(go_at_call 141;refine(Wr.out _ (Hcq.out.trans hc5)).mono ?_;rintro e w1 ⟨rfl,hm1,hc1⟩;have hc1':Chg (MemSet I.bm I.bw) wq w1:=(hc5.mono (λ_ _ h=>h.elim)).trans hc1;have k0:=box_keep hc1' S2.out z0;have k1:=box_keep hc1' Nb.out zy0;have k2:=box_keep hc1' Nb.out zy1))
 have h1:=W1.out w1 ((Hcq.out.mono (λ_ _ h=>h.elim)).trans hc1') hm1
 have SE:=Lib.hid (SET.out _ h1)
 clear hm1 hc1 hc1' hc5 hb5 v0 u0 u1 k0 k1 k2 z0 zy0 zy1 Wr W1 Hcq
 by_cases hs0:sv=0
 ·have N0:=Lib.hid (λu v bl h1 h2 h3=>NT.out u v bl hs0 h1 h2 h3)
  clear NT
  subst hs0
  go_upto_region 7 with(go_at_call 188;refine SE.out.mono ?_;rintro e w2 ⟨rfl,hb2⟩)
  have h2:=h1.gr hb2
  have hw2:=h2.world
  obtain⟨mk2,hwb2,_,_⟩:=hw2.blk
  have n0:w2.cell? ⟨bm,0,none⟩=some (.int .i64 (b:Int)):=by rw [cell_blk h2.way.blk];rfl
  have n1:w2.cell? ⟨bm,1,none⟩=some (.int .i64 (m:Int)):=by rw [cell_blk h2.way.blk];rfl
  have n2:w2.cell? ⟨I.bW,1,none⟩=some (.int .i64 (nw:Int)):=by rw [cell_blk hwb2,<-Hda.out];exact world_now
  have lb2:=blk_lt h2.way.blk
  have lW2:=blk_lt hwb2
  have H2:=Lib.hid h2
  clear h1 h2 hw2 hwb2 hb2 SE W2
  have dd0:w2.drew.cell? ⟨bm,0,none⟩=some (.int .i64 (b:Int)):=n0
  have dd1:w2.drew.cell? ⟨bm,1,none⟩=some (.int .i64 (m:Int)):=n1
  have dd2:w2.drew.cell? ⟨I.bW,1,none⟩=some (.int .i64 (nw:Int)):=n2
  refine wp_region_held_drew (S:=(λu=>u.cell? ⟨bm,0,none⟩=some (.int .i64 (b:Int))/\u.cell? ⟨bm,1,none⟩=some (.int .i64 (m:Int))/\u.cell? ⟨I.bW,1,none⟩=some (.int .i64 (nw:Int)))) (by kernel_rfl) ?_ (λhHeld=>?_)
  ·(with_reducible exact⟨dd0,dd1,dd2⟩)
  refine wpAnyH_take (i:=0) (v:=?tv1) rfl (by kernel_rfl) (by kernel_rfl) (by kernel_rfl) (λ_ _ _ h=>h) (Or.inl ⟨by rfl,?th1⟩) (by assumption) ?tr1
  (case th1=>(intro w hSw;go_simp;with_reducible rfl))
  (simp only [Act.put,zq1,zq2,zq3,zq4,zq5,zq6])
  refine wpAnyH_take (i:=1) (v:=?tv2) rfl (by kernel_rfl) (by kernel_rfl) (by kernel_rfl) (λ_ _ _ h=>h) (Or.inl ⟨by rfl,?th2⟩) (by assumption) ?tr2
  (case th2=>(intro w hSw;go_simp;with_reducible rfl))
  (simp only [Act.put,zq1,zq2,zq3,zq4,zq5,zq6])
  refine wpAnyH_take (i:=2) (v:=?tv3) rfl (by kernel_rfl) (by kernel_rfl) (by kernel_rfl) (λ_ _ _ h=>h) (Or.inl ⟨by rfl,?th3⟩) (by assumption) ?tr3
  (case th3=>(intro w hSw;go_simp;with_reducible rfl))
  (simp only [Act.put,zq1,zq2,zq3,zq4,zq5,zq6])
  refine wpAnyH_take (i:=3) (v:=?tv4) rfl (by kernel_rfl) (by kernel_rfl) (by kernel_rfl) (λ_ _ _ h=>h) (Or.inl ⟨by rfl,?th4⟩) (by assumption) ?tr4
  (case th4=>(intro w hSw;go_simp;with_reducible rfl))
  (simp only [Act.put,zq1,zq2,zq3,zq4,zq5,zq6])
  refine wpAnyH_take (i:=4) (v:=?tv5) rfl (by kernel_rfl) (by kernel_rfl) (by kernel_rfl) (λ_ _ _ h=>h) (Or.inl ⟨by rfl,?th5⟩) (by assumption) ?tr5
  (case th5=>(intro w hSw;go_simp;with_reducible rfl))
  (simp only [Act.put,zq1,zq2,zq3,zq4,zq5,zq6])
  refine wpAnyH_take (i:=5) (v:=?tv6) rfl (by kernel_rfl) (by kernel_rfl) (by kernel_rfl) (λ_ _ _ h=>h) (Or.inl ⟨by rfl,?th6⟩) (by assumption) ?tr6
  (case th6=>(intro w hSw;go_simp;with_reducible rfl))
  (simp only [Act.put,zq1,zq2,zq3,zq4,zq5,zq6])
  refine wpAnyH_take (i:=6) (v:=?tv7) rfl (by kernel_rfl) (by kernel_rfl) (by kernel_rfl) (λ_ _ _ h=>h) (Or.inl ⟨by rfl,?th7⟩) (by assumption) ?tr7
  (case th7=>(intro w hSw;go_simp;with_reducible rfl))
  (simp only [Act.put,zq1,zq2,zq3,zq4,zq5,zq6])
  refine wpAnyH_take (i:=8) (v:=?tv8) rfl (by kernel_rfl) (by kernel_rfl) (by kernel_rfl) (λ_ _ _ h=>h) (Or.inl ⟨by rfl,?th8⟩) (by assumption) ?tr8
  (case th8=>(intro w hSw;go_simp;with_reducible rfl))
  (simp only [Act.put,zq1,zq2,zq3,zq4,zq5,zq6])
  refine wpAnyH_take (i:=9) (v:=?tv9) rfl (by kernel_rfl) (by kernel_rfl) (by kernel_rfl) (λ_ _ _ h=>h) (Or.inl ⟨by rfl,?th9⟩) (by assumption) ?tr9
  (case th9=>(intro w hSw;go_simp;with_reducible rfl))
  (simp only [Act.put,zq1,zq2,zq3,zq4,zq5,zq6])
  refine wpAnyH_take (i:=10) (v:=?tv10) rfl (by kernel_rfl) (by kernel_rfl) (by kernel_rfl) (λ_ _ _ h=>h) (Or.inl ⟨by rfl,?th10⟩) (by assumption) ?tr10
  (case th10=>(intro w hSw;go_simp;with_reducible rfl))
  (simp only [Act.put,zq1,zq2,zq3,zq4,zq5,zq6])
  refine wpAnyH_take (i:=11) (v:=?tv11) rfl (by kernel_rfl) (by kernel_rfl) (by kernel_rfl) (λ_ _ _ h=>h) (Or.inl ⟨by rfl,?th11⟩) (by assumption) ?tr11
  (case th11=>(intro w hSw;go_simp;with_reducible rfl))
  (simp only [Act.put,zq1,zq2,zq3,zq4,zq5,zq6])
  refine wpAnyH_ready (rs:=[7,12]) (by kernel_rfl) (by simp) ?_
  refine AllReadyH.cons rfl (λK hK=>?_) (AllReadyH.cons rfl (λK hK=>?_) (AllReadyH.nil))
  go_simp
  ((go_at_call 122;refine(At.out _).mono ?_;rintro e w5 ⟨rfl,hb5⟩;have hb25:Below w2.heap.size w2 w5:=(by exact undrew hb5);have u0:=(hb25.cell (p:=⟨bm,0,none⟩) lb2).trans n0;have u1:=(hb25.cell (p:=⟨bm,1,none⟩) lb2).trans n1;have u2:=(hb25.cell (p:=⟨I.bW,1,none⟩) lW2).trans n2;have l5:bm<w5.heap.size:=Nat.lt_of_lt_of_le lb2 hb25.size;have lW5:I.bW<w5.heap.size:=Nat.lt_of_lt_of_le lW2 hb25.size))
  refine hK.out _ _ ?_ (λhHeld=>?_)
  ·(with_reducible exact⟨u0,u1,u2⟩)
  clear hK K
  refine wpAnyH_ready (rs:=[12]) (by kernel_rfl) (by simp) ?_
  refine AllReadyH.cons rfl (λK hK=>?_) AllReadyH.nil
  go_simp
  refine hK.out _ _ ?_ (λhHeld=>?_)
  ·(exact⟨((Gr.new w5 _).cell l5).trans u0,((Gr.new w5 _).cell l5).trans u1,((Gr.new w5 _).cell lW5).trans u2⟩)
  clear hK K
  refine wpAnyH_ready (rs:=[13]) (by kernel_rfl) (by simp) ?_
  refine AllReadyH.cons rfl (λK hK=>?_) AllReadyH.nil
  go_simp
  ((go_at_call 193;((with_reducible refine(N0.out w2 _ w5.heap.size H2.out (Gr.trans hb25 (Gr.new _ _)) (heap_alloc_new _ _)).mono ?_));rintro e w6 ⟨rfl,h6⟩;have m0:w6.cell? ⟨bm,0,none⟩=some (.int .i64 (b:Int)):=(by rw [cell_blk h6.way.blk];rfl);have m1:w6.cell? ⟨bm,1,none⟩=some (.int .i64 (m:Int)):=(by rw [cell_blk h6.way.blk];rfl);have m2:w6.cell? ⟨I.bW,1,none⟩=some (.int .i64 (nw:Int)):=(by obtain⟨mk6,hwb6,_,_⟩:=h6.world.blk;rw [cell_blk hwb6,<-Hdb.out];exact world_now)))
  refine hK.out _ _ ?_ (λhHeld=>?_)
  ·(with_reducible exact⟨m0,m1,m2⟩)
  clear hK K
  refine wpAnyH_done (by kernel_rfl) ?_ _
  rotate_left
  go_simp
  refine hK.out _ _ ?_ (λhHeld=>?_)
  ·(exact⟨(((Gr.new w2 _).drew).cell lb2).trans n0,(((Gr.new w2 _).drew).cell lb2).trans n1,(((Gr.new w2 _).drew).cell lW2).trans n2⟩)
  clear hK K
  refine wpAnyH_ready (rs:=[7]) (by kernel_rfl) (by simp) ?_
  refine AllReadyH.cons rfl (λK hK=>?_) AllReadyH.nil
  go_simp
  ((go_at_call 122;refine(At.out _).mono ?_;rintro e w5 ⟨rfl,hb5⟩;have hb25:Below w2.heap.size w2 w5:=(by exact Gr.trans (Gr.new w2 _) (undrew hb5));have u0:=(hb25.cell (p:=⟨bm,0,none⟩) lb2).trans n0;have u1:=(hb25.cell (p:=⟨bm,1,none⟩) lb2).trans n1;have u2:=(hb25.cell (p:=⟨I.bW,1,none⟩) lW2).trans n2;have l5:bm<w5.heap.size:=Nat.lt_of_lt_of_le lb2 hb25.size;have lW5:I.bW<w5.heap.size:=Nat.lt_of_lt_of_le lW2 hb25.size))
  refine hK.out _ _ ?_ (λhHeld=>?_)
  ·(with_reducible exact⟨u0,u1,u2⟩)
  clear hK K
  refine wpAnyH_ready (rs:=[13]) (by kernel_rfl) (by simp) ?_
  refine AllReadyH.cons rfl (λK hK=>?_) AllReadyH.nil
  go_simp
  ((go_at_call 193;((with_reducible refine(N0.out w2 _ w2.heap.size H2.out hb25 (((undrew hb5).block _ (by simp)).trans (heap_alloc_new _ _))).mono ?_));rintro e w6 ⟨rfl,h6⟩;have m0:w6.cell? ⟨bm,0,none⟩=some (.int .i64 (b:Int)):=(by rw [cell_blk h6.way.blk];rfl);have m1:w6.cell? ⟨bm,1,none⟩=some (.int .i64 (m:Int)):=(by rw [cell_blk h6.way.blk];rfl);have m2:w6.cell? ⟨I.bW,1,none⟩=some (.int .i64 (nw:Int)):=(by obtain⟨mk6,hwb6,_,_⟩:=h6.world.blk;rw [cell_blk hwb6,<-Hdb.out];exact world_now)))
  refine hK.out _ _ ?_ (λhHeld=>?_)
  ·(with_reducible exact⟨m0,m1,m2⟩)
  clear hK K
  refine wpAnyH_done (by kernel_rfl) ?_ _
  all_goals
   clear hb5 hb25 u0 u1 u2 l5 lW5 n0 n1 n2 lb2 lW2 H2 N0 m0 m1 m2 dd0 dd1 dd2
   have hbu:=h6.way.blk
   have q9:(w6).cell? ⟨bm,9,none⟩=some (.int .i64 (j:Int)):=by rw [cell_blk hbu,<-Hj.out];rfl
   have qf:=frozen_blk hbu 9
   obtain⟨w4,hw4⟩:∃ w4,w4=(w6).setCell ⟨bm,9,none⟩ (.int .i64 ((j:Int) - 1)):=⟨_,rfl⟩
   have hc4:Chg (λk=>k=bm) (w6) w4:=by rw [hw4];exact(Chg.refl (λk=>k=bm) (w6)).setCell (by exact .inl rfl) _
   have h4:=h6.put (rest2:=wrRest x.v x.up j kv) hc4 (by rw [hw4,blk_set hbu];rfl)
   have S4:=Lib.hid (SK.out _ h4)
   have Hw4:=Lib.hid hw4
   clear hbu hw4 hc4 h4
   go_upto_region 9 with fail
   rw [<-Hw4.out]
   clear q9 qf Hw4
   go_upto_region 12 with(go_at_call 128;refine S4.out.mono ?_;rintro e w7 ⟨rfl,h7⟩)
   clear S4
   have hx:=TL.out _ _ h7
   have hbx:=h7.way.blk
   have c8:(w7).cell? ⟨bm,8,none⟩=some (.bool X.up):=by rw [cell_blk hbx];rfl
   have c9:(w7).cell? ⟨bm,9,none⟩=some (.int .i64 ((X.nx:Int) - 1)):=by rw [cell_blk hbx];rfl
   have c10:(w7).cell? ⟨bm,10,none⟩=some kv:=by rw [cell_blk hbx];rfl
   have g10:=frozen_blk hbx 10
   have lbx:=blk_lt hbx
   obtain⟨up9,hup9⟩:∃ up9,up9=X.up:=⟨_,rfl⟩
   obtain⟨nx9,hnx9⟩:∃ nx9,nx9=X.nx:=⟨_,rfl⟩
   rw [<-hup9] at c8
   rw [<-hnx9] at c9
   have hdone:X.done=(up9 && decide (nx9=0)):=by rw [hup9,hnx9];rfl
   rw [hdone] at hx
   obtain⟨hx1,hx2⟩:=hx
   clear hbx hup9 hnx9 hdone h7
   cases up9 with
   | false=>
    obtain⟨f1,f2⟩:=hx1 rfl
    have F1:=Lib.hid f1;have F2:=Lib.hid f2
    clear f1 f2 hx1 hx2
    go_wp2
    go_ret
    exact⟨by rw [F2.out];rfl,F1.out⟩
   | true=>
    by_cases h0:nx9=0
    ·subst h0
     obtain⟨k1,f2⟩:=hx2 rfl
     have K1:=Lib.hid k1;have F2:=Lib.hid f2
     clear k1 f2 hx1 hx2
     have c9':(w7).cell? ⟨bm,9,none⟩=some (.int .i64 (-1)):=c9
     clear c9
     go_wp2_with (go_at_call 187;refine K1.out.mono ?_;rintro e w8 ⟨va,vn,vc,rfl,hb8,f1⟩;have e8:=(hb8.cell (p:=⟨bm,10,none⟩) lbx).trans c10;have ef:=(hb8.frozen (p:=⟨bm,10,none⟩) lbx).trans g10;have F1:=Lib.hid f1;clear f1)
     go_ret
     exact⟨by rw [F2.out];rfl,F1.out⟩
    ·obtain⟨f1,f2⟩:=hx1 (by simp [h0])
     have F1:=Lib.hid f1;have F2:=Lib.hid f2
     have l9:(0:Int)<=(nx9:Int) - 1:=by omega
     clear f1 f2 hx1 hx2
     go_wp2
     go_ret
     exact⟨by rw [F2.out];rfl,F1.out⟩
 ·have l4:(sv == 0)=false:=by simp [hs0]
  go_upto_region 8 with(go_at_call 188;refine SE.out.mono ?_;rintro e w2 ⟨rfl,hb2⟩)
  have h6:=W2.out w1 w2 hs0 h1 hb2
  clear h1 hb2 SE W2 NT
  have hbu:=h6.way.blk
  have q9:(w2).cell? ⟨bm,9,none⟩=some (.int .i64 (j:Int)):=by rw [cell_blk hbu,<-Hj.out];rfl
  have qf:=frozen_blk hbu 9
  obtain⟨w4,hw4⟩:∃ w4,w4=(w2).setCell ⟨bm,9,none⟩ (.int .i64 ((j:Int) - 1)):=⟨_,rfl⟩
  have hc4:Chg (λk=>k=bm) (w2) w4:=by rw [hw4];exact(Chg.refl (λk=>k=bm) (w2)).setCell (by exact .inl rfl) _
  have h4:=h6.put (rest2:=wrRest x.v x.up j kv) hc4 (by rw [hw4,blk_set hbu];rfl)
  have S4:=Lib.hid (SK.out _ h4)
  have Hw4:=Lib.hid hw4
  clear hbu hw4 hc4 h4
  go_upto_region 9 with fail
  rw [<-Hw4.out]
  clear q9 qf Hw4
  go_upto_region 12 with(go_at_call 128;refine S4.out.mono ?_;rintro e w7 ⟨rfl,h7⟩)
  clear S4
  have hx:=TL.out _ _ h7
  have hbx:=h7.way.blk
  have c8:(w7).cell? ⟨bm,8,none⟩=some (.bool X.up):=by rw [cell_blk hbx];rfl
  have c9:(w7).cell? ⟨bm,9,none⟩=some (.int .i64 ((X.nx:Int) - 1)):=by rw [cell_blk hbx];rfl
  have c10:(w7).cell? ⟨bm,10,none⟩=some kv:=by rw [cell_blk hbx];rfl
  have g10:=frozen_blk hbx 10
  have lbx:=blk_lt hbx
  obtain⟨up9,hup9⟩:∃ up9,up9=X.up:=⟨_,rfl⟩
  obtain⟨nx9,hnx9⟩:∃ nx9,nx9=X.nx:=⟨_,rfl⟩
  rw [<-hup9] at c8
  rw [<-hnx9] at c9
  have hdone:X.done=(up9 && decide (nx9=0)):=by rw [hup9,hnx9];rfl
  rw [hdone] at hx
  obtain⟨hx1,hx2⟩:=hx
  clear hbx hup9 hnx9 hdone h7
  cases up9 with
  | false=>
   obtain⟨f1,f2⟩:=hx1 rfl
   have F1:=Lib.hid f1;have F2:=Lib.hid f2
   clear f1 f2 hx1 hx2
   go_wp2
   go_ret
   exact⟨by rw [F2.out];rfl,F1.out⟩
  | true=>
   by_cases h0:nx9=0
   ·subst h0
    obtain⟨k1,f2⟩:=hx2 rfl
    have K1:=Lib.hid k1;have F2:=Lib.hid f2
    clear k1 f2 hx1 hx2
    have c9':(w7).cell? ⟨bm,9,none⟩=some (.int .i64 (-1)):=c9
    clear c9
    go_wp2_with (go_at_call 187;refine K1.out.mono ?_;rintro e w8 ⟨va,vn,vc,rfl,hb8,f1⟩;have e8:=(hb8.cell (p:=⟨bm,10,none⟩) lbx).trans c10;have ef:=(hb8.frozen (p:=⟨bm,10,none⟩) lbx).trans g10;have F1:=Lib.hid f1;clear f1)
    go_ret
    exact⟨by rw [F2.out];rfl,F1.out⟩
   ·obtain⟨f1,f2⟩:=hx1 (by simp [h0])
    have F1:=Lib.hid f1;have F2:=Lib.hid f2
    have l9:(0:Int)<=(nx9:Int) - 1:=by omega
    clear f1 f2 hx1 hx2
    go_wp2
    go_ret
    exact⟨by rw [F2.out];rfl,F1.out⟩
theorem wr_step (x:WrD) (hw:WorldAt w Mut I N wd) (h:WayAt w bm (wrRest x.v x.up x.nx kv) T b m p x.y tv) (hkv:Lst w Mut kv x.ky) (hB:∀ k,WayB bm tv k->Mut k/\¬ WSet I k) (hok:WrOk m x) (hm:m<=12) (hb9:b+2^m<=1000000) (hT:TrOk wd) (hnow:wd.now<=1000000) (hlast:x.y.last<=1000000) (hp:p<16) (hc:wd.mem.c.all+1<1000000000000) (hN:N+1<1000000000) (hl:if x.up=true then 1<=x.nx else 0<x.y.left) :
  Calls Try.prog 192 #[.pointer (some ⟨bm,0,none⟩),.pointer (some ⟨I.bW,0,none⟩)] w λe w'=>e=.returned (.bool (wrStep b p wd x).2.2)/\WrTo w w' Mut I (N+1) (wrStep b p wd x).1 bm T b m p tv (wrStep b p wd x).2.1:=by
 cases hu:x.up with
 | true=>rw [hu,if_pos rfl] at hl;exact wr_step_up x hw h hkv hB hok hm hb9 hT hnow hlast hp hc hN hu hl
 | false=>rw [hu,if_neg Bool.false_ne_true] at hl;exact wr_step_down x hw h hkv hB hok hm hb9 hT hnow hlast hp hc hN hu hl
end
section

/- Layer 8: the tally's machines: counting. -/
open Go.RowKit
theorem int_info9:(Try.prog.info? 3).map (λi=>(i.zero,i.size,i.bytes))=some (some (.int .i64 0),1,8):=by kernel_rfl
theorem make_ints (m:Nat) (v:Int) (hv:v=(m:Int)) (hm:m<=1000000) (u:World):(Instr.makeSlice 24 (.int .i64 v) (.int .i64 v)).run Try.prog u=.ok (.slice (some ⟨u.heap.size,0,none⟩) m m) (u.alloc (.cells (Array.replicate m (Value.int .i64 0)) 3)):=by
 subst hv
 obtain⟨i0,hi,hz0,hz1,hz2⟩:=info_parts int_info9
 have h:=run_make (P:=Try.prog) u 24 3 i0 (.int .i64 0) Try.underlying24 hi hz0 .i64 .i64 (m:Int) (m:Int) (by omega) (Int.le_refl _) (by rw [hz2];omega) (by omega)
 simpa [hz1,Value.cells,madeCells_one] using h
end
section

/- Layer 8: the tally's machines: reading. -/
open Go.RowKit
end
section

/- Layer 8: the tally as the loom's object. -/
open Go.RowKit
end
section

/- Counting events of a play, in plain numbers. -/
open Go.RowKit
def cnt (P:EvD->Bool) (l:List EvD):Nat:=(l.map λe=>if P e then 1 else 0).sum
theorem cnt_nil (P:EvD->Bool):cnt P []=0:=rfl
theorem cnt_cons (P:EvD->Bool) (e:EvD) (l:List EvD):cnt P (e::l)=(if P e then 1 else 0)+cnt P l:=rfl
theorem cnt_append (P:EvD->Bool) (l m:List EvD):cnt P (l++m)=cnt P l+cnt P m:=by unfold cnt;rw [List.map_append,List.sum_append]
theorem cnt_set (P:EvD->Bool) (l:List EvD) (k:Nat) (e:EvD) (hk:k<l.length):cnt P (l.set k e)+(if P (evAt l k) then 1 else 0)=cnt P l+(if P e then 1 else 0):=sum_map_set _ l k e hk
theorem cnt_mono {P Q:EvD->Bool}:∀ {l:List EvD},(∀ i,i<l.length->P (evAt l i)=true->Q (evAt l i)=true)->cnt P l<=cnt Q l
 | [],_=>Nat.le_refl _
 | e::l,h=>by
  rw [cnt_cons,cnt_cons]
  have h1:=cnt_mono (P:=P) (Q:=Q) (l:=l) (λi hi hp=>h (i+1) (by simp;omega) hp)
  have h2:=h 0 (by simp)
  have h3:evAt (e::l) 0=e:=rfl
  rw [h3] at h2
  cases hp:P e with
  | true=>rw [h2 hp];simp;omega
  | false=>simp;omega
variable {S:Sys}
theorem From.cnt {calls:List CallD} {st:PlayD S} {q i k:Nat} {s:S.σ} {evs0:List EvD} {wd0:WD} (h:From calls st q i k s evs0 wd0) {P:EvD->Bool} (hP:∀ e,e.resp=0->P e=false) (e:EvD):cnt P (evs0.set k e)=cnt P st.evs+(if P e then 1 else 0):=by
 have h1:=cnt_set P evs0 k e h.len
 rw [hP _ h.open_] at h1
 have h2:Go.Proofs.Ytlanekkbciffcaa.cnt P evs0=Go.Proofs.Ytlanekkbciffcaa.cnt P st.evs:=by
  cases h with
  | old k s hh hk hc hr=>rfl
  | new s hh hs=>rw [cnt_append,cnt_cons,hP _ rfl,cnt_nil];simp
 rw [h2] at h1
 simpa using h1
end
section

/- Layer 6: cells as the loom's object. -/
open Go.RowKit
section
variable (w:World) (Mut:Nat->Prop) (I:WIds) (N:Nat) (wd:WD) (b bc ba:Nat) (c:CallD)
end
end
end Go.Proofs.Ytlanekkbciffcaa
