/- Layer 6: when operations took effect that have not responded: (*Player).end, of machines some of which tell it. -/
import Derived.Test.YtlanekkbciffcaaF12
set_option maxRecDepth 100000
set_option linter.unusedVariables false
set_option linter.unusedSimpArgs false
set_option linter.unnecessarySimpa false
namespace Go.Proofs.Ytlanekkbciffcaa
open Go.RowKit
variable {S:Sys} {R:Real S}
theorem cell_set_same {w:World} {p:Addr} {v v':Value} (h:w.cell? p=some v):(w.setCell p v').cell? p=some v':=by first|exact World.cell?_setCell_same _ _ _ h|exact World.cell?_setCell_same _ _ h|exact World.cell?_setCell_same _ h|exact World.cell?_setCell_same h
def LateAt (R:Real S) (o:S.ω) (wd:WD) (p:Nat) (s:S.σ):Prop:=
 (S.late o wd p s=none/\∀ w Mut B T x,R.MRep w Mut B T x p s->∀(v:Value) (u:World),(Instr.typeAssert (.iface T v) 133 160 true).run Try.prog u=.ok (.tuple #[.nilIface,.bool false]) u)∨
 (∃ l,S.late o wd p s=some l/\∀ w Mut B I N T x,WorldAt w Mut I N wd->R.MRep w Mut B T x p s->(∀(v:Value) (u:World),(Instr.typeAssert (.iface T v) 133 160 true).run Try.prog u=.ok (.tuple #[.iface T v,.bool true]) u)/\
  ∃ K recv, Meth T x "Late" K recv ∧ Calls Try.prog K #[recv, .pointer (some ⟨I.bW, 0, none⟩)] w (fun e w' => (∃ va vn vc, e = .returned (.slice va vn vc) ∧ Lst w' Mut (.slice va vn vc) l) ∧ Below w.heap.size w w'))
theorem NoLate.at (nl:NoLate R) (o:S.ω) (wd:WD) (p:Nat) (s:S.σ):LateAt R o wd p s:=.inl ⟨nl.late _ _ _ _,λw Mut B T x h=>nl.kind w Mut B T x p s h⟩
set_option maxHeartbeats 4000000 in
theorem end_late (ok:RealOk R) (calls:List CallD) (w:World) (J:PIds) (ov cv:Value) (B0:Nat) (G:PG) (st:PlayD S) (h:PlayAt R calls w J ov cv B0 G st.wd st.obj st.fin (mapH st.hands) st.evs st.idle)
  (hL:∀ p s k,p<16->st.hands.getD p (none,0)=(some s,k)->LateAt R st.obj st.wd p s) :
  Calls Try.prog 76 #[.pointer (some ⟨J.bP,0,none⟩)] w λe w'=>e=.returned (.tuple #[])/\EndTo R calls w w' J ov cv B0 G st (endD S st):=by
 have hrange:w.rangeAt J.bP 5 (flatH G.hs):=λj v hv=>by rw [cell_blk h.blk];exact flatH_get h.h1 hv
 have hflen:(flatH G.hs).length=32:=by unfold flatH;rw [flat_len,h.h1]
 have hinfo:(Try.prog.info? 136).map (·.size)=some (flatH G.hs).length:=by rw [hflen];kernel_rfl
 have h16:=h.h1
 have hst:EndTo R calls w w J ov cv B0 G st (endUpTo st 0):=⟨Chg.refl _ _,G.ers,h⟩
 have Hst:=Lib.hid hst
 have Hidx:=Lib.hid (hands_index G.hs)
 obtain⟨arr,harr⟩:∃ arr,arr=(flatH G.hs).toArray:=⟨_,rfl⟩
 rw [<-harr] at Hidx
 have Harr:=Lib.hid harr;have Hrange:=Lib.hid hrange;have Hinfo:=Lib.hid hinfo;have H16:=Lib.hid h16
 have Hmap:=Lib.hid h.h2
 clear h hrange hinfo h16 harr hst hflen
 go_enter Try.func76,Try.ntmps76
 go_wp2_with (refine wpList_load_mid rfl 136 _ rfl J.bP 5 rfl (flatH G.hs) _ Hrange.out Try.underlying136 rfl Hinfo.out ?_;rw [<-Harr.out])
 go_loopw [11] (λi wr=>∃ k:Nat,k<=16/\i=.int .i64 k/\EndTo R calls w wr J ov cv B0 G st (endUpTo st k)) (λi _=>16 - (intOf i).toNat)
 case atStart=>exact⟨0,by omega,rfl,Hst.out⟩
 case round=>
  obtain⟨k,hk,rfl,hch,ers,h⟩:=hrel
  by_cases hlt:k<16
  ·have t1:(k:Int)<16:=by omega
   have hidx:=Hidx.out k (by rw [H16.out];exact hlt) H16.out
   have hup:=endUpTo_succ st k
   have hhk:=h.hand k hlt
   rw [mapH_getD] at hhk
   obtain⟨hv,hhv⟩:∃ hv,hv=G.hs.getD k (undef,0):=⟨_,rfl⟩
   have hhk':HandRep R wr G.Mut (G.MB k) k hv ((st.hands.getD k (none,0)).1.map Mh.run,(st.hands.getD k (none,0)).2):=by rw [hhv];exact hhk
   rw [<-hhv] at hidx
   have hhv9:=hhv
   obtain⟨hv1,hv2⟩:=hv
   simp only [natV] at hidx
   clear hhk hhv
   obtain⟨hk1,hk2⟩:=hhk'
   simp only at hk1 hk2
   cases hs:(st.hands.getD k (none,0)).1 with
   | none=>
    rw [hs] at hk2
    simp only [Option.map_none] at hk2
    subst hk2
    have hnn:∀ u:World,(binOp .eql 133 .nilIface .nilIface).run Try.prog u=.ok (.bool true) u:=λu=>by first|rfl|kernel_rfl
    have hend:endUpTo st (k+1)=endUpTo st k:=by
     rw [hup];unfold endEv
     split
     ·rfl
     ·rename_i h9;rw [h9] at hs;cases hs
    have Hend:=Lib.hid hend;have Hch:=Lib.hid hch;have Hh:=Lib.hid h;have Hi2:=Lib.hid hidx
    clear hup hch h hs hk1 hidx
    go_wp2_with (refine wpList_index_v rfl 136 _ _ rfl _ (Hi2.out _) ?_)
    go_roundw
    case rel=>exact⟨k+1,by omega,by go_num,by rw [Hend.out];exact⟨Hch.out.alloc _,ers,PlayAt.grown ok Hh.out (Gr.new _ _)⟩⟩
    case measure=>simp [intOf]<;>omega
   | some s=>
    rw [hs] at hk2
    simp only [Option.map_some] at hk2
    obtain⟨T,x,rfl,hm⟩:=hk2
    have hi:hv2<(endUpTo st k).length:=by
     rw [hk1]
     have:=h.at_ k hlt (.run s) (by rw [mapH_getD,hs];rfl)
     rwa [mapH_getD] at this
    have hnn:∀ u:World,(binOp .eql 133 (.iface T x) .nilIface).run Try.prog u=.ok (.bool false) u:=λu=>by first|rfl|kernel_rfl
    have hhv0:((.iface T x,hv2):Value×Nat)=G.hs.getD k (undef,0):=hhv9
    rcases hL k s (st.hands.getD k (none,0)).2 hlt (Prod.ext hs rfl) with⟨hln,hLn⟩|⟨l,hls,hLs⟩
    ·clear hhv0
     have hkind:=hLn _ _ _ _ _ hm
     have hend:endUpTo st (k+1)=(endUpTo st k).set hv2 { (endUpTo st k).getD hv2 ev0 with key:=st.wd.marks.getD k [] }:=by
      rw [hup];unfold endEv
      split
      ·rename_i h9;rw [h9] at hs;cases hs
      ·rename_i h9
       rw [h9] at hs hk1
       simp only at hk1
       obtain rfl:=Option.some.inj hs
       rw [hln,<-hk1]
       rfl
     obtain⟨w4,hw4⟩:∃ w4,w4=wr.alloc (.cells #[.iface T x,.int .i64 (hv2:Int)] 135):=⟨_,rfl⟩
     have h4:=PlayAt.grown ok h (w':=w4) (by rw [hw4];exact Gr.new _ _)
     obtain⟨g,c,hev,hrow⟩:=PlayAt.ev_some h4 hi
     have a37:w4.cell? ⟨J.bP,37,none⟩=some (.slice (some ⟨g,0,none⟩) (endUpTo st k).length c):=by rw [cell_blk h4.blk,<-hev];exact player_ev h4.h1
     have b0:w4.cell? ⟨wr.heap.size,0,none⟩=some (.iface T x):=by rw [hw4,cell_new];rfl
     have b1:w4.cell? ⟨wr.heap.size,1,none⟩=some (.int .i64 (hv2:Int)):=by rw [hw4,cell_new];rfl
     obtain⟨n,hn⟩:∃ n,n=(endUpTo st k).length:=⟨_,rfl⟩
     rw [<-hn] at a37
     have hil:(hv2:Int)<(n:Int):=by omega
     have hgs:g<wr.heap.size:=by
      obtain⟨g9,c9,hev9,hrow9⟩:=h.eva.row.form (by omega)
      have e9:=hev9.symm.trans hev
      simp only [Value.slice.injEq,Option.some.injEq,Addr.mk.injEq] at e9
      have:=h.eva.row.lt g (by rw [hev];rfl)
      exact this.2
     have Hi2:=Lib.hid hidx
     have Hend:=Lib.hid hend;have Hch:=Lib.hid hch;have H4:=Lib.hid h4;have Hw4:=Lib.hid hw4;have Hrow:=Lib.hid hrow;have Hev:=Lib.hid hev;have Hi:=Lib.hid hi;have Hkind:=Lib.hid hkind
     clear hup hch h hs hk1 hidx hm hkind hend h4 hw4 hrow hev hi hn
     go_upto_region 4 with(refine wpList_index_v rfl 136 _ _ rfl _ (Hi2.out _) ?_)
     rw [<-Hw4.out]
     go_wp2_with fail
     go_quiet (fail)
     have H4d:=Lib.hid (PlayAt.grown ok H4.out (below_drewN (Gr.refl w4) nq))
     obtain⟨mks,hwb,hmk,hmks⟩:=H4.out.world.blk
     obtain⟨ma,mc,hmv,hmn,hmsl,hmm⟩:=hmks k hlt
     have q0:(w4.drewN nq).cell? ⟨J.bP,0,none⟩=some (.pointer (some ⟨J.W.bW,0,none⟩)):=by
      have:=cell_blk H4.out.blk 0
      exact this.trans player_w
     have qm:(w4.drewN nq).cell? ⟨J.W.bW,18+k,none⟩=some (.slice ma (st.wd.marks.getD k []).length mc):=by
      have:=cell_blk hwb (18+k)
      rw [world_mark H4.out.world.inv16 hmk hlt,hmv] at this
      exact this
     have q7:(w4.drewN nq).cell? ⟨g,hv2*8+7,none⟩=some ((ers.getD hv2 vv0).2):=(Hrow.out 7 (by omega)).1
     have q7f:(w4.drewN nq).frozen? ⟨g,hv2*8+7,none⟩=false:=(Hrow.out 7 (by omega)).2
     have c0:(w4.drewN nq).cell? ⟨wr.heap.size,0,none⟩=some (.iface T x):=b0
     have hne1:g≠wr.heap.size:=by omega
     have hne2:wr.heap.size≠g:=by omega
     have Hl:=Lib.hid (show Lst (w4.drewN nq) G.Mut (.slice ma (st.wd.marks.getD k []).length mc) (st.wd.marks.getD k []) from⟨ma,mc,rfl,(λe=>by rw [<-hmv];exact hmn e),hmsl,hmm⟩)
     obtain⟨mn,hmn2⟩:∃ mn,mn=(st.wd.marks.getD k []).length:=⟨_,rfl⟩
     rw [<-hmn2] at qm Hl
     have hgB:B0<=g:=(H4.out.eva.row.lt g (by rw [Hev.out];rfl)).1
     clear hwb hmk hmks hmv hmn hmsl hmm hmn2 a37 b0 b1
     go_wp2_with (refine wpList_assert_v rfl _ _ _ _ rfl _ (Hkind.out _ _) ?_)
     go_roundw
     case rel=>
      obtain⟨ers',_,hk⟩:=PlayAt.keyed ok H4d.out Hi.out Hev.out Hl.out
      refine⟨k+1,by omega,by go_num,?_⟩
      rw [Hend.out]
      exact⟨((by rw [Hw4.out];exact Hch.out.alloc _:Chg (λb=>G.ev.ownBlock=some b) w w4).drewN nq).setCell (by exact .inl (congrArg Value.ownBlock Hev.out)) _,ers',hk⟩
     case measure=>simp [intOf]<;>omega
    ·have hend:endUpTo st (k+1)=(endUpTo st k).set hv2 { (endUpTo st k).getD hv2 ev0 with key:=l }:=by
      rw [hup];unfold endEv
      split
      ·rename_i h9;rw [h9] at hs;cases hs
      ·rename_i h9
       rw [h9] at hs hk1
       simp only at hk1
       obtain rfl:=Option.some.inj hs
       rw [hls,<-hk1]
       rfl
     obtain⟨w4,hw4⟩:∃ w4,w4=wr.alloc (.cells #[.iface T x,.int .i64 (hv2:Int)] 135):=⟨_,rfl⟩
     have h4:=PlayAt.grown ok h (w':=w4) (by rw [hw4];exact Gr.new _ _)
     obtain⟨g,c,hev,hrow⟩:=PlayAt.ev_some h4 hi
     have a37:w4.cell? ⟨J.bP,37,none⟩=some (.slice (some ⟨g,0,none⟩) (endUpTo st k).length c):=by rw [cell_blk h4.blk,<-hev];exact player_ev h4.h1
     have b0:w4.cell? ⟨wr.heap.size,0,none⟩=some (.iface T x):=by rw [hw4,cell_new];rfl
     have b1:w4.cell? ⟨wr.heap.size,1,none⟩=some (.int .i64 (hv2:Int)):=by rw [hw4,cell_new];rfl
     obtain⟨n,hn⟩:∃ n,n=(endUpTo st k).length:=⟨_,rfl⟩
     rw [<-hn] at a37
     have hil:(hv2:Int)<(n:Int):=by omega
     have hgs:g<wr.heap.size:=by
      obtain⟨g9,c9,hev9,hrow9⟩:=h.eva.row.form (by omega)
      have e9:=hev9.symm.trans hev
      simp only [Value.slice.injEq,Option.some.injEq,Addr.mk.injEq] at e9
      have:=h.eva.row.lt g (by rw [hev];rfl)
      exact this.2
     have Hi2:=Lib.hid hidx
     have Hend:=Lib.hid hend;have Hch:=Lib.hid hch;have H4:=Lib.hid h4;have Hw4:=Lib.hid hw4;have Hrow:=Lib.hid hrow;have Hev:=Lib.hid hev;have Hi:=Lib.hid hi;have Hs:=Lib.hid hs;have Hhv:=Lib.hid hhv0;have HLs:=Lib.hid hLs
     clear hup hch h hs hk1 hidx hm hend h4 hLs hhv0 hw4 hrow hev hi hn
     go_upto_region 4 with(refine wpList_index_v rfl 136 _ _ rfl _ (Hi2.out _) ?_)
     rw [<-Hw4.out]
     go_wp2_with fail
     go_quiet (fail)
     have H4d:=Lib.hid (PlayAt.grown ok H4.out (below_drewN (Gr.refl w4) nq))
     obtain⟨mks,hwb,hmk,hmks⟩:=H4.out.world.blk
     obtain⟨ma,mc,hmv,hmn,hmsl,hmm⟩:=hmks k hlt
     have q0:(w4.drewN nq).cell? ⟨J.bP,0,none⟩=some (.pointer (some ⟨J.W.bW,0,none⟩)):=by
      have:=cell_blk H4.out.blk 0
      exact this.trans player_w
     have qm:(w4.drewN nq).cell? ⟨J.W.bW,18+k,none⟩=some (.slice ma (st.wd.marks.getD k []).length mc):=by
      have:=cell_blk hwb (18+k)
      rw [world_mark H4.out.world.inv16 hmk hlt,hmv] at this
      exact this
     have q7:(w4.drewN nq).cell? ⟨g,hv2*8+7,none⟩=some ((ers.getD hv2 vv0).2):=(Hrow.out 7 (by omega)).1
     have q7f:(w4.drewN nq).frozen? ⟨g,hv2*8+7,none⟩=false:=(Hrow.out 7 (by omega)).2
     have c0:(w4.drewN nq).cell? ⟨wr.heap.size,0,none⟩=some (.iface T x):=b0
     have hne1:g≠wr.heap.size:=by omega
     have hne2:wr.heap.size≠g:=by omega
     have Hl:=Lib.hid (show Lst (w4.drewN nq) G.Mut (.slice ma (st.wd.marks.getD k []).length mc) (st.wd.marks.getD k []) from⟨ma,mc,rfl,(λe=>by rw [<-hmv];exact hmn e),hmsl,hmm⟩)
     obtain⟨mn,hmn2⟩:∃ mn,mn=(st.wd.marks.getD k []).length:=⟨_,rfl⟩
     rw [<-hmn2] at qm Hl
     have hgB:B0<=g:=(H4.out.eva.row.lt g (by rw [Hev.out];rfl)).1
     clear hwb hmk hmks hmv hmn hmsl hmm hmn2 a37 b0 b1
     go_upto_region 6 with fail
     obtain⟨w5,hw5⟩:∃ w5,w5=(w4.drewN nq).setCell ⟨g,hv2*8+7,none⟩ (.slice ma mn mc):=⟨_,rfl⟩
     obtain⟨ers',_,h5⟩:=PlayAt.keyed ok H4d.out Hi.out Hev.out Hl.out
     rw [<-hw5] at h5 ⊢
     have hch5:Chg (λb=>G.ev.ownBlock=some b) w w5:=by
      rw [hw5]
      exact((by rw [Hw4.out];exact Hch.out.alloc _:Chg (λb=>G.ev.ownBlock=some b) w w4).drewN nq).setCell (by exact .inl (congrArg Value.ownBlock Hev.out)) _
     have h5d:=PlayAt.grown ok h5 (Gr.refl w5).drew
     have hhk5:=h5d.hand k hlt
     rw [mapH_getD] at hhk5
     have hhk6:HandRep R w5.drew G.Mut (G.MB k) k (.iface T x,hv2) ((st.hands.getD k (none,0)).1.map Mh.run,(st.hands.getD k (none,0)).2):=by rw [Hhv.out];exact hhk5
     obtain⟨hdead,hk7⟩:=hhk6
     clear hdead
     simp only at hk7
     rw [Hs.out] at hk7
     simp only [Option.map_some] at hk7
     obtain⟨T9,x9,e9,hm5⟩:=hk7
     obtain⟨rfl,rfl⟩:T=T9/\x=x9:=by
      simp only [Value.iface.injEq] at e9;exact e9
     obtain⟨hkd,K,recv,hM,hC⟩:=HLs.out w5.drew G.Mut (G.MB k) J.W _ T x h5d.world hm5
     have m1:=hM.ahead;have m2:=hM.meth;have m3:=hM.enter
     have HC:=Lib.hid hC;have Hkind:=Lib.hid hkd;have H5:=Lib.hid h5;have Hch5:=Lib.hid hch5
     have c5:w5.cell? ⟨wr.heap.size,0,none⟩=some (.iface T x):=by rw [hw5,World.cell?_setCell_other _ _ _ _ (by(simp;done))];exact c0
     have q5:w5.cell? ⟨J.bP,0,none⟩=some (.pointer (some ⟨J.W.bW,0,none⟩)):=(cell_blk h5.blk 0).trans player_w
     have r7:w5.cell? ⟨g,hv2*8+7,none⟩=some (.slice ma mn mc):=by rw [hw5];exact cell_set_same q7
     have r7f:w5.frozen? ⟨g,hv2*8+7,none⟩=false:=by rw [hw5,World.frozen?_setCell];exact q7f
     have lg5:g<w5.heap.size:=World.block_lt_of_cell? _ _ r7
     clear hM hC hkd h5 h5d hch5 hhk5 hm5 e9 hw5 q0 qm q7 q7f c0
     have hgP:g≠J.bP:=λe=>H5.out.psep.2.2.1 (by rw [show({ G with ers:=ers' }:PG).ev=G.ev from rfl,Hev.out,e];rfl)
     have hPg:J.bP≠g:=Ne.symm hgP
     have lbP:=World.block_lt_of_cell? _ _ q5
     have q5d:w5.drew.cell? ⟨J.bP,0,none⟩=some (.pointer (some ⟨J.W.bW,0,none⟩)):=q5
     go_upto_region 8 with(refine wpList_assert_v rfl _ _ _ _ rfl _ (Hkind.out _ _) ?_)
     go_region_held3 (λu=>u.cell? ⟨J.bP,0,none⟩=some (.pointer (some ⟨J.W.bW,0,none⟩)))
      (first|exact q5d|exact q6|exact(World.cell?_setCell_other _ _ _ _ (by simp [hgP])).trans q6)
      ((refine HC.out.mono ?_;rintro e w6 ⟨⟨va,vn,vc,rfl,hlv⟩,hb6⟩;replace hb6:=undrew hb6;have q6:w6.cell? ⟨J.bP,0,none⟩=some (.pointer (some ⟨J.W.bW,0,none⟩)):=(hb6.cell (p:=⟨J.bP,0,none⟩) lbP).trans q5;have y7:w6.cell? ⟨g,hv2*8+7,none⟩=some (.slice ma mn mc):=(hb6.cell (p:=⟨g,hv2*8+7,none⟩) lg5).trans r7;have y7f:w6.frozen? ⟨g,hv2*8+7,none⟩=false:=(hb6.frozen (p:=⟨g,hv2*8+7,none⟩) lg5).trans r7f))
     have h6:=PlayAt.grown ok H5.out hb6
     have hlv6:Lst w6 G.Mut (.slice va vn vc) l:=hlv
     obtain⟨ers2,_,h7⟩:=PlayAt.keyed ok h6 (k:=hv2) (by rw [List.length_set];exact Hi.out) (by exact Hev.out) hlv6
     rw [List.set_set,getD_set_eq Hi.out] at h7
     have H7:=Lib.hid h7
     have Hb6:=Lib.hid hb6
     clear h6 h7 hlv hlv6 hb6
     go_wp2_with fail
     go_roundw
     case rel=>
      refine⟨k+1,by omega,by go_num,?_⟩
      rw [Hend.out]
      exact⟨(Hch5.out.trans (Chg.of_below Hb6.out)).setCell (by exact .inl (congrArg Value.ownBlock Hev.out)) _,ers2,H7.out⟩
     case measure=>simp [intOf]<;>omega
  ·have t1:¬ (k:Int)<16:=by omega
   obtain rfl:k=16:=by omega
   have Hch:=Lib.hid hch;have Hh:=Lib.hid h
   clear hch h
   go_wp2
   go_end0
   exact⟨rfl,Hch.out,ers,Hh.out⟩
end Go.Proofs.Ytlanekkbciffcaa
