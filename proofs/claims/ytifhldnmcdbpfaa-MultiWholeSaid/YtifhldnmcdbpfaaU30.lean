/- Layer 16: the steps of one that scans. -/
import Derived.Test.YtifhldnmcdbpfaaU29
import Derived.Test.YtifhldnmcdbpfaaU23
import Derived.BigRegion
set_option maxRecDepth 100000
set_option linter.unusedVariables false
set_option linter.unusedSimpArgs false
set_option linter.unnecessarySimpa false
namespace Go.Proofs.Ytifhldnmcdbpfaa
open List renaming getElem_toArray → zq1, getElem_cons_zero → zq2, getElem_cons_succ → zq3, setIfInBounds_toArray → zq4, set_cons_zero → zq5, set_cons_succ → zq6
section
open Go.RowKit
section
variable {w' w'':World} {Mut:Nat->Prop} {I:eO} {N:Nat} {wd':WD} {Bk:Nat->Prop}
theorem jR.toAt (h:jR w' Mut I N wd' Bk):aT w' Mut I N wd':=by
 obtain⟨w1,S,h1,h2,h3,_⟩:=h
 exact jT h1 h2 h3
theorem jR.up (h:jR w' Mut I N wd' Bk) {Mut':Nat->Prop} (hm:∀ b,Mut' b->Mut b∨Bk b) (hl:∀ b,Mut' b->b<w'.heap.size) (hW:∀ b,bC I b->Mut' b):aT w' Mut' I N wd':=by
 obtain⟨w1,S,h1,h2,h3,h4⟩:=h
 refine h1.keep h2 (λb hb=>(h3 b hb).1) (λb hb=>(h3 b hb).2) (λb hb=>?_) hl hW
 rcases hm b hb with h|h
 ·exact .inl h
 ·exact h4 b h
theorem jR.go (h:jR w' Mut I N wd' Bk) {S':Nat->Prop} (hc:Chg S' w' w'') (hS:∀ b,S' b->Mut b/\¬ bC I b):jR w'' Mut I N wd' Bk:=by
 obtain⟨w1,S,h1,h2,h3,h4⟩:=h
 exact⟨w1,λb=>S b∨S' b,h1,(h2.mono (λ_ _ h=>.inl h)).trans (hc.mono (λ_ _ h=>.inr h)),λb hb=>hb.elim (h3 b) (hS b),h4⟩
end
def BD (bs:Nat) (kv:Value):Array Value:=#[.pointer (some ⟨bs,0,none⟩),kv]
def IR (w w':World) (Mut:Nat->Prop) (I:eO) (N:Nat) (wd:WD) (m q b bs bP:Nat) (v:MuV) (kv:Value) (s:MuD) (e:Ending):Prop:=
 e=.returned (.bool (aS (bJ m q wd s)))/\Chg (λk=>bC I k∨k=b∨MuB bs v k) w w'/\∃ v' kv',jR w' Mut I N (jJ wd s) (MuB bs v')/\w'.heap[b]?=some (.cells (BD bs kv') 223 (0,0))/\MuAt w' bs bP v' (bJ m q wd s)/\(∀ j,MuB bs v' j->(MuB bs v j∨w.heap.size<=j)/\j≠b)/\
   (if aS (bJ m q wd s)=true then Lst w' Mut kv' [2*(bJ m q wd s).moment,2*(wd.now:Int)] else kv'=kv)
set_option maxHeartbeats 8000000 in
theorem IZ (n m q bU:Nat) (hm1:1<=m) (dF:m<=16) (hq:1<=q) (dQ:q<=64) (w:World) (Mut:Nat->Prop) (I:eO) (N:Nat) (wd:WD) (b bs bP:Nat) (s:MuD) (v:MuV) (kv:Value) (hw:aT w Mut I N wd) (hbk:w.heap[b]?=some (.cells (BD bs kv) 223 (0,0))) (hbM:Mut b/\¬ bC I b) (hB:∀ j,MuB bs v j->Mut j/\¬ bC I j/\j≠b/\j≠bP) (h:MuAt w bs bP v s) (hPW:¬ bC I bP) (hP:w.heap[bP]?=some (.cells (jM n m q bU) 89 (0,0))) (hl:nA m q wd s) (hm:aS (bJ m q wd s)=true->0<=(bJ m q wd s).moment/\(bJ m q wd s).moment<1000000000) (hcn:wd.mem.c.all+1<1000000000000) :
  Calls Try.prog 170 #[.pointer (some ⟨b,0,none⟩),.pointer (some ⟨I.bW,0,none⟩)] w λe w'=>IR w w' Mut I N wd m q b bs bP v kv s e:=by
 have SC:=Lib.hid (mu_step n m q bU hm1 dF hq dQ w Mut I N bs bP v s wd hw (λj hj=>⟨(hB j hj).1,(hB j hj).2.1⟩) h hP (λe=>(hB _ e).2.2.2 rfl) hPW hcn hl)
 have y0:w.cell? ⟨b,0,none⟩=some (.pointer (some ⟨bs,0,none⟩)):=by rw [aA hbk];rfl
 have hblt:=aH hbk
 have hsb:bs≠b:=(hB bs (.inl rfl)).2.2.1
 have Hw:=Lib.hid hw;have Hbk:=Lib.hid hbk;have HbM:=Lib.hid hbM;have HB:=Lib.hid hB;have Hsb:=Lib.hid hsb;have Hm:=Lib.hid hm;have Hblt:=Lib.hid hblt
 clear hw hbk hbM hB h hPW hP hl hm hcn hblt hsb
 go_enter Try.func170,Try.ntmps170
 go_wp2_with fail
 refine SC.out.mono ?_
 intro e w5 hs
 obtain⟨rfl,v5,hb5,rE,KC,OY⟩:=hs
 have vC:=OY.toAt
 have hnb:¬ (bC I b∨MuB bs v b):=by
  rintro(h|h)
  ·exact HbM.out.2 h
  ·exact(HB.out b h).2.2.1 rfl
 have rX:=(rE.block b Hblt.out hnb).trans Hbk.out
 have HO:=Lib.hid (show ∀ j,MuB bs v5 j->(MuB bs v j∨w.heap.size<=j)/\j≠b from λg hg=>by
  refine⟨KC g hg,?_⟩
  rcases KC g hg with h|h
  ·exact(HB.out g h).2.2.1
  ·have:=Hblt.out;omega)
 obtain⟨s5,hs5⟩:∃ s5,s5=bJ m q wd s:=⟨_,rfl⟩
 have Hs5:=Lib.hid hs5
 rw [<-hs5] at hb5
 have Hm5:=Lib.hid (show aS s5=true->0<=s5.moment/\s5.moment<1000000000 from by rw [hs5];exact Hm.out)
 have Hbk5:=Lib.hid rX;have Hw5:=Lib.hid vC;have Hf5:=Lib.hid OY;have Hb5:=Lib.hid hb5;have Hc5:=Lib.hid (show Chg (λk=>bC I k∨k=b∨MuB bs v k) w w5 from rE.mono (λ_ _ h=>h.elim .inl (λh=>.inr (.inr h))))
 clear hs5 hb5 rX vC OY rE KC hnb y0
 by_cases h3:aS s5=true
 ·rw [show aS (bJ m q wd s)=true from by rw [<-Hs5.out];exact h3]
  obtain⟨h4,h5⟩:=Hm5.out h3
  obtain⟨mo,hmm⟩:∃ mo,mo=s5.moment:=⟨_,rfl⟩
  rw [<-hmm] at h4 h5
  obtain⟨mks,hwb,_,_⟩:=Hw5.out.blk
  have hnow:wd.now<1000000000:=Hw.out.nowlt
  have x1:w5.cell? ⟨I.bW,1,none⟩=some (.int .i64 (wd.now:Int)):=by rw [aA hwb];exact fP
  have x0:w5.cell? ⟨b,0,none⟩=some (.pointer (some ⟨bs,0,none⟩)):=by rw [aA Hbk5.out];rfl
  have xk:w5.cell? ⟨b,1,none⟩=some kv:=by rw [aA Hbk5.out];rfl
  have xf:=aC Hbk5.out 1
  have xm:w5.cell? ⟨bs,8,none⟩=some (.int .i64 mo):=by rw [hmm];exact Hb5.out.get 8
  have xlt:=aH Hbk5.out
  have w1:IntKind.i64.wrap (2*mo)=2*mo:=by rw [IntKind.wrap_i64];omega
  have w2:IntKind.i64.wrap (2*(wd.now:Int))=2*(wd.now:Int):=by rw [IntKind.wrap_i64];omega
  obtain⟨wz,hwz⟩:∃ wz,wz=((w5.setCell ⟨b,1,none⟩ (.slice (some ⟨w5.heap.size,0,none⟩) 2 2)).alloc (.cells #[.int .i64 (2*mo),.int .i64 (2*(wd.now:Int))] 3)).drew:=⟨_,rfl⟩
  have hcz:Chg (λk=>k=b) w5 wz:=by rw [hwz];exact(((Chg.refl (λk=>k=b) w5).setCell (p:=⟨b,1,none⟩) (.inl rfl) _).alloc _).drew
  have hbz:wz.heap[b]?=some (.cells (BD bs (.slice (some ⟨w5.heap.size,0,none⟩) 2 2)) 223 (0,0)):=by
   rw [hwz]
   show(World.alloc _ _).heap[b]?=_
   rw [Below.heap_alloc _ _ _ (by simpa [World.setCell] using xlt),aG Hbk5.out];rfl
  have hkz:wz.heap[w5.heap.size]?=some (.cells (([2*mo,2*(wd.now:Int)]:List Int).map (Value.int .i64)).toArray 3 (0,0)):=by
   have h7:=heap_alloc_new (w5.setCell ⟨b,1,none⟩ (.slice (some ⟨w5.heap.size,0,none⟩) 2 2)) (.cells #[.int .i64 (2*mo),.int .i64 (2*(wd.now:Int))] 3 (0,0))
   rw [show(w5.setCell ⟨b,1,none⟩ (.slice (some ⟨w5.heap.size,0,none⟩) 2 2)).heap.size=w5.heap.size by simp [World.setCell]] at h7
   rw [hwz];exact h7
  have q0:(((w5.setCell ⟨b,1,none⟩ (.slice (some ⟨w5.heap.size,0,none⟩) 2 2)).alloc (.cells #[.int .i64 (2*mo),.int .i64 (2*(wd.now:Int))] 3)).drew).cell? ⟨b,0,none⟩=some (.pointer (some ⟨bs,0,none⟩)):=by rw [<-hwz,aA hbz];rfl
  have q1:(((w5.setCell ⟨b,1,none⟩ (.slice (some ⟨w5.heap.size,0,none⟩) 2 2)).alloc (.cells #[.int .i64 (2*mo),.int .i64 (2*(wd.now:Int))] 3)).drew).cell? ⟨bs,8,none⟩=some (.int .i64 mo):=by rw [<-hwz];exact aJ hcz (λe=>Hsb.out e) xm
  have q2:(((w5.setCell ⟨b,1,none⟩ (.slice (some ⟨w5.heap.size,0,none⟩) 2 2)).alloc (.cells #[.int .i64 (2*mo),.int .i64 (2*(wd.now:Int))] 3)).drew).cell? ⟨I.bW,1,none⟩=some (.int .i64 (wd.now:Int)):=by rw [<-hwz];exact aJ hcz (λe=>HbM.out.2 (.inl e.symm)) x1
  have F:=Lib.hid (show IR w wz Mut I N wd m q b bs bP v kv s (.returned (.bool true)) from by
   unfold IR
   rw [<-Hs5.out,h3]
   refine⟨rfl,Hc5.out.trans (hcz.mono (λk _ e=>.inr (.inl e))),v5,_,Hf5.out.go hcz (λk e=>by cases e;exact HbM.out),hbz,Hb5.out.chg hcz (λg hg e=>(HO.out g hg).2 e),HO.out,?_⟩
   ·rw [if_pos rfl,<-hmm]
    exact⟨some ⟨w5.heap.size,0,none⟩,2,rfl,(λh=>by cases h),oJ hkz (by simp),λk off e hk=>by cases e;have:=Hw5.out.low _ hk;omega⟩)
  have Hwz:=Lib.hid hwz
  clear hwb h4 h5 hmm hnow hcz hbz hkz hwz
  go_upto_region 3 with fail
  go_region_held3 (λu=>u.cell? ⟨b,0,none⟩=some (.pointer (some ⟨bs,0,none⟩))/\u.cell? ⟨bs,8,none⟩=some (.int .i64 mo)/\u.cell? ⟨I.bW,1,none⟩=some (.int .i64 (wd.now:Int))) (first|exact⟨x0,xm,x1⟩|exact⟨q0,q1,q2⟩|go_keep) (fail)
  rw [<-Hwz.out]
  go_wp2
  go_ret
  exact F.out
 ·rw [show aS (bJ m q wd s)=false from by rw [<-Hs5.out];simpa using h3]
  have F:=Lib.hid (show IR w w5 Mut I N wd m q b bs bP v kv s (.returned (.bool false)) from by
   unfold IR
   have h3':aS s5=false:=by simpa using h3
   rw [<-Hs5.out,h3']
   exact⟨rfl,Hc5.out,v5,kv,Hf5.out,Hbk5.out,Hb5.out,HO.out,by rw [if_neg Bool.false_ne_true]⟩)
  go_wp2
  go_ret
  exact F.out
end
section
open Go.RowKit
def lM (bs p a r v:Nat) (wv:Value) (i:Nat):Array Value:=#[.pointer (some ⟨bs,0,none⟩),.int .i64 (p:Int),.int .i64 (a:Int),.int .i64 (r:Int),.int .u64 (v:Int),wv,.int .i64 (i:Int)]
def uJ (w w':World) (Mut:Nat->Prop) (I:eO) (N:Nat) (wd':WD) (b bs bP:Nat) (v:MuV) (wv:Value) (mk:Value->Array Value) (s':MuD) (wl:List Nat) (done:Bool) (e:Ending):Prop:=
 e=.returned (.bool done)/\Chg (λk=>bC I k∨k=b∨MuB bs v k) w w'/\∃ v' wv',jR w' Mut I N wd' (λk=>MuB bs v' k∨wv'.ownBlock=some k)/\w'.heap[b]?=some (.cells (mk wv') 226 (0,0))/\MuAt w' bs bP v' s'/\gN w' wv' wl/\(wl=[]->wv'=.slice none 0 0)/\
  (∀ j,MuB bs v' j->(MuB bs v j∨w.heap.size<=j)/\j≠b)/\∀ j,wv'.ownBlock=some j->(wv.ownBlock=some j∨w.heap.size<=j)/\j≠b/\¬ MuB bs v' j
set_option maxHeartbeats 8000000 in
theorem NC (n m q bU:Nat) (hm1:1<=m) (dF:m<=16) (hq:1<=q) (dQ:q<=64) (w:World) (Mut:Nat->Prop) (I:eO) (N:Nat) (wd:WD) (b bs bP p a r x:Nat) (s:MuD) (v:MuV) (hw:aT w Mut I N wd) (hbk:w.heap[b]?=some (.cells (lM bs p a r x (.slice none 0 0) 0) 226 (0,0))) (hbM:Mut b/\¬ bC I b) (hB:∀ j,MuB bs v j->Mut j/\¬ bC I j/\j≠b/\j≠bP) (h:MuAt w bs bP v s) (hPW:¬ bC I bP) (hP:w.heap[bP]?=some (.cells (jM n m q bU) 89 (0,0))) (hl:nA m q wd s) (hcn:wd.mem.c.all+1<1000000000000) (hno:aS (bJ m q wd s)=false) :
  Calls Try.prog 177 #[.pointer (some ⟨b,0,none⟩),.pointer (some ⟨I.bW,0,none⟩)] w λe w'=>uJ w w' Mut I N (jJ wd s) b bs bP v (.slice none 0 0) (λwv=>lM bs p a r x wv 0) (bJ m q wd s) [] false e:=by
 have SC:=Lib.hid (mu_step n m q bU hm1 dF hq dQ w Mut I N bs bP v s wd hw (λj hj=>⟨(hB j hj).1,(hB j hj).2.1⟩) h hP (λe=>(hB _ e).2.2.2 rfl) hPW hcn hl)
 have y0:w.cell? ⟨b,0,none⟩=some (.pointer (some ⟨bs,0,none⟩)):=by rw [aA hbk];rfl
 have y5:w.cell? ⟨b,5,none⟩=some (.slice none 0 0):=by rw [aA hbk];rfl
 have hnn:=fE none 0 0
 have hblt:=aH hbk
 have Hbk:=Lib.hid hbk;have HbM:=Lib.hid hbM;have HB:=Lib.hid hB;have Hblt:=Lib.hid hblt;have Hno:=Lib.hid hno
 clear hw hbk hbM hB h hPW hP hl hcn hblt hno
 go_enter Try.func177,Try.ntmps177
 go_wp2_with fail
 refine SC.out.mono ?_
 intro e w5 hs
 obtain⟨rfl,v5,hb5,rE,KC,OY⟩:=hs
 have hnb:¬ (bC I b∨MuB bs v b):=by
  rintro(h|h)
  ·exact HbM.out.2 h
  ·exact(HB.out b h).2.2.1 rfl
 have rX:=(rE.block b Hblt.out hnb).trans Hbk.out
 have hO:∀ j,MuB bs v5 j->(MuB bs v j∨w.heap.size<=j)/\j≠b:=λg hg=>by
  refine⟨KC g hg,?_⟩
  rcases KC g hg with h|h
  ·exact(HB.out g h).2.2.1
  ·have:=Hblt.out;omega
 rw [Hno.out]
 have F:=Lib.hid (show uJ w w5 Mut I N (jJ wd s) b bs bP v (.slice none 0 0) (λwv=>lM bs p a r x wv 0) (bJ m q wd s) [] false (.returned (.bool false)) from
  ⟨rfl,rE.mono (λ_ _ h=>h.elim .inl (λh=>.inr (.inr h))),v5,.slice none 0 0,by
   obtain⟨w1,S,h1,h2,h3,h4⟩:=OY
   exact⟨w1,S,h1,h2,h3,λg hg=>hg.elim (h4 g) (λe=>by cases e)⟩,rX,hb5,gN.nil _,λ_=>rfl,hO,λj e=>by cases e⟩)
 clear hb5 rE KC OY hnb rX hO
 go_wp2
 go_ret
 exact F.out
end
section
open Go.RowKit
theorem CF {w:World} {z:Nat} {e:TypeId} {k n:Nat} {v:Value} {xs:List Value} (h:w.ownsRow z e k v n xs):w.ownsRow 0 e k v n xs:=by
 obtain⟨h1,h2⟩:=h
 refine⟨h1,h2.imp_right ?_⟩
 rintro⟨g,c,cur,a,_,b⟩
 exact⟨g,c,cur,a,Nat.zero_le _,b⟩
set_option maxHeartbeats 8000000 in
theorem IJ (n m q bU:Nat) (hm1:1<=m) (dF:m<=16) (hq:1<=q) (dQ:q<=64) (w:World) (Mut:Nat->Prop) (I:eO) (N:Nat) (wd:WD) (b bs bP p a r x:Nat) (s:MuD) (v:MuV) (hw:aT w Mut I N wd) (hbk:w.heap[b]?=some (.cells (lM bs p a r x (.slice none 0 0) 0) 226 (0,0))) (hbM:Mut b/\¬ bC I b) (hB:∀ j,MuB bs v j->Mut j/\¬ bC I j/\j≠b/\j≠bP) (h:MuAt w bs bP v s) (hPW:¬ bC I bP) (hP:w.heap[bP]?=some (.cells (jM n m q bU) 89 (0,0))) (hl:nA m q wd s) (hcn:wd.mem.c.all+1<1000000000000) (hno:aS (bJ m q wd s)=true) (hlen:(bJ m q wd s).list.length=m) :
  Calls Try.prog 177 #[.pointer (some ⟨b,0,none⟩),.pointer (some ⟨I.bW,0,none⟩)] w λe w'=>uJ w w' Mut I N (jJ wd s) b bs bP v (.slice none 0 0) (λwv=>lM bs p a r x wv 0) (bJ m q wd s) (x::(bJ m q wd s).list) false e:=by
 have SC:=Lib.hid (mu_step n m q bU hm1 dF hq dQ w Mut I N bs bP v s wd hw (λj hj=>⟨(hB j hj).1,(hB j hj).2.1⟩) h hP (λe=>(hB _ e).2.2.2 rfl) hPW hcn hl)
 have y0:w.cell? ⟨b,0,none⟩=some (.pointer (some ⟨bs,0,none⟩)):=by rw [aA hbk];rfl
 have y5:w.cell? ⟨b,5,none⟩=some (.slice none 0 0):=by rw [aA hbk];rfl
 have hnn:=fE none 0 0
 have hblt:=aH hbk
 have Hbk:=Lib.hid hbk;have HbM:=Lib.hid hbM;have HB:=Lib.hid hB;have Hblt:=Lib.hid hblt;have Hno:=Lib.hid hno;have Hlen:=Lib.hid hlen
 clear hw hbk hbM hB h hPW hP hl hcn hblt hno hlen
 go_enter Try.func177,Try.ntmps177
 go_wp2_with fail
 refine SC.out.mono ?_
 intro e w5 hs
 obtain⟨rfl,v5,hb5,rE,KC,OY⟩:=hs
 have hnb:¬ (bC I b∨MuB bs v b):=by
  rintro(h|h)
  ·exact HbM.out.2 h
  ·exact(HB.out b h).2.2.1 rfl
 have rX:=(rE.block b Hblt.out hnb).trans Hbk.out
 have hO:∀ j,MuB bs v5 j->(MuB bs v j∨w.heap.size<=j)/\j≠b:=λg hg=>by
  refine⟨KC g hg,?_⟩
  rcases KC g hg with h|h
  ·exact(HB.out g h).2.2.1
  ·have:=Hblt.out;omega
 rw [Hno.out]
 obtain⟨s5,hs5⟩:∃ s5,s5=bJ m q wd s:=⟨_,rfl⟩
 have hl5:s5.list.length=m:=by rw [hs5];exact Hlen.out
 rw [<-hs5] at hb5
 obtain⟨lg,lc,hlv,_,_,llt⟩:=hb5.lst.at (i:=0) (by omega)
 rw [hl5] at hlv
 obtain⟨a1,c1,e1,sl1,q1⟩:=hb5.lst.sl (by omega)
 have g1:a1=some ⟨lg,0,none⟩:=(Value.slice.inj (e1.symm.trans hlv)).1
 rw [g1] at sl1
 have x0:w5.cell? ⟨b,0,none⟩=some (.pointer (some ⟨bs,0,none⟩)):=by rw [aA rX];rfl
 have x4:w5.cell? ⟨b,4,none⟩=some (.int .u64 (x:Int)):=by rw [aA rX];rfl
 have x5:w5.cell? ⟨b,5,none⟩=some (.slice none 0 0):=by rw [aA rX];rfl
 have x7:w5.cell? ⟨bs,7,none⟩=some (.slice (some ⟨lg,0,none⟩) m lc):=(hb5.get 7).trans (by rw [<-hlv];rfl)
 have LM:=aH rX
 have TZ:=hb5.lt
 obtain⟨k0,hk0,hu0,hu1,hu2⟩:=info_parts nI
 have hnl:(s5.list.map cZ).length=m*1:=by rw [List.length_map,hl5];omega
 have hadd:∀ j:Nat,(⟨lg,0,none⟩:Addr).add j=⟨lg,j,none⟩:=λj=>by unfold Addr.add;split<;>simp_all
 have hnews:∀ j u,(s5.list.map cZ)[j]?=some u->w5.cell? ⟨lg,j,none⟩=some u:=λj u hu=>by
  have hj:j<s5.list.length:=by
   refine Nat.lt_of_not_le λhle=>?_
   rw [List.getElem?_eq_none (by rw [List.length_map];exact hle)] at hu;cases hu
  obtain⟨g',c',e2,hc2,_,_⟩:=hb5.lst.at (i:=j) hj
  rw [hl5] at e2
  have e2':=hlv.symm.trans e2
  obtain rfl:=(Addr.mk.inj (Option.some.inj (Value.slice.inj e2').1)).1
  rw [hc2]
  rw [List.getElem?_map,List.getElem?_eq_getElem hj] at hu
  rw [List.getD_eq_getElem?_getD,List.getElem?_eq_getElem hj]
  exact hu
 have hone:∀ u∈s5.list.map cZ,u.oneCell'=true:=λu hu=>by
  obtain⟨y,_,rfl⟩:=List.mem_map.1 hu
  rfl
 have hown6:(w5.alloc (.cells #[.int .u64 (x:Int)] 40)).ownsRow w5.heap.size 40 1 (.slice (some ⟨w5.heap.size,0,none⟩) 1 1) 1 [.int .u64 (x:Int)]:=World.ownsRow_lit w5 #[.int .u64 (x:Int)] 1 (Nat.le_refl _) (by decide) rfl
 have Hnews:=Lib.hid hnews;have Hadd:=Lib.hid hadd;have Hone:=Lib.hid hone;have Hown6:=Lib.hid hown6;have Hnl:=Lib.hid hnl
 have Hb5:=Lib.hid hb5;have Hbk5:=Lib.hid rX;have Hf5:=Lib.hid OY;have HO:=Lib.hid hO;have Hc5:=Lib.hid rE;have Hs5:=Lib.hid hs5;have Hl5:=Lib.hid hl5;have Llt:=Lib.hid llt
 clear hadd hb5 rE KC OY hnb rX hO hs5 hl5 hlv e1 sl1 q1 g1 a1 c1 hnews hone hown6 hnl y0 y5 llt
 go_upto_region 7 with fail
 refine fC ((λu=>u.cell? ⟨b,0,none⟩=some (.pointer (some ⟨bs,0,none⟩))/\u.cell? ⟨b,4,none⟩=some (.int .u64 (x:Int))/\u.cell? ⟨bs,7,none⟩=some (.slice (some ⟨lg,0,none⟩) m lc))) 16 (by kernel_rfl) ?hS0L1 ?_
 case hS0L1=>
  (try dsimp only)
  (first|exact⟨x0,x4,x7⟩|exact⟨(((Gr.new w5 _)).cell LM).trans x0,(((Gr.new w5 _)).cell LM).trans x4,(((Gr.new w5 _)).cell TZ).trans x7⟩|exact⟨t0,t4,t7⟩)
 intro hS hcl
 refine aD (i:=0) (v:=?tv0L1) 17 rfl (by kernel_rfl) (by kernel_rfl) (by kernel_rfl) (by kernel_rfl) (by kernel_rfl) hcl (by first|exact λ_ _ _ h=>h|exact λ_ _ _ h=>HQp.out _ _ _ _ h) (Or.inl ⟨by rfl,?th0L1⟩) hS ?tr0L1
 (case th0L1=>(intro w hSw;(try dsimp only at hSw);go_simp;try with_reducible rfl))
 clear hcl;intro hcl
 (try simp only [Act.put,zs])
 refine aD (i:=1) (v:=?tv1L1) 17 rfl (by kernel_rfl) (by kernel_rfl) (by kernel_rfl) (by kernel_rfl) (by kernel_rfl) hcl (by first|exact λ_ _ _ h=>h|exact λ_ _ _ h=>HQp.out _ _ _ _ h) (Or.inl ⟨by rfl,?th1L1⟩) hS ?tr1L1
 (case th1L1=>(intro w hSw;(try dsimp only at hSw);go_simp;try with_reducible rfl))
 clear hcl;intro hcl
 (try simp only [Act.put,zs])
 refine aD (i:=2) (v:=?tv2L1) 17 rfl (by kernel_rfl) (by kernel_rfl) (by kernel_rfl) (by kernel_rfl) (by kernel_rfl) hcl (by first|exact λ_ _ _ h=>h|exact λ_ _ _ h=>HQp.out _ _ _ _ h) (Or.inl ⟨by rfl,?th2L1⟩) hS ?tr2L1
 (case th2L1=>(intro w hSw;(try dsimp only at hSw);go_simp;try with_reducible rfl))
 clear hcl;intro hcl
 (try simp only [Act.put,zs])
 refine aD (i:=3) (v:=?tv3L1) 17 rfl (by kernel_rfl) (by kernel_rfl) (by kernel_rfl) (by kernel_rfl) (by kernel_rfl) hcl (by first|exact λ_ _ _ h=>h|exact λ_ _ _ h=>HQp.out _ _ _ _ h) (Or.inl ⟨by rfl,?th3L1⟩) hS ?tr3L1
 (case th3L1=>(intro w hSw;(try dsimp only at hSw);go_simp;try with_reducible rfl))
 clear hcl;intro hcl
 (try simp only [Act.put,zs])
 refine aD (i:=4) (v:=?tv4L1) 17 rfl (by kernel_rfl) (by kernel_rfl) (by kernel_rfl) (by kernel_rfl) (by kernel_rfl) hcl (by first|exact λ_ _ _ h=>h|exact λ_ _ _ h=>HQp.out _ _ _ _ h) (Or.inl ⟨by rfl,?th4L1⟩) hS ?tr4L1
 (case th4L1=>(intro w hSw;(try dsimp only at hSw);go_simp;try with_reducible rfl))
 clear hcl;intro hcl
 (try simp only [Act.put,zs])
 refine aD (i:=6) (v:=?tv5L1) 17 rfl (by kernel_rfl) (by kernel_rfl) (by kernel_rfl) (by kernel_rfl) (by kernel_rfl) hcl (by first|exact λ_ _ _ h=>h|exact λ_ _ _ h=>HQp.out _ _ _ _ h) (Or.inl ⟨by rfl,?th5L1⟩) hS ?tr5L1
 (case th5L1=>(intro w hSw;(try dsimp only at hSw);go_simp;try with_reducible rfl))
 clear hcl;intro hcl
 (try simp only [Act.put,zs])
 refine aD (i:=7) (v:=?tv6L1) 17 rfl (by kernel_rfl) (by kernel_rfl) (by kernel_rfl) (by kernel_rfl) (by kernel_rfl) hcl (by first|exact λ_ _ _ h=>h|exact λ_ _ _ h=>HQp.out _ _ _ _ h) (Or.inl ⟨by rfl,?th6L1⟩) hS ?tr6L1
 (case th6L1=>(intro w hSw;(try dsimp only at hSw);go_simp;try with_reducible rfl))
 clear hcl;intro hcl
 (try simp only [Act.put,zs])
 refine aD (i:=8) (v:=?tv7L1) 17 rfl (by kernel_rfl) (by kernel_rfl) (by kernel_rfl) (by kernel_rfl) (by kernel_rfl) hcl (by first|exact λ_ _ _ h=>h|exact λ_ _ _ h=>HQp.out _ _ _ _ h) (Or.inl ⟨by rfl,?th7L1⟩) hS ?tr7L1
 (case th7L1=>(intro w hSw;(try dsimp only at hSw);go_simp;try with_reducible rfl))
 clear hcl;intro hcl
 (try simp only [Act.put,zs])
 refine aD (i:=9) (v:=?tv8L1) 17 rfl (by kernel_rfl) (by kernel_rfl) (by kernel_rfl) (by kernel_rfl) (by kernel_rfl) hcl (by first|exact λ_ _ _ h=>h|exact λ_ _ _ h=>HQp.out _ _ _ _ h) (Or.inl ⟨by rfl,?th8L1⟩) hS ?tr8L1
 (case th8L1=>(intro w hSw;(try dsimp only at hSw);go_simp;try with_reducible rfl))
 clear hcl;intro hcl
 (try simp only [Act.put,zs])
 refine aD (i:=10) (v:=?tv9L1) 17 rfl (by kernel_rfl) (by kernel_rfl) (by kernel_rfl) (by kernel_rfl) (by kernel_rfl) hcl (by first|exact λ_ _ _ h=>h|exact λ_ _ _ h=>HQp.out _ _ _ _ h) (Or.inl ⟨by rfl,?th9L1⟩) hS ?tr9L1
 (case th9L1=>(intro w hSw;(try dsimp only at hSw);go_simp;try with_reducible rfl))
 clear hcl;intro hcl
 (try simp only [Act.put,zs])
 refine aD (i:=11) (v:=?tv10L1) 17 rfl (by kernel_rfl) (by kernel_rfl) (by kernel_rfl) (by kernel_rfl) (by kernel_rfl) hcl (by first|exact λ_ _ _ h=>h|exact λ_ _ _ h=>HQp.out _ _ _ _ h) (Or.inl ⟨by rfl,?th10L1⟩) hS ?tr10L1
 (case th10L1=>(intro w hSw;(try dsimp only at hSw);go_simp;try with_reducible rfl))
 clear hcl;intro hcl
 (try simp only [Act.put,zs])
 refine aD (i:=12) (v:=?tv11L1) 17 rfl (by kernel_rfl) (by kernel_rfl) (by kernel_rfl) (by kernel_rfl) (by kernel_rfl) hcl (by first|exact λ_ _ _ h=>h|exact λ_ _ _ h=>HQp.out _ _ _ _ h) (Or.inl ⟨by rfl,?th11L1⟩) hS ?tr11L1
 (case th11L1=>(intro w hSw;(try dsimp only at hSw);go_simp;try with_reducible rfl))
 clear hcl;intro hcl
 (try simp only [Act.put,zs])
 refine aM (i:=5) (by kernel_rfl) rfl hcl (λK' hK=>?_)
 have HK:=Lib.hid hK;clear hK
 ((rw [if_pos (by kernel_rfl)]);(try simp only [zq1,zq2,zq3]);first|go_big_move|go_big_op)
 refine HK.out _ _ ?hS5L1 (λhcl=>?_)
 case hS5L1=>
  intro _
  (try dsimp only)
  (first|exact⟨x0,x4,x7⟩|exact⟨(((Gr.new w5 _)).cell LM).trans x0,(((Gr.new w5 _)).cell LM).trans x4,(((Gr.new w5 _)).cell TZ).trans x7⟩|exact⟨t0,t4,t7⟩)
 clear HK
 (try simp only [Act.put,zs])
 refine aM (i:=13) (by kernel_rfl) rfl hcl (λK' hK=>?_)
 have HK:=Lib.hid hK;clear hK
 (refine step_append_lies _ (by rfl) _ _ _ (by rfl) w5.heap.size 40 k0 _ 1 8 Try.underlying28 hk0 hu0 hu1 hu2 rfl (by omega) _ _ _ (by rfl) (Hown6.out) ⟨lg,0,none⟩ m lc (s5.list.map cZ) (by rfl) Hnl.out (λj u hu=>by rw [Hadd.out j];exact(((Gr.new w5 _)).cell Llt.out).trans (Hnews.out j u hu)) Hone.out (by omega) (by unfold maxLen;(try dsimp only);omega) (by(try dsimp only);omega) (by simp) (w5.heap.size+1) (by simp) ?_;intro g8 wB w8 oC jH vI BS;have hc8:Chg (λk=>k=w5.heap.size) w5 w8:=(((Chg.refl (λk=>k=w5.heap.size) w5).alloc _).drew).grown jH (λg hg=>.inl (Option.some.inj hg).symm);have TU:¬ (b=w5.heap.size):=(by omega);have XF:¬ (bs=w5.heap.size):=(by omega);have t0:=aJ hc8 TU x0;have t4:=aJ hc8 TU x4;have t5:=aJ hc8 TU x5;have t7:=aJ hc8 XF x7;have OH:=(hc8.block b LM TU).trans Hbk5.out;have tf:=aC OH 5;have tl:=aH OH)
 refine HK.out _ _ ?hS13L1 (λhcl=>?_)
 case hS13L1=>
  intro _
  (try dsimp only)
  (first|exact⟨x0,x4,x7⟩|exact⟨(((Gr.new w5 _)).cell LM).trans x0,(((Gr.new w5 _)).cell LM).trans x4,(((Gr.new w5 _)).cell TZ).trans x7⟩|exact⟨t0,t4,t7⟩)
 clear HK
 (try simp only [Act.put,zs])
 refine aM (i:=14) (by kernel_rfl) rfl hcl (λK' hK=>?_)
 have HK:=Lib.hid hK;clear hK
 ((rw [if_pos (by kernel_rfl)]);(try simp only [zq1,zq2,zq3]);first|go_big_move|go_big_op)
 refine HK.out _ _ ?hS14L1 (λhcl=>?_)
 case hS14L1=>
  intro _
  (try dsimp only)
  (first|exact⟨x0,x4,x7⟩|exact⟨(((Gr.new w5 _)).cell LM).trans x0,(((Gr.new w5 _)).cell LM).trans x4,(((Gr.new w5 _)).cell TZ).trans x7⟩|exact⟨t0,t4,t7⟩)
 clear HK
 (try simp only [Act.put,zs])
 refine aM (i:=15) (by kernel_rfl) rfl hcl (λK' hK=>?_)
 have HK:=Lib.hid hK;clear hK
 ((rw [if_pos (by kernel_rfl)]);(try simp only [zq1,zq2,zq3]);first|go_big_move|go_big_op)
 refine HK.out _ _ ?hS15L1 (λhcl=>?_)
 case hS15L1=>
  intro _
  (try dsimp only)
  (first|exact⟨x0,x4,x7⟩|exact⟨(((Gr.new w5 _)).cell LM).trans x0,(((Gr.new w5 _)).cell LM).trans x4,(((Gr.new w5 _)).cell TZ).trans x7⟩|exact⟨t0,t4,t7⟩)
 clear HK
 (try simp only [Act.put,zs])
 refine aM (i:=16) (by kernel_rfl) rfl hcl (λK' hK=>?_)
 have HK:=Lib.hid hK;clear hK
 ((rw [if_pos (by kernel_rfl)]);(try simp only [zq1,zq2,zq3]);first|go_big_move|go_big_op)
 refine HK.out _ _ (λh=>by cases h.symm.trans (by kernel_rfl:_=true)) (λ_=>fD (by kernel_rfl) ?_ _)
 clear HK
 (try clear hS)
 obtain⟨w9,kL⟩:∃ w9,w9=w8.setCell ⟨b,5,none⟩ (.slice (some ⟨g8,0,none⟩) (1+m) wB):=⟨_,rfl⟩
 rw [<-kL]
 have TT:w5.heap.size<=g8:=by
  rcases vI with h9|h9
  ·rw [<-Option.some.inj h9];exact Nat.le_refl _
  ·omega
 have hcb:Chg (λk=>k=b) w5 w9:=by
  rw [kL]
  exact(hc8.mono (S':=λk=>k=b) (λk hk e=>by have e':k=w5.heap.size:=e;omega)).setCell (p:=⟨b,5,none⟩) (.inl rfl) _
 have JO:gN w9 (.slice (some ⟨g8,0,none⟩) (1+m) wB) (x::s5.list):=by
  have e1:(x::s5.list).length=1+m:=by rw [List.length_cons,Hl5.out];omega
  have h8:gN w8 (.slice (some ⟨g8,0,none⟩) (1+m) wB) (x::s5.list):=by
   show World.ownsRow _ 0 _ 1 _ (x::s5.list).length ((x::s5.list).map cZ)
   rw [e1];exact CF oC
  have hc98:Chg (λk=>k=b) w8 w9:=by rw [kL];exact(Chg.refl (λk=>k=b) w8).setCell (p:=⟨b,5,none⟩) (.inl rfl) _
  exact h8.chg hc98 (λk e e9=>by have e8:g8=k:=Option.some.inj e;have e7:k=b:=e9;omega)
 have TH:w9.heap[b]?=some (.cells (lM bs p a r x (.slice (some ⟨g8,0,none⟩) (1+m) wB) 0) 226 (0,0)):=by rw [kL,aG OH];rfl
 have F:=Lib.hid (show uJ w w9 Mut I N (jJ wd s) b bs bP v (.slice none 0 0) (λwv=>lM bs p a r x wv 0) (bJ m q wd s) (x::(bJ m q wd s).list) false (.returned (.bool false)) from by
  rw [<-Hs5.out]
  refine⟨rfl,(Hc5.out.mono (λ_ _ h=>h.elim .inl (λh=>.inr (.inr h)))).trans (hcb.mono (λ_ _ e=>.inr (.inl e))),v5,.slice (some ⟨g8,0,none⟩) (1+m) wB,?_,TH,Hb5.out.chg hcb (λj hj e=>(HO.out j hj).2 e),JO,(λe=>(by cases e)),HO.out,λj e=>?_⟩
  ·obtain⟨w1,S,h1,h2,h3,h4⟩:=Hf5.out
   refine⟨w1,λk=>S k∨k=b,h1,(h2.mono (λ_ _ h=>.inl h)).trans (hcb.mono (λ_ _ h=>.inr h)),λk hk=>hk.elim (h3 k) (λe=>by rw [e];exact HbM.out),λk hk=>hk.elim (h4 k) (λe=>.inr ?_)⟩
   have e8:g8=k:=Option.some.inj e
   have:=h2.size
   omega
  ·have e8:g8=j:=Option.some.inj e
   have:=Hc5.out.size
   exact⟨.inr (by omega),by omega,λhj=>by have:=Hb5.out.low j hj;omega⟩)
 clear oC jH vI BS hc8 TU XF t0 t4 t5 t7 OH tf tl kL TT hcb JO TH x0 x4 x5 x7
 go_wp2
 go_ret
 exact F.out
end
section
open Go.RowKit
end
section
open Go.RowKit
end
section
open Go.RowKit
end
section
open Go.RowKit
end
end Go.Proofs.Ytifhldnmcdbpfaa
