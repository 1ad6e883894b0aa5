/- Layer 6: a play's report: (*Player).Report. -/
import Derived.Test.YtfkokppncipgnaaGreatW11
set_option maxRecDepth 100000
set_option linter.unusedVariables false
set_option linter.unusedSimpArgs false
set_option linter.unnecessarySimpa false
namespace Go.Proofs.YtfkokppncipgnaaGreat
section
open Go.RowKit
variable {S:Sys} {R:Real S}
def lC (ev wv:Value) (r:iN):Value:=.agg #[ev,wv,.int .i64 (r.c.read:Int),.int .i64 (r.c.write:Int),.int .i64 (r.c.swap:Int),.int .i64 (r.c.add:Int),.int .i64 (r.c.fault:Int),.int .i64 (r.ticks:Int),.int .i64 (r.idle:Int)]
structure iQ (Old:Nat->Prop) (B0:Nat) (w:World) (ev wv:Value) (ers:List (Value×Value)) (r:iN):Prop where
 row:w.ownsRow B0 52 8 ev r.evs.length (iP r.evs ers)
 elen:ers.length=r.evs.length
 ans:∀ i,i<r.evs.length->fK w Old (ers.getD i wT).1 (r.evs.getD i iO).ans.list/\Lst w Old (ers.getD i wT).2 (r.evs.getD i iO).key
 words:w.ownsRow B0 46 1 wv r.words.length (r.words.map bI)
theorem Lst.less {w:World} {Mut Old:Nat->Prop} {v:Value} {l:List Int} (h:Lst w Mut v l) (ho:∀ b,Old b->Mut b):Lst w Old v l:=by
 obtain⟨a,c,h1,h2,h3,h4⟩:=h
 exact⟨a,c,h1,h2,h3,λb off e hb=>h4 b off e (ho b hb)⟩
theorem fK.less {w:World} {Mut Old:Nat->Prop} {v:Value} {l:List Nat} (h:fK w Mut v l) (ho:∀ b,Old b->Mut b):fK w Old v l:=by
 obtain⟨a,c,h1,h3,h4⟩:=h
 exact⟨a,c,h1,h3,λh0 b off e hb=>h4 h0 b off e (ho b hb)⟩
theorem iQ.chg {Old Q:Nat->Prop} {B0:Nat} {w w':World} {ev wv:Value} {ers:List (Value×Value)} {r:iN} (h:iQ Old B0 w ev wv ers r) (hc:Chg Q w w') (hQ:∀ b,Q b->Old b/\b<B0):iQ Old B0 w' ev wv ers r:=
 ⟨bB h.row hc (λb hb hq=>by have h1:=(h.row.lt b hb).1;have h2:=(hQ b hq).2;omega),h.elen,λi hi=>⟨(h.ans i hi).1.keep hc (λb hb=>(hQ b hb).1) (aN.refl _ _),(h.ans i hi).2.keep hc (λb hb=>(hQ b hb).1) (aN.refl _ _)⟩,bB h.words hc (λb hb hq=>by have h1:=(h.words.lt b hb).1;have h2:=(hQ b hq).2;omega)⟩
theorem iQ.grown {Old:Nat->Prop} {B0:Nat} {w w':World} {ev wv:Value} {ers:List (Value×Value)} {r:iN} (h:iQ Old B0 w ev wv ers r) (hb:Below w.heap.size w w'):iQ Old B0 w' ev wv ers r:=
 h.chg (Q:=noB) (Chg.of_below hb) (λb hb=>hb.elim)
section
variable {bW bl:Nat} {ov cv:Value} {turn:Int} {hs:List (Value×Nat)} {ev:Value} {idle:Nat}
theorem jG (hl:hs.length=16) (j:Nat) (hj:j<8):(aO bW bl ov cv turn hs ev idle)[37+j]?=[ev,.slice none 0 0,zI,zI,zI,zI,zI,zI][j]?:=by
 have hl2:=jS hs
 simp only [aO,kN,List.getElem?_toArray]
 rw [show 37+j=(32+j)+1+1+1+1+1 by omega]
 simp only [List.getElem?_cons_succ]
 rw [List.getElem?_append_right (by omega),hl2,hl,show 32+j - 16*2=j by omega]
 rw [List.getElem?_eq_getElem (by simp;omega),List.getElem?_eq_getElem (by simpa using hj)]
 congr 1
 match j,hj with
 | 0,_=>rfl
 | 1,_=>rfl
 | 2,_=>rfl
 | 3,_=>rfl
 | 4,_=>rfl
 | 5,_=>rfl
 | 6,_=>rfl
 | 7,_=>rfl
end
theorem TE {w:World} {B B':Nat} {v:Value} {e:TypeId} {k n:Nat} {xs:List Value} (h:w.ownsRow B e k v n xs) (hB:B'<=B):w.ownsRow B' e k v n xs:=by
 obtain⟨h1,h2⟩:=h
 refine⟨h1,?_⟩
 rcases h2 with h2|⟨g,cap,cur,hv,hg,r⟩
 ·exact .inl h2
 ·exact .inr ⟨g,cap,cur,hv,by omega,r⟩
section
variable {calls:List aD} {w w':World} {J:vX} {ov cv:Value} {B0:Nat} {G:PG} {wd:WD} {o:S.ω} {fin:List Bool} {hands:List (Option (Mh S.σ)×Nat)} {evs:List EvD} {idle:Nat}
theorem aM.grownM (ok:gL R) (h:aM R calls w J ov cv B0 G wd o fin hands evs idle) (hb:Below w.heap.size w w') (hlt:w.heap.size<w'.heap.size):aM R calls w' J ov cv B0 { G with Mut:=λb=>G.Mut b∨b=w.heap.size } wd o fin hands evs idle:=by
 have hch:Chg noB w w':=Chg.of_below hb
 have hQ:∀ b,noB b->G.Mut b:=λb hb=>hb.elim
 have hup:aN G.Mut w (λb=>G.Mut b∨b=w.heap.size):=λb hb=>by
  rcases hb with hb|hb
  ·exact .inl hb
  ·exact .inr (by omega)
 obtain⟨n,M,left,t1,t2⟩:=h.line
 refine⟨(hb.block _ h.bPlt).trans h.blk,h.h1,h.h2,λq hq=>(h.hand q hq).keep ok hch hQ (λb _ hb=>hb) hup,h.world.keep hch hQ (λb hb=>hb.elim) hup (λb hb=>?_) (λb hb=>.inl (h.world.muts b hb)),ok.keepO _ _ _ _ _ _ h.obj hch hQ (λb _ hb=>hb) hup (λb hb=>.inl (ok.lowO _ _ _ h.obj b hb)),h.inv,
  ⟨n,M,left,t1.keepP hch hQ (λh=>h) (λh=>h) hup,t2⟩,h.flen,h.eva.keep hch hQ hup (λb _ hb=>hb),h.ele,h.at_,h.imm.keep hch hQ hup,λb hb=>⟨.inl (h.pmut b hb).1,(h.pmut b hb).2⟩,h.ow,h.psep,λp b hp hb=>⟨.inl (h.mb p b hp hb).1,(h.mb p b hp hb).2⟩,h.mbd,h.cnt,h.nowb,h.nb,?_,h.stp,λb hb=>⟨.inl (h.oldm b hb).1,(h.oldm b hb).2⟩⟩
 ·rcases hb with hb|hb
  ·exact Nat.lt_of_lt_of_le (h.world.low b hb) hch.size
  ·omega
 ·obtain⟨g1,g2⟩:=h.base
  exact⟨Nat.le_trans g1 hch.size,g2⟩
end
def Ew (Old:Nat->Prop) (w w':World) (B0:Nat) (r:iN) (e:Ending):Prop:=
 ∃ ea ec va vc ers,e=.returned (lC (.slice ea r.evs.length ec) (.slice va r.words.length vc) r)/\iQ Old B0 w' (.slice ea r.evs.length ec) (.slice va r.words.length vc) ers r/\Below B0 w w'
set_option maxHeartbeats 4000000 in
theorem XT (ok:gL R) (nl:TB R) (calls:List aD) (w:World) (J:vX) (ov cv:Value) (B0:Nat) (G:PG) (st:aP S) (h:aM R calls w J ov cv B0 G st.wd st.obj st.fin (EE st.hands) st.evs st.idle) :
  Calls Tryz.prog 34 #[.pointer (some ⟨J.bP,0,none⟩)] w λe w'=>Ew J.old w w' B0 (zO S st) e:=by
 obtain⟨wa,hwa⟩:∃ wa,wa=w.alloc (.cells #[.slice none 0 0,.slice none 0 0,.int .i64 0,.int .i64 0,.int .i64 0,.int .i64 0,.int .i64 0,.int .i64 0,.int .i64 0] 32):=⟨_,rfl⟩
 have hga:Below w.heap.size w wa:=by rw [hwa];exact Gr.new _ _
 have hra:wa.heap[w.heap.size]?=some (.cells #[.slice none 0 0,.slice none 0 0,.int .i64 0,.int .i64 0,.int .i64 0,.int .i64 0,.int .i64 0,.int .i64 0,.int .i64 0] 32 (0,0)):=by rw [hwa];exact heap_alloc_new _ _
 have ha:=aM.grownM ok h hga (by rw [hwa];simp)
 have E:=Lib.hid (Lp ok nl calls wa J ov cv B0 { G with Mut:=λb=>G.Mut b∨b=w.heap.size } st ha)
 have VN:Chg (λb=>B0<=b) w wa:=Chg.of_below hga
 have Hch0:=Lib.hid VN
 have hBP:=h.base.2.1
 have hrowlt:∀ b,G.ev.ownBlock=some b->B0<=b:=λb hb=>(h.eva.row.lt b hb).1
 have Hrowlt:=Lib.hid hrowlt
 have hB:=h.base.1
 have hevlt:∀ b,G.ev.ownBlock=some b->b<w.heap.size:=λb hb=>(h.eva.row.lt b hb).2
 have Hevlt:=Lib.hid hevlt;have Hra:=Lib.hid hra;have Hwa:=Lib.hid hwa
 have hPlt:=h.bPlt;have hWlt:=h.world.wlt
 clear h ha hga hra hevlt hwa VN hrowlt
 go_enter Tryz.func34,Tryz.ntmps34
 go_wp2_with fail
 rw [<-Hwa.out]
 refine E.out.mono ?_
 rintro e w2 ⟨rfl,hch,ers,h2⟩
 obtain⟨mks,hwb,hmk,_⟩:=h2.world.blk
 have r2:=(hch.block w.heap.size (aC Hra.out) (λe=>Nat.lt_irrefl _ (Hevlt.out _ e))).trans Hra.out
 have a0:w2.cell? ⟨J.bP,0,none⟩=some (.pointer (some ⟨J.W.bW,0,none⟩)):=by rw [aA h2.blk];exact fF
 have a44:w2.cell? ⟨J.bP,44,none⟩=some (.int .i64 0):=by rw [aA h2.blk];exact jG h2.h1 7 (by omega)
 have f44:w2.frozen? ⟨J.bP,44,none⟩=false:=aB h2.blk _
 have n1:w2.cell? ⟨J.W.bW,1,none⟩=some (.int .i64 (st.wd.now:Int)):=by rw [aA hwb];exact iL
 have hPW:J.bP≠J.W.bW:=λe=>(h2.pmut J.bP (.inl rfl)).2.1 (by rw [e];exact .inl rfl)
 have H2:=Lib.hid h2;have Hch:=Lib.hid hch;have Hwb:=Lib.hid hwb;have R2:=Lib.hid r2
 clear h2 hch hwb hmk r2
 go_upto_region 3 with fail
 obtain⟨w3,hw3⟩:∃ w3,w3=w2.setCell ⟨J.bP,44,none⟩ (.int .i64 (st.wd.now:Int)):=⟨_,rfl⟩
 rw [<-hw3]
 have hb3:w3.heap[J.bP]?=some (.cells ((aO J.W.bW J.bl ov cv G.turn G.hs G.ev st.idle).setIfInBounds 44 (.int .i64 (st.wd.now:Int))) 134 (0,0)):=by rw [hw3];exact aG H2.out.blk _ _
 have hc3:∀ j,j≠44->w3.cell? ⟨J.bP,j,none⟩=(aO J.W.bW J.bl ov cv G.turn G.hs G.ev st.idle)[j]?:=λj hj=>by rw [aA hb3,Array.getElem?_setIfInBounds_ne (Ne.symm hj)]
 have x0:w3.cell? ⟨J.bP,0,none⟩=some (.pointer (some ⟨J.W.bW,0,none⟩)):=by rw [hc3 0 (by omega)];exact fF
 have DX:w3.cell? ⟨J.bP,37,none⟩=some G.ev:=by rw [hc3 37 (by omega)];exact lN H2.out.h1
 have x38:w3.cell? ⟨J.bP,38,none⟩=some (.slice none 0 0):=by rw [hc3 38 (by omega)];exact jG H2.out.h1 1 (by omega)
 have x39:w3.cell? ⟨J.bP,39,none⟩=some (.int .i64 0):=by rw [hc3 39 (by omega)];exact jG H2.out.h1 2 (by omega)
 have DY:w3.cell? ⟨J.bP,40,none⟩=some (.int .i64 0):=by rw [hc3 40 (by omega)];exact jG H2.out.h1 3 (by omega)
 have CP:w3.cell? ⟨J.bP,41,none⟩=some (.int .i64 0):=by rw [hc3 41 (by omega)];exact jG H2.out.h1 4 (by omega)
 have CK:w3.cell? ⟨J.bP,42,none⟩=some (.int .i64 0):=by rw [hc3 42 (by omega)];exact jG H2.out.h1 5 (by omega)
 have DV:w3.cell? ⟨J.bP,43,none⟩=some (.int .i64 0):=by rw [hc3 43 (by omega)];exact jG H2.out.h1 6 (by omega)
 have CF:w3.cell? ⟨J.bP,45,none⟩=some (.int .i64 (st.idle:Int)):=by rw [hc3 45 (by omega)];exact GY H2.out.h1
 have DL:w3.cell? ⟨J.bP,44,none⟩=some (.int .i64 (st.wd.now:Int)):=by
  rw [hw3,aA (aG H2.out.blk _ _),Array.getElem?_setIfInBounds_self_of_lt]
  have:=jG (bW:=J.W.bW) (bl:=J.bl) (ov:=ov) (cv:=cv) (turn:=G.turn) (ev:=G.ev) (idle:=st.idle) H2.out.h1 7 (by omega)
  exact(Array.getElem?_eq_some_iff.1 this).1
 have y0:w3.cell? ⟨J.W.bW,0,none⟩=some (.pointer (some ⟨J.W.bm,0,none⟩)):=by rw [hw3,aA ((aH (Ne.symm hPW) _ _).trans Hwb.out)];exact kE
 have hf3:∀ j,w3.frozen? ⟨J.bP,j,none⟩=false:=λj=>aB hb3 j
 have Nv:w3.heap.size=w2.heap.size:=by rw [hw3];simp
 have hPlt2:J.bP<w3.heap.size:=by rw [Nv];exact H2.out.bPlt
 have hWlt2:J.W.bW<w3.heap.size:=by rw [Nv];exact H2.out.world.wlt
 have hm3:fO w3 J.W.bm J.W.bw st.wd.mem:=by
  rw [hw3]
  exact H2.out.world.mem.chg (S:=λb=>b=J.bP) ((Chg.refl (λb=>b=J.bP) w2).setCell (p:=⟨J.bP,44,none⟩) (.inl rfl) _) (λe=>H2.out.pW J.W.bm (.inr (.inl rfl)) (.inl e)) (λq hq e=>H2.out.pW q (.inr (.inr (.inr hq.symm))) (.inl e))
 have Wd:=Lib.hid (λ(u:World) (h:Below w3.heap.size w3 u)=>Az J.W.bm J.W.bw st.wd.mem u (hm3.gr h))
 have Cn:=λ(u:World) (h:Below w3.heap.size w3 u)=>XY J.W.bm J.W.bw st.wd.mem u (hm3.gr h)
 unfold LD at Cn
 replace Cn:=Lib.hid Cn
 obtain⟨nws,hnws⟩:∃ n,n=st.wd.mem.ws.length:=⟨_,rfl⟩
 rw [<-hnws] at Wd
 have Hw3:=Lib.hid hw3;have Hnws:=Lib.hid hnws;have Hf3:=Lib.hid hf3;have Hsz3:=Lib.hid Nv
 have hWP:=Ne.symm hPW
 clear hb3 hc3 hw3 hm3 hnws a0 a44 f44 n1 hf3 Nv
 go_region_held3 (λu=>u.cell? ⟨J.bP,0,none⟩=some (.pointer (some ⟨J.W.bW,0,none⟩))/\u.cell? ⟨J.W.bW,0,none⟩=some (.pointer (some ⟨J.W.bm,0,none⟩)))
  (first|exact⟨(by(repeat (with_reducible refine(World.cell?_setCell_other _ _ _ _ (by simp)).trans ?_));with_reducible exact z0),(by(repeat (with_reducible refine(World.cell?_setCell_other _ _ _ _ (by simp)).trans ?_));with_reducible exact zw)⟩|exact⟨x0,y0⟩|exact⟨(hx.cell (p:=⟨J.bP,0,none⟩) hPlt2).trans x0,(hx.cell (p:=⟨J.W.bW,0,none⟩) hWlt2).trans y0⟩)
  (first|(go_at_call 52;refine(Wd.out _ ?_).mono ?_;(exact(Gr.refl _).drew);rintro e w4 ⟨v,rfl,ho,hx⟩;obtain⟨va,vc,rfl⟩:=dX ho;replace hx:=XQ hx)|(go_at_call 53;refine(Cn.out _ ?_).mono ?_;(exact hx);rintro e w5 ⟨rfl,hy⟩;have hz:=Gr.trans hx hy;have z0:=(hz.cell (p:=⟨J.bP,0,none⟩) hPlt2).trans x0;have zw:=(hz.cell (p:=⟨J.W.bW,0,none⟩) hWlt2).trans y0;have z37:=(hz.cell (p:=⟨J.bP,37,none⟩) hPlt2).trans DX;have z38:=(hz.cell (p:=⟨J.bP,38,none⟩) hPlt2).trans x38;have z39:=(hz.cell (p:=⟨J.bP,39,none⟩) hPlt2).trans x39;have z40:=(hz.cell (p:=⟨J.bP,40,none⟩) hPlt2).trans DY;have z41:=(hz.cell (p:=⟨J.bP,41,none⟩) hPlt2).trans CP;have z42:=(hz.cell (p:=⟨J.bP,42,none⟩) hPlt2).trans CK;have z43:=(hz.cell (p:=⟨J.bP,43,none⟩) hPlt2).trans DV;have z44:=(hz.cell (p:=⟨J.bP,44,none⟩) hPlt2).trans DL;have z45:=(hz.cell (p:=⟨J.bP,45,none⟩) hPlt2).trans CF;have f38:=(hz.frozen (p:=⟨J.bP,38,none⟩) hPlt2).trans (Hf3.out 38);have f39:=(hz.frozen (p:=⟨J.bP,39,none⟩) hPlt2).trans (Hf3.out 39);have f40:=(hz.frozen (p:=⟨J.bP,40,none⟩) hPlt2).trans (Hf3.out 40);have f41:=(hz.frozen (p:=⟨J.bP,41,none⟩) hPlt2).trans (Hf3.out 41);have f42:=(hz.frozen (p:=⟨J.bP,42,none⟩) hPlt2).trans (Hf3.out 42);have f43:=(hz.frozen (p:=⟨J.bP,43,none⟩) hPlt2).trans (Hf3.out 43)))
 have Du:w5.heap[w.heap.size]?=some (.cells #[.slice none 0 0,.slice none 0 0,.int .i64 0,.int .i64 0,.int .i64 0,.int .i64 0,.int .i64 0,.int .i64 0,.int .i64 0] 32 (0,0)):=by
  have h1:=aC R2.out
  rw [hz.block _ (by rw [Hsz3.out];exact h1),Hw3.out,aH (by omega)];exact R2.out
 have hne1:J.bP≠w.heap.size:=by omega
 have hne2:w.heap.size≠J.bP:=by omega
 obtain⟨ea,ec,hevf⟩:=dX H2.out.eva.row
 obtain⟨en,hen⟩:∃ n,n=(Je S st).length:=⟨_,rfl⟩
 have Jt:G.ev=.slice ea en ec:=by rw [hen];exact hevf
 rw [Jt] at z37
 have Hho:=Lib.hid ho;have Hhz:=Lib.hid hz;have Hhx:=Lib.hid hx;have Hhy:=Lib.hid hy;have Hevf2:=Lib.hid Jt;have Hen:=Lib.hid hen
 clear ho hz hx hy hevf Jt hen x0 DX x38 x39 DY CP CK DV DL CF y0
 obtain⟨w6,kK⟩:∃ w6,w6=((((((w5.setCell ⟨J.bP,38,none⟩ (.slice va nws vc)).setCell ⟨J.bP,39,none⟩ (.int .i64 (st.wd.mem.c.read:Int))).setCell ⟨J.bP,40,none⟩ (.int .i64 (st.wd.mem.c.write:Int))).setCell ⟨J.bP,41,none⟩ (.int .i64 (st.wd.mem.c.swap:Int))).setCell ⟨J.bP,42,none⟩ (.int .i64 (st.wd.mem.c.add:Int))).setCell ⟨J.bP,43,none⟩ (.int .i64 (st.wd.mem.c.fault:Int))):=⟨_,rfl⟩
 rw [<-kK]
 have v37:w6.cell? ⟨J.bP,37,none⟩=some (.slice ea en ec):=by rw [kK];exact(World.cell?_setCell_other _ _ _ _ (by simp)).trans ((World.cell?_setCell_other _ _ _ _ (by simp)).trans ((World.cell?_setCell_other _ _ _ _ (by simp)).trans ((World.cell?_setCell_other _ _ _ _ (by simp)).trans ((World.cell?_setCell_other _ _ _ _ (by simp)).trans ((World.cell?_setCell_other _ _ _ _ (by simp)).trans (z37))))))
 have v44:w6.cell? ⟨J.bP,44,none⟩=some (.int .i64 (st.wd.now:Int)):=by rw [kK];exact(World.cell?_setCell_other _ _ _ _ (by simp)).trans ((World.cell?_setCell_other _ _ _ _ (by simp)).trans ((World.cell?_setCell_other _ _ _ _ (by simp)).trans ((World.cell?_setCell_other _ _ _ _ (by simp)).trans ((World.cell?_setCell_other _ _ _ _ (by simp)).trans ((World.cell?_setCell_other _ _ _ _ (by simp)).trans (z44))))))
 have v45:w6.cell? ⟨J.bP,45,none⟩=some (.int .i64 (st.idle:Int)):=by rw [kK];exact(World.cell?_setCell_other _ _ _ _ (by simp)).trans ((World.cell?_setCell_other _ _ _ _ (by simp)).trans ((World.cell?_setCell_other _ _ _ _ (by simp)).trans ((World.cell?_setCell_other _ _ _ _ (by simp)).trans ((World.cell?_setCell_other _ _ _ _ (by simp)).trans ((World.cell?_setCell_other _ _ _ _ (by simp)).trans (z45))))))
 have v38:w6.cell? ⟨J.bP,38,none⟩=some (.slice va nws vc):=by rw [kK];exact(World.cell?_setCell_other _ _ _ _ (by simp)).trans ((World.cell?_setCell_other _ _ _ _ (by simp)).trans ((World.cell?_setCell_other _ _ _ _ (by simp)).trans ((World.cell?_setCell_other _ _ _ _ (by simp)).trans ((World.cell?_setCell_other _ _ _ _ (by simp)).trans (World.cell?_setCell_same' _ _ _ (Option.isSome_iff_exists.2 ⟨_,z38⟩))))))
 have v39:w6.cell? ⟨J.bP,39,none⟩=some (.int .i64 (st.wd.mem.c.read:Int)):=by rw [kK];exact(World.cell?_setCell_other _ _ _ _ (by simp)).trans ((World.cell?_setCell_other _ _ _ _ (by simp)).trans ((World.cell?_setCell_other _ _ _ _ (by simp)).trans ((World.cell?_setCell_other _ _ _ _ (by simp)).trans (World.cell?_setCell_same' _ _ _ (Option.isSome_iff_exists.2 ⟨_,(World.cell?_setCell_other _ _ _ _ (by simp)).trans (z39)⟩)))))
 have v40:w6.cell? ⟨J.bP,40,none⟩=some (.int .i64 (st.wd.mem.c.write:Int)):=by rw [kK];exact(World.cell?_setCell_other _ _ _ _ (by simp)).trans ((World.cell?_setCell_other _ _ _ _ (by simp)).trans ((World.cell?_setCell_other _ _ _ _ (by simp)).trans (World.cell?_setCell_same' _ _ _ (Option.isSome_iff_exists.2 ⟨_,(World.cell?_setCell_other _ _ _ _ (by simp)).trans ((World.cell?_setCell_other _ _ _ _ (by simp)).trans (z40))⟩))))
 have v41:w6.cell? ⟨J.bP,41,none⟩=some (.int .i64 (st.wd.mem.c.swap:Int)):=by rw [kK];exact(World.cell?_setCell_other _ _ _ _ (by simp)).trans ((World.cell?_setCell_other _ _ _ _ (by simp)).trans (World.cell?_setCell_same' _ _ _ (Option.isSome_iff_exists.2 ⟨_,(World.cell?_setCell_other _ _ _ _ (by simp)).trans ((World.cell?_setCell_other _ _ _ _ (by simp)).trans ((World.cell?_setCell_other _ _ _ _ (by simp)).trans (z41)))⟩)))
 have v42:w6.cell? ⟨J.bP,42,none⟩=some (.int .i64 (st.wd.mem.c.add:Int)):=by rw [kK];exact(World.cell?_setCell_other _ _ _ _ (by simp)).trans (World.cell?_setCell_same' _ _ _ (Option.isSome_iff_exists.2 ⟨_,(World.cell?_setCell_other _ _ _ _ (by simp)).trans ((World.cell?_setCell_other _ _ _ _ (by simp)).trans ((World.cell?_setCell_other _ _ _ _ (by simp)).trans ((World.cell?_setCell_other _ _ _ _ (by simp)).trans (z42))))⟩))
 have v43:w6.cell? ⟨J.bP,43,none⟩=some (.int .i64 (st.wd.mem.c.fault:Int)):=by rw [kK];exact World.cell?_setCell_same' _ _ _ (Option.isSome_iff_exists.2 ⟨_,(World.cell?_setCell_other _ _ _ _ (by simp)).trans ((World.cell?_setCell_other _ _ _ _ (by simp)).trans ((World.cell?_setCell_other _ _ _ _ (by simp)).trans ((World.cell?_setCell_other _ _ _ _ (by simp)).trans ((World.cell?_setCell_other _ _ _ _ (by simp)).trans (z43)))))⟩)
 have FV:w6.heap[w.heap.size]?=some (.cells #[.slice none 0 0,.slice none 0 0,.int .i64 0,.int .i64 0,.int .i64 0,.int .i64 0,.int .i64 0,.int .i64 0,.int .i64 0] 32 (0,0)):=by rw [kK];exact(aH (by omega) _ _).trans ((aH (by omega) _ _).trans ((aH (by omega) _ _).trans ((aH (by omega) _ _).trans ((aH (by omega) _ _).trans ((aH (by omega) _ _).trans (Du))))))
 have g0:w6.cell? ⟨w.heap.size,0,none⟩=some (.slice none 0 0):=by rw [aA FV];rfl
 have Pw:w6.frozen? ⟨w.heap.size,0,none⟩=false:=aB FV 0
 have g1:w6.cell? ⟨w.heap.size,1,none⟩=some (.slice none 0 0):=by rw [aA FV];rfl
 have Rk:w6.frozen? ⟨w.heap.size,1,none⟩=false:=aB FV 1
 have g2:w6.cell? ⟨w.heap.size,2,none⟩=some (.int .i64 0):=by rw [aA FV];rfl
 have Qa:w6.frozen? ⟨w.heap.size,2,none⟩=false:=aB FV 2
 have g3:w6.cell? ⟨w.heap.size,3,none⟩=some (.int .i64 0):=by rw [aA FV];rfl
 have Po:w6.frozen? ⟨w.heap.size,3,none⟩=false:=aB FV 3
 have g4:w6.cell? ⟨w.heap.size,4,none⟩=some (.int .i64 0):=by rw [aA FV];rfl
 have Sl:w6.frozen? ⟨w.heap.size,4,none⟩=false:=aB FV 4
 have g5:w6.cell? ⟨w.heap.size,5,none⟩=some (.int .i64 0):=by rw [aA FV];rfl
 have Ql:w6.frozen? ⟨w.heap.size,5,none⟩=false:=aB FV 5
 have g6:w6.cell? ⟨w.heap.size,6,none⟩=some (.int .i64 0):=by rw [aA FV];rfl
 have Qc:w6.frozen? ⟨w.heap.size,6,none⟩=false:=aB FV 6
 have g7:w6.cell? ⟨w.heap.size,7,none⟩=some (.int .i64 0):=by rw [aA FV];rfl
 have Qv:w6.frozen? ⟨w.heap.size,7,none⟩=false:=aB FV 7
 have g8:w6.cell? ⟨w.heap.size,8,none⟩=some (.int .i64 0):=by rw [aA FV];rfl
 have Px:w6.frozen? ⟨w.heap.size,8,none⟩=false:=aB FV 8
 have CR:Chg (λb=>b=J.bP) w5 w6:=by
  rw [kK]
  exact((((((Chg.refl (λb=>b=J.bP) w5).setCell (by exact .inl rfl) _).setCell (by exact .inl rfl) _).setCell (by exact .inl rfl) _).setCell (by exact .inl rfl) _).setCell (by exact .inl rfl) _).setCell (by exact .inl rfl) _
 have Hch6:=Lib.hid CR;have Hw6:=Lib.hid kK;have Hr6:=Lib.hid FV
 clear Du FV CR kK z0 zw z37 z38 z39 z40 z41 z42 z43 z44 z45 f38 f39 f40 f41 f42 f43
 go_wp2
 obtain⟨w7,hw7⟩:∃ w7,w7=(((((((((w6.setCell ⟨w.heap.size,0,none⟩ (.slice ea en ec)).setCell ⟨w.heap.size,1,none⟩ (.slice va nws vc)).setCell ⟨w.heap.size,2,none⟩ (.int .i64 (st.wd.mem.c.read:Int))).setCell ⟨w.heap.size,3,none⟩ (.int .i64 (st.wd.mem.c.write:Int))).setCell ⟨w.heap.size,4,none⟩ (.int .i64 (st.wd.mem.c.swap:Int))).setCell ⟨w.heap.size,5,none⟩ (.int .i64 (st.wd.mem.c.add:Int))).setCell ⟨w.heap.size,6,none⟩ (.int .i64 (st.wd.mem.c.fault:Int))).setCell ⟨w.heap.size,7,none⟩ (.int .i64 (st.wd.now:Int))).setCell ⟨w.heap.size,8,none⟩ (.int .i64 (st.idle:Int))):=⟨_,rfl⟩
 rw [<-hw7]
 have vZ:w7.heap[w.heap.size]?=some (.cells #[.slice ea en ec,.slice va nws vc,.int .i64 (st.wd.mem.c.read:Int),.int .i64 (st.wd.mem.c.write:Int),.int .i64 (st.wd.mem.c.swap:Int),.int .i64 (st.wd.mem.c.add:Int),.int .i64 (st.wd.mem.c.fault:Int),.int .i64 (st.wd.now:Int),.int .i64 (st.idle:Int)] 32 (0,0)):=by rw [hw7,(aG (aG (aG (aG (aG (aG (aG (aG (aG Hr6.out _ _) _ _) _ _) _ _) _ _) _ _) _ _) _ _) _ _)];rfl
 have iD:Chg (λb=>b=w.heap.size) w6 w7:=by rw [hw7];exact((((((((((Chg.refl (λb=>b=w.heap.size) w6).setCell (by exact .inl rfl) _).setCell (by exact .inl rfl) _).setCell (by exact .inl rfl) _).setCell (by exact .inl rfl) _).setCell (by exact .inl rfl) _).setCell (by exact .inl rfl) _).setCell (by exact .inl rfl) _).setCell (by exact .inl rfl) _).setCell (by exact .inl rfl) _)
 have k0:w7.cell? ⟨w.heap.size,0,none⟩=some (.slice ea en ec):=by rw [aA vZ];rfl
 have k1:w7.cell? ⟨w.heap.size,1,none⟩=some (.slice va nws vc):=by rw [aA vZ];rfl
 have k2:w7.cell? ⟨w.heap.size,2,none⟩=some (.int .i64 (st.wd.mem.c.read:Int)):=by rw [aA vZ];rfl
 have k3:w7.cell? ⟨w.heap.size,3,none⟩=some (.int .i64 (st.wd.mem.c.write:Int)):=by rw [aA vZ];rfl
 have k4:w7.cell? ⟨w.heap.size,4,none⟩=some (.int .i64 (st.wd.mem.c.swap:Int)):=by rw [aA vZ];rfl
 have k5:w7.cell? ⟨w.heap.size,5,none⟩=some (.int .i64 (st.wd.mem.c.add:Int)):=by rw [aA vZ];rfl
 have k6:w7.cell? ⟨w.heap.size,6,none⟩=some (.int .i64 (st.wd.mem.c.fault:Int)):=by rw [aA vZ];rfl
 have k7:w7.cell? ⟨w.heap.size,7,none⟩=some (.int .i64 (st.wd.now:Int)):=by rw [aA vZ];rfl
 have k8:w7.cell? ⟨w.heap.size,8,none⟩=some (.int .i64 (st.idle:Int)):=by rw [aA vZ];rfl
 clear hw7 vZ
 refine bodyPost_ret (v:=lC (.slice ea en ec) (.slice va nws vc) (zO S st)) (by simp [results,Tryz.results34 ,go_sem,k0,k1,k2,k3,k4,k5,k6,k7,k8,lC,zO]) rfl ?_
 have hsz:w.heap.size<w2.heap.size:=aC R2.out
 have hs3:=Hsz3.out
 have hcA:Chg (λb=>b=J.bP) w2 w3:=by rw [Hw3.out];exact(Chg.refl (λb=>b=J.bP) w2).setCell (by exact .inl rfl) _
 have hcB:Chg (λb=>b=J.bP) w2 w5:=hcA.trans (Chg.of_below Hhz.out)
 have hcC:Chg (λb=>b=J.bP∨b=w.heap.size) w2 w7:=((hcB.trans Hch6.out).mono (λb _ h=>.inl h)).trans (iD.mono (λb _ h=>.inr h))
 have hcE:Chg (λb=>b=J.bP∨b=w.heap.size) w4 w7:=(((Chg.of_below Hhy.out:Chg (λb=>b=J.bP) w4 w5).trans Hch6.out).mono (λb _ h=>.inl h)).trans (iD.mono (λb _ h=>.inr h))
 have hsub:∀ b,(b=J.bP∨b=w.heap.size)->G.Mut b∨b=w.heap.size:=by
  rintro b (rfl|h)
  ·exact(H2.out.pmut _ (.inl rfl)).1
  ·exact .inr h
 have hrow:=H2.out.eva.row
 have hall:Chg (λb=>B0<=b) w w7:=(Hch0.out.trans (Hch.out.mono (λb _ h=>Hrowlt.out b h))).trans (hcC.mono (λb _ h=>by rcases h with rfl|rfl<;>omega))
 have hen:=Hen.out;have hnws:=Hnws.out
 have hold:∀ b,J.old b->G.Mut b∨b=w.heap.size:=λb hb=>(H2.out.oldm b hb).1
 subst hen hnws
 refine⟨ea,ec,va,vc,ers,rfl,⟨?_,H2.out.eva.elen,λi hi=>?_,?_⟩,hall.below (λb h=>h) hB⟩
 ·have h8:=bB hrow hcC (λb hb hx=>by
   rcases hx with rfl|rfl
   ·exact H2.out.psep.2.2.1 hb
   ·exact Nat.lt_irrefl _ (Hevlt.out _ hb))
  rw [show({ ({ G with Mut:=λb=>G.Mut b∨b=w.heap.size }:PG) with ers:=ers }:PG).ev=G.ev from rfl,Hevf2.out] at h8
  exact h8
 ·obtain⟨l1,l2⟩:=H2.out.eva.ans i hi
  exact⟨(l1.keep hcC hsub (aN.refl _ _)).less hold,(l2.keep hcC hsub (aN.refl _ _)).less hold⟩
 ·have h8:=bB Hho.out hcE (λb hb hx=>by
   have h9:=(Hho.out.lt b hb).1
   have h10:w3.heap.size<=b:=h9
   rcases hx with rfl|rfl<;>omega)
  have h9:=TE h8 (B':=B0) (by show B0<=w3.heap.size;omega)
  exact h9
end
section
open Go.RowKit
variable {S:Sys} {R:Real S}
def checkN (n:Int) (calls:List aD) (np:Nat):Int:=if n<1∨16<n then 1 else if 1000<calls.length∨65536<np then 3 else gK n calls
theorem PQ (n:Int) (calls:List aD) (np:Nat) (ca pa:Option Addr) (cc pc:Nat) (w:World) (hcs:cB w ca calls.length 6 (iX calls)) (hp:np<=maxLen) (hwf:∀ x∈calls,(Lit.int .i64 x.thread).wf=true) :
  Calls Tryz.prog 18 #[.int .i64 n,.slice ca calls.length cc,.slice pa np pc] w λe w'=>e=.returned (.int .i64 (checkN n calls np))/\Below w.heap.size w w':=by
 have N:=Lib.hid (YZ n calls ca cc w hcs hwf)
 have hm:=hcs.1
 unfold maxLen at hm hp
 clear hcs hwf
 by_cases h1:n<1
 ·have hk:checkN n calls np=1:=by unfold checkN;rw [if_pos (.inl h1)]
  rw [hk];clear hk
  go_enter Tryz.func18,Tryz.ntmps18
  go_wp2
  go_ret
  exact⟨rfl,Gr.refl _⟩
 by_cases h2:16<n
 ·have hk:checkN n calls np=1:=by unfold checkN;rw [if_pos (.inr h2)]
  rw [hk];clear hk
  go_enter Tryz.func18,Tryz.ntmps18
  go_wp2
  go_ret
  exact⟨rfl,Gr.refl _⟩
 by_cases h3:(1000:Int)<(calls.length:Int)
 ·have hk:checkN n calls np=3:=by unfold checkN;rw [if_neg (by omega),if_pos (by omega)]
  rw [hk];clear hk
  go_enter Tryz.func18,Tryz.ntmps18
  go_wp2
  go_ret
  exact⟨rfl,Gr.refl _⟩
 by_cases h4:(65536:Int)<(np:Int)
 ·have hk:checkN n calls np=3:=by unfold checkN;rw [if_neg (by omega),if_pos (by omega)]
  rw [hk];clear hk
  go_enter Tryz.func18,Tryz.ntmps18
  go_wp2
  go_ret
  exact⟨rfl,Gr.refl _⟩
 have hk:checkN n calls np=gK n calls:=by unfold checkN;rw [if_neg (by omega),if_neg (by omega)]
 rw [hk];clear hk
 go_enter Tryz.func18,Tryz.ntmps18
 go_wp2_with fail
 refine N.out.mono ?_
 rintro e w1 (⟨h0,rfl,hb⟩|⟨h0,rfl,hb,M,hl⟩)
 ·have Hb:=Lib.hid hb
  clear hb h0
  go_wp2
  go_ret
  exact⟨rfl,Hb.out⟩
 ·have Hb:=Lib.hid hb;have H0:=Lib.hid h0
  clear hb hl h0
  go_wp2
  go_ret
  exact⟨by rw [H0.out];rfl,Hb.out⟩
theorem yP {α:Type} {n p:Nat} {x d:α} (h:p<n):(List.replicate n x).getD p d=x:=by simp [List.getD_eq_getElem?_getD,h]
theorem jN {α:Type} {n p:Nat} {x:α}:(List.replicate n x).getD p x=x:=by
 simp only [List.getD_eq_getElem?_getD,List.getElem?_replicate];split<;>rfl
structure Zt (R:Real S) (X:Nat->Prop) (w:World) (o0:S.ω) (n:Int) (calls:List aD) (ws:List Nat) (ov cv wv:Value):Prop where
 cs:∃ ca cc,cv=.slice ca calls.length cc/\cB w ca calls.length 6 (iX calls)/\(0<calls.length->∀ b off,ca=some ⟨b,off,none⟩->¬ X b)
 ok:∀ x∈calls,lF x
 objs:∃ bo oo oc,ov=.slice (some ⟨bo,oo,none⟩) 1 oc/\w.cell? ⟨bo,oo,none⟩=some (.iface R.T R.x)/\¬ X bo
 wsl:∃ wa wc,wv=.slice wa ws.length wc/\cB w wa ws.length 1 (fE ws)/\(wa=none->wc=0)
 wlen:ws.length<=65536
 wval:∀ x∈ws,x<18446744073709551616
 noOB:∀ b,¬ R.OB b
 orep:∀(u:World) (M:Nat->Prop),R.ORep u M o0
 oinv:R.inv o0 (cZ ws)
 xlt:∀ b,X b->b<w.heap.size
structure wW (R:Real S) (X:Nat->Prop) (w:World) (o0:S.ω) (n:Int) (calls:List aD) (ws:List Nat) (ov cv wv:Value):Prop where
 cs:∃ ca cc,cv=.slice ca calls.length cc/\cB w ca calls.length 6 (iX calls)/\(0<calls.length->∀ b off,ca=some ⟨b,off,none⟩->¬ X b)
 ok:∀ x∈calls,lF x
 objs:∃ bo oo oc,ov=.slice (some ⟨bo,oo,none⟩) 1 oc/\w.cell? ⟨bo,oo,none⟩=some (.iface R.T R.x)/\¬ X bo
 wsl:∃ wa wc,wv=.slice wa ws.length wc/\cB w wa ws.length 1 (fE ws)/\(wa=none->wc=0)
 wlen:ws.length<=65536
 wval:∀ x∈ws,x<18446744073709551616
 ob:∀ b,R.OB b->X b
 orep:∀(u:World) (M:Nat->Prop),Below w.heap.size w u->(∀ b,R.OB b->M b)->R.ORep u M o0
 oinv:R.inv o0 (cZ ws)
 xlt:∀ b,X b->b<w.heap.size
theorem wW.grown {X X':Nat->Prop} {w w':World} {o0:S.ω} {n:Int} {calls:List aD} {ws:List Nat} {ov cv wv:Value} (h:wW R X w o0 n calls ws ov cv wv) (hb:Below w.heap.size w w') (hX:∀ b,X' b->X b∨(w.heap.size<=b/\b<w'.heap.size)) (hI:∀ b,X b->X' b):wW R X' w' o0 n calls ws ov cv wv:=by
 obtain⟨⟨ca,cc,h1,h2,h2x⟩,h3,⟨bo,oo,oc,h4,h5,h5x⟩,⟨wa,wc,h6,h7,h8⟩,h9,h10,h11,h12,h13,h14⟩:=h
 have hlt:=World.block_lt_of_cell? _ _ h5
 refine⟨⟨ca,cc,h1,h2.grown hb,λhp b off e hx=>?_⟩,h3,⟨bo,oo,oc,h4,(hb.cell hlt).trans h5,λhx=>?_⟩,⟨wa,wc,h6,h7.grown hb,h8⟩,h9,h10,λb uZ=>hI b (h11 b uZ),λu M hu hM=>h12 u M (Gr.trans hb hu) hM,h13,λb hx=>?_⟩
 ·obtain⟨b0,KU,e0,hb0⟩:=h2.lt hp
  rw [e0] at e;cases e
  rcases hX _ hx with hy|hy
  ·exact h2x hp _ _ e0 hy
  ·omega
 ·simp only at hlt
  rcases hX _ hx with hy|hy
  ·exact h5x hy
  ·omega
 ·rcases hX _ hx with hy|hy
  ·exact Nat.lt_of_lt_of_le (h14 b hy) hb.size
  ·exact hy.2
def DU (bm bt:Nat):Array Value:=dD bm 0 (List.replicate 16 0) (List.replicate 16 (.slice none 0 0)) bt
def TF (bW bl:Nat) (ov cv:Value):Array Value:=aO bW bl ov cv 0 (List.replicate 16 (.nilIface,0)) (.slice none 0 0) 0
theorem Ex {X:Nat->Prop} {w w1 w2 w5:World} {o0:S.ω} {n:Int} {calls:List aD} {ws:List Nat} {ov cv wv:Value} {bm:Nat} {bw:Option Nat} {M:Int->Value} (h:wW R X w o0 n calls ws ov cv wv) (hn:gK n calls=0)
  (hm:fO w1 bm bw ⟨ws,c0⟩) (hb1:Below w.heap.size w w1) (hq1:w.heap.size<=bm) (hq2:∀ q,bw=some q->w.heap.size<=q)
  (hb2:Below w1.heap.size w1 w2) (hl:iT w2 (λb=>w1.heap.size<=b/\b<w2.heap.size) (w1.heap.size+1) w1.heap.size calls.length M (qF calls (List.replicate calls.length false)) (calls.length:Int))
  (h5:w5=((w2.alloc (.map #[] 0)).alloc (.cells (DU bm w2.heap.size) 127)).alloc (.cells (TF (w2.heap.size+1) (w1.heap.size+1) ov cv) 134)) :
  Below w.heap.size w w5/\NK R calls w5 ⟨⟨w2.heap.size+1,bm,w2.heap.size,bw⟩,w2.heap.size+2,w1.heap.size+1,w1.heap.size,X⟩ ov cv w.heap.size (dG S o0 ws calls):=by
 have Td:Below w2.heap.size w2 w5:=by rw [h5];exact Gr.alloc (Gr.alloc (Gr.new _ _) _) _
 have Xd:Below w1.heap.size w1 w5:=Gr.trans hb2 Td
 have Jr:Below w.heap.size w w5:=Gr.trans hb1 Xd
 have hX:=h.xlt
 have s1:=hb1.size;have s2:=hb2.size
 have s5:w5.heap.size=w2.heap.size+3:=by rw [h5];simp
 have hllt:=aC hl.line
 have hmlt:=hm.lt;have hmlow:=hm.low
 obtain⟨z1,z2,z3,z4⟩:=gZ hn
 have hA:(w2.alloc (.map #[] 0)).heap.size=w2.heap.size+1:=by simp
 have hB:((w2.alloc (.map #[] 0)).alloc (.cells (DU bm w2.heap.size) 127)).heap.size=w2.heap.size+2:=by simp
 have kW:w5.heap[w2.heap.size+1]?=some (.cells (DU bm w2.heap.size) 127 (0,0)):=by
  rw [h5,Below.heap_alloc _ _ _ (by rw [hB];omega)]
  have:=heap_alloc_new (w2.alloc (.map #[] 0)) (.cells (DU bm w2.heap.size) 127 (0,0))
  rw [hA] at this;exact this
 have kP:w5.heap[w2.heap.size+2]?=some (.cells (TF (w2.heap.size+1) (w1.heap.size+1) ov cv) 134 (0,0)):=by
  rw [h5]
  have:=heap_alloc_new ((w2.alloc (.map #[] 0)).alloc (.cells (DU bm w2.heap.size) 127)) (.cells (TF (w2.heap.size+1) (w1.heap.size+1) ov cv) 134 (0,0))
  rw [hB] at this;exact this
 have kT:MapAt w5 w2.heap.size 0 (λ_=>.slice none 0 0):=by
  refine(MapAt.made w2).block ?_
  rw [h5,Below.heap_alloc _ _ _ (by rw [hB];omega),Below.heap_alloc _ _ _ (by rw [hA];omega)]
 obtain⟨I,hI⟩:∃ I:iM,I=⟨w2.heap.size+1,bm,w2.heap.size,bw⟩:=⟨_,rfl⟩
 have hWS:∀ b,cK I b->(b=w2.heap.size+1∨b=bm∨b=w2.heap.size∨some b=bw):=λb hb=>by rw [hI] at hb;exact hb
 have hWlow:∀ b,cK I b->w.heap.size<=b/\b<w5.heap.size/\(b<w1.heap.size∨b=w2.heap.size∨b=w2.heap.size+1):=by
  intro b hb
  rcases hWS b hb with rfl|rfl|rfl|e
  ·omega
  ·omega
  ·omega
  ·have:=hq2 b e.symm;have:=hmlow b e.symm;omega
 refine⟨Jr,{ Mut:=λb=>(cK I b∨b=w2.heap.size+2∨b=w1.heap.size+1∨b=w1.heap.size)∨X b,MB:=λ_=>noB,hs:=List.replicate 16 (.nilIface,0),ev:=.slice none 0 0,ers:=[],turn:=0,N:=0 },?_⟩
 rw [<-hI]
 have hMlow:∀ b,(cK I b∨b=w2.heap.size+2∨b=w1.heap.size+1∨b=w1.heap.size)->w.heap.size<=b/\b<w5.heap.size:=by
  rintro b (hb|rfl|rfl|rfl)
  ·have:=hWlow b hb;omega
  ·omega
  ·omega
  ·omega
 have hIW:I.bW=w2.heap.size+1:=by rw [hI]
 have hIm:I.bm=bm:=by rw [hI]
 have hIt:I.bt=w2.heap.size:=by rw [hI]
 have hIb:I.bw=bw:=by rw [hI]
 refine⟨?_,by simp,by simp [EE,dG],λp hp=>?_,?_,h.orep _ _ Jr (λb hb=>.inr (h.ob b hb)),h.oinv,⟨calls.length,M,calls.length,?_,?_,?_⟩,by simp [dG],⟨World.ownsRow_nil _ _ _ _,rfl,λi hi=>by simp [dG] at hi⟩,by simp [dG],λp hp m hm=>?_,?_,λb hb=>?_,λb hb hx=>by { have h8:=hX b (h.ob b hb);have h9:=(hWlow b hx).1;omega },?_,λp b _ hb=>hb.elim,λp q b _ _ _ hb=>hb.elim,?_,by simp [dG,cZ],by simp [dG],?_,λi=>by simp [dG,iO],λb hb=>⟨.inr hb,hX b hb⟩⟩
 ·rw [hIW];exact kP
 ·rw [jO]
  show jY R w5 _ noB p ((List.replicate 16 ((.nilIface:Value),0)).getD p (undef,0)) (((List.replicate 16 ((none:Option S.σ),0)).getD p (none,0)).1.map Mh.run,((List.replicate 16 ((none:Option S.σ),0)).getD p (none,0)).2)
  rw [yP hp,yP hp]
  exact⟨rfl,rfl⟩
 ·refine⟨⟨List.replicate 16 (.slice none 0 0),by rw [hIW,hIm,hIt];exact kW,by simp,λp hp=>?_⟩,by simp [dG,cZ],by simp [dG,cZ],by rw [hIm,hIb];exact hm.gr Xd,⟨0,_,by rw [hIt];exact kT,Nat.le_refl _,λ_=>Lst.nil _ _⟩,?_,λb hb=>.inl (.inl hb),λb hb=>by rcases hb with hb|hb;exact(hMlow b hb).2;have:=hX b hb;omega,by simp [dG,cZ],by simp⟩
  ·rw [yP hp]
   show Lst w5 _ _ ((List.replicate 16 ([]:List Int)).getD p [])
   rw [yP hp]
   exact Lst.nil _ _
  ·rw [hIW,hIm,hIt,hIb]
   refine⟨by omega,by omega,by omega,λe=>?_,λe=>?_⟩
   ·have:=hmlow _ e;omega
   ·have:=hmlow _ e;omega
 ·have hl5:=hl.chg (S:=noB) (Chg.of_below Td) (λh=>h) (λh=>h) (λ_ _ h=>h)
  refine⟨hl5.line,hl5.map,λp=>?_⟩
  obtain⟨a,c,g1,g2,g3,g4⟩:=hl5.rows p
  refine⟨a,c,g1,g2,g3,λb off e=>⟨(g4 b off e).1,(g4 b off e).2.1,?_,?_⟩⟩
  ·have:=(g4 b off e).2.2;omega
  ·obtain⟨f1,f2,f3,f4⟩:=g4 b off e
   rintro((hb|hb|hb|hb)|hb)
   ·have:=hWlow b hb;omega
   ·omega
   ·exact f1 hb
   ·exact f2 hb
   ·have:=hX b hb;omega
 ·omega
 ·show(calls.length:Int)=(calls.length:Int) - ((List.replicate calls.length false).count true:Int)
  rw [List.count_replicate];simp
 ·rw [jO] at hm
  rw [show(dG S o0 ws calls).hands.getD p (none,0)=(none,0) from yP hp] at hm
  cases hm
 ·obtain⟨ca,cc,e1,e2,e2x⟩:=h.cs
  obtain⟨bo,oo,oc,e3,e4,e4x⟩:=h.objs
  refine⟨⟨ca,cc,e1,e2.grown Jr,λhp b off e hx=>?_⟩,λx hx=>⟨h.ok x hx,?_⟩,z3,⟨bo,oo,oc,e3,(Jr.cell (World.block_lt_of_cell? _ _ e4)).trans e4,λhx=>?_⟩⟩
  ·obtain⟨b0,KU,e0,hb0⟩:=e2.lt hp
   rw [e0] at e;cases e
   rcases hx with hx|hx
   ·have:=hMlow _ hx;omega
   ·exact e2x hp _ _ e0 hx
  ·have h9:BU n x=false:=by
    unfold kC at z4
    rw [List.any_eq_false] at z4
    simpa using z4 x hx
   unfold BU at h9
   simp at h9
   omega
  ·have:=World.block_lt_of_cell? _ _ e4
   simp only at this
   rcases hx with hx|hx
   ·have:=(hMlow _ hx).1;omega
   ·exact e4x hx
 ·have hb':b=w2.heap.size+2∨b=w1.heap.size+1∨b=w1.heap.size:=by
   rcases hb with hb|hb|hb|hb
   ·exact .inl hb
   ·exact .inr (.inl hb)
   ·exact .inr (.inr hb)
   ·cases hb
  refine⟨.inl (.inr hb'),λhx=>?_,λhx=>?_⟩
  ·have:=hWlow b hx
   omega
  ·have h8:=hX b (h.ob b hx)
   omega
 ·refine⟨by show w2.heap.size+2≠w1.heap.size+1;omega,by show w2.heap.size+2≠w1.heap.size;omega,(by intro e;cases e),(by intro e;cases e),(by intro e;cases e)⟩
 ·show eO.all c0<=0;decide
 ·exact⟨Jr.size,by show w.heap.size<=w2.heap.size+2;omega,λb hb=>(hWlow b hb).1,by show w.heap.size<=w1.heap.size+1;omega,by show w.heap.size<=w1.heap.size;omega,λb hb=>.inr hb,λp b _ hb=>hb.elim⟩
def Lm (X:Nat->Prop) (R:Real S) (calls:List aD) (w w':World) (ov cv:Value) (st:aP S) (e:Ending):Prop:=
 ∃ J:vX,J.old=X/\e=.returned (.tuple #[.pointer (some ⟨J.bP,0,none⟩),.int .i64 0])/\Below w.heap.size w w'/\NK R calls w' J ov cv w.heap.size st
theorem Cc (X:Nat->Prop) (w:World) (o0:S.ω) (n:Int) (calls:List aD) (ws:List Nat) (ov cv wv:Value) (h:wW R X w o0 n calls ws ov cv wv) (hn:gK n calls=0) :
  Calls Tryz.prog 32 #[.int .i64 n,ov,wv,cv] w λe w'=>Lm X R calls w w' ov cv (dG S o0 ws calls) e:=by
 obtain⟨ca,cc,rfl,hcs,_⟩:=h.cs
 obtain⟨wa,wc,rfl,hws,hwn⟩:=h.wsl
 obtain⟨bo,oo,oc,rfl,hbo,_⟩:=h.objs
 have N:=Lib.hid (Lv wa wc ws w hws h.wlen hwn h.wval)
 have P:=Lib.hid (λ(u:World) (hu:Below w.heap.size w u)=>YZ n calls ca cc u (hcs.grown hu) (λx hx=>(h.ok x hx).thread))
 have Hh:=Lib.hid h;have Hn:=Lib.hid hn
 have hmm:=@run_makeMap Tryz.prog
 clear h hcs hws hwn hbo hn
 go_enter Tryz.func32,Tryz.ntmps32
 go_wp2_with fail
 refine N.out.mono ?_
 rintro e w1 ⟨bm,bw,rfl,hm,hb1,hq1,hq2⟩
 have Hm:=Lib.hid hm;have Hb1:=Lib.hid hb1;have Hq1:=Lib.hid hq1;have Hq2:=Lib.hid hq2
 clear hm hb1 hq1 hq2
 go_wp2_with fail
 refine(P.out _ Hb1.out).mono ?_
 rintro e w2 (⟨h0,_⟩|⟨_,rfl,hb2,M,hl⟩)
 ·exact absurd Hn.out h0
 have Hb2:=Lib.hid hb2;have Hl:=Lib.hid hl
 clear hb2 hl
 go_wp2
 go_ret2
 obtain⟨b1,b2⟩:=Ex (X:=X) Hh.out Hn.out Hm.out Hb1.out Hq1.out Hq2.out Hb2.out Hl.out rfl
 exact⟨_,rfl,rfl,b1,b2⟩
end
end Go.Proofs.YtfkokppncipgnaaGreat
