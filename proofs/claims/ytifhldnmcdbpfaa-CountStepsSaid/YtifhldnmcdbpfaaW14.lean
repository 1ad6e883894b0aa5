/- Layer 6: a play's report: (*Player).Report. -/
import Derived.Test.YtifhldnmcdbpfaaW13
set_option maxRecDepth 100000
set_option linter.unusedVariables false
set_option linter.unusedSimpArgs false
set_option linter.unnecessarySimpa false
namespace Go.Proofs.Ytifhldnmcdbpfaa
open Go.RowKit
variable {S:Sys} {R:Real S}
def mQ (ev wv:Value) (r:jC):Value:=.agg #[ev,wv,.int .i64 (r.c.read:Int),.int .i64 (r.c.write:Int),.int .i64 (r.c.swap:Int),.int .i64 (r.c.add:Int),.int .i64 (r.c.fault:Int),.int .i64 (r.ticks:Int),.int .i64 (r.idle:Int)]
structure iC (Old:Nat->Prop) (B0:Nat) (w:World) (ev wv:Value) (ers:List (Value×Value)) (r:jC):Prop where
 row:w.ownsRow B0 44 8 ev r.evs.length (gP r.evs ers)
 elen:ers.length=r.evs.length
 ans:∀ i,i<r.evs.length->jK w Old (ers.getD i tQ).1 (r.evs.getD i jY).ans.list/\Lst w Old (ers.getD i tQ).2 (r.evs.getD i jY).key
 words:w.ownsRow B0 40 1 wv r.words.length (r.words.map kS)
theorem Lst.less {w:World} {Mut Old:Nat->Prop} {v:Value} {l:List Int} (h:Lst w Mut v l) (ho:∀ b,Old b->Mut b):Lst w Old v l:=by
 obtain⟨a,c,h1,h2,h3,h4⟩:=h
 exact⟨a,c,h1,h2,h3,λb off e hb=>h4 b off e (ho b hb)⟩
theorem jK.less {w:World} {Mut Old:Nat->Prop} {v:Value} {l:List Nat} (h:jK w Mut v l) (ho:∀ b,Old b->Mut b):jK w Old v l:=by
 obtain⟨a,c,h1,h3,h4⟩:=h
 exact⟨a,c,h1,h3,λh0 b off e hb=>h4 h0 b off e (ho b hb)⟩
theorem iC.chg {Old Q:Nat->Prop} {B0:Nat} {w w':World} {ev wv:Value} {ers:List (Value×Value)} {r:jC} (h:iC Old B0 w ev wv ers r) (hc:Chg Q w w') (hQ:∀ b,Q b->Old b/\b<B0):iC Old B0 w' ev wv ers r:=
 ⟨iA h.row hc (λb hb hq=>by have h1:=(h.row.lt b hb).1;have h2:=(hQ b hq).2;omega),h.elen,λi hi=>⟨(h.ans i hi).1.keep hc (λb hb=>(hQ b hb).1) (aV.refl _ _),(h.ans i hi).2.keep hc (λb hb=>(hQ b hb).1) (aV.refl _ _)⟩,iA h.words hc (λb hb hq=>by have h1:=(h.words.lt b hb).1;have h2:=(hQ b hq).2;omega)⟩
theorem iC.grown {Old:Nat->Prop} {B0:Nat} {w w':World} {ev wv:Value} {ers:List (Value×Value)} {r:jC} (h:iC Old B0 w ev wv ers r) (hb:Below w.heap.size w w'):iC Old B0 w' ev wv ers r:=
 h.chg (Q:=noB) (Chg.of_below hb) (λb hb=>hb.elim)
section
variable {bW bl:Nat} {ov cv:Value} {turn:Int} {hs:List (Value×Nat)} {ev:Value} {idle:Nat}
theorem fM (hl:hs.length=16) (j:Nat) (hj:j<8):(aN bW bl ov cv turn hs ev idle)[37+j]?=[ev,.slice none 0 0,zI,zI,zI,zI,zI,zI][j]?:=by
 have hl2:=gG hs
 simp only [aN,gZ,List.getElem?_toArray]
 rw [show 37+j=(32+j)+1+1+1+1+1 by omega]
 simp only [List.getElem?_cons_succ]
 rw [List.getElem?_append_right (by omega),hl2,hl,show 32+j - 16*2=j by omega]
 rw [List.getElem?_eq_getElem (by simp;omega),List.getElem?_eq_getElem (by simpa using hj)]
 congr 1
 match j,hj with
 | 0,_=>rfl
 | 1,_=>rfl
 | 2,_=>rfl
 | 3,_=>rfl
 | 4,_=>rfl
 | 5,_=>rfl
 | 6,_=>rfl
 | 7,_=>rfl
end
theorem wF {w:World} {B B':Nat} {v:Value} {e:TypeId} {k n:Nat} {xs:List Value} (h:w.ownsRow B e k v n xs) (hB:B'<=B):w.ownsRow B' e k v n xs:=by
 obtain⟨h1,h2⟩:=h
 refine⟨h1,?_⟩
 rcases h2 with h2|⟨g,cap,cur,hv,hg,r⟩
 ·exact .inl h2
 ·exact .inr ⟨g,cap,cur,hv,by omega,r⟩
section
variable {calls:List aF} {w w':World} {J:iZ} {ov cv:Value} {B0:Nat} {G:PG} {wd:WD} {o:S.ω} {fin:List Bool} {hands:List (Option (Mh S.σ)×Nat)} {evs:List EvD} {idle:Nat}
theorem aK.grownM (ok:dP R) (h:aK R calls w J ov cv B0 G wd o fin hands evs idle) (hb:Below w.heap.size w w') (hlt:w.heap.size<w'.heap.size):aK R calls w' J ov cv B0 { G with Mut:=λb=>G.Mut b∨b=w.heap.size } wd o fin hands evs idle:=by
 have hch:Chg noB w w':=Chg.of_below hb
 have hQ:∀ b,noB b->G.Mut b:=λb hb=>hb.elim
 have hup:aV G.Mut w (λb=>G.Mut b∨b=w.heap.size):=λb hb=>by
  rcases hb with hb|hb
  ·exact .inl hb
  ·exact .inr (by omega)
 obtain⟨n,M,left,t1,t2⟩:=h.line
 refine⟨(hb.block _ h.bPlt).trans h.blk,h.h1,h.h2,λq hq=>(h.hand q hq).keep ok hch hQ (λb _ hb=>hb) hup,h.world.keep hch hQ (λb hb=>hb.elim) hup (λb hb=>?_) (λb hb=>.inl (h.world.muts b hb)),ok.keepO _ _ _ _ _ _ h.obj hch hQ (λb _ hb=>hb) hup (λb hb=>.inl (ok.lowO _ _ _ h.obj b hb)),h.inv,
  ⟨n,M,left,t1.keepP hch hQ (λh=>h) (λh=>h) hup,t2⟩,h.flen,h.eva.keep hch hQ hup (λb _ hb=>hb),h.ele,h.at_,h.imm.keep hch hQ hup,λb hb=>⟨.inl (h.pmut b hb).1,(h.pmut b hb).2⟩,h.ow,h.psep,λp b hp hb=>⟨.inl (h.mb p b hp hb).1,(h.mb p b hp hb).2⟩,h.mbd,h.cnt,h.nowb,h.nb,?_,h.stp,λb hb=>⟨.inl (h.oldm b hb).1,(h.oldm b hb).2⟩⟩
 ·rcases hb with hb|hb
  ·exact Nat.lt_of_lt_of_le (h.world.low b hb) hch.size
  ·omega
 ·obtain⟨g1,g2⟩:=h.base
  exact⟨Nat.le_trans g1 hch.size,g2⟩
end
def FZ (Old:Nat->Prop) (w w':World) (B0:Nat) (r:jC) (e:Ending):Prop:=
 ∃ ea ec va vc ers,e=.returned (mQ (.slice ea r.evs.length ec) (.slice va r.words.length vc) r)/\iC Old B0 w' (.slice ea r.evs.length ec) (.slice va r.words.length vc) ers r/\Below B0 w w'
set_option maxHeartbeats 4000000 in
theorem AR (ok:dP R) (nl:pQ R) (calls:List aF) (w:World) (J:iZ) (ov cv:Value) (B0:Nat) (G:PG) (st:aQ S) (h:aK R calls w J ov cv B0 G st.wd st.obj st.fin (oL st.hands) st.evs st.idle) :
  Calls Try.prog 43 #[.pointer (some ⟨J.bP,0,none⟩)] w λe w'=>FZ J.old w w' B0 (oI S st) e:=by
 obtain⟨wa,hwa⟩:∃ wa,wa=w.alloc (.cells #[.slice none 0 0,.slice none 0 0,.int .i64 0,.int .i64 0,.int .i64 0,.int .i64 0,.int .i64 0,.int .i64 0,.int .i64 0] 32):=⟨_,rfl⟩
 have hga:Below w.heap.size w wa:=by rw [hwa];exact Gr.new _ _
 have hra:wa.heap[w.heap.size]?=some (.cells #[.slice none 0 0,.slice none 0 0,.int .i64 0,.int .i64 0,.int .i64 0,.int .i64 0,.int .i64 0,.int .i64 0,.int .i64 0] 32 (0,0)):=by rw [hwa];exact heap_alloc_new _ _
 have ha:=aK.grownM ok h hga (by rw [hwa];simp)
 have E:=Lib.hid (LP ok nl calls wa J ov cv B0 { G with Mut:=λb=>G.Mut b∨b=w.heap.size } st ha)
 have yQ:Chg (λb=>B0<=b) w wa:=Chg.of_below hga
 have Hch0:=Lib.hid yQ
 have hBP:=h.base.2.1
 have hrowlt:∀ b,G.ev.ownBlock=some b->B0<=b:=λb hb=>(h.eva.row.lt b hb).1
 have Hrowlt:=Lib.hid hrowlt
 have hB:=h.base.1
 have hevlt:∀ b,G.ev.ownBlock=some b->b<w.heap.size:=λb hb=>(h.eva.row.lt b hb).2
 have Hevlt:=Lib.hid hevlt;have Hra:=Lib.hid hra;have Hwa:=Lib.hid hwa
 have hPlt:=h.bPlt;have hWlt:=h.world.wlt
 clear h ha hga hra hevlt hwa yQ hrowlt
 go_enter Try.func43,Try.ntmps43
 go_wp2_with fail
 rw [<-Hwa.out]
 refine E.out.mono ?_
 rintro e w2 ⟨rfl,hch,ers,h2⟩
 obtain⟨mks,hwb,hmk,_⟩:=h2.world.blk
 have r2:=(hch.block w.heap.size (aC Hra.out) (λe=>Nat.lt_irrefl _ (Hevlt.out _ e))).trans Hra.out
 have a0:w2.cell? ⟨J.bP,0,none⟩=some (.pointer (some ⟨J.W.bW,0,none⟩)):=by rw [aA h2.blk];exact dA
 have a44:w2.cell? ⟨J.bP,44,none⟩=some (.int .i64 0):=by rw [aA h2.blk];exact fM h2.h1 7 (by omega)
 have f44:w2.frozen? ⟨J.bP,44,none⟩=false:=aB h2.blk _
 have n1:w2.cell? ⟨J.W.bW,1,none⟩=some (.int .i64 (st.wd.now:Int)):=by rw [aA hwb];exact eO
 have hPW:J.bP≠J.W.bW:=λe=>(h2.pmut J.bP (.inl rfl)).2.1 (by rw [e];exact .inl rfl)
 have H2:=Lib.hid h2;have Hch:=Lib.hid hch;have Hwb:=Lib.hid hwb;have R2:=Lib.hid r2
 clear h2 hch hwb hmk r2
 go_upto_region 3 with fail
 obtain⟨w3,hw3⟩:∃ w3,w3=w2.setCell ⟨J.bP,44,none⟩ (.int .i64 (st.wd.now:Int)):=⟨_,rfl⟩
 rw [<-hw3]
 have hb3:w3.heap[J.bP]?=some (.cells ((aN J.W.bW J.bl ov cv G.turn G.hs G.ev st.idle).setIfInBounds 44 (.int .i64 (st.wd.now:Int))) 128 (0,0)):=by rw [hw3];exact aH H2.out.blk _ _
 have hc3:∀ j,j≠44->w3.cell? ⟨J.bP,j,none⟩=(aN J.W.bW J.bl ov cv G.turn G.hs G.ev st.idle)[j]?:=λj hj=>by rw [aA hb3,Array.getElem?_setIfInBounds_ne (Ne.symm hj)]
 have x0:w3.cell? ⟨J.bP,0,none⟩=some (.pointer (some ⟨J.W.bW,0,none⟩)):=by rw [hc3 0 (by omega)];exact dA
 have UH:w3.cell? ⟨J.bP,37,none⟩=some G.ev:=by rw [hc3 37 (by omega)];exact iE H2.out.h1
 have x38:w3.cell? ⟨J.bP,38,none⟩=some (.slice none 0 0):=by rw [hc3 38 (by omega)];exact fM H2.out.h1 1 (by omega)
 have x39:w3.cell? ⟨J.bP,39,none⟩=some (.int .i64 0):=by rw [hc3 39 (by omega)];exact fM H2.out.h1 2 (by omega)
 have UV:w3.cell? ⟨J.bP,40,none⟩=some (.int .i64 0):=by rw [hc3 40 (by omega)];exact fM H2.out.h1 3 (by omega)
 have VI:w3.cell? ⟨J.bP,41,none⟩=some (.int .i64 0):=by rw [hc3 41 (by omega)];exact fM H2.out.h1 4 (by omega)
 have UW:w3.cell? ⟨J.bP,42,none⟩=some (.int .i64 0):=by rw [hc3 42 (by omega)];exact fM H2.out.h1 5 (by omega)
 have UO:w3.cell? ⟨J.bP,43,none⟩=some (.int .i64 0):=by rw [hc3 43 (by omega)];exact fM H2.out.h1 6 (by omega)
 have UU:w3.cell? ⟨J.bP,45,none⟩=some (.int .i64 (st.idle:Int)):=by rw [hc3 45 (by omega)];exact pV H2.out.h1
 have UZ:w3.cell? ⟨J.bP,44,none⟩=some (.int .i64 (st.wd.now:Int)):=by
  rw [hw3,aA (aH H2.out.blk _ _),Array.getElem?_setIfInBounds_self_of_lt]
  have:=fM (bW:=J.W.bW) (bl:=J.bl) (ov:=ov) (cv:=cv) (turn:=G.turn) (ev:=G.ev) (idle:=st.idle) H2.out.h1 7 (by omega)
  exact(Array.getElem?_eq_some_iff.1 this).1
 have y0:w3.cell? ⟨J.W.bW,0,none⟩=some (.pointer (some ⟨J.W.bm,0,none⟩)):=by rw [hw3,aA ((aX (Ne.symm hPW) _ _).trans Hwb.out)];exact iV
 have hf3:∀ j,w3.frozen? ⟨J.bP,j,none⟩=false:=λj=>aB hb3 j
 have KP:w3.heap.size=w2.heap.size:=by rw [hw3];simp
 have hPlt2:J.bP<w3.heap.size:=by rw [KP];exact H2.out.bPlt
 have hWlt2:J.W.bW<w3.heap.size:=by rw [KP];exact H2.out.world.wlt
 have TE:cB w3 J.W.bm J.W.bw st.wd.mem:=by
  rw [hw3]
  exact H2.out.world.mem.chg (S:=λb=>b=J.bP) ((Chg.refl (λb=>b=J.bP) w2).setCell (p:=⟨J.bP,44,none⟩) (.inl rfl) _) (λe=>H2.out.pW J.W.bm (.inr (.inl rfl)) (.inl e)) (λq hq e=>H2.out.pW q (.inr (.inr (.inr hq.symm))) (.inl e))
 have Wd:=Lib.hid (λ(u:World) (h:Below w3.heap.size w3 u)=>EI J.W.bm J.W.bw st.wd.mem u (TE.gr h))
 have Cn:=λ(u:World) (h:Below w3.heap.size w3 u)=>zY J.W.bm J.W.bw st.wd.mem u (TE.gr h)
 unfold rA at Cn
 replace Cn:=Lib.hid Cn
 obtain⟨nws,hnws⟩:∃ n,n=st.wd.mem.ws.length:=⟨_,rfl⟩
 rw [<-hnws] at Wd
 have Hw3:=Lib.hid hw3;have Hnws:=Lib.hid hnws;have Hf3:=Lib.hid hf3;have Hsz3:=Lib.hid KP
 have hWP:=Ne.symm hPW
 clear hb3 hc3 hw3 TE hnws a0 a44 f44 n1 hf3 KP
 go_region_held3 (λu=>u.cell? ⟨J.bP,0,none⟩=some (.pointer (some ⟨J.W.bW,0,none⟩))/\u.cell? ⟨J.W.bW,0,none⟩=some (.pointer (some ⟨J.W.bm,0,none⟩)))
  (first|exact⟨(by(repeat (with_reducible refine(World.cell?_setCell_other _ _ _ _ (by simp)).trans ?_));with_reducible exact z0),(by(repeat (with_reducible refine(World.cell?_setCell_other _ _ _ _ (by simp)).trans ?_));with_reducible exact zw)⟩|exact⟨x0,y0⟩|exact⟨(hx.cell (p:=⟨J.bP,0,none⟩) hPlt2).trans x0,(hx.cell (p:=⟨J.W.bW,0,none⟩) hWlt2).trans y0⟩)
  (first|(go_at_call 62;refine(Wd.out _ ?_).mono ?_;(exact(Gr.refl _).drew);rintro e w4 ⟨v,rfl,ho,hx⟩;obtain⟨va,vc,rfl⟩:=iM ho;replace hx:=rO hx)|(go_at_call 63;refine(Cn.out _ ?_).mono ?_;(exact hx);rintro e w5 ⟨rfl,hy⟩;have hz:=Gr.trans hx hy;have z0:=(hz.cell (p:=⟨J.bP,0,none⟩) hPlt2).trans x0;have zw:=(hz.cell (p:=⟨J.W.bW,0,none⟩) hWlt2).trans y0;have z37:=(hz.cell (p:=⟨J.bP,37,none⟩) hPlt2).trans UH;have z38:=(hz.cell (p:=⟨J.bP,38,none⟩) hPlt2).trans x38;have z39:=(hz.cell (p:=⟨J.bP,39,none⟩) hPlt2).trans x39;have z40:=(hz.cell (p:=⟨J.bP,40,none⟩) hPlt2).trans UV;have z41:=(hz.cell (p:=⟨J.bP,41,none⟩) hPlt2).trans VI;have z42:=(hz.cell (p:=⟨J.bP,42,none⟩) hPlt2).trans UW;have z43:=(hz.cell (p:=⟨J.bP,43,none⟩) hPlt2).trans UO;have z44:=(hz.cell (p:=⟨J.bP,44,none⟩) hPlt2).trans UZ;have z45:=(hz.cell (p:=⟨J.bP,45,none⟩) hPlt2).trans UU;have f38:=(hz.frozen (p:=⟨J.bP,38,none⟩) hPlt2).trans (Hf3.out 38);have f39:=(hz.frozen (p:=⟨J.bP,39,none⟩) hPlt2).trans (Hf3.out 39);have f40:=(hz.frozen (p:=⟨J.bP,40,none⟩) hPlt2).trans (Hf3.out 40);have f41:=(hz.frozen (p:=⟨J.bP,41,none⟩) hPlt2).trans (Hf3.out 41);have f42:=(hz.frozen (p:=⟨J.bP,42,none⟩) hPlt2).trans (Hf3.out 42);have f43:=(hz.frozen (p:=⟨J.bP,43,none⟩) hPlt2).trans (Hf3.out 43)))
 have PL:w5.heap[w.heap.size]?=some (.cells #[.slice none 0 0,.slice none 0 0,.int .i64 0,.int .i64 0,.int .i64 0,.int .i64 0,.int .i64 0,.int .i64 0,.int .i64 0] 32 (0,0)):=by
  have h1:=aC R2.out
  rw [hz.block _ (by rw [Hsz3.out];exact h1),Hw3.out,aX (by omega)];exact R2.out
 have hne1:J.bP≠w.heap.size:=by omega
 have hne2:w.heap.size≠J.bP:=by omega
 obtain⟨ea,ec,hevf⟩:=iM H2.out.eva.row
 obtain⟨en,hen⟩:∃ n,n=(oP S st).length:=⟨_,rfl⟩
 have JK:G.ev=.slice ea en ec:=by rw [hen];exact hevf
 rw [JK] at z37
 have Hho:=Lib.hid ho;have Hhz:=Lib.hid hz;have Hhx:=Lib.hid hx;have Hhy:=Lib.hid hy;have Hevf2:=Lib.hid JK;have Hen:=Lib.hid hen
 clear ho hz hx hy hevf JK hen x0 UH x38 x39 UV VI UW UO UZ UU y0
 obtain⟨w6,iR⟩:∃ w6,w6=((((((w5.setCell ⟨J.bP,38,none⟩ (.slice va nws vc)).setCell ⟨J.bP,39,none⟩ (.int .i64 (st.wd.mem.c.read:Int))).setCell ⟨J.bP,40,none⟩ (.int .i64 (st.wd.mem.c.write:Int))).setCell ⟨J.bP,41,none⟩ (.int .i64 (st.wd.mem.c.swap:Int))).setCell ⟨J.bP,42,none⟩ (.int .i64 (st.wd.mem.c.add:Int))).setCell ⟨J.bP,43,none⟩ (.int .i64 (st.wd.mem.c.fault:Int))):=⟨_,rfl⟩
 rw [<-iR]
 have v37:w6.cell? ⟨J.bP,37,none⟩=some (.slice ea en ec):=by rw [iR];exact(World.cell?_setCell_other _ _ _ _ (by simp)).trans ((World.cell?_setCell_other _ _ _ _ (by simp)).trans ((World.cell?_setCell_other _ _ _ _ (by simp)).trans ((World.cell?_setCell_other _ _ _ _ (by simp)).trans ((World.cell?_setCell_other _ _ _ _ (by simp)).trans ((World.cell?_setCell_other _ _ _ _ (by simp)).trans (z37))))))
 have v44:w6.cell? ⟨J.bP,44,none⟩=some (.int .i64 (st.wd.now:Int)):=by rw [iR];exact(World.cell?_setCell_other _ _ _ _ (by simp)).trans ((World.cell?_setCell_other _ _ _ _ (by simp)).trans ((World.cell?_setCell_other _ _ _ _ (by simp)).trans ((World.cell?_setCell_other _ _ _ _ (by simp)).trans ((World.cell?_setCell_other _ _ _ _ (by simp)).trans ((World.cell?_setCell_other _ _ _ _ (by simp)).trans (z44))))))
 have v45:w6.cell? ⟨J.bP,45,none⟩=some (.int .i64 (st.idle:Int)):=by rw [iR];exact(World.cell?_setCell_other _ _ _ _ (by simp)).trans ((World.cell?_setCell_other _ _ _ _ (by simp)).trans ((World.cell?_setCell_other _ _ _ _ (by simp)).trans ((World.cell?_setCell_other _ _ _ _ (by simp)).trans ((World.cell?_setCell_other _ _ _ _ (by simp)).trans ((World.cell?_setCell_other _ _ _ _ (by simp)).trans (z45))))))
 have v38:w6.cell? ⟨J.bP,38,none⟩=some (.slice va nws vc):=by rw [iR];exact(World.cell?_setCell_other _ _ _ _ (by simp)).trans ((World.cell?_setCell_other _ _ _ _ (by simp)).trans ((World.cell?_setCell_other _ _ _ _ (by simp)).trans ((World.cell?_setCell_other _ _ _ _ (by simp)).trans ((World.cell?_setCell_other _ _ _ _ (by simp)).trans (World.cell?_setCell_same' _ _ _ (Option.isSome_iff_exists.2 ⟨_,z38⟩))))))
 have v39:w6.cell? ⟨J.bP,39,none⟩=some (.int .i64 (st.wd.mem.c.read:Int)):=by rw [iR];exact(World.cell?_setCell_other _ _ _ _ (by simp)).trans ((World.cell?_setCell_other _ _ _ _ (by simp)).trans ((World.cell?_setCell_other _ _ _ _ (by simp)).trans ((World.cell?_setCell_other _ _ _ _ (by simp)).trans (World.cell?_setCell_same' _ _ _ (Option.isSome_iff_exists.2 ⟨_,(World.cell?_setCell_other _ _ _ _ (by simp)).trans (z39)⟩)))))
 have v40:w6.cell? ⟨J.bP,40,none⟩=some (.int .i64 (st.wd.mem.c.write:Int)):=by rw [iR];exact(World.cell?_setCell_other _ _ _ _ (by simp)).trans ((World.cell?_setCell_other _ _ _ _ (by simp)).trans ((World.cell?_setCell_other _ _ _ _ (by simp)).trans (World.cell?_setCell_same' _ _ _ (Option.isSome_iff_exists.2 ⟨_,(World.cell?_setCell_other _ _ _ _ (by simp)).trans ((World.cell?_setCell_other _ _ _ _ (by simp)).trans (z40))⟩))))
 have v41:w6.cell? ⟨J.bP,41,none⟩=some (.int .i64 (st.wd.mem.c.swap:Int)):=by rw [iR];exact(World.cell?_setCell_other _ _ _ _ (by simp)).trans ((World.cell?_setCell_other _ _ _ _ (by simp)).trans (World.cell?_setCell_same' _ _ _ (Option.isSome_iff_exists.2 ⟨_,(World.cell?_setCell_other _ _ _ _ (by simp)).trans ((World.cell?_setCell_other _ _ _ _ (by simp)).trans ((World.cell?_setCell_other _ _ _ _ (by simp)).trans (z41)))⟩)))
 have v42:w6.cell? ⟨J.bP,42,none⟩=some (.int .i64 (st.wd.mem.c.add:Int)):=by rw [iR];exact(World.cell?_setCell_other _ _ _ _ (by simp)).trans (World.cell?_setCell_same' _ _ _ (Option.isSome_iff_exists.2 ⟨_,(World.cell?_setCell_other _ _ _ _ (by simp)).trans ((World.cell?_setCell_other _ _ _ _ (by simp)).trans ((World.cell?_setCell_other _ _ _ _ (by simp)).trans ((World.cell?_setCell_other _ _ _ _ (by simp)).trans (z42))))⟩))
 have v43:w6.cell? ⟨J.bP,43,none⟩=some (.int .i64 (st.wd.mem.c.fault:Int)):=by rw [iR];exact World.cell?_setCell_same' _ _ _ (Option.isSome_iff_exists.2 ⟨_,(World.cell?_setCell_other _ _ _ _ (by simp)).trans ((World.cell?_setCell_other _ _ _ _ (by simp)).trans ((World.cell?_setCell_other _ _ _ _ (by simp)).trans ((World.cell?_setCell_other _ _ _ _ (by simp)).trans ((World.cell?_setCell_other _ _ _ _ (by simp)).trans (z43)))))⟩)
 have qN:w6.heap[w.heap.size]?=some (.cells #[.slice none 0 0,.slice none 0 0,.int .i64 0,.int .i64 0,.int .i64 0,.int .i64 0,.int .i64 0,.int .i64 0,.int .i64 0] 32 (0,0)):=by rw [iR];exact(aX (by omega) _ _).trans ((aX (by omega) _ _).trans ((aX (by omega) _ _).trans ((aX (by omega) _ _).trans ((aX (by omega) _ _).trans ((aX (by omega) _ _).trans (PL))))))
 have g0:w6.cell? ⟨w.heap.size,0,none⟩=some (.slice none 0 0):=by rw [aA qN];rfl
 have RF:w6.frozen? ⟨w.heap.size,0,none⟩=false:=aB qN 0
 have g1:w6.cell? ⟨w.heap.size,1,none⟩=some (.slice none 0 0):=by rw [aA qN];rfl
 have QN:w6.frozen? ⟨w.heap.size,1,none⟩=false:=aB qN 1
 have g2:w6.cell? ⟨w.heap.size,2,none⟩=some (.int .i64 0):=by rw [aA qN];rfl
 have PU:w6.frozen? ⟨w.heap.size,2,none⟩=false:=aB qN 2
 have g3:w6.cell? ⟨w.heap.size,3,none⟩=some (.int .i64 0):=by rw [aA qN];rfl
 have QA:w6.frozen? ⟨w.heap.size,3,none⟩=false:=aB qN 3
 have g4:w6.cell? ⟨w.heap.size,4,none⟩=some (.int .i64 0):=by rw [aA qN];rfl
 have QH:w6.frozen? ⟨w.heap.size,4,none⟩=false:=aB qN 4
 have g5:w6.cell? ⟨w.heap.size,5,none⟩=some (.int .i64 0):=by rw [aA qN];rfl
 have PQ:w6.frozen? ⟨w.heap.size,5,none⟩=false:=aB qN 5
 have g6:w6.cell? ⟨w.heap.size,6,none⟩=some (.int .i64 0):=by rw [aA qN];rfl
 have PW:w6.frozen? ⟨w.heap.size,6,none⟩=false:=aB qN 6
 have g7:w6.cell? ⟨w.heap.size,7,none⟩=some (.int .i64 0):=by rw [aA qN];rfl
 have QG:w6.frozen? ⟨w.heap.size,7,none⟩=false:=aB qN 7
 have g8:w6.cell? ⟨w.heap.size,8,none⟩=some (.int .i64 0):=by rw [aA qN];rfl
 have RA:w6.frozen? ⟨w.heap.size,8,none⟩=false:=aB qN 8
 have jA:Chg (λb=>b=J.bP) w5 w6:=by
  rw [iR]
  exact((((((Chg.refl (λb=>b=J.bP) w5).setCell (by exact .inl rfl) _).setCell (by exact .inl rfl) _).setCell (by exact .inl rfl) _).setCell (by exact .inl rfl) _).setCell (by exact .inl rfl) _).setCell (by exact .inl rfl) _
 have Hch6:=Lib.hid jA;have Hw6:=Lib.hid iR;have Hr6:=Lib.hid qN
 clear PL qN jA iR z0 zw z37 z38 z39 z40 z41 z42 z43 z44 z45 f38 f39 f40 f41 f42 f43
 go_wp2
 obtain⟨w7,hw7⟩:∃ w7,w7=(((((((((w6.setCell ⟨w.heap.size,0,none⟩ (.slice ea en ec)).setCell ⟨w.heap.size,1,none⟩ (.slice va nws vc)).setCell ⟨w.heap.size,2,none⟩ (.int .i64 (st.wd.mem.c.read:Int))).setCell ⟨w.heap.size,3,none⟩ (.int .i64 (st.wd.mem.c.write:Int))).setCell ⟨w.heap.size,4,none⟩ (.int .i64 (st.wd.mem.c.swap:Int))).setCell ⟨w.heap.size,5,none⟩ (.int .i64 (st.wd.mem.c.add:Int))).setCell ⟨w.heap.size,6,none⟩ (.int .i64 (st.wd.mem.c.fault:Int))).setCell ⟨w.heap.size,7,none⟩ (.int .i64 (st.wd.now:Int))).setCell ⟨w.heap.size,8,none⟩ (.int .i64 (st.idle:Int))):=⟨_,rfl⟩
 rw [<-hw7]
 have kM:w7.heap[w.heap.size]?=some (.cells #[.slice ea en ec,.slice va nws vc,.int .i64 (st.wd.mem.c.read:Int),.int .i64 (st.wd.mem.c.write:Int),.int .i64 (st.wd.mem.c.swap:Int),.int .i64 (st.wd.mem.c.add:Int),.int .i64 (st.wd.mem.c.fault:Int),.int .i64 (st.wd.now:Int),.int .i64 (st.idle:Int)] 32 (0,0)):=by rw [hw7,(aH (aH (aH (aH (aH (aH (aH (aH (aH Hr6.out _ _) _ _) _ _) _ _) _ _) _ _) _ _) _ _) _ _)];rfl
 have lZ:Chg (λb=>b=w.heap.size) w6 w7:=by rw [hw7];exact((((((((((Chg.refl (λb=>b=w.heap.size) w6).setCell (by exact .inl rfl) _).setCell (by exact .inl rfl) _).setCell (by exact .inl rfl) _).setCell (by exact .inl rfl) _).setCell (by exact .inl rfl) _).setCell (by exact .inl rfl) _).setCell (by exact .inl rfl) _).setCell (by exact .inl rfl) _).setCell (by exact .inl rfl) _)
 have k0:w7.cell? ⟨w.heap.size,0,none⟩=some (.slice ea en ec):=by rw [aA kM];rfl
 have k1:w7.cell? ⟨w.heap.size,1,none⟩=some (.slice va nws vc):=by rw [aA kM];rfl
 have k2:w7.cell? ⟨w.heap.size,2,none⟩=some (.int .i64 (st.wd.mem.c.read:Int)):=by rw [aA kM];rfl
 have k3:w7.cell? ⟨w.heap.size,3,none⟩=some (.int .i64 (st.wd.mem.c.write:Int)):=by rw [aA kM];rfl
 have k4:w7.cell? ⟨w.heap.size,4,none⟩=some (.int .i64 (st.wd.mem.c.swap:Int)):=by rw [aA kM];rfl
 have k5:w7.cell? ⟨w.heap.size,5,none⟩=some (.int .i64 (st.wd.mem.c.add:Int)):=by rw [aA kM];rfl
 have k6:w7.cell? ⟨w.heap.size,6,none⟩=some (.int .i64 (st.wd.mem.c.fault:Int)):=by rw [aA kM];rfl
 have k7:w7.cell? ⟨w.heap.size,7,none⟩=some (.int .i64 (st.wd.now:Int)):=by rw [aA kM];rfl
 have k8:w7.cell? ⟨w.heap.size,8,none⟩=some (.int .i64 (st.idle:Int)):=by rw [aA kM];rfl
 clear hw7 kM
 refine bodyPost_ret (v:=mQ (.slice ea en ec) (.slice va nws vc) (oI S st)) (by simp [results,Try.results43 ,go_sem,k0,k1,k2,k3,k4,k5,k6,k7,k8,mQ,oI]) rfl ?_
 have hsz:w.heap.size<w2.heap.size:=aC R2.out
 have hs3:=Hsz3.out
 have hcA:Chg (λb=>b=J.bP) w2 w3:=by rw [Hw3.out];exact(Chg.refl (λb=>b=J.bP) w2).setCell (by exact .inl rfl) _
 have hcB:Chg (λb=>b=J.bP) w2 w5:=hcA.trans (Chg.of_below Hhz.out)
 have hcC:Chg (λb=>b=J.bP∨b=w.heap.size) w2 w7:=((hcB.trans Hch6.out).mono (λb _ h=>.inl h)).trans (lZ.mono (λb _ h=>.inr h))
 have hcE:Chg (λb=>b=J.bP∨b=w.heap.size) w4 w7:=(((Chg.of_below Hhy.out:Chg (λb=>b=J.bP) w4 w5).trans Hch6.out).mono (λb _ h=>.inl h)).trans (lZ.mono (λb _ h=>.inr h))
 have hsub:∀ b,(b=J.bP∨b=w.heap.size)->G.Mut b∨b=w.heap.size:=by
  rintro b (rfl|h)
  ·exact(H2.out.pmut _ (.inl rfl)).1
  ·exact .inr h
 have hrow:=H2.out.eva.row
 have hall:Chg (λb=>B0<=b) w w7:=(Hch0.out.trans (Hch.out.mono (λb _ h=>Hrowlt.out b h))).trans (hcC.mono (λb _ h=>by rcases h with rfl|rfl<;>omega))
 have hen:=Hen.out;have hnws:=Hnws.out
 have hold:∀ b,J.old b->G.Mut b∨b=w.heap.size:=λb hb=>(H2.out.oldm b hb).1
 subst hen hnws
 refine⟨ea,ec,va,vc,ers,rfl,⟨?_,H2.out.eva.elen,λi hi=>?_,?_⟩,hall.below (λb h=>h) hB⟩
 ·have h8:=iA hrow hcC (λb hb hx=>by
   rcases hx with rfl|rfl
   ·exact H2.out.psep.2.2.1 hb
   ·exact Nat.lt_irrefl _ (Hevlt.out _ hb))
  rw [show({ ({ G with Mut:=λb=>G.Mut b∨b=w.heap.size }:PG) with ers:=ers }:PG).ev=G.ev from rfl,Hevf2.out] at h8
  exact h8
 ·obtain⟨l1,l2⟩:=H2.out.eva.ans i hi
  exact⟨(l1.keep hcC hsub (aV.refl _ _)).less hold,(l2.keep hcC hsub (aV.refl _ _)).less hold⟩
 ·have h8:=iA Hho.out hcE (λb hb hx=>by
   have h9:=(Hho.out.lt b hb).1
   have h10:w3.heap.size<=b:=h9
   rcases hx with rfl|rfl<;>omega)
  have h9:=wF h8 (B':=B0) (by show B0<=w3.heap.size;omega)
  exact h9
end Go.Proofs.Ytifhldnmcdbpfaa
