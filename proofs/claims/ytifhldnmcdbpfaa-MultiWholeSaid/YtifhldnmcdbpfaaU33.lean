/- Layer 15: the snapshot as the loom's object: its machines answer, and start. -/
import Derived.Test.YtifhldnmcdbpfaaU31
import Derived.Test.YtifhldnmcdbpfaaU17
import Derived.Test.YtifhldnmcdbpfaaU32
set_option maxRecDepth 100000
set_option linter.unusedVariables false
set_option linter.unusedSimpArgs false
set_option linter.unnecessarySimpa false
namespace Go.Proofs.Ytifhldnmcdbpfaa
section
open Go.RowKit
end
section
open Go.RowKit
end
section
open Go.RowKit
theorem PD {w:World} {lv:Value} {l:List Nat} (h:w.ownsRow 0 40 1 lv l.length (l.map cZ)):l.length<=maxLen:=by
 rcases h.2 with⟨_,h0⟩|⟨g,cap,cur,_,_,_,h1,h2,_⟩
 ·unfold maxLen;omega
 ·omega
theorem MZ {w:World} {M:Nat->Prop} {lv:Value} {l:List Nat} (h:w.ownsRow 0 40 1 lv l.length (l.map cZ)) (hm:∀ g,lv.ownBlock=some g->¬ M g):jQ w M lv l:=by
 obtain⟨la,lc,rfl⟩:∃ la lc,lv=.slice la l.length lc:=by obtain⟨a,c,e⟩:=fO h;exact⟨a,c,e⟩
 refine⟨la,lc,rfl,?_,λh0 b0 off e=>?_⟩
 ·exact(tQ (g:=dY l) h (PD h) (λi hi=>by simp [dY,cZ,List.getD_eq_getElem?_getD,hi])).1
 ·exact hm b0 (by rw [e];rfl)
end
section
open Go.RowKit
theorem uF {w':World} {Mut B B' Bk:Nat->Prop} {I:eO} {N:Nat} {wd':WD} (hf:jR w' Mut I N wd' Bk) (h1:∀ c,B' c->B c∨Bk c) (h2:∀ c,B' c->c<w'.heap.size) (hB:∀ b,B b->Mut b/\¬ bC I b) (hN:N+1<1000000000):aT w' (fZ Mut B B') I (N+1) wd':=by
 have h9:=hf.toAt
 refine(hf.up ?_ ?_ ?_).more (Nat.le_succ _) hN
 ·rintro b (⟨h,_⟩|h)
  ·exact .inl h
  ·exact(h1 b h).elim (λh=>.inl (hB b h).1) .inr
 ·rintro b (⟨h,_⟩|h)
  ·exact h9.low b h
  ·exact h2 b h
 ·intro b hb
  by_cases hbB:B b
  ·exact absurd hb (hB b hbB).2
  ·exact .inl ⟨h9.muts b hb,hbB⟩
theorem nC {B:Nat} (hB:0<B):∀(r l:List Nat),(∀ x∈l,x<B)->∀ x∈(eF r l).2,x<B
 | [],l,h=>by unfold eF;exact h
 | 0::r,l,h=>by
  show ∀ x∈(eF r (l++[0])).2,x<B
  refine nC hB r _ λx hx=>?_
  rcases List.mem_append.1 hx with h9|h9
  ·exact h x h9
  ·rw [List.mem_singleton.1 h9];exact hB
 | (y+1)::r,l,h=>by unfold eF;exact h
theorem KF {B:Nat} (hB:0<B) (m q:Nat) (wd:WD) (s:MuD) (h:∀ x∈s.list,x<B) (hg:dP wd (eQ s)<B):∀ x∈(bJ m q wd s).list,x<B:=by
 have ha:∀ x∈s.list++[dP wd (eQ s)],x<B:=by
  intro x hx
  rcases List.mem_append.1 hx with hx|hx
  ·exact h x hx
  ·rw [List.mem_singleton.1 hx];exact hg
 unfold bJ qN
 by_cases h0:s.chosen=true
 ·rw [if_pos h0];exact nC hB _ _ ha
 ·rw [if_neg h0]
  by_cases h1:s.now.length+1=m
  ·rw [if_pos h1]
   unfold dH
   split
   ·exact h
   ·split
    ·exact nC hB _ _ h
    ·split
     ·exact h
     ·exact h
  ·rw [if_neg h1];exact h
theorem JK {w:World} {Mut:Nat->Prop} {I:eO} {N:Nat} {wd:WD} (hw:aT w Mut I N wd) (a:Nat):dP wd a<18446744073709551616:=by
 have hv:=hw.mem.val
 unfold dP dI
 split
 ·exact(by decide:(0:Nat)<18446744073709551616)
 ·rw [List.getD_eq_getElem?_getD]
  cases e:wd.mem.ws[((a:Nat):Int).toNat]? with
  | none=>exact(by decide:(0:Nat)<18446744073709551616)
  | some x=>exact hv x (List.mem_of_getElem? e)
theorem NF {n m q bP bU:Nat} {w w':World} {Mut B:Nat->Prop} {I:eO} {N:Nat} {wd wd':WD} {o:List Nat} {b bs p p' a r i i' vv:Nat} {s s':MuD} {wr wr':Bool} {v:MuV} {wv:Value} {wl:List Nat}
  (hst:(aR n m q).step o wd p (.up s p' a r i vv wr)=(o,wd',.up s' p' a r i' vv wr',false)) (hP:w.heap[bP]?=some (.cells (jM n m q bU) 89 (0,0))) (h16:o.length=16) (hM:MapOf (.int .i64 0) w bU o.sum (usM o)) (hUP:bU≠bP) (m1:Mut bP) (m2:Mut bU) (hlow:∀ b,Mut b->b<w.heap.size)
  (hB:∀ b,B b->Mut b/\¬ bC I b/\¬ (b=bP∨b=bU)) (hW:¬ bC I bP) (hWU:¬ bC I bU) (hb:B b) (hbs:∀ j,MuB bs v j->B j) (hv:vv<18446744073709551616) (hval:∀ y∈s'.list,y<18446744073709551616) (hwl:(wr'=true/\wl=vv::s'.list)∨(wr'=false/\wl=[]/\i'=0)) (hwv:∀ j,wv.ownBlock=some j->B j) (hN:N+1<1000000000) {e:Ending}
  (h:uJ w w' Mut I N wd' b bs bP v wv (λwv=>lM bs p' a r vv wv i') s' wl false e):kY (sS n m q bP bU) w Mut B I N wd o 224 (.pointer (some ⟨b,0,none⟩)) p (.up s p' a r i vv wr) e w':=by
 obtain⟨rfl,hc,v',wv',hf,hbk,hsa,hrow,hnil,ho,hvo⟩:=h
 have hs:∀ c,(c=b∨MuB bs v' c∨wv'.ownBlock=some c)->B c∨w.heap.size<=c:=by
  rintro c (rfl|h|h)
  ·exact .inl hb
  ·exact((ho c h).1).imp_left (hbs c)
  ·exact((hvo c h).1).imp_left (hwv c)
 have hlt:∀ c,(c=b∨MuB bs v' c∨wv'.ownBlock=some c)->c<w'.heap.size:=by
  rintro c (rfl|h|h)
  ·exact aH hbk
  ·exact hsa.low c h
  ·exact hrow.lt c h
 have hn:∀ x,(x=bP∨x=bU)->¬ bC I x->¬ (bC I x∨x=b∨MuB bs v x):=by
  rintro x hx hxW (h|h|h)
  ·exact hxW h
  ·exact(hB b hb).2.2 (by rw [<-h];exact hx)
  ·exact(hB x (hbs x h)).2.2 hx
 have hPlt:=aH hP
 unfold kY
 rw [hst]
 refine⟨rfl,hc.mono (λj _ h=>?_),λc=>c=b∨MuB bs v' c∨wv'.ownBlock=some c,hs,hlt,uF hf (λc hc=>?_) hlt (λb hb=>⟨(hB b hb).1,(hB b hb).2.1⟩) hN,⟨(hc.block bP hPlt (hn bP (.inl rfl) hW)).trans hP,h16,hM.block (hc.block bU hM.lt (hn bU (.inr rfl) hWU)),hUP,.inl ⟨m1,λh=>(hB bP h).2.2 (.inl rfl)⟩,.inl ⟨m2,λh=>(hB bU h).2.2 (.inr rfl)⟩⟩,rfl,b,bs,v',wv',wl,rfl,hbk,.inl rfl,λj hj=>⟨.inr (.inl hj),(ho j hj).2⟩,λj hj=>⟨.inr (.inr hj),(hvo j hj).2.1,(hvo j hj).2.2⟩,hsa,hrow,hv,hval,?_⟩
 ·rcases h with h|rfl|h
  ·exact .inl h
  ·exact .inr (.inr hb)
  ·exact .inr (.inr (hbs j h))
 ·rcases hc with rfl|h|h
  ·exact .inl hb
  ·exact .inr (.inl h)
  ·exact .inr (.inr h)
 ·rcases hwl with⟨h1,h2⟩|⟨h1,h2,h3⟩
  ·rw [if_pos h1];exact h2
  ·rw [if_neg (by rw [h1];decide)];exact⟨h2,hnil h2,h3⟩
theorem tX (n m q bP bU:Nat) (hm1:1<=m) (dF:m<=16) (hq:1<=q) (dQ:q<=64):dO (sS n m q bP bU) where
 keepM:=by
  intro w w' Q Mut Mut' B T x p s h hc hQ hB hm
  match s with
  | .rd s key=>
   obtain⟨h1,b,bs,v,kv,h2,h3,h4,h5,h6,h7,h8⟩:=h
   refine⟨h1,b,bs,v,kv,h2,(hc.block _ (aH h3) (hB b h4)).trans h3,h4,h5,h6,h7.keep hc hQ hm,?_⟩
   rcases h8 with⟨e1,e2,e3⟩|⟨e1,e2,e3⟩
   ·exact .inl ⟨e1,e2.chg hc (λj hj=>hB j (e3 j hj).1),e3⟩
   ·exact .inr ⟨e1,(hc.block _ (aH e2) (hB bs h5)).trans e2,e3.keep hc hQ hm⟩
  | .up s p' a r i vv wr=>
   obtain⟨h1,b,bs,v,wv,wl,h2,h3,h4,h5,h6,h7,h8,h9⟩:=h
   exact⟨h1,b,bs,v,wv,wl,h2,(hc.block _ (aH h3) (hB b h4)).trans h3,h4,h5,h6,h7.chg hc (λj hj=>hB j (h5 j hj).1),h8.chg hc (λj hj=>hB j (h6 j hj).1),h9⟩
 keepO:=λ_ _ _ _ _ _ h hc _ hB _ hM=>⟨(hc.block bP (aH h.1) (hB bP (.inl rfl))).trans h.1,h.2.1,h.2.2.1.block (hc.block bU h.2.2.1.lt (hB bU (.inr rfl))),h.2.2.2.1,hM bP (.inl rfl),hM bU (.inr rfl)⟩
 lowO:=by
  rintro w Mut o ⟨_,_,_,_,h1,h2⟩ b (rfl|rfl)
  ·exact h1
  ·exact h2
 start:=⟨_,_,yS _,λw Mut I N wd o p c hw ho _ hp hc=>FN n m q bP bU dF dQ w Mut I N wd o p c hw ho hp hc⟩
 step:=by
  intro w Mut B I N wd o T' x' p s hw ho hm _ hp hN hcn hB hOW hlv
  obtain⟨hP,h16,hM,hUP,m1,m2⟩:=ho
  have hB2:∀ b,B b->Mut b/\¬ bC I b:=λb hb=>⟨(hB b hb).1,(hB b hb).2.1⟩
  have hB3:∀ b,B b->Mut b/\¬ bC I b/\¬ (b=bP∨b=bU):=hB
  have hWP:¬ bC I bP:=hOW bP (.inl rfl)
  have hWU:¬ bC I bU:=hOW bU (.inr rfl)
  have hN2:N+1<1000000000:=hN
  have hPlt:=aH hP
  have hBP:∀ b,B b->b≠bP/\b≠bU:=λb hb=>⟨λe=>(hB3 b hb).2.2 (.inl e),λe=>(hB3 b hb).2.2 (.inr e)⟩
  match s with
  | .rd s key=>
   obtain⟨rfl,b,bs,v,kv,rfl,hbk,hb,hbs,hbne,hkv,hrow⟩:=hm
   obtain⟨hl1,hl2⟩:=hlv
   rcases hrow with⟨_,hsa,hlB⟩|⟨h9,h8⟩
   case inr=>
    exfalso
    unfold aS at h9
    rw [Bool.and_eq_true] at h9
    obtain⟨x,r,e,_⟩:=hl1.val h9.1
    have:=of_decide_eq_true h9.2
    rw [e] at this;cases this
   refine⟨_,_,BL _,(IZ n m q bU hm1 dF hq dQ w Mut I N wd b bs bP s v kv hw hbk (hB2 b hb) (λj hj=>⟨(hB3 j (hlB j hj).1).1,(hB3 j (hlB j hj).1).2.1,(hlB j hj).2,(hBP j (hlB j hj).1).1⟩) hsa hWP hP hl1 hl2 hcn).mono ?_⟩
   rintro e w' ⟨rfl,hc,v',kv',hf,hbk',hsa',ho',hkk⟩
   have hn:∀ x,(x=bP∨x=bU)->¬ bC I x->¬ (bC I x∨x=b∨MuB bs v x):=by
    rintro x hx hxW (h|h|h)
    ·exact hxW h
    ·exact(hB3 b hb).2.2 (by rw [<-h];exact hx)
    ·exact(hB3 x (hlB x h).1).2.2 hx
   have hch:Chg (λj=>bC I j∨(sS n m q bP bU).OB j∨B j) w w':=hc.mono (λj _ h=>by
    rcases h with h|rfl|h
    ·exact .inl h
    ·exact .inr (.inr hb)
    ·exact .inr (.inr (hlB j h).1))
   have hcM:∀ j,(bC I j∨j=b∨MuB bs v j)->Mut j:=by
    rintro j (h|rfl|h)
    ·exact hw.muts j h
    ·exact(hB3 _ hb).1
    ·exact(hB3 _ (hlB j h).1).1
   have obj:∀ B':Nat->Prop,w'.heap[bP]?=some (.cells (jM n m q bU) 89 (0,0))/\o.length=16/\MapOf (.int .i64 0) w' bU o.sum (usM o)/\bU≠bP/\fZ Mut B B' bP/\fZ Mut B B' bU:=λB'=>⟨(hc.block bP hPlt (hn bP (.inl rfl) hWP)).trans hP,h16,hM.block (hc.block bU hM.lt (hn bU (.inr rfl) hWU)),hUP,.inl ⟨m1,λh=>(hB3 bP h).2.2 (.inl rfl)⟩,.inl ⟨m2,λh=>(hB3 bU h).2.2 (.inr rfl)⟩⟩
   by_cases h3:aS (bJ m q wd s)=true
   ·rw [if_pos h3] at hkk
    have hst:(aR n m q).step o wd p (.rd s key)=(o,jJ wd s,.rd (bJ m q wd s) [2*(bJ m q wd s).moment,2*(wd.now:Int)],true):=by
     show(o,jJ wd s,MuS.rd (bJ m q wd s) (if aS (bJ m q wd s)=true then _ else _),aS (bJ m q wd s))=_
     rw [if_pos h3,h3];rfl
    unfold kY
    rw [hst,h3]
    have hsub:∀ c,(c=b∨c=bs)->B c:=by
     rintro c (rfl|rfl)
     ·exact hb
     ·exact hbs
    have hlt:∀ c,(c=b∨c=bs)->c<w'.heap.size:=by
     rintro c (rfl|rfl)
     ·exact aH hbk'
     ·exact hsa'.lt
    refine⟨rfl,hch,λc=>c=b∨c=bs,λc hc=>.inl (hsub c hc),hlt,uF hf (λc hc=>.inl (hsub c hc)) hlt hB2 hN2,obj _,rfl,b,bs,v',kv',rfl,hbk',.inl rfl,.inr rfl,hbne,hkk.keep (S:=noB) (Chg.refl _ _) (λ_ h=>h.elim) (mY (λc hc=>.inl (hsub c hc)) (λb hb=>(hB3 b hb).1)),.inr ⟨h3,hsa'.blk,MZ hsa'.lst ?_⟩⟩
    rintro g hg (⟨h5,h6⟩|h5)
    ·rcases(ho' g (.inr (.inr (.inr (.inr (.inr hg)))))).1 with h|h
     ·exact h6 (hlB g h).1
     ·have:=hw.low g h5;omega
    ·rcases h5 with h5|h5
     ·exact(ho' g (.inr (.inr (.inr (.inr (.inr hg)))))).2 h5
     ·rw [h5] at hg;exact hsa'.ty.2.2.1 hg
   ·rw [if_neg h3] at hkk
    have h3':aS (bJ m q wd s)=false:=by simpa using h3
    subst hkk
    have hst:(aR n m q).step o wd p (.rd s key)=(o,jJ wd s,.rd (bJ m q wd s) key,false):=by
     show(o,jJ wd s,MuS.rd (bJ m q wd s) (if aS (bJ m q wd s)=true then _ else _),aS (bJ m q wd s))=_
     rw [if_neg h3,h3'];rfl
    unfold kY
    rw [hst,h3']
    have hs:∀ c,(c=b∨MuB bs v' c)->B c∨w.heap.size<=c:=by
     rintro c (rfl|h)
     ·exact .inl hb
     ·exact((ho' c h).1).imp_left (λh=>(hlB c h).1)
    have hlt:∀ c,(c=b∨MuB bs v' c)->c<w'.heap.size:=by
     rintro c (rfl|h)
     ·exact aH hbk'
     ·exact hsa'.low c h
    refine⟨rfl,hch,λc=>c=b∨MuB bs v' c,hs,hlt,uF hf (λc hc=>?_) hlt hB2 hN2,obj _,rfl,b,bs,v',kv',rfl,hbk',.inl rfl,.inr (.inl rfl),hbne,hkv.keep hc hcM (mY hs (λb hb=>(hB3 b hb).1)),.inl ⟨h3',hsa',λj hj=>⟨.inr hj,(ho' j hj).2⟩⟩⟩
    rcases hc with rfl|h
    ·exact .inl hb
    ·exact .inr h
  | .up s p' a r i vv wr=>
   obtain⟨rfl,b,bs,v,wv,wl,rfl,hbk,hb,hlB,hvB,hsa,hrow,hv,hval,hwl⟩:=hm
   have hMB:∀ j,MuB bs v j->Mut j/\¬ bC I j/\j≠b/\j≠bP:=λj hj=>⟨(hB3 j (hlB j hj).1).1,(hB3 j (hlB j hj).1).2.1,(hlB j hj).2,(hBP j (hlB j hj).1).1⟩
   match wr with
   | false=>
    rw [if_neg (by decide)] at hwl
    obtain⟨rfl,rfl,rfl⟩:=hwl
    obtain⟨hl1,hl2⟩:=hlv
    have VB:=KF (B:=18446744073709551616) (by decide) m q wd s hval (JK hw _)
    by_cases h3:aS (bJ m q wd s)=true
    ·exact⟨_,_,lQ _,(IJ n m q bU hm1 dF hq dQ w Mut I N wd b bs bP p' a r vv s v hw hbk (hB2 b hb) hMB hsa hWP hP hl1 hcn h3 (hl2 h3)).mono λe w' h=>NF (show(aR n m q).step o wd p (.up s p' a r 0 vv false)=(o,jJ wd s,.up (bJ m q wd s) p' a r 0 vv (aS (bJ m q wd s)),false) from rfl) hP h16 hM hUP m1 m2 hw.low hB3 hWP hWU hb (λj hj=>(hlB j hj).1) hv VB (.inl ⟨h3,rfl⟩) (λj e=>by cases e) hN2 h⟩
    ·have h3':aS (bJ m q wd s)=false:=by simpa using h3
     exact⟨_,_,lQ _,(NC n m q bU hm1 dF hq dQ w Mut I N wd b bs bP p' a r vv s v hw hbk (hB2 b hb) hMB hsa hWP hP hl1 hcn h3').mono λe w' h=>NF (show(aR n m q).step o wd p (.up s p' a r 0 vv false)=(o,jJ wd s,.up (bJ m q wd s) p' a r 0 vv (aS (bJ m q wd s)),false) from rfl) hP h16 hM hUP m1 m2 hw.low hB3 hWP hWU hb (λj hj=>(hlB j hj).1) hv VB (.inr ⟨h3',rfl,rfl⟩) (λj e=>by cases e) hN2 h⟩
   | true=>
    rw [if_pos rfl] at hwl
    subst hwl
    obtain⟨g1,g2,g3,g4,g5,g6,g7⟩:=hlv
    have hwlen:(vv::s.list).length=m+1:=by rw [List.length_cons,g1]
    by_cases hi:i<=m
    ·have UM:(vv::s.list).getD i 0<18446744073709551616:=by
      match i with
      | 0=>exact hv
      | i+1=>
       show s.list.getD i 0<_
       rw [List.getD_eq_getElem?_getD]
       cases e:s.list[i]? with
       | none=>exact(by decide:(0:Nat)<18446744073709551616)
       | some y=>exact hval y (List.mem_of_getElem? e)
     exact⟨_,_,lQ _,(OL w Mut I N wd b bs bP p' a r vv i s v wv (vv::s.list) hw hbk (hB2 b hb) hMB (λj hj=>⟨(hB3 j (hvB j hj).1).1,(hB3 j (hvB j hj).1).2.1,(hvB j hj).2.1,(hvB j hj).2.2⟩) hsa hrow (by omega) (by omega) UM g2 hcn).mono λe w' h=>NF (wl:=vv::s.list) (show(aR n m q).step o wd p (.up s p' a r i vv true)=(o,dK wd (r+i) ((vv::s.list).getD i 0),.up s p' a r (i+1) vv true,false) from if_pos hi) hP h16 hM hUP m1 m2 hw.low hB3 hWP hWU hb (λj hj=>(hlB j hj).1) hv hval (.inl ⟨rfl,rfl⟩) (λj hj=>(hvB j hj).1) hN2 h⟩
    ·refine⟨_,_,lQ _,(NN n m q bU o.sum o h16 w Mut I N wd b bs bP p' a r vv i s v wv (vv::s.list) hw hbk (hB2 b hb) (λj hj=>⟨(hMB j hj).1,(hMB j hj).2.1,(hMB j hj).2.2.1,(hMB j hj).2.2.2,(hBP j (hlB j hj).1).2⟩) (λj hj=>⟨(hB3 j (hvB j hj).1).1,(hB3 j (hvB j hj).1).2.1,(hvB j hj).2.1,(hvB j hj).2.2,(hBP j (hvB j hj).1).2⟩) hsa hrow ⟨λe=>(hBP b hb).2 e.symm,hUP,λe=>(hBP b hb).1 e.symm⟩ ⟨m2,hWU⟩ hWP hP hM (by omega) (by simp) (by omega) (by omega) g4 g5 g2 g6 hN2 hcn).mono ?_⟩
     rintro e w' ⟨rfl,hc,hw',hbk',hsa',hrow',hP',hM'⟩
     have hst:(aR n m q).step o wd p (.up s p' a r i vv true)=(o.set p' (o.getD p' 0+1),dK (nH wd r s.moment) a r,.up s p' a r i vv true,true):=if_neg hi
     unfold kY
     rw [hst]
     have hs:∀ c,(c=b∨MuB bs v c∨wv.ownBlock=some c)->B c:=by
      rintro c (rfl|h|h)
      ·exact hb
      ·exact(hlB c h).1
      ·exact(hvB c h).1
     have hM2:MapOf (.int .i64 0) w' bU (o.set p' (o.getD p' 0+1)).sum (usM (o.set p' (o.getD p' 0+1))):=by
      rw [EG o p' (by omega)];exact hM'
     refine⟨rfl,hc.mono (λj _ h=>?_),λc=>c=b∨MuB bs v c∨wv.ownBlock=some c,λc hc=>.inl (hs c hc),λc hc=>hw'.low c (hB3 c (hs c hc)).1,?_,⟨hP',(List.length_set ..).trans h16,hM2,hUP,.inl ⟨m1,λh=>(hB3 bP h).2.2 (.inl rfl)⟩,.inl ⟨m2,λh=>(hB3 bU h).2.2 (.inr rfl)⟩⟩,rfl,b,bs,v,wv,_,rfl,hbk',.inl rfl,λj hj=>⟨.inr (.inl hj),(hlB j hj).2⟩,λj hj=>⟨.inr (.inr hj),(hvB j hj).2⟩,hsa',hrow',hv,hval,rfl⟩
     ·rcases h with h|rfl
      ·exact .inl h
      ·exact .inr (.inl (.inr rfl))
     ·refine hw'.keep (S:=noB) (Chg.refl _ _) (λ_ h=>h.elim) (λ_ h=>h.elim) (mY (λc hc=>.inl (hs c hc)) (λb hb=>(hB3 b hb).1)) ?_ ?_
      ·rintro c (⟨h,_⟩|h)
       ·exact hw'.low c h
       ·exact hw'.low c (hB3 c (hs c h)).1
      ·intro c hc
       by_cases hcB:B c
       ·exact absurd hc (hB3 c hcB).2.1
       ·exact .inl ⟨hw'.muts c hc,hcB⟩
 answer:=by
  intro w Mut B T' x' p s hm hd
  match s with
  | .up s p' a r i vv wr=>
   obtain⟨rfl,b,bs,v,wv,wl,rfl,h3,_⟩:=hm
   refine⟨_,_,xI _,(AB b w).mono ?_⟩
   rintro e' w' ⟨rfl,hb⟩
   exact⟨none,0,.slice none 0 0,rfl,jQ.nil _ _,Lst.nil _ _,hb⟩
  | .rd s key=>
   obtain⟨rfl,b,bs,v,kv,rfl,h3,h4,h5,h6,h7,h8⟩:=hm
   obtain⟨ka,kc,rfl⟩:∃ a c,kv=.slice a key.length c:=by obtain⟨a,c,e,_⟩:=h7;exact⟨a,c,e⟩
   rcases h8 with⟨e1,_⟩|⟨e1,e2,e3⟩
   ·have hd:aS s=true:=hd
    rw [hd] at e1;cases e1
   ·obtain⟨la,lc,hlv⟩:∃ a c,v.lv=.slice a s.list.length c:=by obtain⟨a,c,e,_⟩:=e3;exact⟨a,c,e⟩
    refine⟨_,_,xU _,(BH b bs s.list.length lc key.length kc la ka w h3 (by rw [aA e2];show some v.lv=_;rw [hlv]) (aH e2)).mono ?_⟩
    have E9:jQ w Mut (.slice la s.list.length lc) s.list:=by rw [<-hlv];exact e3
    rintro e' w' ⟨rfl,hb⟩
    exact⟨la,lc,.slice ka key.length kc,rfl,E9.keep (S:=noB) (Chg.of_below hb) (λ_ h=>h.elim) (bE.refl _ _),h7.keep (S:=noB) (Chg.of_below hb) (λ_ h=>h.elim) (bE.refl _ _),hb⟩
 now:=by
  intro o wd p s
  match s with
  | .rd s key=>rfl
  | .up s p' a r i v false=>rfl
  | .up s p' a r i v true=>
   show((aR n m q).step o wd p (.up s p' a r i v true)).2.1.now=_
   by_cases h:i<=m
   ·rw [show(aR n m q).step o wd p (.up s p' a r i v true)=_ from if_pos h];rfl
   ·rw [show(aR n m q).step o wd p (.up s p' a r i v true)=_ from if_neg h];rfl
 cnt:=by
  intro o wd p s
  match s with
  | .rd s key=>exact rO _ _
  | .up s p' a r i v false=>exact rO _ _
  | .up s p' a r i v true=>
   show((aR n m q).step o wd p (.up s p' a r i v true)).2.1.mem.c.all<=_
   by_cases h:i<=m
   ·rw [show(aR n m q).step o wd p (.up s p' a r i v true)=_ from if_pos h];exact pM _ _ _
   ·rw [show(aR n m q).step o wd p (.up s p' a r i v true)=_ from if_neg h];exact pM _ _ _
 invStep:=λ_ _ _ _ _=>trivial
 invTick:=λ_ _ _=>trivial
 invBegin:=λ_ _ _ _=>trivial
 fin:=by
  intro o wd p s h
  match s with
  | .rd s key=>exact h
  | .up s p' a r i v false=>trivial
  | .up s p' a r i v true=>
   show(sS n m q bP bU).done ((aR n m q).step o wd p (.up s p' a r i v true)).2.2.1
   by_cases h:i<=m
   ·rw [show(aR n m q).step o wd p (.up s p' a r i v true)=_ from if_pos h];trivial
   ·rw [show(aR n m q).step o wd p (.up s p' a r i v true)=_ from if_neg h];trivial
theorem CR (n m q bP bU:Nat):wR (sS n m q bP bU) where
 late:=λ_ _ _ _=>rfl
 kind:=by
  intro w Mut B T' x' p s hm v u
  match s with
  | .rd s key=>
   obtain⟨rfl,_⟩:=hm
   exact LW _ u
  | .up s p' a r i vv wr=>
   obtain⟨rfl,_⟩:=hm
   exact KH _ u
end
section
open Go.RowKit
def fA:List Nat:=List.replicate 16 0
end
end Go.Proofs.Ytifhldnmcdbpfaa
