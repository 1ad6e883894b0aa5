/- Layer 15: the snapshot as the loom's object. -/
import Derived.Test.YtlepjmnhekeofaaR37
set_option maxRecDepth 100000
set_option linter.unusedVariables false
set_option linter.unusedSimpArgs false
set_option linter.unnecessarySimpa false
namespace Go.Proofs.Ytlepjmnhekeofaa
open Go.RowKit
theorem sn_world {w':World} {Mut B B':Nat->Prop} {I:WIds} {N:Nat} {wd':WD} {lv':Value} (hf:WFrom w' Mut I N wd' lv') (h1:∀ c,B' c->B c∨lv'.ownBlock=some c) (h2:∀ c,B' c->c<w'.heap.size) (hB:∀ b,B b->Mut b/\¬ WSet I b) (hN:N+1<1000000000):WorldAt w' (mutTo Mut B B') I (N+1) wd':=by
 have h9:=hf.toAt
 refine(hf.up ?_ ?_ ?_).more (Nat.le_succ _) hN
 ·rintro b (⟨h,_⟩|h)
  ·exact .inl h
  ·exact(h1 b h).elim (λh=>.inl (hB b h).1) .inr
 ·rintro b (⟨h,_⟩|h)
  ·exact h9.low b h
  ·exact h2 b h
 ·intro b hb
  by_cases hbB:B b
  ·exact absurd hb (hB b hbB).2
  ·exact .inl ⟨h9.muts b hb,hbB⟩
theorem row_len {w:World} {lv:Value} {l:List Nat} (h:w.ownsRow 0 40 1 lv l.length (l.map u64V)):l.length<=maxLen:=by
 rcases h.2 with⟨_,h0⟩|⟨g,cap,cur,_,_,_,h1,h2,_⟩
 ·unfold maxLen;omega
 ·omega
theorem lstU_row {w:World} {M:Nat->Prop} {lv:Value} {l:List Nat} (h:w.ownsRow 0 40 1 lv l.length (l.map u64V)) (hm:∀ g,lv.ownBlock=some g->¬ M g):LstU w M lv l:=by
 obtain⟨la,lc,rfl⟩:∃ la lc,lv=.slice la l.length lc:=by obtain⟨a,c,e⟩:=row_form h;exact⟨a,c,e⟩
 refine⟨la,lc,rfl,?_,λh0 b0 off e=>?_⟩
 ·exact(row_sl (g:=u64G l) h (row_len h) (λi hi=>by simp [u64G,u64V,List.getD_eq_getElem?_getD,hi])).1
 ·exact hm b0 (by rw [e];rfl)
theorem sn_up {n k bP:Nat} {w w':World} {Mut B:Nat->Prop} {I:WIds} {N:Nat} {wd wd':WD} {o:List Nat} {b bs p p' r nx nx' v:Nat} {s s':ScD} {sc sc':Bool} {lv:Value}
  (hst:(snapS n k).step o wd p (.up s p' r nx v sc)=(o,wd',.up s' p' r nx' v sc',false)) (hP:w.heap[bP]?=some (.cells (snapL n k o).toArray 100 (0,0))) (h16:o.length=16) (m1:Mut bP) (hlow:∀ b,Mut b->b<w.heap.size)
  (hB:∀ b,B b->Mut b/\¬ WSet I b/\¬ b=bP) (hW:¬ WSet I bP) (hb:B b) (hbs:B bs) (hbne:b≠bs) (hlB:∀ g,lv.ownBlock=some g->B g/\g≠bs/\g≠b) (hv:v<18446744073709551616) (hN:N+1<1000000000) {e:Ending}
  (h:SuTo w w' Mut I N wd' b bs bP lv (snUp bs p' r nx' v sc') s' false e):StepPost (snapR n k bP) w Mut B I N wd o 222 (.pointer (some ⟨b,0,none⟩)) p (.up s p' r nx v sc) e w':=by
 obtain⟨rfl,hc,lv',hf,hbk,hsa,ho⟩:=h
 have hs:∀ c,(c=b∨c=bs∨lv'.ownBlock=some c)->B c∨w.heap.size<=c:=by
  rintro c (rfl|rfl|h)
  ·exact .inl hb
  ·exact .inl hbs
  ·exact((ho c h).1).elim (λh=>.inl (hlB c h).1) .inr
 have hnP:¬ (WSet I bP∨bP=b∨bP=bs∨lv.ownBlock=some bP):=by
  rintro(h|h|h|h)
  ·exact hW h
  ·exact(hB b hb).2.2 h.symm
  ·exact(hB bs hbs).2.2 h.symm
  ·exact(hB bP (hlB bP h).1).2.2 rfl
 have hPlt:=blk_lt hP
 unfold StepPost
 rw [hst]
 refine⟨rfl,hc.mono (λj _ h=>?_),λc=>c=b∨c=bs∨lv'.ownBlock=some c,hs,?_,sn_world hf ?_ ?_ (λb hb=>⟨(hB b hb).1,(hB b hb).2.1⟩) hN,⟨(hc.block bP hPlt hnP).trans hP,h16,.inl ⟨m1,λh=>(hB bP h).2.2 rfl⟩⟩,rfl,b,bs,lv',rfl,hbk,.inl rfl,.inr (.inl rfl),hbne,hsa,λg hg=>⟨.inr (.inr hg),(ho g hg).2.1,(ho g hg).2.2.1⟩,hv⟩
 ·rcases h with h|rfl|rfl|h
  ·exact .inl h
  ·exact .inr (.inr hb)
  ·exact .inr (.inr hbs)
  ·exact .inr (.inr (hlB j h).1)
 ·rintro c (rfl|rfl|h)
  ·exact blk_lt hbk
  ·exact hsa.blk.lt
  ·exact(ho c h).2.2.2
 ·rintro c (rfl|rfl|h)
  ·exact .inl hb
  ·exact .inl hbs
  ·exact .inr h
 ·rintro c (rfl|rfl|h)
  ·exact blk_lt hbk
  ·exact hsa.blk.lt
  ·exact(ho c h).2.2.2
theorem snap_ok (n k bP:Nat) (hn:n<=16) (hk:k<=64):RealOk (snapR n k bP) where
 keepM:=by
  intro w w' Q Mut Mut' B T x p s h hc hQ hB hm
  match s with
  | .rd s key=>
   obtain⟨h1,b,bs,lv,kv,h2,h3,h4,h5,h6,h7,h8⟩:=h
   refine⟨h1,b,bs,lv,kv,h2,(hc.block _ (blk_lt h3) (hB b h4)).trans h3,h4,h5,h6,h7.keep hc hQ hm,?_⟩
   rcases h8 with⟨e1,e2,e3⟩|⟨e1,e2,e3⟩
   ·exact .inl ⟨e1,e2.chg hc (hB bs h5) (λg hg=>hB g (e3 g hg).1),e3⟩
   ·exact .inr ⟨e1,e2.chg hc (hB bs h5),e3.keep hc hQ hm⟩
  | .up s p' r nx v sc=>
   obtain⟨h1,b,bs,lv,h2,h3,h4,h5,h6,h7,h8,h9⟩:=h
   exact⟨h1,b,bs,lv,h2,(hc.block _ (blk_lt h3) (hB b h4)).trans h3,h4,h5,h6,h7.chg hc (hB bs h5) (λg hg=>hB g (h8 g hg).1),h8,h9⟩
 keepO:=λ_ _ _ _ _ _ h hc _ hB _ hM=>⟨(hc.block bP (blk_lt h.1) (hB bP rfl)).trans h.1,h.2.1,hM bP rfl⟩
 lowO:=by
  rintro w Mut o ⟨_,_,h1⟩ b rfl
  exact h1
 start:=⟨_,_,snap_start_m _,λw Mut I N wd o p c hw ho _ hp hc=>snap_start n k bP hn hk w Mut I N wd o p c hw ho hp hc⟩
 step:=by
  intro w Mut B I N wd o T' x' p s hw ho hm _ hp hN hcn hB hOW hlv
  obtain⟨hP,h16,m1⟩:=ho
  have hB2:∀ b,B b->Mut b/\¬ WSet I b:=λb hb=>⟨(hB b hb).1,(hB b hb).2.1⟩
  have hB3:∀ b,B b->Mut b/\¬ WSet I b/\¬ b=bP:=hB
  have hWP:¬ WSet I bP:=hOW bP rfl
  have hN2:N+1<1000000000:=hN
  have hPlt:=blk_lt hP
  match s with
  | .rd s key=>
   obtain⟨rfl,b,bs,lv,kv,rfl,hbk,hb,hbs,hbne,hkv,hrow⟩:=hm
   obtain⟨hl1,hl2⟩:=hlv
   rcases hrow with⟨_,hsa,hlB⟩|⟨h9,_⟩
   case inr=>have:=hl1.1;omega
   refine⟨_,_,srd_step_m _,(srd_step n k o hn w Mut I N wd b bs bP s lv kv hw hbk (hB2 b hb) (hB2 bs hbs) (λg hg=>⟨(hB3 g (hlB g hg).1).1,(hB3 g (hlB g hg).1).2.1,(hB3 g (hlB g hg).1).2.2,(hlB g hg).2.1,(hlB g hg).2.2⟩) hsa ⟨λe=>(hB3 b hb).2.2 e.symm,λe=>(hB3 bs hbs).2.2 e.symm,hbne⟩ hWP hP hl1 hl2 hcn).mono ?_⟩
   rintro e w' ⟨rfl,hc,lv',kv',hf,hbk',hsa',ho',hkk⟩
   have hnP:¬ (WSet I bP∨bP=b∨bP=bs∨lv.ownBlock=some bP):=by
    rintro(h|h|h|h)
    ·exact hWP h
    ·exact(hB3 b hb).2.2 h.symm
    ·exact(hB3 bs hbs).2.2 h.symm
    ·exact(hB3 bP (hlB bP h).1).2.2 rfl
   have hch:Chg (λj=>WSet I j∨(snapR n k bP).OB j∨B j) w w':=hc.mono (λj _ h=>by
    rcases h with h|rfl|rfl|h
    ·exact .inl h
    ·exact .inr (.inr hb)
    ·exact .inr (.inr hbs)
    ·exact .inr (.inr (hlB j h).1))
   have hcM:∀ j,(WSet I j∨j=b∨j=bs∨lv.ownBlock=some j)->Mut j:=by
    rintro j (h|rfl|rfl|h)
    ·exact hw.muts j h
    ·exact(hB3 _ hb).1
    ·exact(hB3 _ hbs).1
    ·exact(hB3 _ (hlB j h).1).1
   have obj:∀ B':Nat->Prop,w'.heap[bP]?=some (.cells (snapL n k o).toArray 100 (0,0))/\o.length=16/\mutTo Mut B B' bP:=λB'=>⟨(hc.block bP hPlt hnP).trans hP,h16,.inl ⟨m1,λh=>(hB3 bP h).2.2 rfl⟩⟩
   by_cases h3:(scGo n wd s).pc=3
   ·rw [if_pos h3] at hkk
    have hst:(snapS n k).step o wd p (.rd s key)=(o,scWd wd s,.rd (scGo n wd s) [2*(scGo n wd s).moment,2*(wd.now:Int)],true):=by
     show(o,scWd wd s,SnS.rd (scGo n wd s) (if (scGo n wd s).pc=3 then _ else _),decide ((scGo n wd s).pc=3))=_
     rw [if_pos h3,decide_eq_true h3];rfl
    unfold StepPost
    rw [hst,decide_eq_true h3]
    have hsub:∀ c,(c=b∨c=bs)->B c:=by
     rintro c (rfl|rfl)
     ·exact hb
     ·exact hbs
    have hlt:∀ c,(c=b∨c=bs)->c<w'.heap.size:=by
     rintro c (rfl|rfl)
     ·exact blk_lt hbk'
     ·exact hsa'.blk.lt
    refine⟨rfl,hch,λc=>c=b∨c=bs,λc hc=>.inl (hsub c hc),hlt,sn_world hf (λc hc=>.inl (hsub c hc)) hlt hB2 hN2,obj _,rfl,b,bs,lv',kv',rfl,hbk',.inl rfl,.inr rfl,hbne,hkk.keep (S:=noB) (Chg.refl _ _) (λ_ h=>h.elim) (mutTo_up (λc hc=>.inl (hsub c hc)) (λb hb=>(hB3 b hb).1)),.inr ⟨h3,hsa'.blk,lstU_row hsa'.row ?_⟩⟩
    rintro g hg (⟨h5,h6⟩|h5)
    ·rcases(ho' g hg).1 with h|h
     ·exact h6 (hlB g h).1
     ·have:=hw.low g h5;omega
    ·rcases h5 with h5|h5
     ·exact(ho' g hg).2.2.1 h5
     ·exact(ho' g hg).2.1 h5
   ·rw [if_neg h3] at hkk
    subst hkk
    have hst:(snapS n k).step o wd p (.rd s key)=(o,scWd wd s,.rd (scGo n wd s) key,false):=by
     show(o,scWd wd s,SnS.rd (scGo n wd s) (if (scGo n wd s).pc=3 then _ else _),decide ((scGo n wd s).pc=3))=_
     rw [if_neg h3,decide_eq_false h3];rfl
    unfold StepPost
    rw [hst,decide_eq_false h3]
    have hs:∀ c,(c=b∨c=bs∨lv'.ownBlock=some c)->B c∨w.heap.size<=c:=by
     rintro c (rfl|rfl|h)
     ·exact .inl hb
     ·exact .inl hbs
     ·exact((ho' c h).1).elim (λh=>.inl (hlB c h).1) .inr
    have hlt:∀ c,(c=b∨c=bs∨lv'.ownBlock=some c)->c<w'.heap.size:=by
     rintro c (rfl|rfl|h)
     ·exact blk_lt hbk'
     ·exact hsa'.blk.lt
     ·exact(ho' c h).2.2.2
    refine⟨rfl,hch,λc=>c=b∨c=bs∨lv'.ownBlock=some c,hs,hlt,sn_world hf (λc hc=>?_) hlt hB2 hN2,obj _,rfl,b,bs,lv',kv',rfl,hbk',.inl rfl,.inr (.inl rfl),hbne,hkv.keep hc hcM (mutTo_up hs (λb hb=>(hB3 b hb).1)),.inl ⟨h3,hsa',λg hg=>⟨.inr (.inr hg),(ho' g hg).2.1,(ho' g hg).2.2.1⟩⟩⟩
    rcases hc with rfl|rfl|h
    ·exact .inl hb
    ·exact .inl hbs
    ·exact .inr h
  | .up s p' r nx v sc=>
   obtain⟨rfl,b,bs,lv,rfl,hbk,hb,hbs,hbne,hsa,hlB,hv⟩:=hm
   have hlM:∀ g,lv.ownBlock=some g->Mut g/\¬ WSet I g/\g≠bP/\g≠bs/\g≠b:=λg hg=>⟨(hB3 g (hlB g hg).1).1,(hB3 g (hlB g hg).1).2.1,(hB3 g (hlB g hg).1).2.2,(hlB g hg).2.1,(hlB g hg).2.2⟩
   have hne:bP≠b/\bP≠bs/\b≠bs:=⟨λe=>(hB3 b hb).2.2 e.symm,λe=>(hB3 bs hbs).2.2 e.symm,hbne⟩
   match sc,nx with
   | false,nx=>
    exact⟨_,_,sup_step_m _,(sup_scan n k o hn w Mut I N wd b bs bP s lv p' r nx v hw hbk (hB2 b hb) (hB2 bs hbs) hlM hsa hne hWP hP hlv hcn).mono λe w' h=>sn_up rfl hP h16 m1 hw.low hB3 hWP hb hbs hbne hlB hv hN2 h⟩
   | true,0=>
    exact⟨_,_,sup_step_m _,(sup_value w Mut I N wd b bs bP s lv p' r v hw hbk (hB2 b hb) (hB2 bs hbs) hlM hsa hne hv hcn).mono λe w' h=>sn_up rfl hP h16 m1 hw.low hB3 hWP hb hbs hbne hlB hv hN2 h⟩
   | true,i+1=>
    obtain⟨g1,g2,g3,g4,g5⟩:=hlv
    by_cases hi:i+1<=n
    ·exact⟨_,_,sup_step_m _,(sup_list n k o hn w Mut I N wd b bs bP s lv p' r i v hw hbk (hB2 b hb) (hB2 bs hbs) hlM hsa hne hP hWP hi g1 g2 hcn).mono λe w' h=>sn_up (show(snapS n k).step o wd p (.up s p' r (i+1) v true)=(o,doWrite wd (r+(i+1)) (s.list.getD i 0),.up s p' r (i+2) v true,false) from if_pos hi) hP h16 m1 hw.low hB3 hWP hb hbs hbne hlB hv hN2 h⟩
    ·refine⟨_,_,sup_step_m _,(sup_end n k o hn h16 w Mut I N wd b bs bP s lv p' r i v hw hbk (hB2 b hb) (hB2 bs hbs) hlM hsa hne hP hWP m1 hi (by omega) g2 g4 g5 hN2 hcn).mono ?_⟩
     rintro e w' ⟨rfl,hc,hw',hbk',hsa',hP'⟩
     have hst:(snapS n k).step o wd p (.up s p' r (i+1) v true)=(o.set p' (o.getD p' 0+1),doWrite (snNote wd r s.moment) p' r,.up s p' r (i+2) v true,true):=if_neg hi
     unfold StepPost
     rw [hst]
     have hs:∀ c,(c=b∨c=bs∨lv.ownBlock=some c)->B c:=by
      rintro c (rfl|rfl|h)
      ·exact hb
      ·exact hbs
      ·exact(hlB c h).1
     refine⟨rfl,hc.mono (λj _ h=>?_),λc=>c=b∨c=bs∨lv.ownBlock=some c,λc hc=>.inl (hs c hc),λc hc=>hw'.low c (hB3 c (hs c hc)).1,?_,⟨hP',(List.length_set ..).trans h16,.inl ⟨m1,λh=>(hB3 bP h).2.2 rfl⟩⟩,rfl,b,bs,lv,rfl,hbk',.inl rfl,.inr (.inl rfl),hbne,hsa',λg hg=>⟨.inr (.inr hg),(hlB g hg).2.1,(hlB g hg).2.2⟩,hv⟩
     ·rcases h with h|rfl|rfl
      ·exact .inl h
      ·exact .inr (.inr hb)
      ·exact .inr (.inl rfl)
     ·refine hw'.keep (S:=noB) (Chg.refl _ _) (λ_ h=>h.elim) (λ_ h=>h.elim) (mutTo_up (λc hc=>.inl (hs c hc)) (λb hb=>(hB3 b hb).1)) ?_ ?_
      ·rintro c (⟨h,_⟩|h)
       ·exact hw'.low c h
       ·exact hw'.low c (hB3 c (hs c h)).1
      ·intro c hc
       by_cases hcB:B c
       ·exact absurd hc (hB3 c hcB).2.1
       ·exact .inl ⟨hw'.muts c hc,hcB⟩
 answer:=by
  intro w Mut B T' x' p s hm hd
  match s with
  | .up s p' r nx v sc=>
   obtain⟨rfl,b,bs,lv,rfl,h3,_⟩:=hm
   refine⟨_,_,sup_answer_m _,(sup_answer b w).mono ?_⟩
   rintro e' w' ⟨rfl,hb⟩
   exact⟨none,0,.slice none 0 0,rfl,LstU.nil _ _,Lst.nil _ _,hb⟩
  | .rd s key=>
   obtain⟨rfl,b,bs,lv,kv,rfl,h3,h4,h5,h6,h7,h8⟩:=hm
   obtain⟨ka,kc,rfl⟩:∃ a c,kv=.slice a key.length c:=by obtain⟨a,c,e,_⟩:=h7;exact⟨a,c,e⟩
   rcases h8 with⟨e1,_⟩|⟨e1,e2,e3⟩
   ·exact absurd hd e1
   ·obtain⟨la,lc,rfl⟩:∃ a c,lv=.slice a s.list.length c:=by obtain⟨a,c,e,_⟩:=e3;exact⟨a,c,e⟩
    refine⟨_,_,srd_answer_m _,(srd_answer b bs s.list.length lc key.length kc la ka w h3 e2.list e2.lt).mono ?_⟩
    rintro e' w' ⟨rfl,hb⟩
    exact⟨la,lc,.slice ka key.length kc,rfl,e3.keep (S:=noB) (Chg.of_below hb) (λ_ h=>h.elim) (MutUp.refl _ _),h7.keep (S:=noB) (Chg.of_below hb) (λ_ h=>h.elim) (MutUp.refl _ _),hb⟩
 now:=by
  intro o wd p s
  match s with
  | .rd s key=>rfl
  | .up s p' r nx v false=>rfl
  | .up s p' r 0 v true=>rfl
  | .up s p' r (i+1) v true=>
   show((snapS n k).step o wd p (.up s p' r (i+1) v true)).2.1.now=_
   by_cases h:i+1<=n
   ·rw [show(snapS n k).step o wd p (.up s p' r (i+1) v true)=_ from if_pos h];rfl
   ·rw [show(snapS n k).step o wd p (.up s p' r (i+1) v true)=_ from if_neg h];rfl
 cnt:=by
  intro o wd p s
  match s with
  | .rd s key=>exact memRead_cnt _ _
  | .up s p' r nx v false=>exact memRead_cnt _ _
  | .up s p' r 0 v true=>exact memWrite_cnt _ _ _
  | .up s p' r (i+1) v true=>
   show((snapS n k).step o wd p (.up s p' r (i+1) v true)).2.1.mem.c.all<=_
   by_cases h:i+1<=n
   ·rw [show(snapS n k).step o wd p (.up s p' r (i+1) v true)=_ from if_pos h];exact memWrite_cnt _ _ _
   ·rw [show(snapS n k).step o wd p (.up s p' r (i+1) v true)=_ from if_neg h];exact memWrite_cnt _ _ _
 invStep:=λ_ _ _ _ _=>trivial
 invTick:=λ_ _ _=>trivial
 invBegin:=λ_ _ _ _=>trivial
 fin:=by
  intro o wd p s h
  match s with
  | .rd s key=>
   show(scGo n wd s).pc=3
   exact of_decide_eq_true (p:=(scGo n wd s).pc=3) h
  | .up s p' r nx v false=>trivial
  | .up s p' r 0 v true=>trivial
  | .up s p' r (i+1) v true=>
   show(snapR n k bP).done ((snapS n k).step o wd p (.up s p' r (i+1) v true)).2.2.1
   by_cases h:i+1<=n
   ·rw [show(snapS n k).step o wd p (.up s p' r (i+1) v true)=_ from if_pos h];trivial
   ·rw [show(snapS n k).step o wd p (.up s p' r (i+1) v true)=_ from if_neg h];trivial
theorem snap_nolate (n k bP:Nat):NoLate (snapR n k bP) where
 late:=λ_ _ _ _=>rfl
 kind:=by
  intro w Mut B T' x' p s hm v u
  match s with
  | .rd s key=>
   obtain⟨rfl,_⟩:=hm
   exact srd_kind _ u
  | .up s p' r nx v sc=>
   obtain⟨rfl,_⟩:=hm
   exact sup_kind _ u
end Go.Proofs.Ytlepjmnhekeofaa
