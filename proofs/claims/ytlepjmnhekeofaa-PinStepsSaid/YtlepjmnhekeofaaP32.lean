/- Layer 14: the register as the loom's object. -/
import Derived.Test.YtlepjmnhekeofaaP29
import Derived.Test.YtlepjmnhekeofaaP23
set_option maxRecDepth 100000
set_option linter.unusedVariables false
set_option linter.unusedSimpArgs false
set_option linter.unnecessarySimpa false
namespace Go.Proofs.Ytlepjmnhekeofaa
section
open Go.RowKit
theorem piLst_of_row {w:World} {Mut B:Nat->Prop} {la:Option Addr} {lc b:Nat} {l:List Nat} (h:w.ownsRow 0 40 1 (.slice la l.length lc) l.length (l.map u64V)) (hl:l.length<=1000) (hB:∀ g,(Value.slice la l.length lc).ownBlock=some g->B g/\g≠b) (hBM:∀ g,B g->Mut g):LstU w (mutTo Mut B (λk=>k=b)) (.slice la l.length lc) l:=by
 refine⟨la,lc,rfl,?_,λh0 b0 off e=>?_⟩
 ·exact(row_sl (g:=u64G l) h (by unfold maxLen;omega) (λi hi=>by simp [u64G,u64V,List.getD_eq_getElem?_getD,hi])).1
 ·obtain⟨g,c,hv,_,hg⟩:=h.form h0
  cases hv;cases e
  rintro(⟨_,h2⟩|h2)
  ·exact h2 (hB _ rfl).1
  ·exact(hB _ rfl).2 h2
theorem pin_ok (n k bP bC:Nat) (hn:n<=16) (hk:k<=8) (hPC:bP≠bC):RealOk (pinR n k bP bC) where
 keepM:=by
  intro w w' Q Mut Mut' B T x p s h hc hQ hB hm
  match s with
  | .wr v q i ph=>
   obtain⟨h1,b,h2,h3,h4⟩:=h
   exact⟨h1,b,h2,(hc.block _ (blk_lt h3) (hB b h4)).trans h3,h4⟩
  | .rd q j l key=>
   obtain⟨h1,b,la,lc,kv,h2,h3,h4,h5,h6⟩:=h
   refine⟨h1,b,la,lc,kv,h2,(hc.block _ (blk_lt h3) (hB b h4)).trans h3,h4,h5.keep hc hQ hm,?_⟩
   rcases h6 with⟨h7,h8,h9⟩|⟨h7,h8⟩
   ·exact .inl ⟨h7,row_chg h8 hc (λg hg=>hB g (h9 g hg).1),h9⟩
   ·exact .inr ⟨h7,h8.keep hc hQ hm⟩
 keepO:=λ_ _ _ _ _ _ h hc _ hB _ hM=>⟨h.1.chg hc (hB bP (.inl rfl)) (hB bC (.inr rfl)),hM bP (.inl rfl),hM bC (.inr rfl)⟩
 lowO:=by
  rintro w Mut o ⟨_,h1,h2⟩ b (rfl|rfl)
  ·exact h1
  ·exact h2
 start:=⟨_,_,pin_start_m _,λw Mut I N wd o p c hw ho _ hp hc=>pin_start n k bP bC hn hPC w Mut I N wd o p c hw ho hp hc⟩
 step:=by
  intro w Mut B I N wd o T' x' p s hw ho hm _ hp hN hcn hB hOW hlv
  obtain⟨hP,m1,m2⟩:=ho
  have hB2:∀ b,B b->Mut b/\¬ WSet I b:=λb hb=>⟨(hB b hb).1,(hB b hb).2.1⟩
  have hWP:¬ WSet I bP/\¬ WSet I bC:=⟨hOW bP (.inl rfl),hOW bC (.inr rfl)⟩
  have hBP:¬ B bP/\¬ B bC:=⟨λh=>(hB bP h).2.2 (.inl rfl),λh=>(hB bC h).2.2 (.inr rfl)⟩
  have hN2:N+1<1000000000:=hN
  have mt:∀ b,B b->mutTo Mut B (λk=>k=b) bP/\mutTo Mut B (λk=>k=b) bC:=λb _=>⟨.inl ⟨m1,hBP.1⟩,.inl ⟨m2,hBP.2⟩⟩
  match s with
  | .wr v q i ph=>
   obtain⟨rfl,b,rfl,hbk,hb⟩:=hm
   have hne:bP≠b/\bC≠b:=⟨λe=>hBP.1 (by rw [e];exact hb),λe=>hBP.2 (by rw [e];exact hb)⟩
   obtain⟨hq,hi⟩:=hlv
   have h4:w.cell? ⟨b,4,none⟩=some (piStep b ph):=by rw [cell_blk hbk];rfl
   have own:∀(wd':WD) (cs:Array Value) (s':PiS) (d:Bool),(pinS n k).step o wd p (.wr v q i ph)=(o,wd',s',d)->(∃ q' i' ph',s'=.wr v q' i' ph'/\cs=piWr bP b v q' i' ph')->∀ w',OwnTo w w' Mut B I N wd' b cs 207 d (.returned (.bool d))->StepPost (pinR n k bP bC) w Mut B I N wd o 205 (.pointer (some ⟨b,0,none⟩)) p (.wr v q i ph) (.returned (.bool d)) w':=by
    rintro wd' cs s' d hst ⟨q',i',ph',rfl,rfl⟩ w' ⟨_,hch,hw',hbk'⟩
    unfold StepPost
    rw [hst]
    refine⟨rfl,hch.mono (λb _ hb=>by rcases hb with hb|hb;exact .inl hb;exact .inr (.inr hb)),λk=>k=b,(λk hk=>by cases hk;exact .inl hb),(λk hk=>by cases hk;exact blk_lt hbk'),hw'.more (Nat.le_succ _) hN2,⟨hP.chg hch (λh=>?_) (λh=>?_),mt b hb⟩,rfl,b,rfl,hbk',rfl⟩
    ·rcases h with h|h
     ·exact hWP.1 h
     ·exact hBP.1 h
    ·rcases h with h|h
     ·exact hWP.2 h
     ·exact hBP.2 h
   match ph with
   | 0=>
    refine⟨_,_,pwr_step_m _,(wr_step b _ (.pointer (some ⟨I.bW,0,none⟩)) w (λd w'=>StepPost (pinR n k bP bC) w Mut B I N wd o 205 (.pointer (some ⟨b,0,none⟩)) p (.wr v q i 0) (.returned (.bool d)) w') h4 enter_look ((wr_look w Mut B I N wd n k bP bC b v q i o hw hP hbk hb hB2 hcn hq hn hne hWP).mono ?_)).mono ?_⟩
    ·intro e w' h
     obtain⟨rfl,h9⟩:=h
     refine⟨false,rfl,?_⟩
     by_cases hc:taGot wd (piLeft q)=o.come.getD q 0
     ·rw [if_pos hc] at h9
      exact own _ _ _ _ (if_pos hc) ⟨_,_,_,rfl,rfl⟩ w' ⟨rfl,h9⟩
     ·rw [if_neg hc] at h9
      exact own _ _ _ _ (if_neg hc) ⟨_,_,_,rfl,rfl⟩ w' ⟨rfl,h9⟩
    ·rintro e w' ⟨d,rfl,h⟩;exact h
   | 1=>
    refine⟨_,_,pwr_step_m _,(wr_step b _ (.pointer (some ⟨I.bW,0,none⟩)) w (λd w'=>StepPost (pinR n k bP bC) w Mut B I N wd o 205 (.pointer (some ⟨b,0,none⟩)) p (.wr v q i 1) (.returned (.bool d)) w') h4 enter_fill ((wr_fill w Mut B I N wd n k bP bC b v q i o hw hP hbk hb hB2 hcn hq hn hk (hi rfl) hne hWP).mono ?_)).mono ?_⟩
    ·intro e w' h
     obtain⟨rfl,h9⟩:=h
     exact⟨false,rfl,own _ _ _ _ rfl ⟨_,_,_,rfl,rfl⟩ w' ⟨rfl,h9⟩⟩
    ·rintro e w' ⟨d,rfl,h⟩;exact h
   | ph+2=>
    refine⟨_,_,pwr_step_m _,(wr_step b _ (.pointer (some ⟨I.bW,0,none⟩)) w (λd w'=>StepPost (pinR n k bP bC) w Mut B I N wd o 205 (.pointer (some ⟨b,0,none⟩)) p (.wr v q i (ph+2)) (.returned (.bool d)) w') h4 enter_change ((wr_change w Mut B I N wd n k bP bC b v q i (ph+2) o hw hP hbk hb hB2 hcn hq hn hne hPC hWP ⟨m1,m2⟩ hBP).mono ?_)).mono ?_⟩
    ·rintro e w' ⟨rfl,h1,h2,h3,h5⟩
     refine⟨true,rfl,rfl,h1.mono (λb _ hb=>?_),λk=>k=b,(λk hk=>by cases hk;exact .inl hb),(λk hk=>by cases hk;exact blk_lt h5),h2.more (Nat.le_succ _) hN2,⟨h3,mt b hb⟩,rfl,b,rfl,h5,rfl⟩
     rcases hb with hb|hb|hb
     ·exact .inl hb
     ·exact .inr (.inl hb)
     ·exact .inr (.inr hb)
    ·rintro e w' ⟨d,rfl,h⟩;exact h
  | .rd q j l key=>
   obtain⟨rfl,b,la,lc,kv,rfl,hbk,hb,hkv,hrow⟩:=hm
   have hne:bP≠b/\bC≠b:=⟨λe=>hBP.1 (by rw [e];exact hb),λe=>hBP.2 (by rw [e];exact hb)⟩
   obtain⟨hll,hq,hj⟩:=hlv
   rcases hrow with⟨_,hr1,hr2⟩|⟨h9,_⟩
   case inr=>omega
   have obj:∀(w':World) (B':Nat->Prop),Chg (λj=>WSet I j∨B j) w w'->PinAt w' bP bC n k o/\mutTo Mut B B' bP/\mutTo Mut B B' bC:=by
    intro w' B' hch
    refine⟨hP.chg hch (λh=>?_) (λh=>?_),.inl ⟨m1,hBP.1⟩,.inl ⟨m2,hBP.2⟩⟩
    ·rcases h with h|h
     ·exact hWP.1 h
     ·exact hBP.1 h
    ·rcases h with h|h
     ·exact hWP.2 h
     ·exact hBP.2 h
   have chg:∀(w':World),Chg (λj=>WSet I j∨B j) w w'->Chg (λb=>WSet I b∨(pinR n k bP bC).OB b∨B b) w w':=λw' h=>h.mono (λb _ hb=>hb.elim .inl (λh=>.inr (.inr h)))
   have upm:∀(w':World) (B':Nat->Prop),(∀ b,B' b->B b)->MutUp Mut w' (mutTo Mut B B'):=λw' B' h=>mutTo_up (λb hb=>.inl (h b hb)) (λb hb=>(hB b hb).1)
   have wow:∀ {w':World} {wd':WD} {B':Nat->Prop},WorldAt w' Mut I N wd'->(∀ b,B' b->B b)->WorldAt w' (mutTo Mut B B') I (N+1) wd':=by
    intro w' wd' B' hw' h1
    refine(hw'.keep (S:=noB) (Chg.refl _ _) (λ_ h=>h.elim) (λ_ h=>h.elim) (upm w' B' h1) ?_ ?_).more (Nat.le_succ _) hN2
    ·rintro b (⟨h,_⟩|h)
     ·exact hw'.low b h
     ·exact hw'.low b (hB b (h1 b h)).1
    ·intro b hb
     by_cases hbB:B b
     ·exact absurd hb (hB b hbB).2.1
     ·exact .inl ⟨hw'.muts b hb,hbB⟩
   match j with
   | 0=>
    refine⟨_,_,prd_step_m _,(rd_come w Mut B I N wd n k bP bC b q _ kv o hw hP hbk hb hB2 hcn hne.1 hWP).mono ?_⟩
    rintro e w' ⟨kv',⟨rfl,h0,h2,h3⟩,h4⟩
    have h1:Chg (λj=>WSet I j∨B j) w w':=h0.mono (λj _ h=>h.elim .inl (λe=>.inr (by rw [e];exact hb)))
    have hsub:∀ c,PiB b (.slice la l.length lc) c->B c:=by
     rintro c (rfl|h)
     ·exact hb
     ·exact(hr2 c h).1
    exact⟨rfl,chg w' h1,PiB b (.slice la l.length lc),λc hc=>.inl (hsub c hc),λc hc=>h2.low c (hB c (hsub c hc)).1,wow h2 hsub,obj w' _ h1,rfl,b,la,lc,kv',rfl,h3,.inl rfl,h4.keep (S:=noB) (Chg.refl _ _) (λ_ h=>h.elim) (upm w' _ hsub),.inl ⟨by omega,row_chg hr1 h0 (λg hg h=>by
     rcases h with h|h
     ·exact(hB2 g (hr2 g hg).1).2 h
     ·exact(hr2 g hg).2 h),λg hg=>⟨.inr hg,(hr2 g hg).2⟩⟩⟩
   | j+1=>
    by_cases hjk:j<k
    ·have hst:(pinS n k).step o wd p (.rd q (j+1) l key)=(o,taRead wd (piWord n k q j),.rd q (j+2) (l++[taGot wd (piWord n k q j)]) key,false):=if_pos hjk
     refine⟨_,_,prd_step_m _,(rd_read w Mut B I N wd n k bP bC b q j l _ kv o hw hP hbk hb hB2 hcn hr1 hr2 hll hn hk (hq (by omega)) hjk hne hBP hWP).mono ?_⟩
     rintro e w' ⟨lv',rfl,h1,h2,h3,h4,g,h5,h6,h7,h8⟩
     obtain⟨la',lc',rfl⟩:∃ a c,lv'=.slice a (l++[taGot wd (piWord n k q j)]).length c:=by obtain⟨a,c,e⟩:=row_form h4;exact⟨a,c,e⟩
     have hlow:=h2.low
     unfold StepPost
     rw [hst]
     refine⟨rfl,chg w' h1,PiB b (.slice la' (l++[taGot wd (piWord n k q j)]).length lc'),λc hc=>?_,λc hc=>hlow c (.inr hc),h2.more (Nat.le_succ _) hN2,obj w' _ h1,rfl,b,la',lc',kv,rfl,h3,.inl rfl,?_,.inl ⟨by omega,h4,λg' hg'=>⟨.inr hg',?_⟩⟩⟩
     ·rcases hc with rfl|h
      ·exact .inl hb
      ·rw [h5] at h;cases h
       rcases h6 with h|h
       ·exact .inl (hr2 _ h).1
       ·exact .inr h
     ·refine hkv.keep h1 (λc hc=>hc.elim (hw.muts c) (λh=>(hB c h).1)) (mutTo_up (λc hc=>?_) (λc hc=>(hB c hc).1))
      rcases hc with rfl|h
      ·exact .inl hb
      ·rw [h5] at h;cases h
       rcases h6 with h|h
       ·exact .inl (hr2 _ h).1
       ·exact .inr h
     ·rw [h5] at hg';cases hg';exact h7
    ·have hst:(pinS n k).step o wd p (.rd q (j+1) l key)=(o,doAdd wd (piLeft q) 1,.rd q (j+2) l key,true):=if_neg hjk
     refine⟨_,_,prd_step_m _,(rd_leave w Mut B I N wd n k bP bC b q j _ kv o hw hP hbk hb hB2 hcn (hq (by omega)) (by omega) hjk hne hWP).mono ?_⟩
     rintro e w' ⟨rfl,h0,h2,h3⟩
     have h1:Chg (λj=>WSet I j∨B j) w w':=h0.mono (λj _ h=>h.elim .inl (λe=>.inr (by rw [e];exact hb)))
     have hsub:∀ c,(λc=>c=b) c->B c:=by rintro c rfl;exact hb
     unfold StepPost
     rw [hst]
     refine⟨rfl,chg w' h1,λc=>c=b,λc hc=>.inl (hsub c hc),λc hc=>by cases hc;exact blk_lt h3,wow h2 hsub,obj w' _ h1,rfl,b,la,lc,kv,rfl,h3,rfl,?_,.inr ⟨by omega,?_⟩⟩
     ·exact hkv.keep h1 (λc hc=>hc.elim (hw.muts c) (λh=>(hB c h).1)) (upm w _ hsub)
     ·exact piLst_of_row (row_chg hr1 h0 (λg hg h=>by
       rcases h with h|h
       ·exact(hB2 g (hr2 g hg).1).2 h
       ·exact(hr2 g hg).2 h)) (by omega) hr2 (λg hg=>(hB g hg).1)
 answer:=by
  intro w Mut B T' x' p s hm hd
  match s with
  | .wr v q i ph=>
   obtain⟨rfl,b,rfl,h3,_⟩:=hm
   refine⟨_,_,pwr_answer_m _,(pwr_answer b w).mono ?_⟩
   rintro e' w' ⟨rfl,hb⟩
   exact⟨none,0,.slice none 0 0,rfl,LstU.nil _ _,Lst.nil _ _,hb⟩
  | .rd q j l key=>
   obtain⟨rfl,b,la,lc,kv,rfl,h3,h4,h5,h6⟩:=hm
   obtain⟨ka,kc,rfl⟩:∃ a c,kv=.slice a key.length c:=by obtain⟨a,c,e,_⟩:=h5;exact⟨a,c,e⟩
   rcases h6 with⟨h7,_⟩|⟨h7,h8⟩
   ·have:k+2<=j:=hd
    omega
   ·refine⟨_,_,prd_answer_m _,(prd_answer bP b q j l.length lc key.length kc la ka w h3).mono ?_⟩
    rintro e' w' ⟨rfl,hb⟩
    exact⟨la,lc,.slice ka key.length kc,rfl,h8.keep (S:=noB) (Chg.of_below hb) (λ_ h=>h.elim) (MutUp.refl _ _),h5.keep (S:=noB) (Chg.of_below hb) (λ_ h=>h.elim) (MutUp.refl _ _),hb⟩
 now:=by
  intro o wd p s
  match s with
  | .wr v q i 0=>show((pinS n k).step o wd p (.wr v q i 0)).2.1.now=_;by_cases h:taGot wd (piLeft q)=o.come.getD q 0;rw [show(pinS n k).step o wd p (.wr v q i 0)=_ from if_pos h];rfl;rw [show(pinS n k).step o wd p (.wr v q i 0)=_ from if_neg h];rfl
  | .wr v q i 1=>rfl
  | .wr v q i (ph+2)=>rfl
  | .rd q 0 l key=>rfl
  | .rd q (j+1) l key=>show((pinS n k).step o wd p (.rd q (j+1) l key)).2.1.now=_;by_cases h:j<k;rw [show(pinS n k).step o wd p (.rd q (j+1) l key)=_ from if_pos h];rfl;rw [show(pinS n k).step o wd p (.rd q (j+1) l key)=_ from if_neg h];rfl
 cnt:=by
  intro o wd p s
  match s with
  | .wr v q i 0=>show((pinS n k).step o wd p (.wr v q i 0)).2.1.mem.c.all<=_;by_cases h:taGot wd (piLeft q)=o.come.getD q 0;rw [show(pinS n k).step o wd p (.wr v q i 0)=_ from if_pos h];exact memRead_cnt _ _;rw [show(pinS n k).step o wd p (.wr v q i 0)=_ from if_neg h];exact memRead_cnt _ _
  | .wr v q i 1=>exact memWrite_cnt _ _ _
  | .wr v q i (ph+2)=>exact memAdd_cnt _ _ _
  | .rd q 0 l key=>exact memAdd_cnt _ _ _
  | .rd q (j+1) l key=>show((pinS n k).step o wd p (.rd q (j+1) l key)).2.1.mem.c.all<=_;by_cases h:j<k;rw [show(pinS n k).step o wd p (.rd q (j+1) l key)=_ from if_pos h];exact memRead_cnt _ _;rw [show(pinS n k).step o wd p (.rd q (j+1) l key)=_ from if_neg h];exact memAdd_cnt _ _ _
 invStep:=λ_ _ _ _ _=>trivial
 invTick:=λ_ _ _=>trivial
 invBegin:=λ_ _ _ _=>trivial
 fin:=by
  intro o wd p s h
  match s with
  | .wr v q i 0=>show(pinR n k bP bC).done ((pinS n k).step o wd p (.wr v q i 0)).2.2.1;by_cases h:taGot wd (piLeft q)=o.come.getD q 0;rw [show(pinS n k).step o wd p (.wr v q i 0)=_ from if_pos h];trivial;rw [show(pinS n k).step o wd p (.wr v q i 0)=_ from if_neg h];trivial
  | .wr v q i 1=>trivial
  | .wr v q i (ph+2)=>trivial
  | .rd q 0 l key=>cases h
  | .rd q (j+1) l key=>
   by_cases hj:j<k
   ·rw [show(pinS n k).step o wd p (.rd q (j+1) l key)=_ from if_pos hj] at h;cases h
   ·rw [show(pinS n k).step o wd p (.rd q (j+1) l key)=_ from if_neg hj]
    show k+2<=j+2
    omega
theorem pin_nolate (n k bP bC:Nat):NoLate (pinR n k bP bC) where
 late:=λ_ _ _ _=>rfl
 kind:=by
  intro w Mut B T' x' p s hm v u
  match s with
  | .wr v q i ph=>
   obtain⟨rfl,_⟩:=hm
   exact pwr_kind _ u
  | .rd q j l key=>
   obtain⟨rfl,_⟩:=hm
   exact prd_kind _ u
end
section

/- Layer 8: tally.Play. -/
open Go.RowKit
end
end Go.Proofs.Ytlepjmnhekeofaa
