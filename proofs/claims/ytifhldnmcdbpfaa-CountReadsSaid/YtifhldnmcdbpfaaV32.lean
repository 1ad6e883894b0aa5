/- Layer 11: the counter's machines: one that reads; one that counts, its first step. -/
import Derived.Test.YtifhldnmcdbpfaaV31
import Derived.Test.YtifhldnmcdbpfaaV11
set_option maxRecDepth 100000
set_option linter.unusedVariables false
set_option linter.unusedSimpArgs false
set_option linter.unnecessarySimpa false
namespace Go.Proofs.Ytifhldnmcdbpfaa
section
open Go.RowKit
theorem uG (a : Addr) : lL 202 (.agg #[.pointer (some a)]) "Step" 142 (.agg #[.pointer (some a)]) := ⟨fun _ _ => by kernel_rfl, fun _ _ => by kernel_rfl, fun _ _ => by kernel_rfl⟩
theorem qW (a : Addr) : lL 202 (.agg #[.pointer (some a)]) "Answer" 141 (.agg #[.pointer (some a)]) := ⟨fun _ _ => by kernel_rfl, fun _ _ => by kernel_rfl, fun _ _ => by kernel_rfl⟩
theorem iJ (a : Addr) : lL 203 (.pointer (some a)) "Step" 149 (.pointer (some a)) := ⟨fun _ _ => by kernel_rfl, fun _ _ => by kernel_rfl, fun _ _ => by kernel_rfl⟩
theorem qN (a : Addr) : lL 203 (.pointer (some a)) "Answer" 148 (.pointer (some a)) := ⟨fun _ _ => by kernel_rfl, fun _ _ => by kernel_rfl, fun _ _ => by kernel_rfl⟩
theorem yU (a : Addr) : lL 59 (.pointer (some a)) "Start" 122 (.pointer (some a)) := ⟨fun _ _ => by kernel_rfl, fun _ _ => by kernel_rfl, fun _ _ => by kernel_rfl⟩
theorem xQ (v:Value) (u:World):(Instr.typeAssert (.iface 202 v) 123 158 true).run Try.prog u=.ok (.tuple #[.nilIface,.bool false]) u:=run_typeAssert_lacksB Try.underlying158 (by kernel_rfl) (by kernel_rfl) v _ u
theorem xJ (v:Value) (u:World):(Instr.typeAssert (.iface 203 v) 123 158 true).run Try.prog u=.ok (.tuple #[.nilIface,.bool false]) u:=run_typeAssert_lacksB Try.underlying158 (by kernel_rfl) (by kernel_rfl) v _ u
theorem tZ (b:Nat) (w:World):Calls Try.prog 148 #[.pointer (some ⟨b,0,none⟩)] w λe w'=>e=.returned (.tuple #[lZ 0 0 (.slice none 0 0),.slice none 0 0])/\Below w.heap.size w w':=by
 unfold lZ
 go_enter Try.func148,Try.ntmps148
 go_wp2
 exact bodyPost_ret (v:=.tuple #[.agg #[.int .i64 0,.int .u64 0,.slice none 0 0],.slice none 0 0]) (by simp [results,Try.results148 ,go_sem]) rfl ⟨rfl,Gr.new _ _⟩
theorem uE (n m p bl:Nat) (l:LkD) (w:World) (Mut B:Nat->Prop) (h:dL w Mut n m p bl l B):Calls Try.prog 141 #[.agg #[.pointer (some ⟨bl,0,none⟩)]] w λe w'=>e=.returned (.tuple #[lZ 0 l.val (.slice none 0 0),.slice none 0 0])/\Below w.heap.size w w':=by
 obtain⟨mv,lf,a,hb⟩:=h.blk
 obtain⟨vl,hvl⟩:∃ vl,vl=l.val:=⟨_,rfl⟩
 rw [<-hvl] at hb ⊢
 have hlt:=aC hb
 obtain⟨wa,hwa⟩:∃ wa,wa=(w.alloc (.cells #[.pointer (some ⟨bl,0,none⟩)] 202)).alloc (.cells #[.int .i64 0,.int .u64 0,.slice none 0 0] 42):=⟨_,rfl⟩
 have hga:Below w.heap.size w wa:=by rw [hwa];exact Gr.alloc (Gr.new _ _) _
 have hb2:=(hga.block bl hlt).trans hb
 have d0:wa.cell? ⟨w.heap.size,0,none⟩=some (.pointer (some ⟨bl,0,none⟩)):=by rw [hwa,aA ((Below.heap_alloc _ _ _ (by simp)).trans (heap_alloc_new w _))];rfl
 have d3:wa.cell? ⟨bl,3,none⟩=some (.int .u64 (vl:Int)):=by rw [aA hb2];rfl
 have hsz:wa.heap.size=w.heap.size+2:=by rw [hwa];simp
 have hr:wa.heap[w.heap.size+1]?=some (.cells #[.int .i64 0,.int .u64 0,.slice none 0 0] 42 (0,0)):=by
  have:=heap_alloc_new (w.alloc (.cells #[.pointer (some ⟨bl,0,none⟩)] 202)) (.cells #[.int .i64 0,.int .u64 0,.slice none 0 0] 42 (0,0))
  simp only [World.size_alloc] at this
  rw [hwa];exact this
 have Hwa:=Lib.hid hwa;have Hga:=Lib.hid hga;have Hr:=Lib.hid hr;have Hsz:=Lib.hid hsz
 have r0:wa.cell? ⟨w.heap.size+1,0,none⟩=some (.int .i64 0):=by rw [aA hr];rfl
 have r1:wa.cell? ⟨w.heap.size+1,1,none⟩=some (.int .u64 0):=by rw [aA hr];rfl
 have r2:wa.cell? ⟨w.heap.size+1,2,none⟩=some (.slice none 0 0):=by rw [aA hr];rfl
 have f0:=aB hr 0;have f1:=aB hr 1;have f2:=aB hr 2
 have rl:=aC hr
 obtain⟨w5,vM⟩:∃ w5,w5=((wa.setCell ⟨w.heap.size+1,0,none⟩ (.int .i64 0)).setCell ⟨w.heap.size+1,1,none⟩ (.int .u64 (vl:Int))).setCell ⟨w.heap.size+1,2,none⟩ (.slice none 0 0):=⟨_,rfl⟩
 have h5:w5.heap[w.heap.size+1]?=some (.cells #[.int .i64 0,.int .u64 (vl:Int),.slice none 0 0] 42 (0,0)):=by rw [vM,aH (aH (aH hr _ _) _ _) _ _];rfl
 have mD:Chg (λk=>k=w.heap.size+1) wa w5:=by rw [vM];exact(((Chg.refl (λk=>k=w.heap.size+1) wa).setCell (p:=⟨w.heap.size+1,0,none⟩) (.inl rfl) _).setCell (p:=⟨w.heap.size+1,1,none⟩) (.inl rfl) _).setCell (p:=⟨w.heap.size+1,2,none⟩) (.inl rfl) _
 have F:=Lib.hid (show Below w.heap.size w w5 from hga.trans (mD.below (λk h=>by have h:k=w.heap.size+1:=h;omega) hga.size))
 have k0:w5.cell? ⟨w.heap.size+1,0,none⟩=some (.int .i64 0):=by rw [aA h5];rfl
 have k1:w5.cell? ⟨w.heap.size+1,1,none⟩=some (.int .u64 (vl:Int)):=by rw [aA h5];rfl
 have k2:w5.cell? ⟨w.heap.size+1,2,none⟩=some (.slice none 0 0):=by rw [aA h5];rfl
 have K:=Lib.hid (And.intro k0 (And.intro k1 k2));have Hw5:=Lib.hid vM
 unfold lZ
 clear hb hb2 hwa hga hr hsz vM h5 mD k0 k1 k2 h hvl hlt
 go_enter Try.func141,Try.ntmps141
 go_upto_region 1 with fail
 rw [<-Hwa.out]
 go_wp2
 rw [<-Hw5.out]
 obtain⟨k0,k1,k2⟩:=K.out
 exact bodyPost_ret (v:=.tuple #[.agg #[.int .i64 0,.int .u64 (vl:Int),.slice none 0 0],.slice none 0 0]) (by simp [results,Try.results141 ,go_sem,k0,k1,k2]) rfl ⟨rfl,F.out⟩
theorem zA (n m p bl:Nat) (l:LkD) (hn:n<=16) (hm:m<=8) (hv:l.v<=32) (w:World) (Mut B:Nat->Prop) (I:dG) (N:Nat) (wd:WD) (hw:aM w Mut I N wd) (h:dL w Mut n m p bl l B) (hB:∀ k,B k->Mut k/\¬ aW I k) (hk2:l.kind≠2) (hl:l.kind=0->0<l.x.y.left) (hT:iT wd) (hnow:wd.now<=1000000) (hp:p<16) (hcn:wd.mem.c.all+1<1000000000000) :
  Calls Try.prog 142 #[.agg #[.pointer (some ⟨bl,0,none⟩)],.pointer (some ⟨I.bW,0,none⟩)] w λe w'=>DF w w' Mut B I N (aI n m p wd l).1 n m p bl (aI n m p wd l).2.1 (aI n m p wd l).2.2 e:=by
 obtain⟨wa,hwa⟩:∃ wa,wa=w.alloc (.cells #[.pointer (some ⟨bl,0,none⟩)] 202):=⟨_,rfl⟩
 have hga:Below w.heap.size w wa:=by rw [hwa];exact Gr.new _ _
 have d0:wa.cell? ⟨w.heap.size,0,none⟩=some (.pointer (some ⟨bl,0,none⟩)):=by rw [hwa,eF];rfl
 have hla:=h.keep (Q:=noB) (Chg.of_below hga) (λ_ h=>h.elim) (λ_ _ h=>h) (aV.refl _ _)
 have LS:=Lib.hid (pE n m p bl l hn hm hv wa Mut B I N wd (kY hw hga) hla hB hk2 hl hT hnow hp hcn)
 have Hwa:=Lib.hid hwa;have Hga:=Lib.hid hga
 clear hw h hB hwa hga hla hn hm hv hk2 hl hT hnow hp hcn
 go_enter Try.func142,Try.ntmps142
 go_upto_region 1 with fail
 rw [<-Hwa.out]
 go_wp2_with fail
 refine LS.out.mono ?_
 intro e w1 h1
 have F:=Lib.hid (show DF w w1 Mut B I N (aI n m p wd l).1 n m p bl (aI n m p wd l).2.1 (aI n m p wd l).2.2 e from by
  obtain⟨e1,B',e2,e3,e4,e5⟩:=h1
  exact⟨e1,B',e2,e3,(Chg.of_below Hga.out).trans e4,λk hk=>(e5 k hk).imp_right (λh=>Nat.le_trans Hga.out.size h)⟩)
 obtain⟨rfl,_⟩:=h1
 go_wp2
 go_ret
 exact F.out
def DR (w:World) (Mut:Nat->Prop) (n m p b bP:Nat) (x:AdD) (BB:Nat->Prop):Prop:=
 (x.pc=0/\x.v=0/\w.heap[b]?=some (.cells (bL bP p 0 0 (.pointer none) (.pointer none) .nilIface) 205 (0,0))/\BB=λk=>k=b)∨
 (x.pc≠0/\∃ bl br BL BR B,AdB w Mut n m p b bP x (.pointer (some ⟨bl,0,none⟩)) (.pointer (some ⟨br,0,none⟩)) B/\dL w Mut n m p bl x.left BL/\dL w Mut n m p br x.right BR/\(∀ k,(BL k∨BR k∨B k)->k≠b)/\(∀ k,BL k->¬ BR k/\¬ B k)/\(∀ k,BR k->¬ B k)/\BB=λk=>k=b∨BL k∨BR k∨B k)
def sS (w:World) (p b bP:Nat) (x:AdD) (BB:Nat->Prop):Prop:=∃ lv rv wv,w.heap[b]?=some (.cells (bL bP p x.v x.pc lv rv wv) 205 (0,0))/\x.v=0/\(x.pc=0->lv=.pointer none/\rv=.pointer none/\wv=.nilIface)/\BB=λk=>k=b
def kV (w w':World) (Mut BB:Nat->Prop) (I:dG) (N:Nat) (wd':WD) (n m p b bP bO:Nat) (o o':List Nat) (x':AdD) (done:Bool) (e:Ending):Prop:=
 e=.returned (.bool done)/\Chg (λk=>aW I k∨k=bO∨BB k) w w'/\w'.heap[bO]?=some (.cells (jA o') 40 (0,0))/\∃ BB',aM w' (aT Mut BB BB') I N wd'/\(∀ k,BB' k->BB k∨w.heap.size<=k)/\(∀ k,BB' k->k<w'.heap.size)/\(if done=true then sS w' p b bP x' BB' else DR w' (aT Mut BB BB') n m p b bP x' BB')
theorem BK (n m:Nat) (x:AdD) (v:Nat):(x.climb n m v).v=v:=by
 unfold AdD.climb
 split
 ·rfl
 ·rw [(iW m _).2.2]
theorem JR (n m:Nat) (x:AdD) {v:Nat} (hv:¬ v<1):(x.climb n m v).pc≠0:=by
 unfold AdD.climb
 rw [if_neg hv]
 unfold AdD.pass AdD.pass2 AdD.pass1 AdD.sum
 split
 ·split
  ·exact Nat.succ_ne_zero 2
  ·exact Nat.succ_ne_zero 1
 ·split
  ·exact Nat.succ_ne_zero 2
  ·exact Nat.succ_ne_zero 0
theorem Lst.any {w w':World} {M M':Nat->Prop} {v:Value} {l:List Int} (h:Lst w M v l) (e:l=[]):Lst w' M' v l:=by
 subst e
 obtain⟨a,c,_,h2,_⟩:=h
 rw [h2 rfl];exact Lst.nil _ _
theorem dL.any {w:World} {M M' B:Nat->Prop} {n m p bl:Nat} {l:LkD} (h:dL w M n m p bl l B) (e:l.x.ky=[]):dL w M' n m p bl l B:=by
 rcases h with⟨h0,bm,tv,kv,h1,h2,h3,h4,rfl⟩|h|h
 ·exact .inl ⟨h0,bm,tv,kv,h1,h2,h3.any e,h4,rfl⟩
 ·exact .inr (.inl h)
 ·exact .inr (.inr h)
theorem GG (n m:Nat) (x:AdD) {v:Nat} (hv:¬ v<1):(x.climb n m v).left.x.ky=[]/\(x.climb n m v).right.x.ky=[]/\((x.climb n m v).pc=3->(x.climb n m v).wr.ky=[]):=by
 unfold AdD.climb
 rw [if_neg hv]
 refine⟨by rw [(iW m _).1];rfl,by rw [(iW m _).2.1];rfl,?_⟩
 unfold AdD.pass AdD.pass2 AdD.pass1 AdD.sum
 split
 ·split
  ·intro _;exact jT _ _
  ·intro h;cases h
 ·split
  ·intro _;exact jT _ _
  ·intro h;cases h
theorem xD {w w1 w':World} {Mut BB:Nat->Prop} {I:dG} {N:Nat} {wd':WD} {n m p b bP bO:Nat} {o:List Nat} {x:AdD} {v pc:Nat} {lv rv wv:Value} {e:Ending} (hW:aM w1 Mut I N wd') (hc:Chg (λk=>aW I k∨k=bO∨BB k) w w1) (hbM:Mut b/\¬ aW I b) (hO:Mut bO/\¬ aW I bO/\¬ BB bO) (hBB:∀ k,BB k->Mut k/\¬ aW I k) (hb:BB b) (hz:∀ k,BB k->k<w.heap.size) (hO1:w1.heap[bO]?=some (.cells (jA o) 40 (0,0)))
  (hpc:v<1->pc=x.pc/\(x.pc=0->lv=.pointer none/\rv=.pointer none/\wv=.nilIface)) (h:(v<1/\yR w1 w' b bP bO p pc o lv rv wv e)∨(¬ v<1/\oP w1 w' Mut n m p b bP (x.climb n m v) e)) (hbO:bO≠b):kV w w' Mut BB I N wd' n m p b bP bO o (fJ o p v) (x.climb n m v) (decide (v<1)) e:=by
 rcases h with⟨hv,e1,hc1,hb1,hO9⟩|⟨hv,e1,hc1,bl,br,BL,BR,B,hA,hL,hR,hn,hd1,hd2⟩
 ·rw [decide_eq_true hv]
  have hW':aM w' Mut I N wd':=fG hW hc1 (λk hk=>by
   rcases hk with hk|hk
   ·rw [hk];exact hbM
   ·rw [hk];exact⟨hO.1,hO.2.1⟩)
  refine⟨e1,hc.trans (hc1.mono (λk _ hk=>by
   rcases hk with hk|hk
   ·rw [hk];exact .inr (.inr hb)
   ·exact .inr (.inl hk))),by unfold fJ;rw [if_pos hv];exact hO9,λk=>k=b,?_,λk hk=>.inl (by rw [show k=b from hk];exact hb),λk hk=>by rw [show k=b from hk];exact aC hb1,?_⟩
  ·refine hW'.keep (S:=noB) (Chg.refl _ _) (λ_ h=>h.elim) (λ_ h=>h.elim) ?_ ?_ (λk hk=>.inl ⟨hW'.muts k hk,λh9=>(hBB k h9).2 hk⟩)
   ·rintro k (⟨a,_⟩|a)
    ·exact .inl a
    ·rw [show k=b from a];exact .inl hbM.1
   ·rintro k (⟨a,_⟩|a)
    ·exact hW'.low k a
    ·rw [show k=b from a];exact aC hb1
  ·rw [if_pos rfl]
   obtain⟨q1,q2⟩:=hpc hv
   have e9:(x.climb n m v).pc=x.pc:=by unfold AdD.climb;rw [if_pos hv]
   refine⟨lv,rv,wv,?_,by rw [BK];omega,by rw [e9];exact q2,rfl⟩
   rw [BK,e9,<-q1,show v=0 by omega];exact hb1
 ·rw [decide_eq_false hv]
  have hW':aM w' Mut I N wd':=fG hW hc1 (λk hk=>by rw [show k=b from hk];exact hbM)
  have hO9:=(hc1.block bO (aC hO1) hbO).trans hO1
  have hs1:=hc.size
  obtain⟨wv',hb',hA'⟩:=hA
  have hlB:∀ k,B k->k<w'.heap.size:=by
   rcases hA' with⟨_,rfl⟩|⟨_,bm,tv,kv,_,h9,_,_,rfl⟩
   ·exact λ_ h=>h.elim
   ·exact h9.lt
  have hlt:∀ k,(k=b∨BL k∨BR k∨B k)->k<w'.heap.size:=by
   rintro k (hk|hk|hk|hk)
   ·rw [hk];exact aC hb'
   ·exact hL.lt k hk
   ·exact hR.lt k hk
   ·exact hlB k hk
  have hup:aV Mut w1 (aT Mut BB (λk=>k=b∨BL k∨BR k∨B k)):=by
   rintro k (⟨a,_⟩|hk|hk|hk|hk)
   ·exact .inl a
   ·rw [hk];exact .inl hbM.1
   ·exact .inr (hn k (.inl hk)).1
   ·exact .inr (hn k (.inr (.inl hk))).1
   ·exact .inr (hn k (.inr (.inr hk))).1
  have hW9:aM w' (aT Mut BB (λk=>k=b∨BL k∨BR k∨B k)) I N wd':=hW.keep hc1 (λk hk=>by rw [show k=b from hk];exact hbM.1) (λk hk=>by rw [show k=b from hk];exact hbM.2) hup (by
   rintro k (⟨a,_⟩|hk)
   ·exact hW'.low k a
   ·exact hlt k hk) (λk hk=>.inl ⟨hW'.muts k hk,λh9=>(hBB k h9).2 hk⟩)
  obtain⟨y1,y2,y3⟩:=GG n m x hv
  refine⟨e1,hc.trans (hc1.mono (λk _ hk=>by rw [show k=b from hk];exact .inr (.inr hb))),by unfold fJ;rw [if_neg hv];exact hO9,λk=>k=b∨BL k∨BR k∨B k,hW9,λk hk=>?_,hlt,?_⟩
  ·rcases hk with hk|hk|hk|hk
   ·rw [hk];exact .inl hb
   ·exact .inr (Nat.le_trans hs1 (hn k (.inl hk)).1)
   ·exact .inr (Nat.le_trans hs1 (hn k (.inr (.inl hk))).1)
   ·exact .inr (Nat.le_trans hs1 (hn k (.inr (.inr hk))).1)
  ·rw [if_neg (by decide)]
   refine .inr ⟨JR n m x hv,bl,br,BL,BR,B,⟨wv',hb',?_⟩,hL.any y1,hR.any y2,λk hk=>(hn k hk).2,hd1,hd2,rfl⟩
   rcases hA' with h9|⟨h8,bm,tv,kv,h7,h6,h5,h4,h3⟩
   ·exact .inl h9
   ·exact .inr ⟨h8,bm,tv,kv,h7,h6,h5.any (y3 h8),h4,h3⟩
end
section
open Go.RowKit
theorem kV.trans {w w1 w':World} {Mut BB:Nat->Prop} {I:dG} {N:Nat} {wd':WD} {n m p b bP bO:Nat} {o o':List Nat} {x':AdD} {done:Bool} {e:Ending} (h:kV w1 w' (aT Mut BB (λk=>k=b)) (λk=>k=b) I N wd' n m p b bP bO o o' x' done e) (hc:Chg (λk=>aW I k∨k=bO∨BB k) w w1) (hb:BB b):kV w w' Mut BB I N wd' n m p b bP bO o o' x' done e:=by
 obtain⟨h1,h2,h3,BB',h4,h5,h6,h7⟩:=h
 have e9:aT (aT Mut BB (λk=>k=b)) (λk=>k=b) BB'=aT Mut BB BB':=by
  funext k
  apply propext
  unfold aT
  constructor
  ·rintro(⟨⟨a,c⟩|a,d⟩|a)
   ·exact .inl ⟨a,c⟩
   ·exact absurd a d
   ·exact .inr a
  ·rintro(⟨a,c⟩|a)
   ·exact .inl ⟨.inl ⟨a,c⟩,λd=>c (by rw [show k=b from d];exact hb)⟩
   ·exact .inr a
 rw [e9] at h4 h7
 exact⟨h1,hc.trans (h2.mono (λk _ hk=>hk.imp_right (λh=>h.imp_right (λh=>by rw [show k=b from h];exact hb)))),h3,BB',h4,λk hk=>(h5 k hk).elim (λh=>.inl (by rw [show k=b from h];exact hb)) (λh=>.inr (Nat.le_trans hc.size h)),h6,h7⟩
theorem rG {w w2 w3:World} {Mut BB BL' BR:Nat->Prop} {I:dG} {N:Nat} {wd':WD} {n m p b bP bO bl br:Nat} {o:List Nat} {X:AdD} {e:Ending} (hM:∀ k,BB k->Mut k/\¬ aW I k) (hb:BB b) (hbO:bO≠b) (hW2:aM w2 (aT Mut BB (λk=>k=b∨BL' k∨BR k)) I N wd') (hl2:dL w2 (aT Mut BB (λk=>k=b∨BL' k∨BR k)) n m p bl X.left BL') (hr2:dL w2 (aT Mut BB (λk=>k=b∨BL' k∨BR k)) n m p br X.right BR)
  (hc:Chg (λk=>aW I k∨k=bO∨BB k) w w2) (hsub:∀ k,(BL' k∨BR k)->(BB k∨w.heap.size<=k)/\k≠b) (hd:∀ k,BL' k->¬ BR k) (hO2:w2.heap[bO]?=some (.cells (jA o) 40 (0,0))) (hp0:X.pc≠0) (hky:X.pc=3->X.wr.ky=[]) (h:jJ w2 w3 (aT Mut BB (λk=>k=b∨BL' k∨BR k)) n m p b bP X (.pointer (some ⟨bl,0,none⟩)) (.pointer (some ⟨br,0,none⟩)) e) :
  kV w w3 Mut BB I N wd' n m p b bP bO o o X false (.returned (.bool false)):=by
 obtain⟨_,hc3,B,⟨wv,hbk,hA⟩,hge⟩:=h
 have hbM:=hM b hb
 have hlB:∀ k,B k->k<w3.heap.size:=by
  rcases hA with⟨_,rfl⟩|⟨_,bm,tv,kv,_,h9,_,_,rfl⟩
  ·exact λ_ h=>h.elim
  ·exact h9.lt
 have hlL:=hl2.lt;have hlR:=hr2.lt
 have hb2:b<w2.heap.size:=hW2.low b (.inr (.inl rfl))
 have hs3:=hc3.size
 have hs2:=hc.size
 have hup:aV (aT Mut BB (λk=>k=b∨BL' k∨BR k)) w2 (aT Mut BB (λk=>k=b∨BL' k∨BR k∨B k)):=by
  rintro k (⟨a,c⟩|a|a|a|a)
  ·exact .inl (.inl ⟨a,c⟩)
  ·exact .inl (.inr (.inl a))
  ·exact .inl (.inr (.inr (.inl a)))
  ·exact .inl (.inr (.inr (.inr a)))
  ·exact .inr (hge k a)
 have zU:∀ k,k=b->aT Mut BB (λk=>k=b∨BL' k∨BR k) k:=λk e=>.inr (.inl e)
 have hlt:∀ k,(k=b∨BL' k∨BR k∨B k)->k<w3.heap.size:=by
  rintro k (hk|hk|hk|hk)
  ·rw [hk];exact aC hbk
  ·exact Nat.lt_of_lt_of_le (hlL k hk) hs3
  ·exact Nat.lt_of_lt_of_le (hlR k hk) hs3
  ·exact hlB k hk
 refine⟨rfl,hc.trans (hc3.mono (λk _ hk=>by rw [show k=b from hk];exact .inr (.inr hb))),(hc3.block bO (aC hO2) hbO).trans hO2,λk=>k=b∨BL' k∨BR k∨B k,?_,λk hk=>?_,hlt,?_⟩
 ·refine hW2.keep hc3 zU (λk hk=>by rw [show k=b from hk];exact hbM.2) hup ?_ (λk hk=>?_)
  ·rintro k (⟨a,c⟩|hk)
   ·exact Nat.lt_of_lt_of_le (hW2.low k (.inl ⟨a,c⟩)) hs3
   ·exact hlt k hk
  ·rcases hW2.muts k hk with h9|h9|h9|h9
   ·exact .inl h9
   ·exact .inr (.inl h9)
   ·exact .inr (.inr (.inl h9))
   ·exact .inr (.inr (.inr (.inl h9)))
 ·rcases hk with hk|hk|hk|hk
  ·rw [hk];exact .inl hb
  ·exact(hsub k (.inl hk)).1
  ·exact(hsub k (.inr hk)).1
  ·exact .inr (Nat.le_trans hs2 (hge k hk))
 ·rw [if_neg (by decide)]
  refine .inr ⟨hp0,bl,br,BL',BR,B,⟨wv,hbk,?_⟩,hl2.keep hc3 zU (λk hk e=>(hsub k (.inl hk)).2 e) hup,hr2.keep hc3 zU (λk hk e=>(hsub k (.inr hk)).2 e) hup,?_,λk hk=>⟨hd k hk,λh9=>?_⟩,λk hk h9=>?_,rfl⟩
  ·rcases hA with h9|⟨h8,bm,tv,kv,h7,h6,h5,h4,h3⟩
   ·exact .inl h9
   ·exact .inr ⟨h8,bm,tv,kv,h7,h6,h5.any (hky h8),h4,h3⟩
  ·rintro k (hk|hk|hk)
   ·exact(hsub k (.inl hk)).2
   ·exact(hsub k (.inr hk)).2
   ·have:=hge k hk;omega
  ·have:=hge k h9;have:=hlL k hk;omega
  ·have:=hge k h9;have:=hlR k hk;omega
set_option maxHeartbeats 8000000 in
theorem DW (n m p b bP bO:Nat) (o:List Nat) (x:AdD) (hn:n<=16) (hm:m<=8) (hp:p<n) (ho:o.length=n) (hop:o.getD p 0<1000000) (hpc:x.pc=0) (hxv:x.v=0) (w:World) (Mut:Nat->Prop) (I:dG) (N:Nat) (wd:WD) (hw:aM w Mut I N wd) (hbM:Mut b/\¬ aW I b) (hOM:Mut bO/\¬ aW I bO) (hPW:¬ aW I bP)
  (hb:w.heap[b]?=some (.cells (bL bP p 0 0 (.pointer none) (.pointer none) .nilIface) 205 (0,0))) (hP:w.heap[bP]?=some (.cells (ctL n m (aK n) (lC bO n)) 80 (0,0))) (hO:w.heap[bO]?=some (.cells (jA o) 40 (0,0))) (hcn:wd.mem.c.all+1<1000000000000) :
  Calls Try.prog 149 #[.pointer (some ⟨b,0,none⟩),.pointer (some ⟨I.bW,0,none⟩)] w λe w'=>kV w w' Mut (λk=>k=b) I N (kM wd p (o.getD p 0+1)) n m p b bP bO o (fJ o p ((aK n+p) / 2)) (x.climb n m ((aK n+p) / 2)) (decide ((aK n+p) / 2<1)) e:=by
 have nT:∀ {a c:Nat} {cs cs':Array Value} {T T':TypeId} {fz fz':Nat×Nat},w.heap[a]?=some (.cells cs T fz)->w.heap[c]?=some (.cells cs' T' fz')->T≠T'->a≠c:=λh1 h2 h3 e=>by
  subst e
  rw [h1] at h2
  exact h3 (Obj.cells.inj (Option.some.inj h2)).2.1
 have n1:bP≠b:=nT hP hb (by decide)
 have n2:bO≠b:=nT hO hb (by decide)
 have n3:bP≠bO:=nT hP hO (by decide)
 have hL9:=bM hn
 obtain⟨L,hL⟩:∃ L,L=aK n:=⟨_,rfl⟩
 obtain⟨v,hv⟩:∃ v,v=(aK n+p) / 2:=⟨_,rfl⟩
 obtain⟨u,hu⟩:∃ u,u=o.getD p 0:=⟨_,rfl⟩
 rw [<-hL] at hL9 hv
 have vQ:v<=15:=by omega
 obtain⟨s1,s2,s3⟩:=kF hw
 have nb:¬ bY I.bm I.bw b:=λh=>hbM.2 (s3 b h).1
 have nO:¬ bY I.bm I.bw bO:=λh=>hOM.2 (s3 bO h).1
 have nP:¬ bY I.bm I.bw bP:=λh=>hPW (s3 bP h).1
 obtain⟨mks,hwb,_,_⟩:=hw.blk
 have x3:w.cell? ⟨b,3,none⟩=some (.int .i64 0):=by rw [aA hb];rfl
 have c0:w.cell? ⟨I.bW,0,none⟩=some (.pointer (some ⟨I.bm,0,none⟩)):=by rw [aA hwb];exact iV
 have c1:w.cell? ⟨b,0,none⟩=some (.pointer (some ⟨bP,0,none⟩)):=by rw [aA hb];rfl
 have c2:w.cell? ⟨bP,0,none⟩=some (.int .i64 0):=by rw [aA hP];rfl
 have c3:w.cell? ⟨b,1,none⟩=some (.int .i64 (p:Int)):=by rw [aA hb];rfl
 have c4:w.cell? ⟨bP,4,none⟩=some (.slice (some ⟨bO,0,none⟩) n n):=by rw [aA hP];rfl
 have c5:w.cell? ⟨bO,p,none⟩=some (.int .u64 (u:Int)):=by rw [aA hO,hu];exact tH (by omega)
 have lp:(p:Int)<(n:Int):=by omega
 have SX:(0:Int)<=(p:Int):=by omega
 have wp:IntKind.i64.wrap (0+(p:Int))=(p:Int):=by rw [IntKind.wrap_i64];omega
 have VW:IntKind.i64.wrap (p:Int)=(p:Int):=by rw [IntKind.wrap_i64];omega
 rw [<-hu] at hop
 have wu:IntKind.u64.wrap ((u:Int)+1)=((u+1:Nat):Int):=by rw [IntKind.wrap_u64];omega
 obtain⟨u1,hu1⟩:∃ u1,u1=u+1:=⟨_,rfl⟩
 rw [<-hu1] at wu
 have Wr:=Lib.hid (λ(z:World) (h:Chg noB w z)=>vB I.bm I.bw wd.mem (p:Int) u1 z (hw.mem.chg h (λh=>h) (λ_ _ h=>h)) (by omega) hcn)
 have hbw:=hw.blk
 rw [<-hL,<-hv,<-hu,<-hu1]
 have Hw:=Lib.hid hw;have Hb:=Lib.hid hb;have HP:=Lib.hid hP;have HO:=Lib.hid hO;have HbM:=Lib.hid hbM;have HOM:=Lib.hid hOM;have HPW:=Lib.hid hPW;have N1:=Lib.hid n1;have N2:=Lib.hid n2;have N3:=Lib.hid n3;have HL:=Lib.hid hL;have Hu:=Lib.hid hu
 have Nb:=Lib.hid nb;have NO:=Lib.hid nO;have NP:=Lib.hid nP;have S2:=Lib.hid s2
 have ws:IntKind.i64.wrap ((L:Int)+(p:Int))=(L:Int)+(p:Int):=by rw [IntKind.wrap_i64];omega
 have e1:((L:Int)+(p:Int)).tdiv 2=(v:Int):=by rw [hv,Int.tdiv_eq_ediv_of_nonneg (by omega)];omega
 have e2:((L:Int)+(p:Int)) / 2=(v:Int):=by omega
 have wv:IntKind.i64.wrap (v:Int)=(v:Int):=by rw [IntKind.wrap_i64];omega
 have Hn:=Lib.hid hn;have Hm:=Lib.hid hm;have Hp:=Lib.hid hp;have Ho:=Lib.hid ho;have Hv:=Lib.hid vQ;have Hop:=Lib.hid hop;have Hpc:=Lib.hid hpc;have Hxv:=Lib.hid hxv
 clear hw hb hP hO hbM hOM hPW n1 n2 n3 hL hL9 hv hu hop hu1 nb nO nP s1 s2 s3 hwb hbw nT hn hm hp ho vQ hcn hpc hxv
 go_enter Try.func149,Try.ntmps149
 go_upto_region 3 with fail
 clear x3
 go_region_held3 (λz=>z.cell? ⟨I.bW,0,none⟩=some (.pointer (some ⟨I.bm,0,none⟩))/\z.cell? ⟨b,0,none⟩=some (.pointer (some ⟨bP,0,none⟩))/\z.cell? ⟨bP,0,none⟩=some (.int .i64 0)/\z.cell? ⟨b,1,none⟩=some (.int .i64 (p:Int))/\z.cell? ⟨bP,4,none⟩=some (.slice (some ⟨bO,0,none⟩) n n)/\z.cell? ⟨bO,p,none⟩=some (.int .u64 (u:Int)))
  (first|exact⟨c0,c1,c2,c3,c4,c5⟩|exact⟨z0,z1,z2,z3,z4,z5⟩)
  (first|(go_at_call 151;refine(Wr.out _ ?_).mono ?_;(exact(Chg.refl _ _).drew);rintro e w6 ⟨rfl,hm1,hc1⟩;have hc1':Chg (bY I.bm I.bw) w w6:=((Chg.refl _ w).drew).trans hc1;have z0:=aY hc1' S2.out c0;have z1:=aY hc1' Nb.out c1;have z2:=aY hc1' NP.out c2;have z3:=aY hc1' Nb.out c3;have z4:=aY hc1' NP.out c4;have z5:=aY hc1' NO.out c5))
 obtain⟨iR,jC⟩:=Hw.out.mems hc1' hm1
 have hb6:=(jC.block b (aC Hb.out) HbM.out.2).trans Hb.out
 have hP6:=(jC.block bP (aC HP.out) HPW.out).trans HP.out
 have hO6:=(jC.block bO (aC HO.out) HOM.out.2).trans HO.out
 have y3:w6.cell? ⟨bP,3,none⟩=some (.int .i64 (L:Int)):=by rw [aA hP6,HL.out];rfl
 have Fin:=Lib.hid (λ(w':World) (e:Ending) (h:(v<1/\yR w6.drew w' b bP bO p 0 o (.pointer none) (.pointer none) .nilIface e)∨(¬ v<1/\oP w6.drew w' Mut n m p b bP (x.climb n m v) e))=>(show kV w w' Mut (λk=>k=b) I N (kM wd p u1) n m p b bP bO o (fJ o p v) (x.climb n m v) (decide (v<1)) e from
  xD (fG (w':=w6.drew) (S:=noB) iR ((Chg.refl noB w6).drew) (λ_ h=>h.elim)) ((jC.drew).mono (λ_ _ h=>.inl h)) HbM.out ⟨HOM.out.1,HOM.out.2,λh=>N2.out h⟩ (λk hk=>by rw [show k=b from hk];exact HbM.out) rfl (λk hk=>by rw [show k=b from hk];exact aC Hb.out) hO6 (λ_=>⟨Hpc.out.symm,λ_=>⟨rfl,rfl,rfl⟩⟩) h N2.out))
 have Hw6:=Lib.hid iR;have Hb6:=Lib.hid hb6;have HP6:=Lib.hid hP6;have HO6:=Lib.hid hO6
 clear iR jC hc1 hc1' hm1 hb6 hP6 hO6 z0 z2 z4 z5 c0 c1 c2 c3 c4 c5 lp SX wp VW wu
 by_cases hv0:v<1
 ·have hvz:v=0:=by omega
  subst hvz
  have TP:=Lib.hid (GI n m p b bP bO 0 0 o (.pointer none) (.pointer none) .nilIface Hn.out Hp.out Ho.out (by rw [<-Hu.out];exact Hop.out) w6.drew Hb6.out HP6.out HO6.out)
  have HC:=Lib.hid (λ(w':World) (h:Chg (λk=>k=b∨k=bO) w6.drew w')=>(h.block bP (aC HP6.out) (λh9=>h9.elim N1.out N3.out)).trans HP6.out)
  clear hv0
  go_upto_region 4 with fail
  go_region_held3 (λz=>z.cell? ⟨b,0,none⟩=some (.pointer (some ⟨bP,0,none⟩))/\z.cell? ⟨bP,3,none⟩=some (.int .i64 (L:Int))/\z.cell? ⟨b,1,none⟩=some (.int .i64 (p:Int)))
   (first|exact⟨z1,y3,z3⟩|exact⟨k1,k2,k3⟩)
   (first|(go_at_call 152;refine TP.out.mono ?_;intro e w7 h7;have F7:=Lib.hid (Fin.out w7 e (.inl ⟨Nat.lt_succ_self 0,h7⟩));obtain⟨rfl,KF,OH,_⟩:=h7;have hP7:=HC.out w7 KF;have k1:=(aA OH 0).trans (show _=some (Value.pointer (some ⟨bP,0,none⟩)) from rfl);have k3:=(aA OH 1).trans (show _=some (Value.int .i64 (p:Int)) from rfl);have k2:=(aA hP7 3).trans (show _=some (Value.int .i64 (L:Int)) from by rw [HL.out];rfl)))
  clear KF OH hP7 k1 k2 k3 z1 y3 z3
  go_wp2
  go_ret
  exact F7.out
 ·have CL:=Lib.hid (xI n m p b bP v 0 x (.pointer none) (.pointer none) .nilIface (lC bO n) Hn.out Hm.out (by omega) Hv.out w6.drew Mut I N (kM wd p u1) (fG (w':=w6.drew) (S:=noB) Hw6.out ((Chg.refl noB w6).drew) (λ_ h=>h.elim)) HbM.out (by rw [Hxv.out];exact Hb6.out) HP6.out)
  have HC:=Lib.hid (λ(w':World) (h:Chg (λk=>k=b) w6.drew w')=>(h.block bP (aC HP6.out) (λh9=>N1.out h9)).trans HP6.out)
  have Hv0:=Lib.hid hv0
  clear hv0
  go_upto_region 4 with fail
  go_region_held3 (λz=>z.cell? ⟨b,0,none⟩=some (.pointer (some ⟨bP,0,none⟩))/\z.cell? ⟨bP,3,none⟩=some (.int .i64 (L:Int))/\z.cell? ⟨b,1,none⟩=some (.int .i64 (p:Int)))
   (first|exact⟨z1,y3,z3⟩|exact⟨k1,k2,k3⟩)
   (first|(go_at_call 152;refine CL.out.mono ?_;intro e w7 h7;have F7:=Lib.hid (Fin.out w7 e (.inr ⟨Hv0.out,h7⟩));obtain⟨rfl,KF,bl,br,BL,BR,B,⟨XN,OH,_⟩,_⟩:=h7;have hP7:=HC.out w7 KF;have k1:=(aA OH 0).trans (show _=some (Value.pointer (some ⟨bP,0,none⟩)) from rfl);have k3:=(aA OH 1).trans (show _=some (Value.int .i64 (p:Int)) from rfl);have k2:=(aA hP7 3).trans (show _=some (Value.int .i64 (L:Int)) from by rw [HL.out];rfl)))
  clear KF OH hP7 k1 k2 k3 z1 y3 z3
  go_wp2
  go_ret
  exact F7.out
end
end Go.Proofs.Ytifhldnmcdbpfaa
