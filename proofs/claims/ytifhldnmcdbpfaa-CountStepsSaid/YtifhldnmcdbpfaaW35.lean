/- Layer 11: the counter's machines: one that reads; one that counts, its first step. -/
import Derived.Test.YtifhldnmcdbpfaaW34
import Derived.Test.YtifhldnmcdbpfaaW12
set_option maxRecDepth 100000
set_option linter.unusedVariables false
set_option linter.unusedSimpArgs false
set_option linter.unnecessarySimpa false
namespace Go.Proofs.Ytifhldnmcdbpfaa
open Go.RowKit
theorem uG (a : Addr) : lK 202 (.agg #[.pointer (some a)]) "Step" 142 (.agg #[.pointer (some a)]) := ⟨fun _ _ => by kernel_rfl, fun _ _ => by kernel_rfl, fun _ _ => by kernel_rfl⟩
theorem qR (a : Addr) : lK 202 (.agg #[.pointer (some a)]) "Answer" 141 (.agg #[.pointer (some a)]) := ⟨fun _ _ => by kernel_rfl, fun _ _ => by kernel_rfl, fun _ _ => by kernel_rfl⟩
theorem iJ (a : Addr) : lK 203 (.pointer (some a)) "Step" 149 (.pointer (some a)) := ⟨fun _ _ => by kernel_rfl, fun _ _ => by kernel_rfl, fun _ _ => by kernel_rfl⟩
theorem qW (a : Addr) : lK 203 (.pointer (some a)) "Answer" 148 (.pointer (some a)) := ⟨fun _ _ => by kernel_rfl, fun _ _ => by kernel_rfl, fun _ _ => by kernel_rfl⟩
theorem wU (a : Addr) : lK 59 (.pointer (some a)) "Start" 122 (.pointer (some a)) := ⟨fun _ _ => by kernel_rfl, fun _ _ => by kernel_rfl, fun _ _ => by kernel_rfl⟩
theorem yD (v:Value) (u:World):(Instr.typeAssert (.iface 202 v) 123 158 true).run Try.prog u=.ok (.tuple #[.nilIface,.bool false]) u:=run_typeAssert_lacksB Try.underlying158 (by kernel_rfl) (by kernel_rfl) v _ u
theorem wP (v:Value) (u:World):(Instr.typeAssert (.iface 203 v) 123 158 true).run Try.prog u=.ok (.tuple #[.nilIface,.bool false]) u:=run_typeAssert_lacksB Try.underlying158 (by kernel_rfl) (by kernel_rfl) v _ u
theorem uF (b:Nat) (w:World):Calls Try.prog 148 #[.pointer (some ⟨b,0,none⟩)] w λe w'=>e=.returned (.tuple #[mD 0 0 (.slice none 0 0),.slice none 0 0])/\Below w.heap.size w w':=by
 unfold mD
 go_enter Try.func148,Try.ntmps148
 go_wp2
 exact bodyPost_ret (v:=.tuple #[.agg #[.int .i64 0,.int .u64 0,.slice none 0 0],.slice none 0 0]) (by simp [results,Try.results148 ,go_sem]) rfl ⟨rfl,Gr.new _ _⟩
theorem uE (n m p bl:Nat) (l:LkD) (w:World) (Mut B:Nat->Prop) (h:dL w Mut n m p bl l B):Calls Try.prog 141 #[.agg #[.pointer (some ⟨bl,0,none⟩)]] w λe w'=>e=.returned (.tuple #[mD 0 l.val (.slice none 0 0),.slice none 0 0])/\Below w.heap.size w w':=by
 obtain⟨mv,lf,a,hb⟩:=h.blk
 obtain⟨vl,hvl⟩:∃ vl,vl=l.val:=⟨_,rfl⟩
 rw [<-hvl] at hb ⊢
 have hlt:=aC hb
 obtain⟨wa,hwa⟩:∃ wa,wa=(w.alloc (.cells #[.pointer (some ⟨bl,0,none⟩)] 202)).alloc (.cells #[.int .i64 0,.int .u64 0,.slice none 0 0] 42):=⟨_,rfl⟩
 have hga:Below w.heap.size w wa:=by rw [hwa];exact Gr.alloc (Gr.new _ _) _
 have hb2:=(hga.block bl hlt).trans hb
 have d0:wa.cell? ⟨w.heap.size,0,none⟩=some (.pointer (some ⟨bl,0,none⟩)):=by rw [hwa,aA ((Below.heap_alloc _ _ _ (by simp)).trans (heap_alloc_new w _))];rfl
 have d3:wa.cell? ⟨bl,3,none⟩=some (.int .u64 (vl:Int)):=by rw [aA hb2];rfl
 have hsz:wa.heap.size=w.heap.size+2:=by rw [hwa];simp
 have hr:wa.heap[w.heap.size+1]?=some (.cells #[.int .i64 0,.int .u64 0,.slice none 0 0] 42 (0,0)):=by
  have:=heap_alloc_new (w.alloc (.cells #[.pointer (some ⟨bl,0,none⟩)] 202)) (.cells #[.int .i64 0,.int .u64 0,.slice none 0 0] 42 (0,0))
  simp only [World.size_alloc] at this
  rw [hwa];exact this
 have Hwa:=Lib.hid hwa;have Hga:=Lib.hid hga;have Hr:=Lib.hid hr;have Hsz:=Lib.hid hsz
 have r0:wa.cell? ⟨w.heap.size+1,0,none⟩=some (.int .i64 0):=by rw [aA hr];rfl
 have r1:wa.cell? ⟨w.heap.size+1,1,none⟩=some (.int .u64 0):=by rw [aA hr];rfl
 have r2:wa.cell? ⟨w.heap.size+1,2,none⟩=some (.slice none 0 0):=by rw [aA hr];rfl
 have f0:=aB hr 0;have f1:=aB hr 1;have f2:=aB hr 2
 have rl:=aC hr
 obtain⟨w5,vR⟩:∃ w5,w5=((wa.setCell ⟨w.heap.size+1,0,none⟩ (.int .i64 0)).setCell ⟨w.heap.size+1,1,none⟩ (.int .u64 (vl:Int))).setCell ⟨w.heap.size+1,2,none⟩ (.slice none 0 0):=⟨_,rfl⟩
 have h5:w5.heap[w.heap.size+1]?=some (.cells #[.int .i64 0,.int .u64 (vl:Int),.slice none 0 0] 42 (0,0)):=by rw [vR,aH (aH (aH hr _ _) _ _) _ _];rfl
 have lY:Chg (λk=>k=w.heap.size+1) wa w5:=by rw [vR];exact(((Chg.refl (λk=>k=w.heap.size+1) wa).setCell (p:=⟨w.heap.size+1,0,none⟩) (.inl rfl) _).setCell (p:=⟨w.heap.size+1,1,none⟩) (.inl rfl) _).setCell (p:=⟨w.heap.size+1,2,none⟩) (.inl rfl) _
 have F:=Lib.hid (show Below w.heap.size w w5 from hga.trans (lY.below (λk h=>by have h:k=w.heap.size+1:=h;omega) hga.size))
 have k0:w5.cell? ⟨w.heap.size+1,0,none⟩=some (.int .i64 0):=by rw [aA h5];rfl
 have k1:w5.cell? ⟨w.heap.size+1,1,none⟩=some (.int .u64 (vl:Int)):=by rw [aA h5];rfl
 have k2:w5.cell? ⟨w.heap.size+1,2,none⟩=some (.slice none 0 0):=by rw [aA h5];rfl
 have K:=Lib.hid (And.intro k0 (And.intro k1 k2));have Hw5:=Lib.hid vR
 unfold mD
 clear hb hb2 hwa hga hr hsz vR h5 lY k0 k1 k2 h hvl hlt
 go_enter Try.func141,Try.ntmps141
 go_upto_region 1 with fail
 rw [<-Hwa.out]
 go_wp2
 rw [<-Hw5.out]
 obtain⟨k0,k1,k2⟩:=K.out
 exact bodyPost_ret (v:=.tuple #[.agg #[.int .i64 0,.int .u64 (vl:Int),.slice none 0 0],.slice none 0 0]) (by simp [results,Try.results141 ,go_sem,k0,k1,k2]) rfl ⟨rfl,F.out⟩
theorem xJ (n m p bl:Nat) (l:LkD) (hn:n<=16) (hm:m<=8) (hv:l.v<=32) (w:World) (Mut B:Nat->Prop) (I:dG) (N:Nat) (wd:WD) (hw:aM w Mut I N wd) (h:dL w Mut n m p bl l B) (hB:∀ k,B k->Mut k/\¬ aW I k) (hk2:l.kind≠2) (hl:l.kind=0->0<l.x.y.left) (hT:iT wd) (hnow:wd.now<=1000000) (hp:p<16) (hcn:wd.mem.c.all+1<1000000000000) :
  Calls Try.prog 142 #[.agg #[.pointer (some ⟨bl,0,none⟩)],.pointer (some ⟨I.bW,0,none⟩)] w λe w'=>DL w w' Mut B I N (aI n m p wd l).1 n m p bl (aI n m p wd l).2.1 (aI n m p wd l).2.2 e:=by
 obtain⟨wa,hwa⟩:∃ wa,wa=w.alloc (.cells #[.pointer (some ⟨bl,0,none⟩)] 202):=⟨_,rfl⟩
 have hga:Below w.heap.size w wa:=by rw [hwa];exact Gr.new _ _
 have d0:wa.cell? ⟨w.heap.size,0,none⟩=some (.pointer (some ⟨bl,0,none⟩)):=by rw [hwa,dZ];rfl
 have hla:=h.keep (Q:=noB) (Chg.of_below hga) (λ_ h=>h.elim) (λ_ _ h=>h) (aV.refl _ _)
 have LS:=Lib.hid (pF n m p bl l hn hm hv wa Mut B I N wd (lC hw hga) hla hB hk2 hl hT hnow hp hcn)
 have Hwa:=Lib.hid hwa;have Hga:=Lib.hid hga
 clear hw h hB hwa hga hla hn hm hv hk2 hl hT hnow hp hcn
 go_enter Try.func142,Try.ntmps142
 go_upto_region 1 with fail
 rw [<-Hwa.out]
 go_wp2_with fail
 refine LS.out.mono ?_
 intro e w1 h1
 have F:=Lib.hid (show DL w w1 Mut B I N (aI n m p wd l).1 n m p bl (aI n m p wd l).2.1 (aI n m p wd l).2.2 e from by
  obtain⟨e1,B',e2,e3,e4,e5⟩:=h1
  exact⟨e1,B',e2,e3,(Chg.of_below Hga.out).trans e4,λk hk=>(e5 k hk).imp_right (λh=>Nat.le_trans Hga.out.size h)⟩)
 obtain⟨rfl,_⟩:=h1
 go_wp2
 go_ret
 exact F.out
def EP (w:World) (Mut:Nat->Prop) (n m p b bP:Nat) (x:AdD) (BB:Nat->Prop):Prop:=
 (x.pc=0/\x.v=0/\w.heap[b]?=some (.cells (bM bP p 0 0 (.pointer none) (.pointer none) .nilIface) 205 (0,0))/\BB=λk=>k=b)∨
 (x.pc≠0/\∃ bl br BL BR B,AdB w Mut n m p b bP x (.pointer (some ⟨bl,0,none⟩)) (.pointer (some ⟨br,0,none⟩)) B/\dL w Mut n m p bl x.left BL/\dL w Mut n m p br x.right BR/\(∀ k,(BL k∨BR k∨B k)->k≠b)/\(∀ k,BL k->¬ BR k/\¬ B k)/\(∀ k,BR k->¬ B k)/\BB=λk=>k=b∨BL k∨BR k∨B k)
def tJ (w:World) (p b bP:Nat) (x:AdD) (BB:Nat->Prop):Prop:=∃ lv rv wv,w.heap[b]?=some (.cells (bM bP p x.v x.pc lv rv wv) 205 (0,0))/\x.v=0/\(x.pc=0->lv=.pointer none/\rv=.pointer none/\wv=.nilIface)/\BB=λk=>k=b
def kR (w w':World) (Mut BB:Nat->Prop) (I:dG) (N:Nat) (wd':WD) (n m p b bP bO:Nat) (o o':List Nat) (x':AdD) (done:Bool) (e:Ending):Prop:=
 e=.returned (.bool done)/\Chg (λk=>aW I k∨k=bO∨BB k) w w'/\w'.heap[bO]?=some (.cells (jE o') 40 (0,0))/\∃ BB',aM w' (aT Mut BB BB') I N wd'/\(∀ k,BB' k->BB k∨w.heap.size<=k)/\(∀ k,BB' k->k<w'.heap.size)/\(if done=true then tJ w' p b bP x' BB' else EP w' (aT Mut BB BB') n m p b bP x' BB')
theorem BV (n m:Nat) (x:AdD) (v:Nat):(x.climb n m v).v=v:=by
 unfold AdD.climb
 split
 ·rfl
 ·rw [(iU m _).2.2]
theorem GD (n m:Nat) (x:AdD) {v:Nat} (hv:¬ v<1):(x.climb n m v).pc≠0:=by
 unfold AdD.climb
 rw [if_neg hv]
 unfold AdD.pass AdD.pass2 AdD.pass1 AdD.sum
 split
 ·split
  ·exact Nat.succ_ne_zero 2
  ·exact Nat.succ_ne_zero 1
 ·split
  ·exact Nat.succ_ne_zero 2
  ·exact Nat.succ_ne_zero 0
theorem Lst.any {w w':World} {M M':Nat->Prop} {v:Value} {l:List Int} (h:Lst w M v l) (e:l=[]):Lst w' M' v l:=by
 subst e
 obtain⟨a,c,_,h2,_⟩:=h
 rw [h2 rfl];exact Lst.nil _ _
theorem dL.any {w:World} {M M' B:Nat->Prop} {n m p bl:Nat} {l:LkD} (h:dL w M n m p bl l B) (e:l.x.ky=[]):dL w M' n m p bl l B:=by
 rcases h with⟨h0,bm,tv,kv,h1,h2,h3,h4,rfl⟩|h|h
 ·exact .inl ⟨h0,bm,tv,kv,h1,h2,h3.any e,h4,rfl⟩
 ·exact .inr (.inl h)
 ·exact .inr (.inr h)
theorem GA (n m:Nat) (x:AdD) {v:Nat} (hv:¬ v<1):(x.climb n m v).left.x.ky=[]/\(x.climb n m v).right.x.ky=[]/\((x.climb n m v).pc=3->(x.climb n m v).wr.ky=[]):=by
 unfold AdD.climb
 rw [if_neg hv]
 refine⟨by rw [(iU m _).1];rfl,by rw [(iU m _).2.1];rfl,?_⟩
 unfold AdD.pass AdD.pass2 AdD.pass1 AdD.sum
 split
 ·split
  ·intro _;exact jR _ _
  ·intro h;cases h
 ·split
  ·intro _;exact jR _ _
  ·intro h;cases h
theorem xF {w w1 w':World} {Mut BB:Nat->Prop} {I:dG} {N:Nat} {wd':WD} {n m p b bP bO:Nat} {o:List Nat} {x:AdD} {v pc:Nat} {lv rv wv:Value} {e:Ending} (hW:aM w1 Mut I N wd') (hc:Chg (λk=>aW I k∨k=bO∨BB k) w w1) (hbM:Mut b/\¬ aW I b) (hO:Mut bO/\¬ aW I bO/\¬ BB bO) (hBB:∀ k,BB k->Mut k/\¬ aW I k) (hb:BB b) (hz:∀ k,BB k->k<w.heap.size) (hO1:w1.heap[bO]?=some (.cells (jE o) 40 (0,0)))
  (hpc:v<1->pc=x.pc/\(x.pc=0->lv=.pointer none/\rv=.pointer none/\wv=.nilIface)) (h:(v<1/\xM w1 w' b bP bO p pc o lv rv wv e)∨(¬ v<1/\oK w1 w' Mut n m p b bP (x.climb n m v) e)) (hbO:bO≠b):kR w w' Mut BB I N wd' n m p b bP bO o (fJ o p v) (x.climb n m v) (decide (v<1)) e:=by
 rcases h with⟨hv,e1,hc1,hb1,hO9⟩|⟨hv,e1,hc1,bl,br,BL,BR,B,hA,hL,hR,hn,hd1,hd2⟩
 ·rw [decide_eq_true hv]
  have hW':aM w' Mut I N wd':=fH hW hc1 (λk hk=>by
   rcases hk with hk|hk
   ·rw [hk];exact hbM
   ·rw [hk];exact⟨hO.1,hO.2.1⟩)
  refine⟨e1,hc.trans (hc1.mono (λk _ hk=>by
   rcases hk with hk|hk
   ·rw [hk];exact .inr (.inr hb)
   ·exact .inr (.inl hk))),by unfold fJ;rw [if_pos hv];exact hO9,λk=>k=b,?_,λk hk=>.inl (by rw [show k=b from hk];exact hb),λk hk=>by rw [show k=b from hk];exact aC hb1,?_⟩
  ·refine hW'.keep (S:=noB) (Chg.refl _ _) (λ_ h=>h.elim) (λ_ h=>h.elim) ?_ ?_ (λk hk=>.inl ⟨hW'.muts k hk,λh9=>(hBB k h9).2 hk⟩)
   ·rintro k (⟨a,_⟩|a)
    ·exact .inl a
    ·rw [show k=b from a];exact .inl hbM.1
   ·rintro k (⟨a,_⟩|a)
    ·exact hW'.low k a
    ·rw [show k=b from a];exact aC hb1
  ·rw [if_pos rfl]
   obtain⟨q1,q2⟩:=hpc hv
   have e9:(x.climb n m v).pc=x.pc:=by unfold AdD.climb;rw [if_pos hv]
   refine⟨lv,rv,wv,?_,by rw [BV];omega,by rw [e9];exact q2,rfl⟩
   rw [BV,e9,<-q1,show v=0 by omega];exact hb1
 ·rw [decide_eq_false hv]
  have hW':aM w' Mut I N wd':=fH hW hc1 (λk hk=>by rw [show k=b from hk];exact hbM)
  have hO9:=(hc1.block bO (aC hO1) hbO).trans hO1
  have hs1:=hc.size
  obtain⟨wv',hb',hA'⟩:=hA
  have hlB:∀ k,B k->k<w'.heap.size:=by
   rcases hA' with⟨_,rfl⟩|⟨_,bm,tv,kv,_,h9,_,_,rfl⟩
   ·exact λ_ h=>h.elim
   ·exact h9.lt
  have hlt:∀ k,(k=b∨BL k∨BR k∨B k)->k<w'.heap.size:=by
   rintro k (hk|hk|hk|hk)
   ·rw [hk];exact aC hb'
   ·exact hL.lt k hk
   ·exact hR.lt k hk
   ·exact hlB k hk
  have hup:aV Mut w1 (aT Mut BB (λk=>k=b∨BL k∨BR k∨B k)):=by
   rintro k (⟨a,_⟩|hk|hk|hk|hk)
   ·exact .inl a
   ·rw [hk];exact .inl hbM.1
   ·exact .inr (hn k (.inl hk)).1
   ·exact .inr (hn k (.inr (.inl hk))).1
   ·exact .inr (hn k (.inr (.inr hk))).1
  have hW9:aM w' (aT Mut BB (λk=>k=b∨BL k∨BR k∨B k)) I N wd':=hW.keep hc1 (λk hk=>by rw [show k=b from hk];exact hbM.1) (λk hk=>by rw [show k=b from hk];exact hbM.2) hup (by
   rintro k (⟨a,_⟩|hk)
   ·exact hW'.low k a
   ·exact hlt k hk) (λk hk=>.inl ⟨hW'.muts k hk,λh9=>(hBB k h9).2 hk⟩)
  obtain⟨y1,y2,y3⟩:=GA n m x hv
  refine⟨e1,hc.trans (hc1.mono (λk _ hk=>by rw [show k=b from hk];exact .inr (.inr hb))),by unfold fJ;rw [if_neg hv];exact hO9,λk=>k=b∨BL k∨BR k∨B k,hW9,λk hk=>?_,hlt,?_⟩
  ·rcases hk with hk|hk|hk|hk
   ·rw [hk];exact .inl hb
   ·exact .inr (Nat.le_trans hs1 (hn k (.inl hk)).1)
   ·exact .inr (Nat.le_trans hs1 (hn k (.inr (.inl hk))).1)
   ·exact .inr (Nat.le_trans hs1 (hn k (.inr (.inr hk))).1)
  ·rw [if_neg (by decide)]
   refine .inr ⟨GD n m x hv,bl,br,BL,BR,B,⟨wv',hb',?_⟩,hL.any y1,hR.any y2,λk hk=>(hn k hk).2,hd1,hd2,rfl⟩
   rcases hA' with h9|⟨h8,bm,tv,kv,h7,h6,h5,h4,h3⟩
   ·exact .inl h9
   ·exact .inr ⟨h8,bm,tv,kv,h7,h6,h5.any (y3 h8),h4,h3⟩
end Go.Proofs.Ytifhldnmcdbpfaa
