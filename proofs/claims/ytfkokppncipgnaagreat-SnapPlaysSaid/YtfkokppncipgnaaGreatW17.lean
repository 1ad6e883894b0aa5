/- A reference's play under way: between steps, what each of its own writes leaves. -/
import Derived.Test.YtfkokppncipgnaaGreatW16
import Derived.Deep.Cut
set_option maxRecDepth 100000
set_option linter.unusedVariables false
set_option linter.unusedSimpArgs false
set_option linter.unnecessarySimpa false
namespace Go.Proofs.YtfkokppncipgnaaGreat
section
open Go.RowKit
variable {w0 w w':World} {J:RJ} {s s':dS} {hl hl':List Value} {vs vs':List HV} {G K L:Value} {ea ea':Option Addr} {ec ec':Nat} {ers ers':List (Value×Value)} {Mut Mut':Nat->Prop} {P:Nat->Prop} {p:Nat} {t:aJ} {r:RWD}
theorem ND.ne {EV:Value} (h:ND w J vs L EV P) {b:Nat} {c:Array Value} {T:TypeId} {fz:Nat×Nat} (hb:w.heap[b]?=some (.cells c T fz)) :
  (T≠93->J.bW≠b)/\(T≠24->J.bM≠b/\J.bT≠b)/\(T≠4->J.bF≠b)/\(T≠100->J.bH≠b)/\(T≠32->J.bO≠b)/\(T≠46->J.bw≠some b)/\(T≠212->L.ownBlock≠some b)/\(T≠52->EV.ownBlock≠some b)/\
   ∀ q,q<J.nt->(T≠28->(vs.getD q hv0).2.2≠b)/\(P q->(T≠46->(vs.getD q hv0).1.ownBlock≠some b)/\(T≠3->(vs.getD q hv0).2.1.ownBlock≠some b)):=by
 refine⟨λhT e=>?_,λhT=>⟨λe=>?_,λe=>?_⟩,λhT e=>?_,λhT e=>?_,λhT e=>?_,λhT e=>?_,λhT e=>?_,λhT e=>?_,λq hq=>⟨λhT e=>?_,λhP=>⟨λhT e=>?_,λhT e=>?_⟩⟩⟩
 ·obtain⟨_,h1⟩:=h.W;exact dB hb h1 hT e.symm
 ·obtain⟨_,h1⟩:=h.M;exact dB hb h1 hT e.symm
 ·obtain⟨_,h1⟩:=h.T;exact dB hb h1 hT e.symm
 ·obtain⟨_,h1⟩:=h.F;exact dB hb h1 hT e.symm
 ·obtain⟨_,h1⟩:=h.H;exact dB hb h1 hT e.symm
 ·obtain⟨_,h1⟩:=h.O;exact dB hb h1 hT e.symm
 ·obtain⟨_,_,h1⟩:=h.U b e;exact dB hb h1 hT rfl
 ·obtain⟨_,_,h1⟩:=h.L b e;exact dB hb h1 hT rfl
 ·obtain⟨_,_,h1⟩:=h.E b e;exact dB hb h1 hT rfl
 ·obtain⟨_,h1⟩:=h.o q hq;exact dB hb h1 hT e.symm
 ·obtain⟨_,_,h1⟩:=h.G q hq hP b e;exact dB hb h1 hT rfl
 ·obtain⟨_,_,h1⟩:=h.K q hq hP b e;exact dB hb h1 hT rfl
theorem fM.notmut (h:fM w0 w J s hl vs L ea ec ers) {b:Nat} {c:Array Value} {T:TypeId} {fz:Nat×Nat} (hb:w.heap[b]?=some (.cells c T fz)) (hge:w0.heap.size<=b)
  (hT:T≠93/\T≠24/\T≠4/\T≠100/\T≠32/\T≠46/\T≠212/\T≠52/\T≠28/\T≠3):¬ iB J vs L (.slice ea s.evs.length ec) b:=λhm=>by
 obtain⟨x1,x2,x3,x4,x5,x6,x7,x8,x9⟩:=h.ty.ne hb
 obtain⟨t1,t2,t3,t4,t5,t6,t7,t8,t9,t10⟩:=hT
 rcases hm with e|e|e|e|e|e|e|e|e|⟨q,hq,e|e|e⟩
 ·exact x1 t1 e.symm
 ·exact(x2 t2).1 e.symm
 ·exact(x2 t2).2 e.symm
 ·exact x3 t3 e.symm
 ·exact x4 t4 e.symm
 ·rcases e with e|e
  ·exact x5 t5 e.symm
  ·have:=h.rest.res b e;omega
 ·exact x6 t6 e
 ·exact x7 t7 e
 ·exact x8 t8 e
 ·exact(x9 q hq).1 t9 e
 ·exact((x9 q hq).2 trivial).1 t6 e
 ·exact((x9 q hq).2 trivial).2 t10 e
theorem fM.world {b:Nat} {c:Array Value} {T:TypeId} {fz:Nat×Nat} (h:fM w0 w J s hl vs L ea ec ers) (hb:w.heap[b]?=some (.cells c T fz)) (hc:Chg (λx=>x=b) w w') (hm:iB J vs L (.slice ea s.evs.length ec) b) (hm':aN (iB J vs L (.slice ea s.evs.length ec)) w Mut')
  (hT:T≠93/\T≠24/\T≠46/\T≠212) :
  fP w' J.bW 93 [.int .i64 (s.rw.now:Int),.slice (some ⟨J.bM,0,none⟩) J.nt J.nt,.slice (some ⟨J.bT,0,none⟩) J.sz J.sz,L] J.bw s.rw.mem/\(∃ n xs,n<=s.rw.mem.c.all/\w'.ownsRow 0 212 6 L n xs)/\
   iU w' Mut' J.bM J.nt s.rw.marks/\iU w' Mut' J.bT J.sz s.rw.traces:=by
 obtain⟨n,xs,hn,ZM⟩:=h.log
 obtain⟨x1,x2,x3,x4,x5,x6,x7,_⟩:=h.ty.ne hb
 have hS:∀ x,x=b->iB J vs L (.slice ea s.evs.length ec) x:=λx e=>by rw [e];exact hm
 exact⟨h.mem.chg hc (x1 hT.1) (λq e e9=>x6 hT.2.2.1 (by rw [e,e9])),⟨n,xs,hn,bB ZM hc (λq e e9=>x7 hT.2.2.2 (by rw [e,e9]))⟩,h.marks.keep hc hS hm' (x2 hT.2.1).1,h.traces.keep hc hS hm' (x2 hT.2.1).2⟩
theorem fM.tick (h:fM w0 w J s hl vs L ea ec ers):fM w0 (w.setCell ⟨J.bW,6,none⟩ (.int .i64 ((s.rw.now:Int)+1))) J { s with rw:=s.rw.tick } hl vs L ea ec ers:=by
 obtain⟨cW,hW⟩:=h.ty.W
 obtain⟨x1,x2,x3,x4,x5,x6,x7,x8,x9⟩:=h.ty.ne hW
 have hc:Chg (λx=>x=J.bW) w (w.setCell ⟨J.bW,6,none⟩ (.int .i64 ((s.rw.now:Int)+1))):=(Chg.refl (λx=>x=J.bW) w).setCell (p:=⟨J.bW,6,none⟩) (.inl rfl) _
 have hS:∀ x,x=J.bW->iB J vs L (.slice ea s.evs.length ec) x:=λx e=>.inl e
 obtain⟨n,xs,hn,ZM⟩:=h.log
 obtain⟨_,hH⟩:=h.ty.H
 refine⟨h.rest.turn (s':={ s with rw:=s.rw.tick }) hc (λx _ e=>hS x e) (aN.refl _ _) (λx e=>by rw [e];exact h.rest.ge.2.2.2.1) (λx e q hq=>by rw [e];exact⟨(x9 q hq).1 (by decide),λhP=>⟨((x9 q hq).2 hP).1 (by decide),((x9 q hq).2 hP).2 (by decide)⟩⟩) (λx e e9=>absurd (by rw [<-e];exact e9) (x6 (by decide))) rfl
   ((hc.block _ (aC h.rest.fin) (x3 (by decide))).trans h.rest.fin) h.rest.flen h.rest.lens.2.2.2 ((hc.block _ (aC h.rest.out) (x5 (by decide))).trans h.rest.out) (bB h.rest.evs hc (λb e e9=>x8 (by decide) (by rw [e,e9]))) (h.rest.lies hc (λx _ e=>hS x e) (aN.refl _ _)),
  (hc.block _ (aC h.hb) (x4 (by decide))).trans h.hb,?_,⟨n,xs,hn,bB ZM hc (λb e e9=>x7 (by decide) (by rw [e,e9]))⟩,h.logge,h.marks.keep hc hS (aN.refl _ _) (x2 (by decide)).1,h.traces.keep hc hS (aN.refl _ _) (x2 (by decide)).2,h.mt⟩
 exact h.mem.tail 0 (.int .i64 ((s.rw.now:Int)+1))
theorem fM.idleN (h:fM w0 w J s hl vs L ea ec ers):fM w0 (w.setCell ⟨J.bO,8,none⟩ (.int .i64 ((s.idle:Int)+1))) J { s with idle:=s.idle+1 } hl vs L ea ec ers:=by
 obtain⟨cO,hO⟩:=h.ty.O
 obtain⟨x1,x2,x3,x4,x5,x6,x7,x8,x9⟩:=h.ty.ne hO
 have hc:Chg (λx=>x=J.bO) w (w.setCell ⟨J.bO,8,none⟩ (.int .i64 ((s.idle:Int)+1))):=(Chg.refl (λx=>x=J.bO) w).setCell (p:=⟨J.bO,8,none⟩) (.inl rfl) _
 have hm:iB J vs L (.slice ea s.evs.length ec) J.bO:=.inr (.inr (.inr (.inr (.inr (.inl (.inl rfl))))))
 have hS:∀ x,x=J.bO->iB J vs L (.slice ea s.evs.length ec) x:=λx e=>by rw [e];exact hm
 obtain⟨m1,m2,m3,m4⟩:=h.world hO hc hm (aN.refl _ _) ⟨by decide,by decide,by decide,by decide⟩
 refine⟨h.rest.turn (s':={ s with idle:=s.idle+1 }) hc (λx _ e=>hS x e) (aN.refl _ _) (λx e=>by rw [e];exact h.rest.ge.2.1) (λx e q hq=>by rw [e];exact⟨(x9 q hq).1 (by decide),λhP=>⟨((x9 q hq).2 hP).1 (by decide),((x9 q hq).2 hP).2 (by decide)⟩⟩) (λx e e9=>absurd (by rw [<-e];exact e9) (x6 (by decide))) rfl
   ((hc.block _ (aC h.rest.fin) (x3 (by decide))).trans h.rest.fin) h.rest.flen h.rest.lens.2.2.2 ?_ (bB h.rest.evs hc (λb e e9=>x8 (by decide) (by rw [e,e9]))) (h.rest.lies hc (λx _ e=>hS x e) (aN.refl _ _)),
  (hc.block _ (aC h.hb) (x4 (by decide))).trans h.hb,m1,m2,h.logge,m3,m4,h.mt⟩
 rw [aG h.rest.out];rfl
theorem fM.finN (h:fM w0 w J s hl vs L ea ec ers) (i:Nat):fM w0 (w.setCell ⟨J.bF,i,none⟩ (.bool true)) J { s with fin:=s.fin.set i true } hl vs L ea ec ers:=by
 obtain⟨x1,x2,x3,x4,x5,x6,x7,x8,x9⟩:=h.ty.ne h.rest.fin
 have hc:Chg (λx=>x=J.bF) w (w.setCell ⟨J.bF,i,none⟩ (.bool true)):=(Chg.refl (λx=>x=J.bF) w).setCell (p:=⟨J.bF,i,none⟩) (.inl rfl) _
 have hm:iB J vs L (.slice ea s.evs.length ec) J.bF:=.inr (.inr (.inr (.inl rfl)))
 have hS:∀ x,x=J.bF->iB J vs L (.slice ea s.evs.length ec) x:=λx e=>by rw [e];exact hm
 obtain⟨m1,m2,m3,m4⟩:=h.world h.rest.fin hc hm (aN.refl _ _) ⟨by decide,by decide,by decide,by decide⟩
 refine⟨h.rest.turn (s':={ s with fin:=s.fin.set i true }) hc (λx _ e=>hS x e) (aN.refl _ _) (λx e=>by rw [e];exact h.rest.ge.1) (λx e q hq=>by rw [e];exact⟨(x9 q hq).1 (by decide),λhP=>⟨((x9 q hq).2 hP).1 (by decide),((x9 q hq).2 hP).2 (by decide)⟩⟩) (λx e e9=>absurd (by rw [<-e];exact e9) (x6 (by decide))) rfl
   ?_ (by simpa using h.rest.flen) h.rest.lens.2.2.2 ((hc.block _ (aC h.rest.out) (x5 (by decide))).trans h.rest.out) (bB h.rest.evs hc (λb e e9=>x8 (by decide) (by rw [e,e9]))) (h.rest.lies hc (λx _ e=>hS x e) (aN.refl _ _)),
  (hc.block _ (aC h.hb) (x4 (by decide))).trans h.hb,m1,m2,h.logge,m3,m4,h.mt⟩
 rw [aG h.rest.fin]
 simp [List.map_set]
theorem fM.app {w1:World} (h:fM w0 w J s hl vs L ea ec ers) (e:EvD) (he:e.ans.list=[]/\e.key=[]) (hc:Chg (λb=>(Value.slice ea s.evs.length ec).ownBlock=some b) w w1) (hk:dY w (.slice ea s.evs.length ec) (.slice ea' (s.evs.length+1) ec'))
  (hrow:w1.ownsRow w0.heap.size 52 8 (.slice ea' (s.evs.length+1) ec') (s.evs.length+1) (iP s.evs ers++dK e (.slice none 0 0,.slice none 0 0))) :
  fM w0 (w1.setCell ⟨J.bO,0,none⟩ (.slice ea' (s.evs.length+1) ec')) J { s with evs:=s.evs++[e] } hl vs L ea' ec' (ers++[(.slice none 0 0,.slice none 0 0)]):=by
 have ty:=h.ty
 have hlen:(s.evs++[e]).length=s.evs.length+1:=by simp
 obtain⟨w2,hw2⟩:∃ w2,w2=w1.setCell ⟨J.bO,0,none⟩ (.slice ea' (s.evs.length+1) ec'):=⟨_,rfl⟩
 have hE:∀ b,(Value.slice ea s.evs.length ec).ownBlock=some b->∃ c fz,w.heap[b]?=some (.cells c 52 fz):=λb e=>gG h.rest.evs e
 have hne:∀ {b':Nat} {c:Array Value} {T:TypeId} {fz:Nat×Nat},w.heap[b']?=some (.cells c T fz)->T≠52->¬ (Value.slice ea s.evs.length ec).ownBlock=some b':=λh9 hT e=>by
  obtain⟨_,_,h8⟩:=hE _ e;exact dB h9 h8 hT rfl
 have hO1:w1.heap[J.bO]?=some (.cells (Ra (.slice ea s.evs.length ec) s.idle) 32 (0,0)):=(hc.block _ (aC h.rest.out) (hne h.rest.out (by decide))).trans h.rest.out
 obtain⟨x1,x2,x3,x4,x5,x6,x7,x8,x9⟩:=ty.ne h.rest.out
 have hc1:Chg (λx=>x=J.bO) w1 w2:=by rw [hw2];exact(Chg.refl (λx=>x=J.bO) w1).setCell (p:=⟨J.bO,0,none⟩) (.inl rfl) _
 have hc2:Chg (λx=>(Value.slice ea s.evs.length ec).ownBlock=some x∨x=J.bO) w w2:=(hc.mono (λ_ _ e=>.inl e)).trans (hc1.mono (λ_ _ e=>.inr e))
 have hS:∀ x,((Value.slice ea s.evs.length ec).ownBlock=some x∨x=J.bO)->iB J vs L (.slice ea s.evs.length ec) x:=λx e=>by
  rcases e with e|e
  ·exact .inr (.inr (.inr (.inr (.inr (.inr (.inr (.inr (.inl e))))))))
  ·exact .inr (.inr (.inr (.inr (.inr (.inl (.inl e))))))
 have hM:aN (iB J vs L (.slice ea s.evs.length ec)) w (iB J vs L (.slice ea' (s.evs.length+1) ec')):=λx e=>by
  rcases e with e|e|e|e|e|e|e|e|e|e
  ·exact .inl (.inl e)
  ·exact .inl (.inr (.inl e))
  ·exact .inl (.inr (.inr (.inl e)))
  ·exact .inl (.inr (.inr (.inr (.inl e))))
  ·exact .inl (.inr (.inr (.inr (.inr (.inl e)))))
  ·exact .inl (.inr (.inr (.inr (.inr (.inr (.inl e))))))
  ·exact .inl (.inr (.inr (.inr (.inr (.inr (.inr (.inl e)))))))
  ·exact .inl (.inr (.inr (.inr (.inr (.inr (.inr (.inr (.inl e))))))))
  ·rcases hk x e with h9|h9
   ·exact .inl (.inr (.inr (.inr (.inr (.inr (.inr (.inr (.inr (.inl h9)))))))))
   ·exact .inr h9
  ·exact .inl (.inr (.inr (.inr (.inr (.inr (.inr (.inr (.inr (.inr e)))))))))
 have hn2:∀ {b':Nat} {c:Array Value} {T:TypeId} {fz:Nat×Nat},w.heap[b']?=some (.cells c T fz)->T≠52->T≠32->¬ ((Value.slice ea s.evs.length ec).ownBlock=some b'∨b'=J.bO):=λh9 hT hT2 e=>by
  rcases e with e|e
  ·exact hne h9 hT e
  ·rw [e] at h9;exact dB h9 h.rest.out hT2 rfl
 obtain⟨n,xs,hn,ZM⟩:=h.log
 obtain⟨_,hW⟩:=ty.W
 obtain⟨_,hMb⟩:=ty.M
 obtain⟨_,hTb⟩:=ty.T
 have hrow2:w2.ownsRow w0.heap.size 52 8 (.slice ea' (s.evs.length+1) ec') (s.evs.length+1) (iP (s.evs++[e]) (ers++[(.slice none 0 0,.slice none 0 0)])):=by
  rw [yB _ _ _ _ h.rest.lens.2.2.2.symm,show iP [e] [((.slice none 0 0:Value),(.slice none 0 0:Value))]=dK e (.slice none 0 0,.slice none 0 0)++[] from rfl,List.append_nil]
  exact bB hrow hc1 (λb e9 e8=>by rw [e8] at e9;exact dJ hrow hO1 (by decide) e9)
 rw [<-hw2]
 have hrest:yY w0 w2 (iB J vs L (.slice ea' (s.evs.length+1) ec')) J (λ_=>True) { s with evs:=s.evs++[e] } hl vs ea' ec' (ers++[(.slice none 0 0,.slice none 0 0)]):=by
  refine h.rest.turn (s':={ s with evs:=s.evs++[e] }) hc2 (λx _ e=>hS x e) hM (λx e=>?_) (λx e q hq=>?_) (λx e e9=>?_) rfl ((hc2.block _ (aC h.rest.fin) (hn2 h.rest.fin (by decide) (by decide))).trans h.rest.fin) h.rest.flen (by simp [h.rest.lens.2.2.2]) ?_ (by rw [hlen];exact hrow2) (λi hi=>?_)
  ·rcases e with e|e
   ·rcases h.rest.evs.2 with⟨h1,_⟩|⟨g,cap,cur,h1,h2,_⟩
    ·rw [h1] at e;cases e
    ·rw [h1] at e;cases e;exact h2
   ·rw [e];exact h.rest.ge.2.1
  ·refine⟨λe9=>?_,λhP=>⟨λe9=>?_,λe9=>?_⟩⟩
   ·obtain⟨_,h9⟩:=ty.o q hq;exact hn2 h9 (by decide) (by decide) (by rw [e9];exact e)
   ·obtain⟨_,_,h9⟩:=ty.G q hq trivial x e9;exact hn2 h9 (by decide) (by decide) e
   ·obtain⟨_,_,h9⟩:=ty.K q hq trivial x e9;exact hn2 h9 (by decide) (by decide) e
  ·obtain⟨_,_,h9⟩:=ty.U x e9;exact absurd e (hn2 h9 (by decide) (by decide))
  ·rw [hw2,aG hO1,hlen];rfl
  ·simp only [hlen] at hi
   by_cases h1:i<s.evs.length
   ·have e1:(ers++[((.slice none 0 0:Value),(.slice none 0 0:Value))]).getD i wT=ers.getD i wT:=by rw [List.getD_eq_getElem?_getD,List.getD_eq_getElem?_getD,List.getElem?_append_left (by rw [h.rest.lens.2.2.2];exact h1)]
    have e2:(s.evs++[e]).getD i iO=s.evs.getD i iO:=by rw [List.getD_eq_getElem?_getD,List.getD_eq_getElem?_getD,List.getElem?_append_left h1]
    show fK w2 _ _ ((s.evs++[e]).getD i iO).ans.list/\Lst w2 _ _ ((s.evs++[e]).getD i iO).key
    rw [e1,e2]
    exact h.rest.lies hc2 (λx _ e=>hS x e) hM i h1
   ·obtain rfl:i=s.evs.length:=by omega
    have e1:(ers++[((.slice none 0 0:Value),(.slice none 0 0:Value))]).getD s.evs.length wT=(.slice none 0 0,.slice none 0 0):=by rw [List.getD_eq_getElem?_getD,List.getElem?_append_right (by rw [h.rest.lens.2.2.2];exact Nat.le_refl _),h.rest.lens.2.2.2,Nat.sub_self];rfl
    have e2:(s.evs++[e]).getD s.evs.length iO=e:=by rw [List.getD_eq_getElem?_getD,List.getElem?_append_right (Nat.le_refl _),Nat.sub_self];rfl
    show fK w2 _ _ ((s.evs++[e]).getD s.evs.length iO).ans.list/\Lst w2 _ _ ((s.evs++[e]).getD s.evs.length iO).key
    rw [e1,e2,he.1,he.2]
    exact⟨fK.nil _ _,Lst.nil _ _⟩
 refine⟨by rw [hlen];exact hrest,(hc2.block _ (aC h.hb) (hn2 h.hb (by decide) (by decide))).trans h.hb,h.mem.chg hc2 (hn2 hW (by decide) (by decide)) (λq e9=>by obtain⟨_,_,h9⟩:=ty.U q e9;exact hn2 h9 (by decide) (by decide)),⟨n,xs,hn,bB ZM hc2 (λb e9=>by obtain⟨_,_,h9⟩:=ty.L b e9;exact hn2 h9 (by decide) (by decide))⟩,h.logge,?_,?_,h.mt⟩
 ·rw [hlen];exact h.marks.keep hc2 hS hM (hn2 hMb (by decide) (by decide))
 ·rw [hlen];exact h.traces.keep hc2 hS hM (hn2 hTb (by decide) (by decide))
end
section
open Go.RowKit
set_option maxHeartbeats 4000000 in
theorem Cf (w:World) (bH bW bM mc p ev now n:Nat) (pre post:List Value) (x0 x1 x2 x3 x4 x5 x6 x7 x8 x9 wC yE BA AR yI xM:Value) (hH:w.heap[bH]?=some (.cells (pre++([x0,x1,x2,x3,x4,x5,x6,x7,x8,x9,wC,yE,BA,AR,yI,xM]++post)).toArray 100 (0,0))) (hWH:bW≠bH) (hMH:bM≠bH)
  (ms:Array Value) (hM:w.heap[bM]?=some (.cells ms 24 (0,0))) (hms:ms.size=n) (hp:p<n) (hn:n<=16) (c6:w.cell? ⟨bW,6,none⟩=some (.int .i64 (now:Int))) (c7:w.cell? ⟨bW,7,none⟩=some (.slice (some ⟨bM,0,none⟩) n mc)) :
  Calls Tryz.prog 41 #[.pointer (some ⟨bH,pre.length,none⟩),.pointer (some ⟨bW,0,none⟩),.int .i64 (p:Int),.int .i64 (ev:Int)] w λe w'=>e=.returned (.tuple #[])/\Chg (λb=>b=bH∨b=bM) w w'/\w'.heap[bM]?=some (.cells (ms.setIfInBounds p (.slice none 0 0)) 24 (0,0))/\w'.heap[bH]?=some (.cells (pre++(QD true ev bW (.slice none 0 0) (.slice none 0 0) (QV p now) xM++post)).toArray 100 (0,0)):=by
 have H0:=Lib.hid hH;have HM:=Lib.hid hM;have C6:=Lib.hid c6;have C7:=Lib.hid c7
 have lW:=World.block_lt_of_cell? _ _ c6
 have lM:=aC hM
 obtain⟨y9,hy9⟩:∃ y,ms[p]?=some y:=⟨_,Array.getElem?_eq_getElem (by omega)⟩
 clear hM c6 c7 hms
 have c0:w.cell? ⟨bH,pre.length,none⟩=some (x0):=by rw [aA hH];exact fG (i:=0) (by exact(by decide:0<16))
 have cf0:w.frozen? ⟨bH,pre.length,none⟩=false:=aB hH _
 clear hH
 go_enter Tryz.func41,Tryz.ntmps41
 go_upto_region 1 with fail
 obtain⟨w1,hw1⟩:∃ w1,w1=w.setCell ⟨bH,pre.length,none⟩ (.bool true):=⟨_,rfl⟩
 rw [<-hw1]
 have h1:w1.heap[bH]?=some (.cells (pre++([.bool true,x1,x2,x3,x4,x5,x6,x7,x8,x9,wC,yE,BA,AR,yI,xM]++post)).toArray 100 (0,0)):=by rw [hw1];exact gU (i:=0) H0.out (by exact(by decide:0<16)) _
 have g1:Chg (λb=>b=bH) w w1:=by rw [hw1];exact(Chg.refl (λb=>b=bH) w).setCell (p:=⟨bH,pre.length,none⟩) (.inl rfl) _
 have H1:=Lib.hid h1;have G1:=Lib.hid g1
 clear c0 cf0 hw1 g1
 have c1:w1.cell? ⟨bH,pre.length+1,none⟩=some (x1):=by rw [aA h1];exact fG (i:=1) (by exact(by decide:1<16))
 have cf1:w1.frozen? ⟨bH,pre.length+1,none⟩=false:=aB h1 _
 clear h1
 go_upto_region 2 with fail
 obtain⟨w2,hw2⟩:∃ w2,w2=w1.setCell ⟨bH,pre.length+1,none⟩ (.int .i64 (ev:Int)):=⟨_,rfl⟩
 rw [<-hw2]
 have h2:w2.heap[bH]?=some (.cells (pre++([.bool true,.int .i64 (ev:Int),x2,x3,x4,x5,x6,x7,x8,x9,wC,yE,BA,AR,yI,xM]++post)).toArray 100 (0,0)):=by rw [hw2];exact gU (i:=1) H1.out (by exact(by decide:1<16)) _
 have g2:Chg (λb=>b=bH) w w2:=by rw [hw2];exact G1.out.setCell (p:=⟨bH,pre.length+1,none⟩) (.inl rfl) _
 have k6:w2.cell? ⟨bW,6,none⟩=some (.int .i64 (now:Int)):=(g2.cell lW hWH).trans C6.out
 have H2:=Lib.hid h2;have G2:=Lib.hid g2
 clear c1 cf1 hw2 g2
 have c2:w2.cell? ⟨bH,pre.length+2,none⟩=some (x2):=by rw [aA h2];exact fG (i:=2) (by exact(by decide:2<16))
 have cf2:w2.frozen? ⟨bH,pre.length+2,none⟩=false:=aB h2 _
 have c3:w2.cell? ⟨bH,pre.length+3,none⟩=some (x3):=by rw [aA h2];exact fG (i:=3) (by exact(by decide:3<16))
 have cf3:w2.frozen? ⟨bH,pre.length+3,none⟩=false:=aB h2 _
 have c4:w2.cell? ⟨bH,pre.length+4,none⟩=some (x4):=by rw [aA h2];exact fG (i:=4) (by exact(by decide:4<16))
 have cf4:w2.frozen? ⟨bH,pre.length+4,none⟩=false:=aB h2 _
 have c5:w2.cell? ⟨bH,pre.length+5,none⟩=some (x5):=by rw [aA h2];exact fG (i:=5) (by exact(by decide:5<16))
 have cf5:w2.frozen? ⟨bH,pre.length+5,none⟩=false:=aB h2 _
 have c6:w2.cell? ⟨bH,pre.length+6,none⟩=some (x6):=by rw [aA h2];exact fG (i:=6) (by exact(by decide:6<16))
 have cf6:w2.frozen? ⟨bH,pre.length+6,none⟩=false:=aB h2 _
 have c7:w2.cell? ⟨bH,pre.length+7,none⟩=some (x7):=by rw [aA h2];exact fG (i:=7) (by exact(by decide:7<16))
 have cf7:w2.frozen? ⟨bH,pre.length+7,none⟩=false:=aB h2 _
 have c8:w2.cell? ⟨bH,pre.length+8,none⟩=some (x8):=by rw [aA h2];exact fG (i:=8) (by exact(by decide:8<16))
 have cf8:w2.frozen? ⟨bH,pre.length+8,none⟩=false:=aB h2 _
 have c9:w2.cell? ⟨bH,pre.length+9,none⟩=some (x9):=by rw [aA h2];exact fG (i:=9) (by exact(by decide:9<16))
 have cf9:w2.frozen? ⟨bH,pre.length+9,none⟩=false:=aB h2 _
 have c10:w2.cell? ⟨bH,pre.length+10,none⟩=some (wC):=by rw [aA h2];exact fG (i:=10) (by exact(by decide:10<16))
 have Qt:w2.frozen? ⟨bH,pre.length+10,none⟩=false:=aB h2 _
 have c11:w2.cell? ⟨bH,pre.length+11,none⟩=some (yE):=by rw [aA h2];exact fG (i:=11) (by exact(by decide:11<16))
 have Sb:w2.frozen? ⟨bH,pre.length+11,none⟩=false:=aB h2 _
 have c12:w2.cell? ⟨bH,pre.length+12,none⟩=some (BA):=by rw [aA h2];exact fG (i:=12) (by exact(by decide:12<16))
 have Rh:w2.frozen? ⟨bH,pre.length+12,none⟩=false:=aB h2 _
 have c13:w2.cell? ⟨bH,pre.length+13,none⟩=some (AR):=by rw [aA h2];exact fG (i:=13) (by exact(by decide:13<16))
 have aAd:w2.frozen? ⟨bH,pre.length+13,none⟩=false:=aB h2 _
 have c14:w2.cell? ⟨bH,pre.length+14,none⟩=some (yI):=by rw [aA h2];exact fG (i:=14) (by exact(by decide:14<16))
 have aAp:w2.frozen? ⟨bH,pre.length+14,none⟩=false:=aB h2 _
 clear h2
 go_upto_region 3 with fail
 obtain⟨w3,hw3⟩:∃ w3,w3=((((((((((((w2.setCell ⟨bH,pre.length+2,none⟩ (.pointer (some ⟨bW,0,none⟩))).setCell ⟨bH,pre.length+3,none⟩ (.int .i64 (p:Int))).setCell ⟨bH,pre.length+4,none⟩ (.int .i64 (now:Int))).setCell ⟨bH,pre.length+5,none⟩ (.slice none 0 0)).setCell ⟨bH,pre.length+6,none⟩ (.slice none 0 0)).setCell ⟨bH,pre.length+7,none⟩ (.int .i64 0)).setCell ⟨bH,pre.length+8,none⟩ (.bool false)).setCell ⟨bH,pre.length+9,none⟩ (.bool false)).setCell ⟨bH,pre.length+10,none⟩ (.slice none 0 0)).setCell ⟨bH,pre.length+11,none⟩ (.int .i64 0)).setCell ⟨bH,pre.length+12,none⟩ (.int .u64 0)).setCell ⟨bH,pre.length+13,none⟩ (.slice none 0 0)).setCell ⟨bH,pre.length+14,none⟩ (.slice none 0 0):=⟨_,rfl⟩
 rw [<-hw3]
 have h3:w3.heap[bH]?=some (.cells (pre++([.bool true,.int .i64 (ev:Int),.pointer (some ⟨bW,0,none⟩),.int .i64 (p:Int),.int .i64 (now:Int),.slice none 0 0,.slice none 0 0,.int .i64 0,.bool false,.bool false,.slice none 0 0,.int .i64 0,.int .u64 0,.slice none 0 0,.slice none 0 0,xM]++post)).toArray 100 (0,0)):=by rw [hw3];exact(gU (i:=14) (gU (i:=13) (gU (i:=12) (gU (i:=11) (gU (i:=10) (gU (i:=9) (gU (i:=8) (gU (i:=7) (gU (i:=6) (gU (i:=5) (gU (i:=4) (gU (i:=3) (gU (i:=2) H2.out (by exact(by decide:2<16)) (.pointer (some ⟨bW,0,none⟩))) (by exact(by decide:3<16)) (.int .i64 (p:Int))) (by exact(by decide:4<16)) (.int .i64 (now:Int))) (by exact(by decide:5<16)) (.slice none 0 0)) (by exact(by decide:6<16)) (.slice none 0 0)) (by exact(by decide:7<16)) (.int .i64 0)) (by exact(by decide:8<16)) (.bool false)) (by exact(by decide:9<16)) (.bool false)) (by exact(by decide:10<16)) (.slice none 0 0)) (by exact(by decide:11<16)) (.int .i64 0)) (by exact(by decide:12<16)) (.int .u64 0)) (by exact(by decide:13<16)) (.slice none 0 0)) (by exact(by decide:14<16)) (.slice none 0 0))
 have g3:Chg (λb=>b=bH) w w3:=by rw [hw3];exact(((((((((((((G2.out.setCell (p:=⟨bH,pre.length+2,none⟩) (by exact .inl rfl) _).setCell (p:=⟨bH,pre.length+3,none⟩) (by exact .inl rfl) _).setCell (p:=⟨bH,pre.length+4,none⟩) (by exact .inl rfl) _).setCell (p:=⟨bH,pre.length+5,none⟩) (by exact .inl rfl) _).setCell (p:=⟨bH,pre.length+6,none⟩) (by exact .inl rfl) _).setCell (p:=⟨bH,pre.length+7,none⟩) (by exact .inl rfl) _).setCell (p:=⟨bH,pre.length+8,none⟩) (by exact .inl rfl) _).setCell (p:=⟨bH,pre.length+9,none⟩) (by exact .inl rfl) _).setCell (p:=⟨bH,pre.length+10,none⟩) (by exact .inl rfl) _).setCell (p:=⟨bH,pre.length+11,none⟩) (by exact .inl rfl) _).setCell (p:=⟨bH,pre.length+12,none⟩) (by exact .inl rfl) _).setCell (p:=⟨bH,pre.length+13,none⟩) (by exact .inl rfl) _).setCell (p:=⟨bH,pre.length+14,none⟩) (by exact .inl rfl) _)
 have k7:w3.cell? ⟨bW,7,none⟩=some (.slice (some ⟨bM,0,none⟩) n mc):=(g3.cell (by simpa using lW) hWH).trans C7.out
 have hM3:w3.heap[bM]?=some (.cells ms 24 (0,0)):=(g3.block _ lM hMH).trans HM.out
 have m1:w3.cell? ⟨bM,p,none⟩=some y9:=by rw [aA hM3];exact hy9
 have mf:w3.frozen? ⟨bM,p,none⟩=false:=aB hM3 _
 have l1:(p:Int)<(n:Int):=by omega
 have lw:IntKind.i64.wrap (p:Int)=(p:Int):=by rw [IntKind.wrap_i64];omega
 have fin:Chg (λb=>b=bH∨b=bM) w (w3.setCell ⟨bM,p,none⟩ (.slice none 0 0))/\(w3.setCell ⟨bM,p,none⟩ (.slice none 0 0)).heap[bM]?=some (.cells (ms.setIfInBounds p (.slice none 0 0)) 24 (0,0))/\(w3.setCell ⟨bM,p,none⟩ (.slice none 0 0)).heap[bH]?=some (.cells (pre++(QD true ev bW (.slice none 0 0) (.slice none 0 0) (QV p now) xM++post)).toArray 100 (0,0)):=
  ⟨(g3.mono (λ_ _ e=>.inl e)).setCell (p:=⟨bM,p,none⟩) (.inl (.inr rfl)) _,aG hM3 _ _,by rw [aH hMH.symm];exact h3⟩
 have Fin:=Lib.hid fin
 clear h3 g3 hM3 fin hw3 k6 hy9 c2 cf2 c3 cf3 c4 cf4 c5 cf5 c6 cf6 c7 cf7 c8 cf8 c9 cf9 c10 Qt c11 Sb c12 Rh c13 aAd c14 aAp
 go_wp2
 (go_end0)
 exact⟨rfl,Fin.out.1,Fin.out.2.1,Fin.out.2.2⟩
end
section
open Go.RowKit
variable {w0 w w':World} {J:RJ} {s s':dS} {hl hl':List Value} {vs vs':List HV} {G K L:Value} {ea ea':Option Addr} {ec ec':Nat} {ers ers':List (Value×Value)} {Mut Mut':Nat->Prop} {P:Nat->Prop} {p:Nat} {t:aJ} {r:RWD}
def nilV:Value:=.slice none 0 0
theorem NG {EV:Value} {b:Nat} (hp:p<vs.length) (hb:iB J (vs.set p (nilV,nilV,(vs.getD p hv0).2.2)) L EV b):iB J vs L EV b:=by
 rcases hb with e|e|e|e|e|e|e|e|e|⟨q,hq,e⟩
 ·exact .inl e
 ·exact .inr (.inl e)
 ·exact .inr (.inr (.inl e))
 ·exact .inr (.inr (.inr (.inl e)))
 ·exact .inr (.inr (.inr (.inr (.inl e))))
 ·exact .inr (.inr (.inr (.inr (.inr (.inl e)))))
 ·exact .inr (.inr (.inr (.inr (.inr (.inr (.inl e))))))
 ·exact .inr (.inr (.inr (.inr (.inr (.inr (.inr (.inl e)))))))
 ·exact .inr (.inr (.inr (.inr (.inr (.inr (.inr (.inr (.inl e))))))))
 ·refine .inr (.inr (.inr (.inr (.inr (.inr (.inr (.inr (.inr ⟨q,hq,?_⟩))))))))
  by_cases hqp:q=p
  ·subst hqp
   rw [aI hp] at e
   rcases e with e|e|e
   ·exact .inl e
   ·cases e
   ·cases e
  ·rw [aK (Ne.symm hqp)] at e;exact e
theorem fM.turnH (h:fM w0 w J s hl vs L ea ec ers) (hp:p<J.nt) (h':dW) (mk':List (List Int)) (hc:Chg (λb=>b=J.bH∨b=J.bM) w w') (hb':w'.heap[J.bH]?=some (.cells hl'.toArray 100 (0,0))) (hlen':hl'.length=16*J.nt)
  (hoth:∀ q j,q≠p->j<16->hl'[16*q+j]?=hl[16*q+j]?) (c0':hl'[16*p]?=some (.bool h'.opn)) (c1':h'.opn=true->hl'[16*p+1]?=some (.int .i64 (h'.ev:Int))) (c15':hl'[16*p+15]?=hl[16*p+15]?) (hown:h'.own=(s.hands.getD p aY).own)
  (hH:vW w' (iB J (vs.set p (nilV,nilV,(vs.getD p hv0).2.2)) L (.slice ea s.evs.length ec)) J.bW hl' p h' (nilV,nilV,(vs.getD p hv0).2.2)) (hmk:iU w' (iB J (vs.set p (nilV,nilV,(vs.getD p hv0).2.2)) L (.slice ea s.evs.length ec)) J.bM J.nt mk') :
  fM w0 w' J { s with rw:={ s.rw with marks:=mk' },hands:=s.hands.set p h' } hl' (vs.set p (nilV,nilV,(vs.getD p hv0).2.2)) L ea ec ers:=by
 have hpl:p<s.hands.length:=by rw [h.rest.lens.2.2.1];exact hp
 have hpv:p<vs.length:=by rw [h.rest.lens.2.1];exact hp
 have ty:=h.ty
 obtain⟨_,hHb⟩:=ty.H
 obtain⟨_,hMb⟩:=ty.M
 have hS:∀ x,(x=J.bH∨x=J.bM)->iB J vs L (.slice ea s.evs.length ec) x:=λx e=>by
  rcases e with e|e
  ·exact .inr (.inr (.inr (.inr (.inl e))))
  ·exact .inr (.inl e)
 have hM:aN (iB J vs L (.slice ea s.evs.length ec)) w (iB J (vs.set p (nilV,nilV,(vs.getD p hv0).2.2)) L (.slice ea s.evs.length ec)):=λx e=>.inl (NG hpv e)
 have hn:∀ {b':Nat} {c:Array Value} {T:TypeId} {fz:Nat×Nat},w.heap[b']?=some (.cells c T fz)->T≠100->T≠24->¬ (b'=J.bH∨b'=J.bM):=λh9 hT hT2 e=>by
  rcases e with e|e
  ·rw [e] at h9;exact dB h9 hHb hT rfl
  ·rw [e] at h9;exact dB h9 hMb hT2 rfl
 have hh:∀ q,q≠p->(s.hands.set p h').getD q aY=s.hands.getD q aY:=λq hq=>aK (Ne.symm hq)
 have hpp:(s.hands.set p h').getD p aY=h':=aI hpl
 have hvq:∀ q,q≠p->(vs.set p (nilV,nilV,(vs.getD p hv0).2.2)).getD q hv0=vs.getD q hv0:=λq hq=>aK (Ne.symm hq)
 have hvp:(vs.set p (nilV,nilV,(vs.getD p hv0).2.2)).getD p hv0=(nilV,nilV,(vs.getD p hv0).2.2):=aI hpv
 have hvo:∀ q,((vs.set p (nilV,nilV,(vs.getD p hv0).2.2)).getD q hv0).2.2=(vs.getD q hv0).2.2:=λq=>by
  by_cases e:q=p
  ·subst e;rw [hvp]
  ·rw [hvq q e]
 have hnil:∀ b,nilV.ownBlock≠some b:=λb e=>by cases e
 have hct:=hc
 obtain⟨n,xs,hnn,ZM⟩:=h.log
 obtain⟨_,hW⟩:=ty.W
 obtain⟨_,hTb⟩:=ty.T
 have hMH:J.bM≠J.bH:=dB hMb hHb (by decide)
 refine⟨⟨h.rest.below.trans (hc.below (λb e=>by
   rcases e with e|e
   ·rw [e];exact h.rest.ge.2.2.1
   ·rw [e];exact h.rest.ge.2.2.2.2.1) h.rest.below.size),(hc.block _ (aC h.rest.fin) (hn h.rest.fin (by decide) (by decide))).trans h.rest.fin,h.rest.flen,⟨hlen',by simpa using h.rest.lens.2.1,by simpa using h.rest.lens.2.2.1,h.rest.lens.2.2.2⟩,λq hq=>?_,λq hq e=>?_,λq hq=>?_,λq hq=>?_,λq hq _=>?_,
   (hc.block _ (aC h.rest.out) (hn h.rest.out (by decide) (by decide))).trans h.rest.out,bB h.rest.evs hc (λb e=>by obtain⟨_,_,h9⟩:=ty.E b e;exact hn h9 (by decide) (by decide)),h.rest.lies hc (λx _ e=>hS x e) hM,λa b ha hb _ _ hab c e1 e2=>?_,λa b ha hb _ _ hab c e1 e2=>?_,λa b ha hb hab=>?_,
   ⟨h.rest.ge.1,h.rest.ge.2.1,h.rest.ge.2.2.1,h.rest.ge.2.2.2.1,h.rest.ge.2.2.2.2.1,h.rest.ge.2.2.2.2.2.1,h.rest.ge.2.2.2.2.2.2.1,λq hq=>?_⟩,λb hb=>?_,λb hb q hq _ e=>?_,h.rest.res⟩,
  hb',h.mem.chg hc (hn hW (by decide) (by decide)) (λq e9=>by obtain⟨_,_,h9⟩:=ty.U q e9;exact hn h9 (by decide) (by decide)),⟨n,xs,hnn,bB ZM hc (λb e9=>by obtain⟨_,_,h9⟩:=ty.L b e9;exact hn h9 (by decide) (by decide))⟩,h.logge,hmk,h.traces.keep hc hS hM (λe=>by
   rcases e with e|e
   ·rw [e] at hTb;exact dB hTb hHb (by decide) rfl
   ·exact h.mt e.symm),h.mt⟩
 ·show hl'[16*q]?=some (.bool ((s.hands.set p h').getD q aY).opn)
  by_cases e:q=p
  ·subst e;rw [hpp];exact c0'
  ·rw [hh q e]
   have:=hoth q 0 e (by omega)
   rw [Nat.add_zero] at this
   rw [this];exact h.rest.c0 q hq
 ·have e':((s.hands.set p h').getD q aY).opn=true:=e
  show hl'[16*q+1]?=some (.int .i64 ((((s.hands.set p h').getD q aY).ev:Nat):Int))
  by_cases e:q=p
  ·subst e;rw [hpp] at e' ⊢;exact c1' e'
  ·rw [hh q e] at e' ⊢;rw [hoth q 1 e (by omega)];exact h.rest.c1 q hq e'
 ·rw [hvo]
  by_cases e:q=p
  ·subst e;rw [c15'];exact h.rest.c15 q hq
  ·rw [hoth q 15 e (by omega)];exact h.rest.c15 q hq
 ·obtain⟨OV,h1,h2⟩:=h.rest.own q hq
  refine⟨OV,by rw [hvo];exact(hc.block _ (aC h1) (hn h1 (by decide) (by decide))).trans h1,?_⟩
  show fK w' _ OV ((s.hands.set p h').getD q aY).own
  have e9:((s.hands.set p h').getD q aY).own=(s.hands.getD q aY).own:=by
   by_cases e:q=p
   ·subst e;rw [hpp];exact hown
   ·rw [hh q e]
  rw [e9]
  exact h2.keep hc hS hM
 ·show vW w' _ J.bW hl' q ((s.hands.set p h').getD q aY) _
  by_cases e:q=p
  ·subst e;rw [hpp,hvp];exact hH
  ·rw [hh q e,hvq q e]
   have H:=(h.rest.hand q hq trivial).keep hc hS hM (λb e=>by obtain⟨_,_,h9⟩:=(h.rest.hand q hq trivial).ty.1 b e;exact hn h9 (by decide) (by decide)) (λb e=>by obtain⟨_,_,h9⟩:=(h.rest.hand q hq trivial).ty.2 b e;exact hn h9 (by decide) (by decide))
   refine⟨λe1=>?_,H.cl⟩
   obtain⟨⟨a,f,ha,PV',er,vl,LV',KV',pl,ll,kl,h1,h6,h5,h7,h8⟩,h2,h3,h4⟩:=H.opn e1
   exact⟨⟨a,f,ha,PV',er,vl,LV',KV',pl,ll,kl,λj hj=>by rw [show 16*q+2+j=16*q+(2+j) by omega,hoth q (2+j) e (by omega),<-h1 j hj,Nat.add_assoc],h6,h5,h7,h8⟩,h2,h3,h4⟩
 ·by_cases WP:a=p
  ·subst WP;rw [hvp] at e1;exact hnil _ e1
  ·rw [hvq a WP] at e1
   by_cases Bt:b=p
   ·subst Bt;rw [hvp] at e2;exact hnil _ e2
   ·rw [hvq b Bt] at e2;exact h.rest.gg a b ha hb trivial trivial hab c e1 e2
 ·by_cases WP:a=p
  ·subst WP;rw [hvp] at e1;exact hnil _ e1
  ·rw [hvq a WP] at e1
   by_cases Bt:b=p
   ·subst Bt;rw [hvp] at e2;exact hnil _ e2
   ·rw [hvq b Bt] at e2;exact h.rest.kk a b ha hb trivial trivial hab c e1 e2
 ·rw [hvo,hvo];exact h.rest.oo a b ha hb hab
 ·refine⟨by rw [hvo];exact(h.rest.ge.2.2.2.2.2.2.2 q hq).1,λ_=>?_⟩
  by_cases e:q=p
  ·subst e;rw [hvp];exact⟨λb e=>absurd e (hnil b),λb e=>absurd e (hnil b)⟩
  ·rw [hvq q e];exact(h.rest.ge.2.2.2.2.2.2.2 q hq).2 trivial
 ·obtain⟨cs,fz,h9⟩:=ty.U b hb
  exact⟨cs,fz,(hc.block _ (aC h9) (hn h9 (by decide) (by decide))).trans h9⟩
 ·by_cases e9:q=p
  ·subst e9;rw [hvp] at e;exact hnil _ e
  ·rw [hvq q e9] at e;exact h.rest.wg b hb q hq trivial e
theorem fM.shut (h:fM w0 w J s hl vs L ea ec ers) (hp:p<J.nt):fM w0 (w.setCell ⟨J.bH,16*p,none⟩ (.bool false)) J { s with hands:=s.hands.set p { s.hands.getD p aY with opn:=false } } (hl.set (16*p) (.bool false)) (vs.set p (nilV,nilV,(vs.getD p hv0).2.2)) L ea ec ers:=by
 have hlen:=h.rest.lens.1
 have hc:Chg (λb=>b=J.bH∨b=J.bM) w (w.setCell ⟨J.bH,16*p,none⟩ (.bool false)):=(Chg.refl (λb=>b=J.bH∨b=J.bM) w).setCell (p:=⟨J.bH,16*p,none⟩) (.inl (.inl rfl)) _
 have hpv:p<vs.length:=by rw [h.rest.lens.2.1];exact hp
 obtain⟨_,hMb⟩:=h.ty.M
 obtain⟨_,hHb⟩:=h.ty.H
 refine h.turnH hp { s.hands.getD p aY with opn:=false } s.rw.marks hc (by rw [aG h.hb];simp) (by simpa using hlen) (λq j hq hj=>by rw [List.getElem?_set_ne (by omega)]) (by rw [List.getElem?_set_self (by omega)]) (λe=>by cases e) (by rw [List.getElem?_set_ne (by omega)]) rfl ⟨λe=>by(cases e),λ_=>⟨rfl,rfl⟩⟩ ?_
 have hc1:Chg (λb=>b=J.bH) w (w.setCell ⟨J.bH,16*p,none⟩ (.bool false)):=(Chg.refl (λb=>b=J.bH) w).setCell (p:=⟨J.bH,16*p,none⟩) (.inl rfl) _
 exact h.marks.keep hc1 (λx e=>.inr (.inr (.inr (.inr (.inl e))))) (λx e=>.inl (NG hpv e)) (dB hMb hHb (by decide))
set_option maxHeartbeats 1000000 in
theorem Nw (h:fM w0 w J s hl vs L ea ec ers) (hp:p<J.nt) (hn:J.nt<=16) (ev:Nat) :
  Calls Tryz.prog 41 #[.pointer (some ⟨J.bH,16*p,none⟩),.pointer (some ⟨J.bW,0,none⟩),.int .i64 (p:Int),.int .i64 (ev:Int)] w λe w'=>e=.returned (.tuple #[])/\Chg (λb=>b=J.bH∨b=J.bM) w w'/\∃ hl' vs',fM w0 w' J { s with rw:=s.rw.begin p,hands:=s.hands.set p ⟨true,ev,s.rw.now,[],[],(s.hands.getD p aY).own⟩ } hl' vs' L ea ec ers:=by
 have hlen:=h.rest.lens.1
 have hpv:p<vs.length:=by rw [h.rest.lens.2.1];exact hp
 have ty:=h.ty
 obtain⟨ms,hM,hml,hms⟩:=h.marks.blk
 obtain⟨wa,cap,_,hW,_⟩:=h.mem.blk
 obtain⟨X,hX⟩:∃ X,X=(hl.drop (16*p)).take 16:=⟨_,rfl⟩
 have hXl:X.length=16:=by rw [hX];simp;omega
 have hXg:∀ j,j<X.length->hl[16*p+j]?=X[j]?:=λj hj=>by rw [hX,List.getElem?_take_of_lt (by omega),List.getElem?_drop]
 have hput:=Ak (hl:=hl) (a:=16*p) (X:=X) (by omega) hXg
 obtain⟨x0,x1,x2,x3,x4,x5,x6,x7,x8,x9,wC,yE,BA,AR,yI,xM,rfl⟩:∃ x0 x1 x2 x3 x4 x5 x6 x7 x8 x9 wC yE BA AR yI xM,X=[x0,x1,x2,x3,x4,x5,x6,x7,x8,x9,wC,yE,BA,AR,yI,xM]:=by
  match X,hXl with
  | [x0,x1,x2,x3,x4,x5,x6,x7,x8,x9,wC,yE,BA,AR,yI,xM],_=>exact⟨_,_,_,_,_,_,_,_,_,_,_,_,_,_,_,_,rfl⟩
 have hpre:(hl.take (16*p)).length=16*p:=by simp;omega
 have hb:=h.hb
 rw [hput] at hb
 have aAo:hl[16*p+15]?=some xM:=by have:=hXg 15 (by rw [hXl];omega);rw [this];rfl
 obtain⟨_,hHb⟩:=ty.H
 have C:=Cf w J.bH J.bW J.bM J.nt p ev s.rw.now J.nt (hl.take (16*p)) (hl.drop (16*p+16)) x0 x1 x2 x3 x4 x5 x6 x7 x8 x9 wC yE BA AR yI xM hb (dB hW hHb (by decide)) (dB hM hHb (by decide)) ms.toArray hM (by simpa using hml) hp hn (by rw [aA hW];rfl) (by rw [aA hW];rfl)
 rw [hpre] at C
 refine C.mono ?_
 rintro e w' ⟨rfl,hc,hM',hH'⟩
 refine⟨rfl,hc,_,_,h.turnH (hl':=hl.take (16*p)++(QD true ev J.bW (.slice none 0 0) (.slice none 0 0) (QV p s.rw.now) xM++hl.drop (16*p+16))) hp ⟨true,ev,s.rw.now,[],[],(s.hands.getD p aY).own⟩ (s.rw.marks.set p []) hc hH' ?_ (λq j hq hj=>?_) ?_ (λ_=>?_) ?_ rfl ⟨λ_=>⟨⟨0,false,false,.slice none 0 0,0,0,.slice none 0 0,.slice none 0 0,[],[],[],λj hj=>?_,Nat.le_refl _,fK.nil _ _,KR.nil _ _,Lst.nil _ _⟩,⟨rfl,.inl ⟨rfl,rfl⟩⟩,⟨rfl,.inl ⟨rfl,rfl⟩⟩,rfl⟩,λe=>by cases e⟩ ?_⟩
 ·simp [QD,iH];omega
 ·have:=Ab (hl:=hl) (a:=16*p) (X:=QD true ev J.bW (.slice none 0 0) (.slice none 0 0) (QV p s.rw.now) xM) (by show 16*p+16<=_;omega) (16*q+j)
  rw [show(QD true ev J.bW (.slice none 0 0) (.slice none 0 0) (QV p s.rw.now) xM).length=16 from rfl] at this
  rw [this,if_neg (by omega)]
 ·rw [List.getElem?_append_right (by omega),hpre,Nat.sub_self];rfl
 ·rw [List.getElem?_append_right (by omega),hpre,Nat.add_sub_cancel_left];rfl
 ·rw [aAo,List.getElem?_append_right (by omega),hpre,Nat.add_sub_cancel_left];rfl
 ·rw [List.getElem?_append_right (by omega),hpre,show 16*p+2+j - 16*p=j+1+1 by omega]
  show(iH J.bW (.slice none 0 0) (.slice none 0 0) (QV p s.rw.now)++[xM]++hl.drop (16*p+16))[j]?=_
  rw [List.append_assoc,List.getElem?_append_left (by exact hj)]
  rfl
 ·refine⟨by simpa using h.marks.len,ms.set p (.slice none 0 0),by simpa using hM',by simpa using hml,λi hi=>?_⟩
  by_cases e:p=i
  ·subst e
   rw [aI (by omega),aI (by rw [h.marks.len];exact hi)]
   exact Lst.nil _ _
  ·rw [aK e,aK e]
   exact(hms i hi).keep hc (λx e=>by
    rcases e with e|e
    ·exact .inr (.inr (.inr (.inr (.inl e))))
    ·exact .inr (.inl e)) (λx e=>.inl (NG hpv e))
end
end Go.Proofs.YtfkokppncipgnaaGreat
