/- Layer 6: every play keeps it, whatever its object is. -/
import Derived.Test.YtifhldnmcdbpfaaU12
import Derived.Test.YtifhldnmcdbpfaaU10
set_option maxRecDepth 100000
set_option linter.unusedVariables false
set_option linter.unusedSimpArgs false
set_option linter.unnecessarySimpa false
namespace Go.Proofs.Ytifhldnmcdbpfaa
section
open Go.RowKit
variable {S:Sys}
def dU {σ:Type} (hands:List (Option σ×Nat)) (p:Nat):Option Nat:=if (hands.getD p (none,0)).1.isSome then some (hands.getD p (none,0)).2 else none
theorem nO {σ:Type} {hands:List (Option σ×Nat)} {p:Nat} (hp:p<hands.length) (m:Option σ) (k:Nat):dU (hands.set p (m,k))=λq=>if q=p then (if m.isSome then some k else none) else dU hands q:=by
 funext q
 unfold dU
 by_cases h:q=p
 ·subst h;rw [aK hp];simp
 ·rw [aO (Ne.symm h)];simp [h]
theorem oV (l:List EvD) (k:Nat) (f:EvD->EvD):(bZ l k f).length=l.length:=by simp [bZ]
structure bH (calls:List aF) (st:aP S):Prop where
 ev:iU calls st.wd.now st.fin (dU st.hands) st.evs
 h16:st.hands.length=16
theorem rJ {calls:List aF} (hnow:∀ o wd p s,(S.step o wd p s).2.1.now=wd.now) {st:aP S} {p k:Nat} {s:S.σ} (h16:st.hands.length=16) (hp:p<16) (hk:k<st.evs.length)
  (he:iU calls st.wd.now st.fin (λq=>if q=p then some k else dU st.hands q) (bZ st.evs k aV)) :
  if (eU S st p k s).2 then bH calls { (eU S st p k s).1 with fin:=(eU S st p k s).1.fin.set (aB st.evs k).call true } else bH calls (eU S st p k s).1:=by
 have hev:aB (bZ st.evs k aV) k=aV (aB st.evs k):=by unfold bZ;rw [jA _ hk,if_pos rfl];rfl
 unfold eU
 simp only
 cases hd:(S.step st.obj st.wd p s).2.2.2 with
 | true=>
  simp only [if_true]
  have:=he.done (p:=p) (k:=k) (if_pos rfl) (e:=bL (S.step st.obj st.wd p s).2.1 p (S.answer (S.step st.obj st.wd p s).2.2.1).1 (S.answer (S.step st.obj st.wd p s).2.2.1).2 (aB st.evs k))
   ⟨by rw [hev];rfl,by rw [hev];rfl,by rw [hev];rfl,by show(S.step st.obj st.wd p s).2.1.now=_;rw [hnow]⟩
  rw [hev] at this
  refine⟨?_,by simpa using h16⟩
  simp only
  rw [hnow,nO (by rw [h16];exact hp)]
  have e1:bZ st.evs k (bL (S.step st.obj st.wd p s).2.1 p (S.answer (S.step st.obj st.wd p s).2.2.1).1 (S.answer (S.step st.obj st.wd p s).2.2.1).2)=(bZ st.evs k aV).set k (bL (S.step st.obj st.wd p s).2.1 p (S.answer (S.step st.obj st.wd p s).2.2.1).1 (S.answer (S.step st.obj st.wd p s).2.2.1).2 (aB st.evs k)):=by
   unfold bZ;rw [List.set_set];rfl
  rw [e1]
  have e2:(λq=>if q=p then (if (none:Option S.σ).isSome=true then some k else none) else dU st.hands q)=(λq=>if q=p then none else (λq=>if q=p then some k else dU st.hands q) q):=by
   funext q
   by_cases hq:q=p<;>simp [hq]
  rw [e2]
  exact this
 | false=>
  simp only [Bool.false_eq_true,if_false]
  refine⟨?_,by simpa using h16⟩
  simp only
  rw [hnow,nO (by rw [h16];exact hp)]
  exact he
theorem wM {calls:List aF} (hnow:∀ o wd p s,(S.step o wd p s).2.1.now=wd.now) (hthr:∀ c,c<calls.length->0<=(calls.getD c d0).thread/\(calls.getD c d0).thread<16) {st:aP S} (h:bH calls st) (p:Int):bH calls (iL S calls st p):=by
 unfold iL
 cases hN:gU calls st.fin p with
 | none=>exact⟨h.ev,h.h16⟩
 | some i=>
  obtain⟨n1,n2,n3⟩:=fQ hN
  obtain⟨t1,t2⟩:=hthr i n1
  obtain⟨q,rfl⟩:∃ q:Nat,p=(q:Int):=⟨p.toNat,by omega⟩
  have hq:q<16:=by omega
  simp only [Int.toNat_natCast]
  unfold dJ
  cases hs:(st.hands.getD q (none,0)).1 with
  | some s=>
   simp only
   obtain⟨k,hk⟩:∃ k,k=(st.hands.getD q (none,0)).2:=⟨_,rfl⟩
   rw [<-hk]
   have hh:dU st.hands q=some k:=by unfold dU;rw [hs,hk];rfl
   obtain⟨k1,k2,k3,k4⟩:=h.ev.hand q k hh
   have hi:i=(aB st.evs k).call:=by rw [hN] at k4;cases k4;rfl
   have he:=h.ev.step hh
   have hfun:dU st.hands=λx=>if x=q then some k else dU st.hands x:=by
    funext x;by_cases hx:x=q
    ·rw [if_pos hx,hx,hh]
    ·rw [if_neg hx]
   rw [hfun] at he
   have:=rJ hnow (st:={ st with wd:=st.wd.tick }) (s:=s) h.h16 hq k1 he
   rw [<-hi] at this
   exact(by split<;>rename_i hb<;>simp only [hb,if_true,Bool.false_eq_true,if_false] at this<;>exact this)
  | none=>
   simp only
   have hh:dU st.hands q=none:=by unfold dU;rw [hs];rfl
   have hpos:∀ c,c<calls.length->0<=(calls.getD c d0).thread:=λc hc=>(hthr c hc).1
   have UB:q<st.hands.length:=by rw [h.h16];exact hq
   cases hst:dB S st.obj (st.wd.tick.begin q) q (calls.getD i d0) with
   | refuse e=>
    simp only [if_true]
    have hb:=h.ev.begun hpos hh hN (e:=aV (eB i (st.wd.tick.begin q))) ⟨rfl,rfl,rfl,rfl⟩
    have hf:=hb.done (p:=q) (k:=st.evs.length) (if_pos rfl) (e:=bL (st.wd.tick.begin q) q ⟨e,0,[]⟩ [] (eB i (st.wd.tick.begin q)))
    have hev:aB (st.evs++[aV (eB i (st.wd.tick.begin q))]) st.evs.length=aV (eB i (st.wd.tick.begin q)):=by unfold aB;rw [dS]
    rw [hev] at hf
    have hf:=hf ⟨rfl,rfl,rfl,rfl⟩
    rw [List.set_append_right _ _ (Nat.le_refl _),Nat.sub_self] at hf
    refine⟨?_,by simpa using h.h16⟩
    simp only
    rw [nO UB]
    have e2:(λx=>if x=q then (if (none:Option S.σ).isSome=true then some st.evs.length else none) else dU st.hands x)=(λx=>if x=q then none else (λx=>if x=q then some st.evs.length else dU st.hands x) x):=by
     funext x
     by_cases hx:x=q<;>simp [hx]
    rw [e2]
    exact hf
   | run s=>
    simp only
    have hb:=h.ev.begun hpos hh hN (e:=aV (eB i (st.wd.tick.begin q))) ⟨rfl,rfl,rfl,rfl⟩
    rw [<-uI] at hb
    have hfun:(λx=>if x=q then some st.evs.length else dU st.hands x)=λx=>if x=q then some st.evs.length else dU (st.hands.set q (some s,st.evs.length)) x:=by
     funext x
     rw [nO UB]
     by_cases hx:x=q<;>simp [hx]
    rw [hfun] at hb
    have:=rJ hnow (st:={ st with wd:=st.wd.tick.begin q,hands:=st.hands.set q (some s,st.evs.length),evs:=st.evs++[eB i (st.wd.tick.begin q)] }) (s:=s) (by simpa using h.h16) hq (by simp) hb
    have hev:(aB (st.evs++[eB i (st.wd.tick.begin q)]) st.evs.length).call=i:=by unfold aB;rw [dS];rfl
    simp only at this
    rw [hev] at this
    exact(by split<;>rename_i hb<;>simp only [hb,if_true,Bool.false_eq_true,if_false] at this<;>exact this)
theorem BV (calls:List aF) (o:S.ω) (ws:List Nat):bH calls (bM S o ws calls):=by
 have hh:∀ p,dU (List.replicate 16 ((none:Option S.σ),0)) p=none:=by
  intro p
  unfold dU
  have:(List.replicate 16 ((none:Option S.σ),0)).getD p (none,0)=(none,0):=by
   simp only [List.getD_eq_getElem?_getD,List.getElem?_replicate];split<;>rfl
  rw [this];rfl
 refine⟨⟨by simp [bM],λi hi=>by simp [bM] at hi,λi hi=>by simp [bM] at hi,λi hi=>by simp [bM] at hi,λi hi=>by simp [bM] at hi,λi j _ hj=>by simp [bM] at hj,λi j _ hj=>by simp [bM] at hj,λp k hk=>?_,λc c' h1 h2 _ h3=>?_,rfl⟩,by simp [bM]⟩
 ·rw [show dU (bM S o ws calls).hands p=none from hh p] at hk;cases hk
 ·exfalso
  have:(List.replicate calls.length false).getD c false=false:=by
   simp only [List.getD_eq_getElem?_getD,List.getElem?_replicate];split<;>rfl
  rw [show(bM S o ws calls).fin=List.replicate calls.length false from rfl,this] at h3;cases h3
theorem CV {calls:List aF} (hnow:∀ o wd p s,(S.step o wd p s).2.1.now=wd.now) (st:aP S) (p:Int):(iL S calls st p).wd.now+(iL S calls st p).idle=st.wd.now+st.idle+1:=by
 unfold iL
 cases gU calls st.fin p with
 | none=>simp only;omega
 | some i=>
  simp only
  have:(dJ S calls st p.toNat i).1.wd.now=st.wd.now+1/\(dJ S calls st p.toNat i).1.idle=st.idle:=by
   refine⟨?_,(vO calls st _ _).2⟩
   unfold dJ
   split
   ·unfold eU;simp only;split<;>(simp only)<;>rw [hnow]<;>rfl
   ·simp only
    cases dB S st.obj (st.wd.tick.begin p.toNat) p.toNat (calls.getD i d0) with
    | refuse e=>rfl
    | run s=>unfold eU;simp only;split<;>(simp only)<;>rw [hnow]<;>rfl
  split<;>(try simp only)<;>omega
end
section
open Go.RowKit
variable {S:Sys} {R:Real S}
def sG (O X:Nat->Prop) (w w':World) (er:Int) (r:gT) (e:Ending):Prop:=
 Chg O w w'/\((er≠0/\e=.returned (.tuple #[jL (.slice none 0 0) (.slice none 0 0) ⟨[],[],c0,0,0⟩,.int .i64 er]))∨
  (er=0/\∃ ea ec va vc ers,e=.returned (.tuple #[jL (.slice ea r.evs.length ec) (.slice va r.words.length vc) r,.int .i64 0])/\fB X w.heap.size w' (.slice ea r.evs.length ec) (.slice va r.words.length vc) ers r))
def IL (X:Nat->Prop) (w w':World) (er:Int) (r:gT) (e:Ending):Prop:=
 Below w.heap.size w w'/\((er≠0/\e=.returned (.tuple #[jL (.slice none 0 0) (.slice none 0 0) ⟨[],[],c0,0,0⟩,.int .i64 er]))∨
  (er=0/\∃ ea ec va vc ers,e=.returned (.tuple #[jL (.slice ea r.evs.length ec) (.slice va r.words.length vc) r,.int .i64 0])/\fB X w.heap.size w' (.slice ea r.evs.length ec) (.slice va r.words.length vc) ers r))
theorem fB.low {Old Old':Nat->Prop} {B B':Nat} {w:World} {ev wv:Value} {ers:List (Value×Value)} {r:gT} (h:fB Old B w ev wv ers r) (hB:B'<=B) (ho:∀ b,Old' b->Old b):fB Old' B' w ev wv ers r:=
 ⟨xJ h.row hB,h.elen,λi hi=>⟨(h.ans i hi).1.less ho,(h.ans i hi).2.less ho⟩,xJ h.words hB⟩
theorem jE {n:Int} {calls:List aF} {np:Nat} (h:checkN n calls np=0):fV n calls=0/\np<=65536:=by
 unfold checkN at h
 split at h
 ·cases h
 ·split at h
  ·cases h
  ·exact⟨h,by omega⟩
theorem zW (calls:List aF) (st:aP S) (l:List Int) (p:Int):dX S calls st (l++[p])=iL S calls (dX S calls st l) p:=by
 unfold dX;rw [List.foldl_append];rfl
theorem kG {calls:List aF} (hnow:∀ o wd p s,(S.step o wd p s).2.1.now=wd.now) (st:aP S):∀(l:List Int),(dX S calls st l).wd.now+(dX S calls st l).idle=st.wd.now+st.idle+l.length:=by
 intro l
 induction l generalizing st with
 | nil=>rfl
 | cons p l ih=>
  show(dX S calls (iL S calls st p) l).wd.now+(dX S calls (iL S calls st p) l).idle=_
  rw [ih,CV hnow];simp;omega
set_option maxHeartbeats 4000000 in
theorem FM {X:Nat->Prop} (ok:dO R) (nl:wR R) (hdN:R.dN<=1000) (w:World) (o0:S.ω) (n:Int) (calls:List aF) (ws:List Nat) (picks:List Int) (ov cv wv:Value) (pa:Option Addr) (pc:Nat)
  (h:kR R X w o0 n calls ws ov cv wv) (hps:aW w pa picks.length 1 (iY picks)) (hpx:0<picks.length->∀ b off,pa=some ⟨b,off,none⟩->¬ R.OB b) (hpw:∀ x∈picks,(Lit.int .i64 x).wf=true)
  (hsf:checkN n calls picks.length=0->∀ l p m,picks=l++p::m->qQ R calls (dX S calls (bM S o0 ws calls) l) p) :
  Calls Try.prog 27 #[.int .i64 n,ov,wv,cv,.slice pa picks.length pc] w λe w'=>sG R.OB X w w' (checkN n calls picks.length) (iM S o0 ws calls picks) e:=by
 obtain⟨wa,hwa⟩:∃ wa,wa=w.alloc (.cells #[.slice none 0 0,.slice none 0 0,.int .i64 0,.int .i64 0,.int .i64 0,.int .i64 0,.int .i64 0,.int .i64 0,.int .i64 0] 32):=⟨_,rfl⟩
 have hga:Below w.heap.size w wa:=by rw [hwa];exact Gr.new _ _
 have hra:wa.heap[w.heap.size]?=some (.cells #[.slice none 0 0,.slice none 0 0,.int .i64 0,.int .i64 0,.int .i64 0,.int .i64 0,.int .i64 0,.int .i64 0,.int .i64 0] 32 (0,0)):=by rw [hwa];exact heap_alloc_new _ _
 have hsa:wa.heap.size=w.heap.size+1:=by rw [hwa];simp
 have C:=Lib.hid (λ(ca:Option Addr) (cc:Nat) (hcs:aW w ca calls.length 6 (iE calls))=>vU n calls picks.length ca pa cc pc wa (hcs.grown hga) hps.1 (λx hx=>(h.ok x hx).thread))
 obtain⟨ca,cc,rfl,hcs,_⟩:=h.cs
 replace C:=Lib.hid (C.out ca cc hcs)
 have Hh:=Lib.hid h;have Hps:=Lib.hid hps;have Hpw:=Lib.hid hpw;have Hga:=Lib.hid hga;have Hra:=Lib.hid hra;have Hwa:=Lib.hid hwa;have Hsa:=Lib.hid hsa;have Hsf:=Lib.hid hsf;have Hpx:=Lib.hid hpx;have Hob:=Lib.hid (λb hb=>h.xlt b (h.ob b hb):∀ b,R.OB b->b<w.heap.size)
 have hpl:=hps.1
 unfold maxLen at hpl
 obtain⟨er,her⟩:∃ er,er=checkN n calls picks.length:=⟨_,rfl⟩
 rw [<-her] at C ⊢
 have Her:=Lib.hid her
 clear h hps hpw hga hra hwa hsa hcs her hsf hpx
 go_enter Try.func27,Try.ntmps27
 go_wp2_with fail
 rw [<-Hwa.out]
 refine C.out.mono ?_
 rintro e w1 ⟨rfl,hb1⟩
 have hr1:=(hb1.block _ (aH Hra.out)).trans Hra.out
 have Hb1:=Lib.hid hb1;have Hr1:=Lib.hid hr1
 clear hb1 hr1
 by_cases oO:er=0
 ·subst oO
  have hck:=jE Her.out.symm
  have Hsf0:=Lib.hid (Hsf.out Her.out.symm)
  have B:=Lib.hid (EO (λb=>X b∨b=w.heap.size) w1 o0 n calls ws ov (.slice ca calls.length cc) wv (Hh.out.grown (Gr.trans Hga.out Hb1.out) (λb hb=>by have h1:=aH Hra.out;have h2:=Hb1.out.size;rcases hb with hb|hb;exact .inl hb;exact .inr (by omega)) (λb hb=>.inl hb)) hck.1)
  have hpk:=hck.2
  have Hck:=Lib.hid hck
  clear C hck
  go_wp2_with fail
  refine B.out.mono ?_
  rintro e w2 ⟨J,hJ,rfl,hb2,hst⟩
  have HJ:=Lib.hid hJ;have Hb2:=Lib.hid hb2;have Hst:=Lib.hid hst
  clear hJ hb2 hst
  go_wp2
  go_loopw [39] (λi wr=>∃ k:Nat,k<=picks.length/\i=.int .i64 k/\Chg R.OB w1 wr/\uT R calls wr J ov (.slice ca calls.length cc) w1.heap.size (dX S calls (bM S o0 ws calls) (picks.take k))) (λi _=>picks.length - (intOf i).toNat)
  case atStart=>exact⟨0,Nat.zero_le _,rfl,Chg.of_below Hb2.out,Hst.out⟩
  case round=>
   obtain⟨k,hk,rfl,hbr,hst⟩:=hrel
   by_cases hlt:k<picks.length
   ·obtain⟨b3,WM,rfl,hc3⟩:=((Hps.out.grown (Gr.trans Hga.out Hb1.out)).chg hbr (Hpx.out (by omega))).elem (Gr.refl wr) hlt
    obtain⟨p,hpv⟩:∃ p,picks[k]=p:=⟨_,rfl⟩
    have hd:picks.take (k+1)=picks.take k++[p]:=by rw [List.take_succ_eq_append_getElem hlt,hpv]
    have c0:wr.cell? ⟨b3,WM+k,none⟩=some (.int .i64 p):=by have h0:=hc3 0 (by omega);rw [Nat.mul_one,Nat.add_zero] at h0;rw [h0];simp [iY,List.getD_eq_getElem?_getD,hlt,hpv]
    have hpw:(Lit.int .i64 p).wf=true:=by rw [<-hpv];exact Hpw.out _ (List.getElem_mem hlt)
    have htk:=kG ok.now (bM S o0 ws calls) (picks.take k) (calls:=calls)
    rw [List.length_take,Nat.min_eq_left hk] at htk
    have OC:(dX S calls (bM S o0 ws calls) (picks.take k)).wd.now+(dX S calls (bM S o0 ws calls) (picks.take k)).idle=k:=by rw [htk];simp [bM,bQ]
    have P:=Lib.hid (NA ok hdN calls wr J ov (.slice ca calls.length cc) w1.heap.size _ p hst hpw (Hsf0.out _ p (picks.drop (k+1)) (by rw [<-hpv,List.getElem_cons_drop,List.take_append_drop])) (by omega) (by omega))
    have Hd:=Lib.hid hd;have Hbr:=Lib.hid hbr
    have hl1:(k:Int)<(picks.length:Int):=by omega
    clear hst hc3 hpv hd hbr htk OC
    go_wp2_with fail
    refine P.out.mono ?_
    rintro e w3 ⟨⟨bb,rfl⟩,hch,TD⟩
    have Hch:=Lib.hid hch;have Hst3:=Lib.hid TD
    clear hch TD
    go_wp2
    go_roundw
    case rel=>exact⟨k+1,by omega,by go_num,((Hbr.out.mono (S':=PB R w1.heap.size) (λb _ h=>.inr h)).trans Hch.out).mono (λb hb h=>h.elim (λh9=>absurd hb (by omega)) id),by rw [Hd.out,zW];exact Hst3.out⟩
    case measure=>simp [intOf]<;>omega
   ·have hl1:¬ (k:Int)<(picks.length:Int):=by omega
    obtain rfl:k=picks.length:=by omega
    rw [List.take_length] at hst
    obtain⟨G,hG⟩:=hst
    have E:=Lib.hid (BR ok nl calls wr J ov (.slice ca calls.length cc) w1.heap.size G _ hG)
    have hr2:wr.heap[w.heap.size]?=some (.cells #[.slice none 0 0,.slice none 0 0,.int .i64 0,.int .i64 0,.int .i64 0,.int .i64 0,.int .i64 0,.int .i64 0,.int .i64 0] 32 (0,0)):=(hbr.block _ (aH Hr1.out) (λh9=>Nat.lt_irrefl _ (Hob.out _ h9))).trans Hr1.out
    have Hbr:=Lib.hid hbr;have Hr2:=Lib.hid hr2
    clear hG hbr hr2
    go_wp2_with fail
    refine E.out.mono ?_
    rintro e w3 ⟨ea,ec,va,vc,ers,rfl,hrep,hb3⟩
    have hr3:w3.heap[w.heap.size]?=some (.cells #[.slice none 0 0,.slice none 0 0,.int .i64 0,.int .i64 0,.int .i64 0,.int .i64 0,.int .i64 0,.int .i64 0,.int .i64 0] 32 (0,0)):=(hb3.block _ (aH Hr1.out)).trans Hr2.out
    have g0:w3.cell? ⟨w.heap.size,0,none⟩=some (.slice none 0 0):=by rw [aA hr3];rfl
    have QU:w3.frozen? ⟨w.heap.size,0,none⟩=false:=aC hr3 0
    have g1:w3.cell? ⟨w.heap.size,1,none⟩=some (.slice none 0 0):=by rw [aA hr3];rfl
    have RF:w3.frozen? ⟨w.heap.size,1,none⟩=false:=aC hr3 1
    have g2:w3.cell? ⟨w.heap.size,2,none⟩=some (.int .i64 0):=by rw [aA hr3];rfl
    have RX:w3.frozen? ⟨w.heap.size,2,none⟩=false:=aC hr3 2
    have g3:w3.cell? ⟨w.heap.size,3,none⟩=some (.int .i64 0):=by rw [aA hr3];rfl
    have QP:w3.frozen? ⟨w.heap.size,3,none⟩=false:=aC hr3 3
    have g4:w3.cell? ⟨w.heap.size,4,none⟩=some (.int .i64 0):=by rw [aA hr3];rfl
    have RH:w3.frozen? ⟨w.heap.size,4,none⟩=false:=aC hr3 4
    have g5:w3.cell? ⟨w.heap.size,5,none⟩=some (.int .i64 0):=by rw [aA hr3];rfl
    have SE:w3.frozen? ⟨w.heap.size,5,none⟩=false:=aC hr3 5
    have g6:w3.cell? ⟨w.heap.size,6,none⟩=some (.int .i64 0):=by rw [aA hr3];rfl
    have QH:w3.frozen? ⟨w.heap.size,6,none⟩=false:=aC hr3 6
    have g7:w3.cell? ⟨w.heap.size,7,none⟩=some (.int .i64 0):=by rw [aA hr3];rfl
    have QN:w3.frozen? ⟨w.heap.size,7,none⟩=false:=aC hr3 7
    have g8:w3.cell? ⟨w.heap.size,8,none⟩=some (.int .i64 0):=by rw [aA hr3];rfl
    have QX:w3.frozen? ⟨w.heap.size,8,none⟩=false:=aC hr3 8
    obtain⟨rp,hrp⟩:∃ rp,rp=kJ S (dX S calls (bM S o0 ws calls) picks):=⟨_,rfl⟩
    rw [<-hrp] at hrep
    obtain⟨en,hen⟩:∃ en,en=rp.evs.length:=⟨_,rfl⟩
    obtain⟨vn,hvn⟩:∃ vn,vn=rp.words.length:=⟨_,rfl⟩
    rw [<-hrp,<-hen,<-hvn]
    have Hrep:=Lib.hid hrep;have Hr3:=Lib.hid hr3;have Hb3:=Lib.hid hb3;have Hrp:=Lib.hid hrp;have Hen:=Lib.hid hen;have Hvn:=Lib.hid hvn
    clear hrep hr3 hb3 hrp hen hvn
    unfold jL
    go_wp2
    obtain⟨w7,hw7⟩:∃ w7,w7=(((((((((w3.setCell ⟨w.heap.size,0,none⟩ (.slice ea en ec)).setCell ⟨w.heap.size,1,none⟩ (.slice va vn vc)).setCell ⟨w.heap.size,2,none⟩ (.int .i64 (rp.c.read:Int))).setCell ⟨w.heap.size,3,none⟩ (.int .i64 (rp.c.write:Int))).setCell ⟨w.heap.size,4,none⟩ (.int .i64 (rp.c.swap:Int))).setCell ⟨w.heap.size,5,none⟩ (.int .i64 (rp.c.add:Int))).setCell ⟨w.heap.size,6,none⟩ (.int .i64 (rp.c.fault:Int))).setCell ⟨w.heap.size,7,none⟩ (.int .i64 (rp.ticks:Int))).setCell ⟨w.heap.size,8,none⟩ (.int .i64 (rp.idle:Int))):=⟨_,rfl⟩
    rw [<-hw7]
    have kD:w7.heap[w.heap.size]?=some (.cells #[.slice ea en ec,.slice va vn vc,.int .i64 (rp.c.read:Int),.int .i64 (rp.c.write:Int),.int .i64 (rp.c.swap:Int),.int .i64 (rp.c.add:Int),.int .i64 (rp.c.fault:Int),.int .i64 (rp.ticks:Int),.int .i64 (rp.idle:Int)] 32 (0,0)):=by rw [hw7,(aG (aG (aG (aG (aG (aG (aG (aG (aG Hr3.out _ _) _ _) _ _) _ _) _ _) _ _) _ _) _ _) _ _)];rfl
    have dZ:Chg (λb=>b=w.heap.size) w3 w7:=by rw [hw7];exact((((((((((Chg.refl (λb=>b=w.heap.size) w3).setCell (by exact .inl rfl) _).setCell (by exact .inl rfl) _).setCell (by exact .inl rfl) _).setCell (by exact .inl rfl) _).setCell (by exact .inl rfl) _).setCell (by exact .inl rfl) _).setCell (by exact .inl rfl) _).setCell (by exact .inl rfl) _).setCell (by exact .inl rfl) _)
    have k0:w7.cell? ⟨w.heap.size,0,none⟩=some (.slice ea en ec):=by rw [aA kD];rfl
    have k1:w7.cell? ⟨w.heap.size,1,none⟩=some (.slice va vn vc):=by rw [aA kD];rfl
    have k2:w7.cell? ⟨w.heap.size,2,none⟩=some (.int .i64 (rp.c.read:Int)):=by rw [aA kD];rfl
    have k3:w7.cell? ⟨w.heap.size,3,none⟩=some (.int .i64 (rp.c.write:Int)):=by rw [aA kD];rfl
    have k4:w7.cell? ⟨w.heap.size,4,none⟩=some (.int .i64 (rp.c.swap:Int)):=by rw [aA kD];rfl
    have k5:w7.cell? ⟨w.heap.size,5,none⟩=some (.int .i64 (rp.c.add:Int)):=by rw [aA kD];rfl
    have k6:w7.cell? ⟨w.heap.size,6,none⟩=some (.int .i64 (rp.c.fault:Int)):=by rw [aA kD];rfl
    have k7:w7.cell? ⟨w.heap.size,7,none⟩=some (.int .i64 (rp.ticks:Int)):=by rw [aA kD];rfl
    have k8:w7.cell? ⟨w.heap.size,8,none⟩=some (.int .i64 (rp.idle:Int)):=by rw [aA kD];rfl
    clear hw7 kD
    refine bodyPost_ret (v:=.tuple #[jL (.slice ea en ec) (.slice va vn vc) rp,.int .i64 0]) (by simp [results,Try.results27 ,go_sem,k0,k1,k2,k3,k4,k5,k6,k7,k8,jL]) rfl ?_
    have hs1:=aH Hr1.out
    have hall:Chg (PB R w.heap.size) w w7:=((((Chg.of_below Hga.out).trans (Chg.of_below Hb1.out)).trans ((Chg.refl _ _).trans (Hbr.out.mono (λb _ h=>.inr h)))).trans ((show Chg (PB R w.heap.size) wr w3 from⟨Hb3.out.os,Hb3.out.tape,Hb3.out.output,Hb3.out.size,λk hk hn=>Hb3.out.block k (by have h9:¬ w.heap.size<=k:=λh9=>hn (.inl h9);omega)⟩))).trans (dZ.mono (λb _ h=>.inl (by omega)))
    have hen:=Hen.out;have hvn:=Hvn.out
    subst hen hvn
    have h9:rp=iM S o0 ws calls picks:=Hrp.out
    refine⟨hall.mono (λb hb h=>h.elim (λh9=>absurd hb (by omega)) id),.inr ⟨rfl,ea,ec,va,vc,ers,by rw [<-h9],?_⟩⟩
    have h8:=(Hrep.out.chg dZ (λb hb=>by rw [HJ.out];exact⟨.inr hb,by omega⟩)).low (Old':=X) (B':=w.heap.size) (by omega) (λb hb=>by rw [HJ.out];exact .inl hb)
    rw [h9] at h8
    exact h8
 ·have hr1:=Hr1.out
  have g0:w1.cell? ⟨w.heap.size,0,none⟩=some (.slice none 0 0):=by rw [aA hr1];rfl
  have QU:w1.frozen? ⟨w.heap.size,0,none⟩=false:=aC hr1 0
  have g1:w1.cell? ⟨w.heap.size,1,none⟩=some (.slice none 0 0):=by rw [aA hr1];rfl
  have RF:w1.frozen? ⟨w.heap.size,1,none⟩=false:=aC hr1 1
  have g2:w1.cell? ⟨w.heap.size,2,none⟩=some (.int .i64 0):=by rw [aA hr1];rfl
  have RX:w1.frozen? ⟨w.heap.size,2,none⟩=false:=aC hr1 2
  have g3:w1.cell? ⟨w.heap.size,3,none⟩=some (.int .i64 0):=by rw [aA hr1];rfl
  have QP:w1.frozen? ⟨w.heap.size,3,none⟩=false:=aC hr1 3
  have g4:w1.cell? ⟨w.heap.size,4,none⟩=some (.int .i64 0):=by rw [aA hr1];rfl
  have RH:w1.frozen? ⟨w.heap.size,4,none⟩=false:=aC hr1 4
  have g5:w1.cell? ⟨w.heap.size,5,none⟩=some (.int .i64 0):=by rw [aA hr1];rfl
  have SE:w1.frozen? ⟨w.heap.size,5,none⟩=false:=aC hr1 5
  have g6:w1.cell? ⟨w.heap.size,6,none⟩=some (.int .i64 0):=by rw [aA hr1];rfl
  have QH:w1.frozen? ⟨w.heap.size,6,none⟩=false:=aC hr1 6
  have g7:w1.cell? ⟨w.heap.size,7,none⟩=some (.int .i64 0):=by rw [aA hr1];rfl
  have QN:w1.frozen? ⟨w.heap.size,7,none⟩=false:=aC hr1 7
  have g8:w1.cell? ⟨w.heap.size,8,none⟩=some (.int .i64 0):=by rw [aA hr1];rfl
  have QX:w1.frozen? ⟨w.heap.size,8,none⟩=false:=aC hr1 8
  have Her0:=Lib.hid oO
  clear hr1
  go_wp2
  obtain⟨w7,hw7⟩:∃ w7,w7=(((((((((w1.setCell ⟨w.heap.size,0,none⟩ (.slice none 0 0)).setCell ⟨w.heap.size,1,none⟩ (.slice none 0 0)).setCell ⟨w.heap.size,2,none⟩ (.int .i64 0)).setCell ⟨w.heap.size,3,none⟩ (.int .i64 0)).setCell ⟨w.heap.size,4,none⟩ (.int .i64 0)).setCell ⟨w.heap.size,5,none⟩ (.int .i64 0)).setCell ⟨w.heap.size,6,none⟩ (.int .i64 0)).setCell ⟨w.heap.size,7,none⟩ (.int .i64 0)).setCell ⟨w.heap.size,8,none⟩ (.int .i64 0)):=⟨_,rfl⟩
  rw [<-hw7]
  have kD:w7.heap[w.heap.size]?=some (.cells #[.slice none 0 0,.slice none 0 0,.int .i64 0,.int .i64 0,.int .i64 0,.int .i64 0,.int .i64 0,.int .i64 0,.int .i64 0] 32 (0,0)):=by rw [hw7,(aG (aG (aG (aG (aG (aG (aG (aG (aG Hr1.out _ _) _ _) _ _) _ _) _ _) _ _) _ _) _ _) _ _)];rfl
  have dZ:Chg (λb=>b=w.heap.size) w1 w7:=by rw [hw7];exact((((((((((Chg.refl (λb=>b=w.heap.size) w1).setCell (by exact .inl rfl) _).setCell (by exact .inl rfl) _).setCell (by exact .inl rfl) _).setCell (by exact .inl rfl) _).setCell (by exact .inl rfl) _).setCell (by exact .inl rfl) _).setCell (by exact .inl rfl) _).setCell (by exact .inl rfl) _).setCell (by exact .inl rfl) _)
  have k0:w7.cell? ⟨w.heap.size,0,none⟩=some (.slice none 0 0):=by rw [aA kD];rfl
  have k1:w7.cell? ⟨w.heap.size,1,none⟩=some (.slice none 0 0):=by rw [aA kD];rfl
  have k2:w7.cell? ⟨w.heap.size,2,none⟩=some (.int .i64 0):=by rw [aA kD];rfl
  have k3:w7.cell? ⟨w.heap.size,3,none⟩=some (.int .i64 0):=by rw [aA kD];rfl
  have k4:w7.cell? ⟨w.heap.size,4,none⟩=some (.int .i64 0):=by rw [aA kD];rfl
  have k5:w7.cell? ⟨w.heap.size,5,none⟩=some (.int .i64 0):=by rw [aA kD];rfl
  have k6:w7.cell? ⟨w.heap.size,6,none⟩=some (.int .i64 0):=by rw [aA kD];rfl
  have k7:w7.cell? ⟨w.heap.size,7,none⟩=some (.int .i64 0):=by rw [aA kD];rfl
  have k8:w7.cell? ⟨w.heap.size,8,none⟩=some (.int .i64 0):=by rw [aA kD];rfl
  clear hw7 kD
  refine bodyPost_ret (v:=.tuple #[jL (.slice none 0 0) (.slice none 0 0) ⟨[],[],c0,0,0⟩,.int .i64 er]) (by simp [results,Try.results27 ,go_sem,k0,k1,k2,k3,k4,k5,k6,k7,k8,jL,c0]) rfl ?_
  have hall:Chg (λb=>w.heap.size<=b) w w7:=((Chg.of_below Hga.out).trans (Chg.of_below Hb1.out)).trans (dZ.mono (λb _ h=>by omega))
  exact⟨hall.mono (λb hb h=>absurd hb (by omega)),.inl ⟨Her0.out,rfl⟩⟩
end
end Go.Proofs.Ytifhldnmcdbpfaa
