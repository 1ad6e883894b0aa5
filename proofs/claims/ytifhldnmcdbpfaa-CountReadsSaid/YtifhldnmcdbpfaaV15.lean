/- Layer 6: every play keeps it, whatever its object is. -/
import Derived.Test.YtifhldnmcdbpfaaV14
import Derived.Test.YtifhldnmcdbpfaaV11
set_option maxRecDepth 100000
set_option linter.unusedVariables false
set_option linter.unusedSimpArgs false
set_option linter.unnecessarySimpa false
namespace Go.Proofs.Ytifhldnmcdbpfaa
section
open Go.RowKit
variable {S:Sys}
def eT {σ:Type} (hands:List (Option σ×Nat)) (p:Nat):Option Nat:=if (hands.getD p (none,0)).1.isSome then some (hands.getD p (none,0)).2 else none
theorem lV {σ:Type} {hands:List (Option σ×Nat)} {p:Nat} (hp:p<hands.length) (m:Option σ) (k:Nat):eT (hands.set p (m,k))=λq=>if q=p then (if m.isSome then some k else none) else eT hands q:=by
 funext q
 unfold eT
 by_cases h:q=p
 ·subst h;rw [aL hp];simp
 ·rw [aR (Ne.symm h)];simp [h]
theorem vX (l:List EvD) (k:Nat) (f:EvD->EvD):(cB l k f).length=l.length:=by simp [cB]
structure eD (calls:List aF) (st:aQ S):Prop where
 ev:iD calls st.wd.now st.fin (eT st.hands) st.evs
 h16:st.hands.length=16
theorem qB {calls:List aF} (hnow:∀ o wd p s,(S.step o wd p s).2.1.now=wd.now) {st:aQ S} {p k:Nat} {s:S.σ} (h16:st.hands.length=16) (hp:p<16) (hk:k<st.evs.length)
  (he:iD calls st.wd.now st.fin (λq=>if q=p then some k else eT st.hands q) (cB st.evs k aZ)) :
  if (eZ S st p k s).2 then eD calls { (eZ S st p k s).1 with fin:=(eZ S st p k s).1.fin.set (aD st.evs k).call true } else eD calls (eZ S st p k s).1:=by
 have hev:aD (cB st.evs k aZ) k=aZ (aD st.evs k):=by unfold cB;rw [jM _ hk,if_pos rfl];rfl
 unfold eZ
 simp only
 cases hd:(S.step st.obj st.wd p s).2.2.2 with
 | true=>
  simp only [if_true]
  have:=he.done (p:=p) (k:=k) (if_pos rfl) (e:=bK (S.step st.obj st.wd p s).2.1 p (S.answer (S.step st.obj st.wd p s).2.2.1).1 (S.answer (S.step st.obj st.wd p s).2.2.1).2 (aD st.evs k))
   ⟨by rw [hev];rfl,by rw [hev];rfl,by rw [hev];rfl,by show(S.step st.obj st.wd p s).2.1.now=_;rw [hnow]⟩
  rw [hev] at this
  refine⟨?_,by simpa using h16⟩
  simp only
  rw [hnow,lV (by rw [h16];exact hp)]
  have e1:cB st.evs k (bK (S.step st.obj st.wd p s).2.1 p (S.answer (S.step st.obj st.wd p s).2.2.1).1 (S.answer (S.step st.obj st.wd p s).2.2.1).2)=(cB st.evs k aZ).set k (bK (S.step st.obj st.wd p s).2.1 p (S.answer (S.step st.obj st.wd p s).2.2.1).1 (S.answer (S.step st.obj st.wd p s).2.2.1).2 (aD st.evs k)):=by
   unfold cB;rw [List.set_set];rfl
  rw [e1]
  have e2:(λq=>if q=p then (if (none:Option S.σ).isSome=true then some k else none) else eT st.hands q)=(λq=>if q=p then none else (λq=>if q=p then some k else eT st.hands q) q):=by
   funext q
   by_cases hq:q=p<;>simp [hq]
  rw [e2]
  exact this
 | false=>
  simp only [Bool.false_eq_true,if_false]
  refine⟨?_,by simpa using h16⟩
  simp only
  rw [hnow,lV (by rw [h16];exact hp)]
  exact he
theorem uX {calls:List aF} (hnow:∀ o wd p s,(S.step o wd p s).2.1.now=wd.now) (hthr:∀ c,c<calls.length->0<=(calls.getD c d0).thread/\(calls.getD c d0).thread<16) {st:aQ S} (h:eD calls st) (p:Int):eD calls (gV S calls st p):=by
 unfold gV
 cases hN:iI calls st.fin p with
 | none=>exact⟨h.ev,h.h16⟩
 | some i=>
  obtain⟨n1,n2,n3⟩:=dO hN
  obtain⟨t1,t2⟩:=hthr i n1
  obtain⟨q,rfl⟩:∃ q:Nat,p=(q:Int):=⟨p.toNat,by omega⟩
  have hq:q<16:=by omega
  simp only [Int.toNat_natCast]
  unfold dJ
  cases hs:(st.hands.getD q (none,0)).1 with
  | some s=>
   simp only
   obtain⟨k,hk⟩:∃ k,k=(st.hands.getD q (none,0)).2:=⟨_,rfl⟩
   rw [<-hk]
   have hh:eT st.hands q=some k:=by unfold eT;rw [hs,hk];rfl
   obtain⟨k1,k2,k3,k4⟩:=h.ev.hand q k hh
   have hi:i=(aD st.evs k).call:=by rw [hN] at k4;cases k4;rfl
   have he:=h.ev.step hh
   have hfun:eT st.hands=λx=>if x=q then some k else eT st.hands x:=by
    funext x;by_cases hx:x=q
    ·rw [if_pos hx,hx,hh]
    ·rw [if_neg hx]
   rw [hfun] at he
   have:=qB hnow (st:={ st with wd:=st.wd.tick }) (s:=s) h.h16 hq k1 he
   rw [<-hi] at this
   exact(by split<;>rename_i hb<;>simp only [hb,if_true,Bool.false_eq_true,if_false] at this<;>exact this)
  | none=>
   simp only
   have hh:eT st.hands q=none:=by unfold eT;rw [hs];rfl
   have hpos:∀ c,c<calls.length->0<=(calls.getD c d0).thread:=λc hc=>(hthr c hc).1
   have QT:q<st.hands.length:=by rw [h.h16];exact hq
   cases hst:dH S st.obj (st.wd.tick.begin q) q (calls.getD i d0) with
   | refuse e=>
    simp only [if_true]
    have hb:=h.ev.begun hpos hh hN (e:=aZ (dC i (st.wd.tick.begin q))) ⟨rfl,rfl,rfl,rfl⟩
    have hf:=hb.done (p:=q) (k:=st.evs.length) (if_pos rfl) (e:=bK (st.wd.tick.begin q) q ⟨e,0,[]⟩ [] (dC i (st.wd.tick.begin q)))
    have hev:aD (st.evs++[aZ (dC i (st.wd.tick.begin q))]) st.evs.length=aZ (dC i (st.wd.tick.begin q)):=by unfold aD;rw [dW]
    rw [hev] at hf
    have hf:=hf ⟨rfl,rfl,rfl,rfl⟩
    rw [List.set_append_right _ _ (Nat.le_refl _),Nat.sub_self] at hf
    refine⟨?_,by simpa using h.h16⟩
    simp only
    rw [lV QT]
    have e2:(λx=>if x=q then (if (none:Option S.σ).isSome=true then some st.evs.length else none) else eT st.hands x)=(λx=>if x=q then none else (λx=>if x=q then some st.evs.length else eT st.hands x) x):=by
     funext x
     by_cases hx:x=q<;>simp [hx]
    rw [e2]
    exact hf
   | run s=>
    simp only
    have hb:=h.ev.begun hpos hh hN (e:=aZ (dC i (st.wd.tick.begin q))) ⟨rfl,rfl,rfl,rfl⟩
    rw [<-sJ] at hb
    have hfun:(λx=>if x=q then some st.evs.length else eT st.hands x)=λx=>if x=q then some st.evs.length else eT (st.hands.set q (some s,st.evs.length)) x:=by
     funext x
     rw [lV QT]
     by_cases hx:x=q<;>simp [hx]
    rw [hfun] at hb
    have:=qB hnow (st:={ st with wd:=st.wd.tick.begin q,hands:=st.hands.set q (some s,st.evs.length),evs:=st.evs++[dC i (st.wd.tick.begin q)] }) (s:=s) (by simpa using h.h16) hq (by simp) hb
    have hev:(aD (st.evs++[dC i (st.wd.tick.begin q)]) st.evs.length).call=i:=by unfold aD;rw [dW];rfl
    simp only at this
    rw [hev] at this
    exact(by split<;>rename_i hb<;>simp only [hb,if_true,Bool.false_eq_true,if_false] at this<;>exact this)
theorem zT (calls:List aF) (o:S.ω) (ws:List Nat):eD calls (bT S o ws calls):=by
 have hh:∀ p,eT (List.replicate 16 ((none:Option S.σ),0)) p=none:=by
  intro p
  unfold eT
  have:(List.replicate 16 ((none:Option S.σ),0)).getD p (none,0)=(none,0):=by
   simp only [List.getD_eq_getElem?_getD,List.getElem?_replicate];split<;>rfl
  rw [this];rfl
 refine⟨⟨by simp [bT],λi hi=>by simp [bT] at hi,λi hi=>by simp [bT] at hi,λi hi=>by simp [bT] at hi,λi hi=>by simp [bT] at hi,λi j _ hj=>by simp [bT] at hj,λi j _ hj=>by simp [bT] at hj,λp k hk=>?_,λc c' h1 h2 _ h3=>?_,rfl⟩,by simp [bT]⟩
 ·rw [show eT (bT S o ws calls).hands p=none from hh p] at hk;cases hk
 ·exfalso
  have:(List.replicate calls.length false).getD c false=false:=by
   simp only [List.getD_eq_getElem?_getD,List.getElem?_replicate];split<;>rfl
  rw [show(bT S o ws calls).fin=List.replicate calls.length false from rfl,this] at h3;cases h3
theorem AL {calls:List aF} (hnow:∀ o wd p s,(S.step o wd p s).2.1.now=wd.now) (st:aQ S) (p:Int):(gV S calls st p).wd.now+(gV S calls st p).idle=st.wd.now+st.idle+1:=by
 unfold gV
 cases iI calls st.fin p with
 | none=>simp only;omega
 | some i=>
  simp only
  have:(dJ S calls st p.toNat i).1.wd.now=st.wd.now+1/\(dJ S calls st p.toNat i).1.idle=st.idle:=by
   refine⟨?_,(uP calls st _ _).2⟩
   unfold dJ
   split
   ·unfold eZ;simp only;split<;>(simp only)<;>rw [hnow]<;>rfl
   ·simp only
    cases dH S st.obj (st.wd.tick.begin p.toNat) p.toNat (calls.getD i d0) with
    | refuse e=>rfl
    | run s=>unfold eZ;simp only;split<;>(simp only)<;>rw [hnow]<;>rfl
  split<;>(try simp only)<;>omega
end
section
open Go.RowKit
variable {S:Sys} {R:Real S}
def rC (O X:Nat->Prop) (w w':World) (er:Int) (r:iU) (e:Ending):Prop:=
 Chg O w w'/\((er≠0/\e=.returned (.tuple #[kS (.slice none 0 0) (.slice none 0 0) ⟨[],[],c0,0,0⟩,.int .i64 er]))∨
  (er=0/\∃ ea ec va vc ers,e=.returned (.tuple #[kS (.slice ea r.evs.length ec) (.slice va r.words.length vc) r,.int .i64 0])/\iB X w.heap.size w' (.slice ea r.evs.length ec) (.slice va r.words.length vc) ers r))
theorem iB.low {Old Old':Nat->Prop} {B B':Nat} {w:World} {ev wv:Value} {ers:List (Value×Value)} {r:iU} (h:iB Old B w ev wv ers r) (hB:B'<=B) (ho:∀ b,Old' b->Old b):iB Old' B' w ev wv ers r:=
 ⟨wD h.row hB,h.elen,λi hi=>⟨(h.ans i hi).1.less ho,(h.ans i hi).2.less ho⟩,wD h.words hB⟩
theorem gM {n:Int} {calls:List aF} {np:Nat} (h:checkN n calls np=0):fH n calls=0/\np<=65536:=by
 unfold checkN at h
 split at h
 ·cases h
 ·split at h
  ·cases h
  ·exact⟨h,by omega⟩
theorem wP (calls:List aF) (st:aQ S) (l:List Int) (p:Int):eO S calls st (l++[p])=gV S calls (eO S calls st l) p:=by
 unfold eO;rw [List.foldl_append];rfl
theorem qK {calls:List aF} (hnow:∀ o wd p s,(S.step o wd p s).2.1.now=wd.now) (st:aQ S):∀(l:List Int),(eO S calls st l).wd.now+(eO S calls st l).idle=st.wd.now+st.idle+l.length:=by
 intro l
 induction l generalizing st with
 | nil=>rfl
 | cons p l ih=>
  show(eO S calls (gV S calls st p) l).wd.now+(eO S calls (gV S calls st p) l).idle=_
  rw [ih,AL hnow];simp;omega
theorem KG {n:Int} {calls:List aF} {np:Nat} {fin:List Bool} {x:Int} {q:Nat} {P:Nat->Prop} (hck:checkN n calls np=0) (hx:x=(q:Int)) (hne:iI calls fin x≠none) (h:∀ q:Nat,q<16->(q:Int)<n->P q):P q:=by
 obtain⟨hw0,_⟩:=gM hck
 obtain⟨z1,z2,z3,z4⟩:=iO hw0
 cases hN:iI calls fin x with
 | none=>exact absurd hN hne
 | some c=>
  obtain⟨hcl,hth,_⟩:=dO hN
  unfold iQ at z4
  rw [List.any_eq_false] at z4
  have e:calls.getD c d0=calls[c]:=by simp [List.getD_eq_getElem?_getD,hcl]
  have h9:pG n calls[c]=false:=by simpa using z4 calls[c] (List.getElem_mem hcl)
  rw [e] at hth
  have h8:0<=calls[c].thread/\calls[c].thread<n:=by
   obtain⟨y,hy⟩:∃ y,y=calls[c]:=⟨_,rfl⟩
   rw [<-hy] at h9 ⊢
   unfold pG at h9
   simp at h9
   omega
  exact h q (by omega) (by omega)
set_option maxHeartbeats 4000000 in
theorem DT {X:Nat->Prop} (ok:dQ R) (nl:pI R) (hdN:R.dN<=1000) (w:World) (o0:S.ω) (n:Int) (calls:List aF) (ws:List Nat) (picks:List Int) (ov cv wv:Value) (pa:Option Addr) (pc:Nat)
  (h:jR R X w o0 n calls ws ov cv wv) (hps:bQ w pa picks.length 1 (gQ picks)) (hpx:0<picks.length->∀ b off,pa=some ⟨b,off,none⟩->¬ R.OB b) (hpw:∀ x∈picks,(Lit.int .i64 x).wf=true)
  (hsf:checkN n calls picks.length=0->∀ l p m,picks=l++p::m->oW R calls (eO S calls (bT S o0 ws calls) l) p) (hthr:∀ q:Nat,q<16->(q:Int)<n->R.thr q:=by intro _ h _;exact h) :
  Calls Try.prog 27 #[.int .i64 n,ov,wv,cv,.slice pa picks.length pc] w λe w'=>rC R.OB X w w' (checkN n calls picks.length) (iM S o0 ws calls picks) e:=by
 obtain⟨wa,hwa⟩:∃ wa,wa=w.alloc (.cells #[.slice none 0 0,.slice none 0 0,.int .i64 0,.int .i64 0,.int .i64 0,.int .i64 0,.int .i64 0,.int .i64 0,.int .i64 0] 32):=⟨_,rfl⟩
 have hga:Below w.heap.size w wa:=by rw [hwa];exact Gr.new _ _
 have hra:wa.heap[w.heap.size]?=some (.cells #[.slice none 0 0,.slice none 0 0,.int .i64 0,.int .i64 0,.int .i64 0,.int .i64 0,.int .i64 0,.int .i64 0,.int .i64 0] 32 (0,0)):=by rw [hwa];exact heap_alloc_new _ _
 have hsa:wa.heap.size=w.heap.size+1:=by rw [hwa];simp
 have C:=Lib.hid (λ(ca:Option Addr) (cc:Nat) (hcs:bQ w ca calls.length 6 (gK calls))=>uV n calls picks.length ca pa cc pc wa (hcs.grown hga) hps.1 (λx hx=>(h.ok x hx).thread))
 obtain⟨ca,cc,rfl,hcs,_⟩:=h.cs
 replace C:=Lib.hid (C.out ca cc hcs)
 have Hh:=Lib.hid h;have Hps:=Lib.hid hps;have Hpw:=Lib.hid hpw;have Hga:=Lib.hid hga;have Hra:=Lib.hid hra;have Hwa:=Lib.hid hwa;have Hsa:=Lib.hid hsa;have Hsf:=Lib.hid hsf;have Hthr:=Lib.hid hthr;have Hpx:=Lib.hid hpx;have Hob:=Lib.hid (λb hb=>h.xlt b (h.ob b hb):∀ b,R.OB b->b<w.heap.size)
 have hpl:=hps.1
 unfold maxLen at hpl
 obtain⟨er,her⟩:∃ er,er=checkN n calls picks.length:=⟨_,rfl⟩
 rw [<-her] at C ⊢
 have Her:=Lib.hid her
 clear h hps hpw hga hra hwa hsa hcs her hsf hthr hpx
 go_enter Try.func27,Try.ntmps27
 go_wp2_with fail
 rw [<-Hwa.out]
 refine C.out.mono ?_
 rintro e w1 ⟨rfl,hb1⟩
 have hr1:=(hb1.block _ (aC Hra.out)).trans Hra.out
 have Hb1:=Lib.hid hb1;have Hr1:=Lib.hid hr1
 clear hb1 hr1
 by_cases xR:er=0
 ·subst xR
  have hck:=gM Her.out.symm
  have Hsf0:=Lib.hid (Hsf.out Her.out.symm)
  have Hthr0:=Lib.hid (λ(st:aQ S) (x:Int) (q:Nat) (hx:x=(q:Int)) (hne:iI calls st.fin x≠none)=>KG Her.out.symm hx hne Hthr.out)
  have B:=Lib.hid (EG (λb=>X b∨b=w.heap.size) w1 o0 n calls ws ov (.slice ca calls.length cc) wv (Hh.out.grown (Gr.trans Hga.out Hb1.out) (λb hb=>by have h1:=aC Hra.out;have h2:=Hb1.out.size;rcases hb with hb|hb;exact .inl hb;exact .inr (by omega)) (λb hb=>.inl hb)) hck.1)
  have hpk:=hck.2
  have Hck:=Lib.hid hck
  clear C hck
  go_wp2_with fail
  refine B.out.mono ?_
  rintro e w2 ⟨J,hJ,rfl,hb2,hst⟩
  have HJ:=Lib.hid hJ;have Hb2:=Lib.hid hb2;have Hst:=Lib.hid hst
  clear hJ hb2 hst
  go_wp2
  go_loopw [39] (λi wr=>∃ k:Nat,k<=picks.length/\i=.int .i64 k/\Chg R.OB w1 wr/\tX R calls wr J ov (.slice ca calls.length cc) w1.heap.size (eO S calls (bT S o0 ws calls) (picks.take k))) (λi _=>picks.length - (intOf i).toNat)
  case atStart=>exact⟨0,Nat.zero_le _,rfl,Chg.of_below Hb2.out,Hst.out⟩
  case round=>
   obtain⟨k,hk,rfl,hbr,hst⟩:=hrel
   by_cases hlt:k<picks.length
   ·obtain⟨b3,TA,rfl,hc3⟩:=((Hps.out.grown (Gr.trans Hga.out Hb1.out)).chg hbr (Hpx.out (by omega))).elem (Gr.refl wr) hlt
    obtain⟨p,hpv⟩:∃ p,picks[k]=p:=⟨_,rfl⟩
    have hd:picks.take (k+1)=picks.take k++[p]:=by rw [List.take_succ_eq_append_getElem hlt,hpv]
    have c0:wr.cell? ⟨b3,TA+k,none⟩=some (.int .i64 p):=by have h0:=hc3 0 (by omega);rw [Nat.mul_one,Nat.add_zero] at h0;rw [h0];simp [gQ,List.getD_eq_getElem?_getD,hlt,hpv]
    have hpw:(Lit.int .i64 p).wf=true:=by rw [<-hpv];exact Hpw.out _ (List.getElem_mem hlt)
    have htk:=qK ok.now (bT S o0 ws calls) (picks.take k) (calls:=calls)
    rw [List.length_take,Nat.min_eq_left hk] at htk
    have TT:(eO S calls (bT S o0 ws calls) (picks.take k)).wd.now+(eO S calls (bT S o0 ws calls) (picks.take k)).idle=k:=by rw [htk];simp [bT,dK]
    have P:=Lib.hid (FM ok hdN calls wr J ov (.slice ca calls.length cc) w1.heap.size _ p hst hpw (Hsf0.out _ p (picks.drop (k+1)) (by rw [<-hpv,List.getElem_cons_drop,List.take_append_drop])) (by omega) (by omega) (Hthr0.out _ p))
    have Hd:=Lib.hid hd;have Hbr:=Lib.hid hbr
    have hl1:(k:Int)<(picks.length:Int):=by omega
    clear hst hc3 hpv hd hbr htk TT
    go_wp2_with fail
    refine P.out.mono ?_
    rintro e w3 ⟨⟨bb,rfl⟩,hch,RB⟩
    have Hch:=Lib.hid hch;have Hst3:=Lib.hid RB
    clear hch RB
    go_wp2
    go_roundw
    case rel=>exact⟨k+1,by omega,by go_num,((Hbr.out.mono (S':=PB R w1.heap.size) (λb _ h=>.inr h)).trans Hch.out).mono (λb hb h=>h.elim (λh9=>absurd hb (by omega)) id),by rw [Hd.out,wP];exact Hst3.out⟩
    case measure=>simp [intOf]<;>omega
   ·have hl1:¬ (k:Int)<(picks.length:Int):=by omega
    obtain rfl:k=picks.length:=by omega
    rw [List.take_length] at hst
    obtain⟨G,hG⟩:=hst
    have E:=Lib.hid (zY ok nl calls wr J ov (.slice ca calls.length cc) w1.heap.size G _ hG)
    have hr2:wr.heap[w.heap.size]?=some (.cells #[.slice none 0 0,.slice none 0 0,.int .i64 0,.int .i64 0,.int .i64 0,.int .i64 0,.int .i64 0,.int .i64 0,.int .i64 0] 32 (0,0)):=(hbr.block _ (aC Hr1.out) (λh9=>Nat.lt_irrefl _ (Hob.out _ h9))).trans Hr1.out
    have Hbr:=Lib.hid hbr;have Hr2:=Lib.hid hr2
    clear hG hbr hr2
    go_wp2_with fail
    refine E.out.mono ?_
    rintro e w3 ⟨ea,ec,va,vc,ers,rfl,hrep,hb3⟩
    have hr3:w3.heap[w.heap.size]?=some (.cells #[.slice none 0 0,.slice none 0 0,.int .i64 0,.int .i64 0,.int .i64 0,.int .i64 0,.int .i64 0,.int .i64 0,.int .i64 0] 32 (0,0)):=(hb3.block _ (aC Hr1.out)).trans Hr2.out
    have g0:w3.cell? ⟨w.heap.size,0,none⟩=some (.slice none 0 0):=by rw [aA hr3];rfl
    have QK:w3.frozen? ⟨w.heap.size,0,none⟩=false:=aB hr3 0
    have g1:w3.cell? ⟨w.heap.size,1,none⟩=some (.slice none 0 0):=by rw [aA hr3];rfl
    have QG:w3.frozen? ⟨w.heap.size,1,none⟩=false:=aB hr3 1
    have g2:w3.cell? ⟨w.heap.size,2,none⟩=some (.int .i64 0):=by rw [aA hr3];rfl
    have QR:w3.frozen? ⟨w.heap.size,2,none⟩=false:=aB hr3 2
    have g3:w3.cell? ⟨w.heap.size,3,none⟩=some (.int .i64 0):=by rw [aA hr3];rfl
    have QW:w3.frozen? ⟨w.heap.size,3,none⟩=false:=aB hr3 3
    have g4:w3.cell? ⟨w.heap.size,4,none⟩=some (.int .i64 0):=by rw [aA hr3];rfl
    have RD:w3.frozen? ⟨w.heap.size,4,none⟩=false:=aB hr3 4
    have g5:w3.cell? ⟨w.heap.size,5,none⟩=some (.int .i64 0):=by rw [aA hr3];rfl
    have RH:w3.frozen? ⟨w.heap.size,5,none⟩=false:=aB hr3 5
    have g6:w3.cell? ⟨w.heap.size,6,none⟩=some (.int .i64 0):=by rw [aA hr3];rfl
    have PU:w3.frozen? ⟨w.heap.size,6,none⟩=false:=aB hr3 6
    have g7:w3.cell? ⟨w.heap.size,7,none⟩=some (.int .i64 0):=by rw [aA hr3];rfl
    have PY:w3.frozen? ⟨w.heap.size,7,none⟩=false:=aB hr3 7
    have g8:w3.cell? ⟨w.heap.size,8,none⟩=some (.int .i64 0):=by rw [aA hr3];rfl
    have PO:w3.frozen? ⟨w.heap.size,8,none⟩=false:=aB hr3 8
    obtain⟨rp,hrp⟩:∃ rp,rp=oM S (eO S calls (bT S o0 ws calls) picks):=⟨_,rfl⟩
    rw [<-hrp] at hrep
    obtain⟨en,hen⟩:∃ en,en=rp.evs.length:=⟨_,rfl⟩
    obtain⟨vn,hvn⟩:∃ vn,vn=rp.words.length:=⟨_,rfl⟩
    rw [<-hrp,<-hen,<-hvn]
    have Hrep:=Lib.hid hrep;have Hr3:=Lib.hid hr3;have Hb3:=Lib.hid hb3;have Hrp:=Lib.hid hrp;have Hen:=Lib.hid hen;have Hvn:=Lib.hid hvn
    clear hrep hr3 hb3 hrp hen hvn
    unfold kS
    go_wp2
    obtain⟨w7,hw7⟩:∃ w7,w7=(((((((((w3.setCell ⟨w.heap.size,0,none⟩ (.slice ea en ec)).setCell ⟨w.heap.size,1,none⟩ (.slice va vn vc)).setCell ⟨w.heap.size,2,none⟩ (.int .i64 (rp.c.read:Int))).setCell ⟨w.heap.size,3,none⟩ (.int .i64 (rp.c.write:Int))).setCell ⟨w.heap.size,4,none⟩ (.int .i64 (rp.c.swap:Int))).setCell ⟨w.heap.size,5,none⟩ (.int .i64 (rp.c.add:Int))).setCell ⟨w.heap.size,6,none⟩ (.int .i64 (rp.c.fault:Int))).setCell ⟨w.heap.size,7,none⟩ (.int .i64 (rp.ticks:Int))).setCell ⟨w.heap.size,8,none⟩ (.int .i64 (rp.idle:Int))):=⟨_,rfl⟩
    rw [<-hw7]
    have kR:w7.heap[w.heap.size]?=some (.cells #[.slice ea en ec,.slice va vn vc,.int .i64 (rp.c.read:Int),.int .i64 (rp.c.write:Int),.int .i64 (rp.c.swap:Int),.int .i64 (rp.c.add:Int),.int .i64 (rp.c.fault:Int),.int .i64 (rp.ticks:Int),.int .i64 (rp.idle:Int)] 32 (0,0)):=by rw [hw7,(aH (aH (aH (aH (aH (aH (aH (aH (aH Hr3.out _ _) _ _) _ _) _ _) _ _) _ _) _ _) _ _) _ _)];rfl
    have lY:Chg (λb=>b=w.heap.size) w3 w7:=by rw [hw7];exact((((((((((Chg.refl (λb=>b=w.heap.size) w3).setCell (by exact .inl rfl) _).setCell (by exact .inl rfl) _).setCell (by exact .inl rfl) _).setCell (by exact .inl rfl) _).setCell (by exact .inl rfl) _).setCell (by exact .inl rfl) _).setCell (by exact .inl rfl) _).setCell (by exact .inl rfl) _).setCell (by exact .inl rfl) _)
    have k0:w7.cell? ⟨w.heap.size,0,none⟩=some (.slice ea en ec):=by rw [aA kR];rfl
    have k1:w7.cell? ⟨w.heap.size,1,none⟩=some (.slice va vn vc):=by rw [aA kR];rfl
    have k2:w7.cell? ⟨w.heap.size,2,none⟩=some (.int .i64 (rp.c.read:Int)):=by rw [aA kR];rfl
    have k3:w7.cell? ⟨w.heap.size,3,none⟩=some (.int .i64 (rp.c.write:Int)):=by rw [aA kR];rfl
    have k4:w7.cell? ⟨w.heap.size,4,none⟩=some (.int .i64 (rp.c.swap:Int)):=by rw [aA kR];rfl
    have k5:w7.cell? ⟨w.heap.size,5,none⟩=some (.int .i64 (rp.c.add:Int)):=by rw [aA kR];rfl
    have k6:w7.cell? ⟨w.heap.size,6,none⟩=some (.int .i64 (rp.c.fault:Int)):=by rw [aA kR];rfl
    have k7:w7.cell? ⟨w.heap.size,7,none⟩=some (.int .i64 (rp.ticks:Int)):=by rw [aA kR];rfl
    have k8:w7.cell? ⟨w.heap.size,8,none⟩=some (.int .i64 (rp.idle:Int)):=by rw [aA kR];rfl
    clear hw7 kR
    refine bodyPost_ret (v:=.tuple #[kS (.slice ea en ec) (.slice va vn vc) rp,.int .i64 0]) (by simp [results,Try.results27 ,go_sem,k0,k1,k2,k3,k4,k5,k6,k7,k8,kS]) rfl ?_
    have hs1:=aC Hr1.out
    have hall:Chg (PB R w.heap.size) w w7:=((((Chg.of_below Hga.out).trans (Chg.of_below Hb1.out)).trans ((Chg.refl _ _).trans (Hbr.out.mono (λb _ h=>.inr h)))).trans ((show Chg (PB R w.heap.size) wr w3 from⟨Hb3.out.os,Hb3.out.tape,Hb3.out.output,Hb3.out.size,λk hk hn=>Hb3.out.block k (by have h9:¬ w.heap.size<=k:=λh9=>hn (.inl h9);omega)⟩))).trans (lY.mono (λb _ h=>.inl (by omega)))
    have hen:=Hen.out;have hvn:=Hvn.out
    subst hen hvn
    have h9:rp=iM S o0 ws calls picks:=Hrp.out
    refine⟨hall.mono (λb hb h=>h.elim (λh9=>absurd hb (by omega)) id),.inr ⟨rfl,ea,ec,va,vc,ers,by rw [<-h9],?_⟩⟩
    have h8:=(Hrep.out.chg lY (λb hb=>by rw [HJ.out];exact⟨.inr hb,by omega⟩)).low (Old':=X) (B':=w.heap.size) (by omega) (λb hb=>by rw [HJ.out];exact .inl hb)
    rw [h9] at h8
    exact h8
 ·have hr1:=Hr1.out
  have g0:w1.cell? ⟨w.heap.size,0,none⟩=some (.slice none 0 0):=by rw [aA hr1];rfl
  have QK:w1.frozen? ⟨w.heap.size,0,none⟩=false:=aB hr1 0
  have g1:w1.cell? ⟨w.heap.size,1,none⟩=some (.slice none 0 0):=by rw [aA hr1];rfl
  have QG:w1.frozen? ⟨w.heap.size,1,none⟩=false:=aB hr1 1
  have g2:w1.cell? ⟨w.heap.size,2,none⟩=some (.int .i64 0):=by rw [aA hr1];rfl
  have QR:w1.frozen? ⟨w.heap.size,2,none⟩=false:=aB hr1 2
  have g3:w1.cell? ⟨w.heap.size,3,none⟩=some (.int .i64 0):=by rw [aA hr1];rfl
  have QW:w1.frozen? ⟨w.heap.size,3,none⟩=false:=aB hr1 3
  have g4:w1.cell? ⟨w.heap.size,4,none⟩=some (.int .i64 0):=by rw [aA hr1];rfl
  have RD:w1.frozen? ⟨w.heap.size,4,none⟩=false:=aB hr1 4
  have g5:w1.cell? ⟨w.heap.size,5,none⟩=some (.int .i64 0):=by rw [aA hr1];rfl
  have RH:w1.frozen? ⟨w.heap.size,5,none⟩=false:=aB hr1 5
  have g6:w1.cell? ⟨w.heap.size,6,none⟩=some (.int .i64 0):=by rw [aA hr1];rfl
  have PU:w1.frozen? ⟨w.heap.size,6,none⟩=false:=aB hr1 6
  have g7:w1.cell? ⟨w.heap.size,7,none⟩=some (.int .i64 0):=by rw [aA hr1];rfl
  have PY:w1.frozen? ⟨w.heap.size,7,none⟩=false:=aB hr1 7
  have g8:w1.cell? ⟨w.heap.size,8,none⟩=some (.int .i64 0):=by rw [aA hr1];rfl
  have PO:w1.frozen? ⟨w.heap.size,8,none⟩=false:=aB hr1 8
  have Her0:=Lib.hid xR
  clear hr1
  go_wp2
  obtain⟨w7,hw7⟩:∃ w7,w7=(((((((((w1.setCell ⟨w.heap.size,0,none⟩ (.slice none 0 0)).setCell ⟨w.heap.size,1,none⟩ (.slice none 0 0)).setCell ⟨w.heap.size,2,none⟩ (.int .i64 0)).setCell ⟨w.heap.size,3,none⟩ (.int .i64 0)).setCell ⟨w.heap.size,4,none⟩ (.int .i64 0)).setCell ⟨w.heap.size,5,none⟩ (.int .i64 0)).setCell ⟨w.heap.size,6,none⟩ (.int .i64 0)).setCell ⟨w.heap.size,7,none⟩ (.int .i64 0)).setCell ⟨w.heap.size,8,none⟩ (.int .i64 0)):=⟨_,rfl⟩
  rw [<-hw7]
  have kR:w7.heap[w.heap.size]?=some (.cells #[.slice none 0 0,.slice none 0 0,.int .i64 0,.int .i64 0,.int .i64 0,.int .i64 0,.int .i64 0,.int .i64 0,.int .i64 0] 32 (0,0)):=by rw [hw7,(aH (aH (aH (aH (aH (aH (aH (aH (aH Hr1.out _ _) _ _) _ _) _ _) _ _) _ _) _ _) _ _) _ _)];rfl
  have lY:Chg (λb=>b=w.heap.size) w1 w7:=by rw [hw7];exact((((((((((Chg.refl (λb=>b=w.heap.size) w1).setCell (by exact .inl rfl) _).setCell (by exact .inl rfl) _).setCell (by exact .inl rfl) _).setCell (by exact .inl rfl) _).setCell (by exact .inl rfl) _).setCell (by exact .inl rfl) _).setCell (by exact .inl rfl) _).setCell (by exact .inl rfl) _).setCell (by exact .inl rfl) _)
  have k0:w7.cell? ⟨w.heap.size,0,none⟩=some (.slice none 0 0):=by rw [aA kR];rfl
  have k1:w7.cell? ⟨w.heap.size,1,none⟩=some (.slice none 0 0):=by rw [aA kR];rfl
  have k2:w7.cell? ⟨w.heap.size,2,none⟩=some (.int .i64 0):=by rw [aA kR];rfl
  have k3:w7.cell? ⟨w.heap.size,3,none⟩=some (.int .i64 0):=by rw [aA kR];rfl
  have k4:w7.cell? ⟨w.heap.size,4,none⟩=some (.int .i64 0):=by rw [aA kR];rfl
  have k5:w7.cell? ⟨w.heap.size,5,none⟩=some (.int .i64 0):=by rw [aA kR];rfl
  have k6:w7.cell? ⟨w.heap.size,6,none⟩=some (.int .i64 0):=by rw [aA kR];rfl
  have k7:w7.cell? ⟨w.heap.size,7,none⟩=some (.int .i64 0):=by rw [aA kR];rfl
  have k8:w7.cell? ⟨w.heap.size,8,none⟩=some (.int .i64 0):=by rw [aA kR];rfl
  clear hw7 kR
  refine bodyPost_ret (v:=.tuple #[kS (.slice none 0 0) (.slice none 0 0) ⟨[],[],c0,0,0⟩,.int .i64 er]) (by simp [results,Try.results27 ,go_sem,k0,k1,k2,k3,k4,k5,k6,k7,k8,kS,c0]) rfl ?_
  have hall:Chg (λb=>w.heap.size<=b) w w7:=((Chg.of_below Hga.out).trans (Chg.of_below Hb1.out)).trans (lY.mono (λb _ h=>by omega))
  exact⟨hall.mono (λb hb h=>absurd hb (by omega)),.inl ⟨Her0.out,rfl⟩⟩
end
end Go.Proofs.Ytifhldnmcdbpfaa
