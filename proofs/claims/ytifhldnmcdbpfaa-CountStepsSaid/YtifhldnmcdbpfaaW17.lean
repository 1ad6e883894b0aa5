/- Layer 6: a whole play: loom.Play. -/
import Derived.Test.YtifhldnmcdbpfaaW15
import Derived.Test.YtifhldnmcdbpfaaW16
import Derived.Test.YtifhldnmcdbpfaaW13
set_option maxRecDepth 100000
set_option linter.unusedVariables false
set_option linter.unusedSimpArgs false
set_option linter.unnecessarySimpa false
namespace Go.Proofs.Ytifhldnmcdbpfaa
open List renaming getElem_toArray → zq1, getElem_cons_zero → zq2, getElem_cons_succ → zq3, setIfInBounds_toArray → zq4, set_cons_zero → zq5, set_cons_succ → zq6
section
open Go.RowKit
variable {S:Sys} {R:Real S}
def rF (O X:Nat->Prop) (w w':World) (er:Int) (r:jC) (e:Ending):Prop:=
 Chg O w w'/\((er≠0/\e=.returned (.tuple #[mQ (.slice none 0 0) (.slice none 0 0) ⟨[],[],c0,0,0⟩,.int .i64 er]))∨
  (er=0/\∃ ea ec va vc ers,e=.returned (.tuple #[mQ (.slice ea r.evs.length ec) (.slice va r.words.length vc) r,.int .i64 0])/\iC X w.heap.size w' (.slice ea r.evs.length ec) (.slice va r.words.length vc) ers r))
theorem iC.low {Old Old':Nat->Prop} {B B':Nat} {w:World} {ev wv:Value} {ers:List (Value×Value)} {r:jC} (h:iC Old B w ev wv ers r) (hB:B'<=B) (ho:∀ b,Old' b->Old b):iC Old' B' w ev wv ers r:=
 ⟨wF h.row hB,h.elen,λi hi=>⟨(h.ans i hi).1.less ho,(h.ans i hi).2.less ho⟩,wF h.words hB⟩
theorem gM {n:Int} {calls:List aF} {np:Nat} (h:checkN n calls np=0):fI n calls=0/\np<=65536:=by
 unfold checkN at h
 split at h
 ·cases h
 ·split at h
  ·cases h
  ·exact⟨h,by omega⟩
theorem xH (calls:List aF) (st:aQ S) (l:List Int) (p:Int):eH S calls st (l++[p])=gV S calls (eH S calls st l) p:=by
 unfold eH;rw [List.foldl_append];rfl
theorem pY {calls:List aF} (hnow:∀ o wd p s,(S.step o wd p s).2.1.now=wd.now) (st:aQ S):∀(l:List Int),(eH S calls st l).wd.now+(eH S calls st l).idle=st.wd.now+st.idle+l.length:=by
 intro l
 induction l generalizing st with
 | nil=>rfl
 | cons p l ih=>
  show(eH S calls (gV S calls st p) l).wd.now+(eH S calls (gV S calls st p) l).idle=_
  rw [ih,BC hnow];simp;omega
theorem LC {n:Int} {calls:List aF} {np:Nat} {fin:List Bool} {x:Int} {q:Nat} {P:Nat->Prop} (hck:checkN n calls np=0) (hx:x=(q:Int)) (hne:iF calls fin x≠none) (h:∀ q:Nat,q<16->(q:Int)<n->P q):P q:=by
 obtain⟨hw0,_⟩:=gM hck
 obtain⟨z1,z2,z3,z4⟩:=iL hw0
 cases hN:iF calls fin x with
 | none=>exact absurd hN hne
 | some c=>
  obtain⟨hcl,hth,_⟩:=dO hN
  unfold iQ at z4
  rw [List.any_eq_false] at z4
  have e:calls.getD c d0=calls[c]:=by simp [List.getD_eq_getElem?_getD,hcl]
  have h9:pE n calls[c]=false:=by simpa using z4 calls[c] (List.getElem_mem hcl)
  rw [e] at hth
  have h8:0<=calls[c].thread/\calls[c].thread<n:=by
   obtain⟨y,hy⟩:∃ y,y=calls[c]:=⟨_,rfl⟩
   rw [<-hy] at h9 ⊢
   unfold pE at h9
   simp at h9
   omega
  exact h q (by omega) (by omega)
set_option maxHeartbeats 4000000 in
theorem DJ {X:Nat->Prop} (ok:dP R) (nl:pQ R) (hdN:R.dN<=1000) (w:World) (o0:S.ω) (n:Int) (calls:List aF) (ws:List Nat) (picks:List Int) (ov cv wv:Value) (pa:Option Addr) (pc:Nat)
  (h:jU R X w o0 n calls ws ov cv wv) (hps:bS w pa picks.length 1 (gQ picks)) (hpx:0<picks.length->∀ b off,pa=some ⟨b,off,none⟩->¬ R.OB b) (hpw:∀ x∈picks,(Lit.int .i64 x).wf=true)
  (hsf:checkN n calls picks.length=0->∀ l p m,picks=l++p::m->oO R calls (eH S calls (bT S o0 ws calls) l) p) (hthr:∀ q:Nat,q<16->(q:Int)<n->R.thr q:=by intro _ h _;exact h) :
  Calls Try.prog 27 #[.int .i64 n,ov,wv,cv,.slice pa picks.length pc] w λe w'=>rF R.OB X w w' (checkN n calls picks.length) (iO S o0 ws calls picks) e:=by
 obtain⟨wa,hwa⟩:∃ wa,wa=w.alloc (.cells #[.slice none 0 0,.slice none 0 0,.int .i64 0,.int .i64 0,.int .i64 0,.int .i64 0,.int .i64 0,.int .i64 0,.int .i64 0] 32):=⟨_,rfl⟩
 have hga:Below w.heap.size w wa:=by rw [hwa];exact Gr.new _ _
 have hra:wa.heap[w.heap.size]?=some (.cells #[.slice none 0 0,.slice none 0 0,.int .i64 0,.int .i64 0,.int .i64 0,.int .i64 0,.int .i64 0,.int .i64 0,.int .i64 0] 32 (0,0)):=by rw [hwa];exact heap_alloc_new _ _
 have hsa:wa.heap.size=w.heap.size+1:=by rw [hwa];simp
 have C:=Lib.hid (λ(ca:Option Addr) (cc:Nat) (hcs:bS w ca calls.length 6 (gJ calls))=>uM n calls picks.length ca pa cc pc wa (hcs.grown hga) hps.1 (λx hx=>(h.ok x hx).thread))
 obtain⟨ca,cc,rfl,hcs,_⟩:=h.cs
 replace C:=Lib.hid (C.out ca cc hcs)
 have Hh:=Lib.hid h;have Hps:=Lib.hid hps;have Hpw:=Lib.hid hpw;have Hga:=Lib.hid hga;have Hra:=Lib.hid hra;have Hwa:=Lib.hid hwa;have Hsa:=Lib.hid hsa;have Hsf:=Lib.hid hsf;have Hthr:=Lib.hid hthr;have Hpx:=Lib.hid hpx;have Hob:=Lib.hid (λb hb=>h.xlt b (h.ob b hb):∀ b,R.OB b->b<w.heap.size)
 have hpl:=hps.1
 unfold maxLen at hpl
 obtain⟨er,her⟩:∃ er,er=checkN n calls picks.length:=⟨_,rfl⟩
 rw [<-her] at C ⊢
 have Her:=Lib.hid her
 clear h hps hpw hga hra hwa hsa hcs her hsf hthr hpx
 go_enter Try.func27,Try.ntmps27
 go_wp2_with fail
 rw [<-Hwa.out]
 refine C.out.mono ?_
 rintro e w1 ⟨rfl,hb1⟩
 have hr1:=(hb1.block _ (aC Hra.out)).trans Hra.out
 have Hb1:=Lib.hid hb1;have Hr1:=Lib.hid hr1
 clear hb1 hr1
 by_cases wK:er=0
 ·subst wK
  have hck:=gM Her.out.symm
  have Hsf0:=Lib.hid (Hsf.out Her.out.symm)
  have Hthr0:=Lib.hid (λ(st:aQ S) (x:Int) (q:Nat) (hx:x=(q:Int)) (hne:iF calls st.fin x≠none)=>LC Her.out.symm hx hne Hthr.out)
  have B:=Lib.hid (DI (λb=>X b∨b=w.heap.size) w1 o0 n calls ws ov (.slice ca calls.length cc) wv (Hh.out.grown (Gr.trans Hga.out Hb1.out) (λb hb=>by have h1:=aC Hra.out;have h2:=Hb1.out.size;rcases hb with hb|hb;exact .inl hb;exact .inr (by omega)) (λb hb=>.inl hb)) hck.1)
  have hpk:=hck.2
  have Hck:=Lib.hid hck
  clear C hck
  go_wp2_with fail
  refine B.out.mono ?_
  rintro e w2 ⟨J,hJ,rfl,hb2,hst⟩
  have HJ:=Lib.hid hJ;have Hb2:=Lib.hid hb2;have Hst:=Lib.hid hst
  clear hJ hb2 hst
  go_wp2
  go_loopw [39] (λi wr=>∃ k:Nat,k<=picks.length/\i=.int .i64 k/\Chg R.OB w1 wr/\sU R calls wr J ov (.slice ca calls.length cc) w1.heap.size (eH S calls (bT S o0 ws calls) (picks.take k))) (λi _=>picks.length - (intOf i).toNat)
  case atStart=>exact⟨0,Nat.zero_le _,rfl,Chg.of_below Hb2.out,Hst.out⟩
  case round=>
   obtain⟨k,hk,rfl,hbr,hst⟩:=hrel
   by_cases hlt:k<picks.length
   ·obtain⟨b3,SB,rfl,hc3⟩:=((Hps.out.grown (Gr.trans Hga.out Hb1.out)).chg hbr (Hpx.out (by omega))).elem (Gr.refl wr) hlt
    obtain⟨p,hpv⟩:∃ p,picks[k]=p:=⟨_,rfl⟩
    have hd:picks.take (k+1)=picks.take k++[p]:=by rw [List.take_succ_eq_append_getElem hlt,hpv]
    have c0:wr.cell? ⟨b3,SB+k,none⟩=some (.int .i64 p):=by have h0:=hc3 0 (by omega);rw [Nat.mul_one,Nat.add_zero] at h0;rw [h0];simp [gQ,List.getD_eq_getElem?_getD,hlt,hpv]
    have hpw:(Lit.int .i64 p).wf=true:=by rw [<-hpv];exact Hpw.out _ (List.getElem_mem hlt)
    have htk:=pY ok.now (bT S o0 ws calls) (picks.take k) (calls:=calls)
    rw [List.length_take,Nat.min_eq_left hk] at htk
    have TT:(eH S calls (bT S o0 ws calls) (picks.take k)).wd.now+(eH S calls (bT S o0 ws calls) (picks.take k)).idle=k:=by rw [htk];simp [bT,dK]
    have P:=Lib.hid (II ok hdN calls wr J ov (.slice ca calls.length cc) w1.heap.size _ p hst hpw (Hsf0.out _ p (picks.drop (k+1)) (by rw [<-hpv,List.getElem_cons_drop,List.take_append_drop])) (by omega) (by omega) (Hthr0.out _ p))
    have Hd:=Lib.hid hd;have Hbr:=Lib.hid hbr
    have hl1:(k:Int)<(picks.length:Int):=by omega
    clear hst hc3 hpv hd hbr htk TT
    go_wp2_with fail
    refine P.out.mono ?_
    rintro e w3 ⟨⟨bb,rfl⟩,hch,QM⟩
    have Hch:=Lib.hid hch;have Hst3:=Lib.hid QM
    clear hch QM
    go_wp2
    go_roundw
    case rel=>exact⟨k+1,by omega,by go_num,((Hbr.out.mono (S':=PB R w1.heap.size) (λb _ h=>.inr h)).trans Hch.out).mono (λb hb h=>h.elim (λh9=>absurd hb (by omega)) id),by rw [Hd.out,xH];exact Hst3.out⟩
    case measure=>simp [intOf]<;>omega
   ·have hl1:¬ (k:Int)<(picks.length:Int):=by omega
    obtain rfl:k=picks.length:=by omega
    rw [List.take_length] at hst
    obtain⟨G,hG⟩:=hst
    have E:=Lib.hid (AR ok nl calls wr J ov (.slice ca calls.length cc) w1.heap.size G _ hG)
    have hr2:wr.heap[w.heap.size]?=some (.cells #[.slice none 0 0,.slice none 0 0,.int .i64 0,.int .i64 0,.int .i64 0,.int .i64 0,.int .i64 0,.int .i64 0,.int .i64 0] 32 (0,0)):=(hbr.block _ (aC Hr1.out) (λh9=>Nat.lt_irrefl _ (Hob.out _ h9))).trans Hr1.out
    have Hbr:=Lib.hid hbr;have Hr2:=Lib.hid hr2
    clear hG hbr hr2
    go_wp2_with fail
    refine E.out.mono ?_
    rintro e w3 ⟨ea,ec,va,vc,ers,rfl,hrep,hb3⟩
    have hr3:w3.heap[w.heap.size]?=some (.cells #[.slice none 0 0,.slice none 0 0,.int .i64 0,.int .i64 0,.int .i64 0,.int .i64 0,.int .i64 0,.int .i64 0,.int .i64 0] 32 (0,0)):=(hb3.block _ (aC Hr1.out)).trans Hr2.out
    have g0:w3.cell? ⟨w.heap.size,0,none⟩=some (.slice none 0 0):=by rw [aA hr3];rfl
    have RF:w3.frozen? ⟨w.heap.size,0,none⟩=false:=aB hr3 0
    have g1:w3.cell? ⟨w.heap.size,1,none⟩=some (.slice none 0 0):=by rw [aA hr3];rfl
    have QN:w3.frozen? ⟨w.heap.size,1,none⟩=false:=aB hr3 1
    have g2:w3.cell? ⟨w.heap.size,2,none⟩=some (.int .i64 0):=by rw [aA hr3];rfl
    have PU:w3.frozen? ⟨w.heap.size,2,none⟩=false:=aB hr3 2
    have g3:w3.cell? ⟨w.heap.size,3,none⟩=some (.int .i64 0):=by rw [aA hr3];rfl
    have QA:w3.frozen? ⟨w.heap.size,3,none⟩=false:=aB hr3 3
    have g4:w3.cell? ⟨w.heap.size,4,none⟩=some (.int .i64 0):=by rw [aA hr3];rfl
    have QH:w3.frozen? ⟨w.heap.size,4,none⟩=false:=aB hr3 4
    have g5:w3.cell? ⟨w.heap.size,5,none⟩=some (.int .i64 0):=by rw [aA hr3];rfl
    have PQ:w3.frozen? ⟨w.heap.size,5,none⟩=false:=aB hr3 5
    have g6:w3.cell? ⟨w.heap.size,6,none⟩=some (.int .i64 0):=by rw [aA hr3];rfl
    have PW:w3.frozen? ⟨w.heap.size,6,none⟩=false:=aB hr3 6
    have g7:w3.cell? ⟨w.heap.size,7,none⟩=some (.int .i64 0):=by rw [aA hr3];rfl
    have QG:w3.frozen? ⟨w.heap.size,7,none⟩=false:=aB hr3 7
    have g8:w3.cell? ⟨w.heap.size,8,none⟩=some (.int .i64 0):=by rw [aA hr3];rfl
    have RA:w3.frozen? ⟨w.heap.size,8,none⟩=false:=aB hr3 8
    obtain⟨rp,hrp⟩:∃ rp,rp=oI S (eH S calls (bT S o0 ws calls) picks):=⟨_,rfl⟩
    rw [<-hrp] at hrep
    obtain⟨en,hen⟩:∃ en,en=rp.evs.length:=⟨_,rfl⟩
    obtain⟨vn,hvn⟩:∃ vn,vn=rp.words.length:=⟨_,rfl⟩
    rw [<-hrp,<-hen,<-hvn]
    have Hrep:=Lib.hid hrep;have Hr3:=Lib.hid hr3;have Hb3:=Lib.hid hb3;have Hrp:=Lib.hid hrp;have Hen:=Lib.hid hen;have Hvn:=Lib.hid hvn
    clear hrep hr3 hb3 hrp hen hvn
    unfold mQ
    go_wp2
    obtain⟨w7,hw7⟩:∃ w7,w7=(((((((((w3.setCell ⟨w.heap.size,0,none⟩ (.slice ea en ec)).setCell ⟨w.heap.size,1,none⟩ (.slice va vn vc)).setCell ⟨w.heap.size,2,none⟩ (.int .i64 (rp.c.read:Int))).setCell ⟨w.heap.size,3,none⟩ (.int .i64 (rp.c.write:Int))).setCell ⟨w.heap.size,4,none⟩ (.int .i64 (rp.c.swap:Int))).setCell ⟨w.heap.size,5,none⟩ (.int .i64 (rp.c.add:Int))).setCell ⟨w.heap.size,6,none⟩ (.int .i64 (rp.c.fault:Int))).setCell ⟨w.heap.size,7,none⟩ (.int .i64 (rp.ticks:Int))).setCell ⟨w.heap.size,8,none⟩ (.int .i64 (rp.idle:Int))):=⟨_,rfl⟩
    rw [<-hw7]
    have kM:w7.heap[w.heap.size]?=some (.cells #[.slice ea en ec,.slice va vn vc,.int .i64 (rp.c.read:Int),.int .i64 (rp.c.write:Int),.int .i64 (rp.c.swap:Int),.int .i64 (rp.c.add:Int),.int .i64 (rp.c.fault:Int),.int .i64 (rp.ticks:Int),.int .i64 (rp.idle:Int)] 32 (0,0)):=by rw [hw7,(aH (aH (aH (aH (aH (aH (aH (aH (aH Hr3.out _ _) _ _) _ _) _ _) _ _) _ _) _ _) _ _) _ _)];rfl
    have lZ:Chg (λb=>b=w.heap.size) w3 w7:=by rw [hw7];exact((((((((((Chg.refl (λb=>b=w.heap.size) w3).setCell (by exact .inl rfl) _).setCell (by exact .inl rfl) _).setCell (by exact .inl rfl) _).setCell (by exact .inl rfl) _).setCell (by exact .inl rfl) _).setCell (by exact .inl rfl) _).setCell (by exact .inl rfl) _).setCell (by exact .inl rfl) _).setCell (by exact .inl rfl) _)
    have k0:w7.cell? ⟨w.heap.size,0,none⟩=some (.slice ea en ec):=by rw [aA kM];rfl
    have k1:w7.cell? ⟨w.heap.size,1,none⟩=some (.slice va vn vc):=by rw [aA kM];rfl
    have k2:w7.cell? ⟨w.heap.size,2,none⟩=some (.int .i64 (rp.c.read:Int)):=by rw [aA kM];rfl
    have k3:w7.cell? ⟨w.heap.size,3,none⟩=some (.int .i64 (rp.c.write:Int)):=by rw [aA kM];rfl
    have k4:w7.cell? ⟨w.heap.size,4,none⟩=some (.int .i64 (rp.c.swap:Int)):=by rw [aA kM];rfl
    have k5:w7.cell? ⟨w.heap.size,5,none⟩=some (.int .i64 (rp.c.add:Int)):=by rw [aA kM];rfl
    have k6:w7.cell? ⟨w.heap.size,6,none⟩=some (.int .i64 (rp.c.fault:Int)):=by rw [aA kM];rfl
    have k7:w7.cell? ⟨w.heap.size,7,none⟩=some (.int .i64 (rp.ticks:Int)):=by rw [aA kM];rfl
    have k8:w7.cell? ⟨w.heap.size,8,none⟩=some (.int .i64 (rp.idle:Int)):=by rw [aA kM];rfl
    clear hw7 kM
    refine bodyPost_ret (v:=.tuple #[mQ (.slice ea en ec) (.slice va vn vc) rp,.int .i64 0]) (by simp [results,Try.results27 ,go_sem,k0,k1,k2,k3,k4,k5,k6,k7,k8,mQ]) rfl ?_
    have hs1:=aC Hr1.out
    have hall:Chg (PB R w.heap.size) w w7:=((((Chg.of_below Hga.out).trans (Chg.of_below Hb1.out)).trans ((Chg.refl _ _).trans (Hbr.out.mono (λb _ h=>.inr h)))).trans ((show Chg (PB R w.heap.size) wr w3 from⟨Hb3.out.os,Hb3.out.tape,Hb3.out.output,Hb3.out.size,λk hk hn=>Hb3.out.block k (by have h9:¬ w.heap.size<=k:=λh9=>hn (.inl h9);omega)⟩))).trans (lZ.mono (λb _ h=>.inl (by omega)))
    have hen:=Hen.out;have hvn:=Hvn.out
    subst hen hvn
    have h9:rp=iO S o0 ws calls picks:=Hrp.out
    refine⟨hall.mono (λb hb h=>h.elim (λh9=>absurd hb (by omega)) id),.inr ⟨rfl,ea,ec,va,vc,ers,by rw [<-h9],?_⟩⟩
    have h8:=(Hrep.out.chg lZ (λb hb=>by rw [HJ.out];exact⟨.inr hb,by omega⟩)).low (Old':=X) (B':=w.heap.size) (by omega) (λb hb=>by rw [HJ.out];exact .inl hb)
    rw [h9] at h8
    exact h8
 ·have hr1:=Hr1.out
  have g0:w1.cell? ⟨w.heap.size,0,none⟩=some (.slice none 0 0):=by rw [aA hr1];rfl
  have RF:w1.frozen? ⟨w.heap.size,0,none⟩=false:=aB hr1 0
  have g1:w1.cell? ⟨w.heap.size,1,none⟩=some (.slice none 0 0):=by rw [aA hr1];rfl
  have QN:w1.frozen? ⟨w.heap.size,1,none⟩=false:=aB hr1 1
  have g2:w1.cell? ⟨w.heap.size,2,none⟩=some (.int .i64 0):=by rw [aA hr1];rfl
  have PU:w1.frozen? ⟨w.heap.size,2,none⟩=false:=aB hr1 2
  have g3:w1.cell? ⟨w.heap.size,3,none⟩=some (.int .i64 0):=by rw [aA hr1];rfl
  have QA:w1.frozen? ⟨w.heap.size,3,none⟩=false:=aB hr1 3
  have g4:w1.cell? ⟨w.heap.size,4,none⟩=some (.int .i64 0):=by rw [aA hr1];rfl
  have QH:w1.frozen? ⟨w.heap.size,4,none⟩=false:=aB hr1 4
  have g5:w1.cell? ⟨w.heap.size,5,none⟩=some (.int .i64 0):=by rw [aA hr1];rfl
  have PQ:w1.frozen? ⟨w.heap.size,5,none⟩=false:=aB hr1 5
  have g6:w1.cell? ⟨w.heap.size,6,none⟩=some (.int .i64 0):=by rw [aA hr1];rfl
  have PW:w1.frozen? ⟨w.heap.size,6,none⟩=false:=aB hr1 6
  have g7:w1.cell? ⟨w.heap.size,7,none⟩=some (.int .i64 0):=by rw [aA hr1];rfl
  have QG:w1.frozen? ⟨w.heap.size,7,none⟩=false:=aB hr1 7
  have g8:w1.cell? ⟨w.heap.size,8,none⟩=some (.int .i64 0):=by rw [aA hr1];rfl
  have RA:w1.frozen? ⟨w.heap.size,8,none⟩=false:=aB hr1 8
  have Her0:=Lib.hid wK
  clear hr1
  go_wp2
  obtain⟨w7,hw7⟩:∃ w7,w7=(((((((((w1.setCell ⟨w.heap.size,0,none⟩ (.slice none 0 0)).setCell ⟨w.heap.size,1,none⟩ (.slice none 0 0)).setCell ⟨w.heap.size,2,none⟩ (.int .i64 0)).setCell ⟨w.heap.size,3,none⟩ (.int .i64 0)).setCell ⟨w.heap.size,4,none⟩ (.int .i64 0)).setCell ⟨w.heap.size,5,none⟩ (.int .i64 0)).setCell ⟨w.heap.size,6,none⟩ (.int .i64 0)).setCell ⟨w.heap.size,7,none⟩ (.int .i64 0)).setCell ⟨w.heap.size,8,none⟩ (.int .i64 0)):=⟨_,rfl⟩
  rw [<-hw7]
  have kM:w7.heap[w.heap.size]?=some (.cells #[.slice none 0 0,.slice none 0 0,.int .i64 0,.int .i64 0,.int .i64 0,.int .i64 0,.int .i64 0,.int .i64 0,.int .i64 0] 32 (0,0)):=by rw [hw7,(aH (aH (aH (aH (aH (aH (aH (aH (aH Hr1.out _ _) _ _) _ _) _ _) _ _) _ _) _ _) _ _) _ _)];rfl
  have lZ:Chg (λb=>b=w.heap.size) w1 w7:=by rw [hw7];exact((((((((((Chg.refl (λb=>b=w.heap.size) w1).setCell (by exact .inl rfl) _).setCell (by exact .inl rfl) _).setCell (by exact .inl rfl) _).setCell (by exact .inl rfl) _).setCell (by exact .inl rfl) _).setCell (by exact .inl rfl) _).setCell (by exact .inl rfl) _).setCell (by exact .inl rfl) _).setCell (by exact .inl rfl) _)
  have k0:w7.cell? ⟨w.heap.size,0,none⟩=some (.slice none 0 0):=by rw [aA kM];rfl
  have k1:w7.cell? ⟨w.heap.size,1,none⟩=some (.slice none 0 0):=by rw [aA kM];rfl
  have k2:w7.cell? ⟨w.heap.size,2,none⟩=some (.int .i64 0):=by rw [aA kM];rfl
  have k3:w7.cell? ⟨w.heap.size,3,none⟩=some (.int .i64 0):=by rw [aA kM];rfl
  have k4:w7.cell? ⟨w.heap.size,4,none⟩=some (.int .i64 0):=by rw [aA kM];rfl
  have k5:w7.cell? ⟨w.heap.size,5,none⟩=some (.int .i64 0):=by rw [aA kM];rfl
  have k6:w7.cell? ⟨w.heap.size,6,none⟩=some (.int .i64 0):=by rw [aA kM];rfl
  have k7:w7.cell? ⟨w.heap.size,7,none⟩=some (.int .i64 0):=by rw [aA kM];rfl
  have k8:w7.cell? ⟨w.heap.size,8,none⟩=some (.int .i64 0):=by rw [aA kM];rfl
  clear hw7 kM
  refine bodyPost_ret (v:=.tuple #[mQ (.slice none 0 0) (.slice none 0 0) ⟨[],[],c0,0,0⟩,.int .i64 er]) (by simp [results,Try.results27 ,go_sem,k0,k1,k2,k3,k4,k5,k6,k7,k8,mQ,c0]) rfl ?_
  have hall:Chg (λb=>w.heap.size<=b) w w7:=((Chg.of_below Hga.out).trans (Chg.of_below Hb1.out)).trans (lZ.mono (λb _ h=>by omega))
  exact⟨hall.mono (λb hb h=>absurd hb (by omega)),.inl ⟨Her0.out,rfl⟩⟩
end
section
open Go.RowKit
structure lS (X:Nat->Prop) (w:World) (ca:Option Addr) (calls:List aF):Prop where
 sl:bS w ca calls.length 6 (gJ calls)
 ok:∀ x∈calls,mY x
 nx:0<calls.length->∀ b off,ca=some ⟨b,off,none⟩->¬ X b
structure lT (w:World) (pa:Option Addr) (picks:List Int):Prop where
 sl:bS w pa picks.length 1 (gQ picks)
 ok:∀ x∈picks,(Lit.int .i64 x).wf=true
theorem lS.grown {X:Nat->Prop} {w w':World} {ca:Option Addr} {calls:List aF} (h:lS X w ca calls) (hb:Below w.heap.size w w'):lS X w' ca calls:=⟨h.sl.grown hb,h.ok,h.nx⟩
theorem lT.grown {w w':World} {pa:Option Addr} {picks:List Int} (h:lT w pa picks) (hb:Below w.heap.size w w'):lT w' pa picks:=⟨h.sl.grown hb,h.ok⟩
def lD (X:Nat->Prop) (w w':World) (er:Int) (r:jC) (ea:Option Addr) (en ec:Nat) (va:Option Addr) (vn vc:Nat) (rp:jC):Prop:=
 Below w.heap.size w w'/\((er≠0/\ea=none/\en=0/\ec=0/\va=none/\vn=0/\vc=0/\rp=⟨[],[],c0,0,0⟩)∨
  (er=0/\rp=r/\en=r.evs.length/\vn=r.words.length/\∃ ers,iC X w.heap.size w' (.slice ea en ec) (.slice va vn vc) ers r))
def qX (X:Nat->Prop) (w w':World) (er:Int) (r:jC) (e:Ending):Prop:=
 ∃ ea en ec va vn vc rp,e=.returned (.tuple #[mQ (.slice ea en ec) (.slice va vn vc) rp,.int .i64 er])/\lD X w w' er r ea en ec va vn vc rp
theorem lD.chg {X X' Q:Nat->Prop} {w0 w w' w'':World} {er:Int} {r:jC} {ea:Option Addr} {en ec:Nat} {va:Option Addr} {vn vc:Nat} {rp:jC} (h:lD X w w' er r ea en ec va vn vc rp) (hc:Chg Q w' w'') (hQ:∀ b,Q b->X b/\w0.heap.size<=b/\b<w.heap.size) (h0:Below w0.heap.size w0 w) (hX:∀ b,X' b->X b):lD X' w0 w'' er r ea en ec va vn vc rp:=by
 obtain⟨hb,hr⟩:=h
 have hb1:Chg (λb=>w0.heap.size<=b) w0 w'':=((Chg.of_below h0).trans (show Chg (λb=>w0.heap.size<=b) w w' from⟨hb.os,hb.tape,hb.output,hb.size,λk hk _=>hb.block k hk⟩)).trans (hc.mono (λb _ hq=>(hQ b hq).2.1))
 refine⟨hb1.below (λb h=>h) (Nat.le_refl _),?_⟩
 rcases hr with hr|⟨h1,h2,h3,h4,ers,h5⟩
 ·exact .inl hr
 ·exact .inr ⟨h1,h2,h3,h4,ers,(h5.chg hc (λb hb=>⟨(hQ b hb).1,(hQ b hb).2.2⟩)).low h0.size hX⟩
theorem EG:(Try.prog.info? 40).map (λi=>(i.zero,i.size,i.bytes))=some (some (.int .u64 0),1,8):=by kernel_rfl
theorem Chg.setCells (b:Nat):∀(vs:List Value) (o:Nat) (w:World),Chg (λk=>k=b) w (w.setCells b o vs)
 | [],_,w=>Chg.refl _ w
 | v::r,o,w=>((Chg.refl (λk=>k=b) w).setCell (p:=⟨b,o,none⟩) (.inl rfl) v).trans (Chg.setCells b r (o+1) (w.setCell ⟨b,o,none⟩ v))
set_option maxHeartbeats 2000000 in
theorem FD (w:World) (b:Nat) (ev wv:Value) (r:jC) (h:w.heap[b]?=some (.cells #[.slice none 0 0,.slice none 0 0,.int .i64 0,.int .i64 0,.int .i64 0,.int .i64 0,.int .i64 0,.int .i64 0,.int .i64 0] 32 (0,0))) (h1:ev.oneCell'=true) (h2:wv.oneCell'=true) :
  ∃(cs:Array Value) (w7:World),mQ ev wv r=.agg cs/\cs.size=9/\(storeCells ⟨b,0,none⟩ cs.toList).run Try.prog w=.ok () w7/\w7.heap[b]?=some (.cells cs 32 (0,0))/\Chg (λk=>k=b) w w7:=by
 refine⟨#[ev,wv,.int .i64 (r.c.read:Int),.int .i64 (r.c.write:Int),.int .i64 (r.c.swap:Int),.int .i64 (r.c.add:Int),.int .i64 (r.c.fault:Int),.int .i64 (r.ticks:Int),.int .i64 (r.idle:Int)],_,rfl,rfl,run_storeCells_cells (P:=Try.prog) b 0 _ 0 w (λj hj=>?_) (λj hj=>aB h _) (λv hv=>?_),?_,?_⟩
 ·rw [aA h]
  have:j<9:=by simpa using hj
  rw [Array.getElem?_eq_getElem (by simpa using this)];rfl
 ·simp only [List.mem_cons,List.not_mem_nil,or_false] at hv
  rcases hv with rfl|rfl|rfl|rfl|rfl|rfl|rfl|rfl|rfl
  ·exact h1
  ·exact h2
  all_goals rfl
 ·simp only [World.setCells,Nat.reduceAdd]
  rw [(aH (aH (aH (aH (aH (aH (aH (aH (aH h _ _) _ _) _ _) _ _) _ _) _ _) _ _) _ _) _ _)]
  simp only [zq4,zq5,zq6]
 ·exact Chg.setCells b _ _ w
theorem GN:(Try.prog.info? 32).map (·.size)=some 9:=by kernel_rfl
theorem oH (w:World) (b:Nat) (cs:Array Value) (h:w.heap[b]?=some (.cells cs 32 (0,0))) (hc:cs.size=9):(loadVar 32 ⟨b,0,none⟩).run Try.prog w=.ok (.agg cs) w:=by
 have:=run_loadVar_mid (P:=Try.prog) w b 0 32 cs.toList _ (λj v hv=>by rw [Nat.zero_add,aA h];simpa using hv) Try.underlying32 rfl (by rw [GN];simp [hc])
 simpa using this
end
section
open Go.RowKit
end
end Go.Proofs.Ytifhldnmcdbpfaa
