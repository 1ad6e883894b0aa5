/- Layer 6: a whole play: loom.Play. -/
import Derived.Test.YtfkokppncipgnaaGreatV14
import Derived.Test.YtfkokppncipgnaaGreatV12
set_option maxRecDepth 100000
set_option linter.unusedVariables false
set_option linter.unusedSimpArgs false
set_option linter.unnecessarySimpa false
namespace Go.Proofs.YtfkokppncipgnaaGreat
open List renaming getElem_toArray → zq1, getElem_cons_zero → zq2, getElem_cons_succ → zq3, setIfInBounds_toArray → zq4, set_cons_zero → zq5, set_cons_succ → zq6
section
open Go.RowKit
variable {S:Sys} {R:Real S}
def PlayToB (O X:Nat->Prop) (w w':World) (er:Int) (r:RepD) (e:Ending):Prop:=
 Chg O w w'/\((er≠0/\e=.returned (.tuple #[repV (.slice none 0 0) (.slice none 0 0) ⟨[],[],c0,0,0⟩,.int .i64 er]))∨
  (er=0/\∃ ea ec va vc ers,e=.returned (.tuple #[repV (.slice ea r.evs.length ec) (.slice va r.words.length vc) r,.int .i64 0])/\RepAt X w.heap.size w' (.slice ea r.evs.length ec) (.slice va r.words.length vc) ers r))
def PlayTo (X:Nat->Prop) (w w':World) (er:Int) (r:RepD) (e:Ending):Prop:=
 Below w.heap.size w w'/\((er≠0/\e=.returned (.tuple #[repV (.slice none 0 0) (.slice none 0 0) ⟨[],[],c0,0,0⟩,.int .i64 er]))∨
  (er=0/\∃ ea ec va vc ers,e=.returned (.tuple #[repV (.slice ea r.evs.length ec) (.slice va r.words.length vc) r,.int .i64 0])/\RepAt X w.heap.size w' (.slice ea r.evs.length ec) (.slice va r.words.length vc) ers r))
theorem RepAt.low {Old Old':Nat->Prop} {B B':Nat} {w:World} {ev wv:Value} {ers:List (Value×Value)} {r:RepD} (h:RepAt Old B w ev wv ers r) (hB:B'<=B) (ho:∀ b,Old' b->Old b):RepAt Old' B' w ev wv ers r:=
 ⟨row_low h.row hB,h.elen,λi hi=>⟨(h.ans i hi).1.less ho,(h.ans i hi).2.less ho⟩,row_low h.words hB⟩
theorem checkN_zero {n:Int} {calls:List CallD} {np:Nat} (h:checkN n calls np=0):wrongN n calls=0/\np<=65536:=by
 unfold checkN at h
 split at h
 ·cases h
 ·split at h
  ·cases h
  ·exact⟨h,by omega⟩
theorem picksD_snoc (calls:List CallD) (st:PlayD S) (l:List Int) (p:Int):picksD S calls st (l++[p])=pickD S calls (picksD S calls st l) p:=by
 unfold picksD;rw [List.foldl_append];rfl
theorem picks_ticks {calls:List CallD} (hnow:∀ o wd p s,(S.step o wd p s).2.1.now=wd.now) (st:PlayD S):∀(l:List Int),(picksD S calls st l).wd.now+(picksD S calls st l).idle=st.wd.now+st.idle+l.length:=by
 intro l
 induction l generalizing st with
 | nil=>rfl
 | cons p l ih=>
  show(picksD S calls (pickD S calls st p) l).wd.now+(picksD S calls (pickD S calls st p) l).idle=_
  rw [ih,pick_ticks hnow];simp;omega
set_option maxHeartbeats 4000000 in
theorem playB_any {X:Nat->Prop} (ok:RealOk R) (nl:NoLate R) (hdN:R.dN<=1000) (w:World) (o0:S.ω) (n:Int) (calls:List CallD) (ws:List Nat) (picks:List Int) (ov cv wv:Value) (pa:Option Addr) (pc:Nat)
  (h:BeginOkB R X w o0 n calls ws ov cv wv) (hps:SlAt w pa picks.length 1 (intG picks)) (hpx:0<picks.length->∀ b off,pa=some ⟨b,off,none⟩->¬ R.OB b) (hpw:∀ x∈picks,(Lit.int .i64 x).wf=true)
  (hsf:checkN n calls picks.length=0->∀ l p m,picks=l++p::m->SafeAt R calls (picksD S calls (play0 S o0 ws calls) l) p) :
  Calls Tryz.prog 20 #[.int .i64 n,ov,wv,cv,.slice pa picks.length pc] w λe w'=>PlayToB R.OB X w w' (checkN n calls picks.length) (playD S o0 ws calls picks) e:=by
 obtain⟨wa,hwa⟩:∃ wa,wa=w.alloc (.cells #[.slice none 0 0,.slice none 0 0,.int .i64 0,.int .i64 0,.int .i64 0,.int .i64 0,.int .i64 0,.int .i64 0,.int .i64 0] 32):=⟨_,rfl⟩
 have hga:Below w.heap.size w wa:=by rw [hwa];exact Gr.new _ _
 have hra:wa.heap[w.heap.size]?=some (.cells #[.slice none 0 0,.slice none 0 0,.int .i64 0,.int .i64 0,.int .i64 0,.int .i64 0,.int .i64 0,.int .i64 0,.int .i64 0] 32 (0,0)):=by rw [hwa];exact heap_alloc_new _ _
 have hsa:wa.heap.size=w.heap.size+1:=by rw [hwa];simp
 have C:=Lib.hid (λ(ca:Option Addr) (cc:Nat) (hcs:SlAt w ca calls.length 6 (callG calls))=>check_any n calls picks.length ca pa cc pc wa (hcs.grown hga) hps.1 (λx hx=>(h.ok x hx).thread))
 obtain⟨ca,cc,rfl,hcs,_⟩:=h.cs
 replace C:=Lib.hid (C.out ca cc hcs)
 have Hh:=Lib.hid h;have Hps:=Lib.hid hps;have Hpw:=Lib.hid hpw;have Hga:=Lib.hid hga;have Hra:=Lib.hid hra;have Hwa:=Lib.hid hwa;have Hsa:=Lib.hid hsa;have Hsf:=Lib.hid hsf;have Hpx:=Lib.hid hpx;have Hob:=Lib.hid (λb hb=>h.xlt b (h.ob b hb):∀ b,R.OB b->b<w.heap.size)
 have hpl:=hps.1
 unfold maxLen at hpl
 obtain⟨er,her⟩:∃ er,er=checkN n calls picks.length:=⟨_,rfl⟩
 rw [<-her] at C ⊢
 have Her:=Lib.hid her
 clear h hps hpw hga hra hwa hsa hcs her hsf hpx
 go_enter Tryz.func20,Tryz.ntmps20
 go_wp2_with fail
 rw [<-Hwa.out]
 refine C.out.mono ?_
 rintro e w1 ⟨rfl,hb1⟩
 have hr1:=(hb1.block _ (blk_lt Hra.out)).trans Hra.out
 have Hb1:=Lib.hid hb1;have Hr1:=Lib.hid hr1
 clear hb1 hr1
 by_cases her0:er=0
 ·subst her0
  have hck:=checkN_zero Her.out.symm
  have Hsf0:=Lib.hid (Hsf.out Her.out.symm)
  have B:=Lib.hid (begin_any (λb=>X b∨b=w.heap.size) w1 o0 n calls ws ov (.slice ca calls.length cc) wv (Hh.out.grown (Gr.trans Hga.out Hb1.out) (λb hb=>by have h1:=blk_lt Hra.out;have h2:=Hb1.out.size;rcases hb with hb|hb;exact .inl hb;exact .inr (by omega)) (λb hb=>.inl hb)) hck.1)
  have hpk:=hck.2
  have Hck:=Lib.hid hck
  clear C hck
  go_wp2_with fail
  refine B.out.mono ?_
  rintro e w2 ⟨J,hJ,rfl,hb2,hst⟩
  have HJ:=Lib.hid hJ;have Hb2:=Lib.hid hb2;have Hst:=Lib.hid hst
  clear hJ hb2 hst
  go_wp2
  go_loopw [39] (λi wr=>∃ k:Nat,k<=picks.length/\i=.int .i64 k/\Chg R.OB w1 wr/\PlaySt R calls wr J ov (.slice ca calls.length cc) w1.heap.size (picksD S calls (play0 S o0 ws calls) (picks.take k))) (λi _=>picks.length - (intOf i).toNat)
  case atStart=>exact⟨0,Nat.zero_le _,rfl,Chg.of_below Hb2.out,Hst.out⟩
  case round=>
   obtain⟨k,hk,rfl,hbr,hst⟩:=hrel
   by_cases hlt:k<picks.length
   ·obtain⟨b3,off3,rfl,hc3⟩:=((Hps.out.grown (Gr.trans Hga.out Hb1.out)).chg hbr (Hpx.out (by omega))).elem (Gr.refl wr) hlt
    obtain⟨p,hpv⟩:∃ p,picks[k]=p:=⟨_,rfl⟩
    have hd:picks.take (k+1)=picks.take k++[p]:=by rw [List.take_succ_eq_append_getElem hlt,hpv]
    have c0:wr.cell? ⟨b3,off3+k,none⟩=some (.int .i64 p):=by have h0:=hc3 0 (by omega);rw [Nat.mul_one,Nat.add_zero] at h0;rw [h0];simp [intG,List.getD_eq_getElem?_getD,hlt,hpv]
    have hpw:(Lit.int .i64 p).wf=true:=by rw [<-hpv];exact Hpw.out _ (List.getElem_mem hlt)
    have htk:=picks_ticks ok.now (play0 S o0 ws calls) (picks.take k) (calls:=calls)
    rw [List.length_take,Nat.min_eq_left hk] at htk
    have htk2:(picksD S calls (play0 S o0 ws calls) (picks.take k)).wd.now+(picksD S calls (play0 S o0 ws calls) (picks.take k)).idle=k:=by rw [htk];simp [play0,wd0]
    have P:=Lib.hid (pick_any ok hdN calls wr J ov (.slice ca calls.length cc) w1.heap.size _ p hst hpw (Hsf0.out _ p (picks.drop (k+1)) (by rw [<-hpv,List.getElem_cons_drop,List.take_append_drop])) (by omega) (by omega))
    have Hd:=Lib.hid hd;have Hbr:=Lib.hid hbr
    have hl1:(k:Int)<(picks.length:Int):=by omega
    clear hst hc3 hpv hd hbr htk htk2
    go_wp2_with fail
    refine P.out.mono ?_
    rintro e w3 ⟨⟨bb,rfl⟩,hch,hst3⟩
    have Hch:=Lib.hid hch;have Hst3:=Lib.hid hst3
    clear hch hst3
    go_wp2
    go_roundw
    case rel=>exact⟨k+1,by omega,by go_num,((Hbr.out.mono (S':=PB R w1.heap.size) (λb _ h=>.inr h)).trans Hch.out).mono (λb hb h=>h.elim (λh9=>absurd hb (by omega)) id),by rw [Hd.out,picksD_snoc];exact Hst3.out⟩
    case measure=>simp [intOf]<;>omega
   ·have hl1:¬ (k:Int)<(picks.length:Int):=by omega
    obtain rfl:k=picks.length:=by omega
    rw [List.take_length] at hst
    obtain⟨G,hG⟩:=hst
    have E:=Lib.hid (report_any ok nl calls wr J ov (.slice ca calls.length cc) w1.heap.size G _ hG)
    have hr2:wr.heap[w.heap.size]?=some (.cells #[.slice none 0 0,.slice none 0 0,.int .i64 0,.int .i64 0,.int .i64 0,.int .i64 0,.int .i64 0,.int .i64 0,.int .i64 0] 32 (0,0)):=(hbr.block _ (blk_lt Hr1.out) (λh9=>Nat.lt_irrefl _ (Hob.out _ h9))).trans Hr1.out
    have Hbr:=Lib.hid hbr;have Hr2:=Lib.hid hr2
    clear hG hbr hr2
    go_wp2_with fail
    refine E.out.mono ?_
    rintro e w3 ⟨ea,ec,va,vc,ers,rfl,hrep,hb3⟩
    have hr3:w3.heap[w.heap.size]?=some (.cells #[.slice none 0 0,.slice none 0 0,.int .i64 0,.int .i64 0,.int .i64 0,.int .i64 0,.int .i64 0,.int .i64 0,.int .i64 0] 32 (0,0)):=(hb3.block _ (blk_lt Hr1.out)).trans Hr2.out
    have g0:w3.cell? ⟨w.heap.size,0,none⟩=some (.slice none 0 0):=by rw [cell_blk hr3];rfl
    have gf0:w3.frozen? ⟨w.heap.size,0,none⟩=false:=frozen_blk hr3 0
    have g1:w3.cell? ⟨w.heap.size,1,none⟩=some (.slice none 0 0):=by rw [cell_blk hr3];rfl
    have gf1:w3.frozen? ⟨w.heap.size,1,none⟩=false:=frozen_blk hr3 1
    have g2:w3.cell? ⟨w.heap.size,2,none⟩=some (.int .i64 0):=by rw [cell_blk hr3];rfl
    have gf2:w3.frozen? ⟨w.heap.size,2,none⟩=false:=frozen_blk hr3 2
    have g3:w3.cell? ⟨w.heap.size,3,none⟩=some (.int .i64 0):=by rw [cell_blk hr3];rfl
    have gf3:w3.frozen? ⟨w.heap.size,3,none⟩=false:=frozen_blk hr3 3
    have g4:w3.cell? ⟨w.heap.size,4,none⟩=some (.int .i64 0):=by rw [cell_blk hr3];rfl
    have gf4:w3.frozen? ⟨w.heap.size,4,none⟩=false:=frozen_blk hr3 4
    have g5:w3.cell? ⟨w.heap.size,5,none⟩=some (.int .i64 0):=by rw [cell_blk hr3];rfl
    have gf5:w3.frozen? ⟨w.heap.size,5,none⟩=false:=frozen_blk hr3 5
    have g6:w3.cell? ⟨w.heap.size,6,none⟩=some (.int .i64 0):=by rw [cell_blk hr3];rfl
    have gf6:w3.frozen? ⟨w.heap.size,6,none⟩=false:=frozen_blk hr3 6
    have g7:w3.cell? ⟨w.heap.size,7,none⟩=some (.int .i64 0):=by rw [cell_blk hr3];rfl
    have gf7:w3.frozen? ⟨w.heap.size,7,none⟩=false:=frozen_blk hr3 7
    have g8:w3.cell? ⟨w.heap.size,8,none⟩=some (.int .i64 0):=by rw [cell_blk hr3];rfl
    have gf8:w3.frozen? ⟨w.heap.size,8,none⟩=false:=frozen_blk hr3 8
    obtain⟨rp,hrp⟩:∃ rp,rp=reportD S (picksD S calls (play0 S o0 ws calls) picks):=⟨_,rfl⟩
    rw [<-hrp] at hrep
    obtain⟨en,hen⟩:∃ en,en=rp.evs.length:=⟨_,rfl⟩
    obtain⟨vn,hvn⟩:∃ vn,vn=rp.words.length:=⟨_,rfl⟩
    rw [<-hrp,<-hen,<-hvn]
    have Hrep:=Lib.hid hrep;have Hr3:=Lib.hid hr3;have Hb3:=Lib.hid hb3;have Hrp:=Lib.hid hrp;have Hen:=Lib.hid hen;have Hvn:=Lib.hid hvn
    clear hrep hr3 hb3 hrp hen hvn
    unfold repV
    go_wp2
    obtain⟨w7,hw7⟩:∃ w7,w7=(((((((((w3.setCell ⟨w.heap.size,0,none⟩ (.slice ea en ec)).setCell ⟨w.heap.size,1,none⟩ (.slice va vn vc)).setCell ⟨w.heap.size,2,none⟩ (.int .i64 (rp.c.read:Int))).setCell ⟨w.heap.size,3,none⟩ (.int .i64 (rp.c.write:Int))).setCell ⟨w.heap.size,4,none⟩ (.int .i64 (rp.c.swap:Int))).setCell ⟨w.heap.size,5,none⟩ (.int .i64 (rp.c.add:Int))).setCell ⟨w.heap.size,6,none⟩ (.int .i64 (rp.c.fault:Int))).setCell ⟨w.heap.size,7,none⟩ (.int .i64 (rp.ticks:Int))).setCell ⟨w.heap.size,8,none⟩ (.int .i64 (rp.idle:Int))):=⟨_,rfl⟩
    rw [<-hw7]
    have hr7:w7.heap[w.heap.size]?=some (.cells #[.slice ea en ec,.slice va vn vc,.int .i64 (rp.c.read:Int),.int .i64 (rp.c.write:Int),.int .i64 (rp.c.swap:Int),.int .i64 (rp.c.add:Int),.int .i64 (rp.c.fault:Int),.int .i64 (rp.ticks:Int),.int .i64 (rp.idle:Int)] 32 (0,0)):=by rw [hw7,(blk_set (blk_set (blk_set (blk_set (blk_set (blk_set (blk_set (blk_set (blk_set Hr3.out _ _) _ _) _ _) _ _) _ _) _ _) _ _) _ _) _ _)];rfl
    have hch7:Chg (λb=>b=w.heap.size) w3 w7:=by rw [hw7];exact((((((((((Chg.refl (λb=>b=w.heap.size) w3).setCell (by exact .inl rfl) _).setCell (by exact .inl rfl) _).setCell (by exact .inl rfl) _).setCell (by exact .inl rfl) _).setCell (by exact .inl rfl) _).setCell (by exact .inl rfl) _).setCell (by exact .inl rfl) _).setCell (by exact .inl rfl) _).setCell (by exact .inl rfl) _)
    have k0:w7.cell? ⟨w.heap.size,0,none⟩=some (.slice ea en ec):=by rw [cell_blk hr7];rfl
    have k1:w7.cell? ⟨w.heap.size,1,none⟩=some (.slice va vn vc):=by rw [cell_blk hr7];rfl
    have k2:w7.cell? ⟨w.heap.size,2,none⟩=some (.int .i64 (rp.c.read:Int)):=by rw [cell_blk hr7];rfl
    have k3:w7.cell? ⟨w.heap.size,3,none⟩=some (.int .i64 (rp.c.write:Int)):=by rw [cell_blk hr7];rfl
    have k4:w7.cell? ⟨w.heap.size,4,none⟩=some (.int .i64 (rp.c.swap:Int)):=by rw [cell_blk hr7];rfl
    have k5:w7.cell? ⟨w.heap.size,5,none⟩=some (.int .i64 (rp.c.add:Int)):=by rw [cell_blk hr7];rfl
    have k6:w7.cell? ⟨w.heap.size,6,none⟩=some (.int .i64 (rp.c.fault:Int)):=by rw [cell_blk hr7];rfl
    have k7:w7.cell? ⟨w.heap.size,7,none⟩=some (.int .i64 (rp.ticks:Int)):=by rw [cell_blk hr7];rfl
    have k8:w7.cell? ⟨w.heap.size,8,none⟩=some (.int .i64 (rp.idle:Int)):=by rw [cell_blk hr7];rfl
    clear hw7 hr7
    refine bodyPost_ret (v:=.tuple #[repV (.slice ea en ec) (.slice va vn vc) rp,.int .i64 0]) (by simp [results,Tryz.results20 ,go_sem,k0,k1,k2,k3,k4,k5,k6,k7,k8,repV]) rfl ?_
    have hs1:=blk_lt Hr1.out
    have hall:Chg (PB R w.heap.size) w w7:=((((Chg.of_below Hga.out).trans (Chg.of_below Hb1.out)).trans ((Chg.refl _ _).trans (Hbr.out.mono (λb _ h=>.inr h)))).trans ((show Chg (PB R w.heap.size) wr w3 from⟨Hb3.out.os,Hb3.out.tape,Hb3.out.output,Hb3.out.size,λk hk hn=>Hb3.out.block k (by have h9:¬ w.heap.size<=k:=λh9=>hn (.inl h9);omega)⟩))).trans (hch7.mono (λb _ h=>.inl (by omega)))
    have hen:=Hen.out;have hvn:=Hvn.out
    subst hen hvn
    have h9:rp=playD S o0 ws calls picks:=Hrp.out
    refine⟨hall.mono (λb hb h=>h.elim (λh9=>absurd hb (by omega)) id),.inr ⟨rfl,ea,ec,va,vc,ers,by rw [<-h9],?_⟩⟩
    have h8:=(Hrep.out.chg hch7 (λb hb=>by rw [HJ.out];exact⟨.inr hb,by omega⟩)).low (Old':=X) (B':=w.heap.size) (by omega) (λb hb=>by rw [HJ.out];exact .inl hb)
    rw [h9] at h8
    exact h8
 ·have hr1:=Hr1.out
  have g0:w1.cell? ⟨w.heap.size,0,none⟩=some (.slice none 0 0):=by rw [cell_blk hr1];rfl
  have gf0:w1.frozen? ⟨w.heap.size,0,none⟩=false:=frozen_blk hr1 0
  have g1:w1.cell? ⟨w.heap.size,1,none⟩=some (.slice none 0 0):=by rw [cell_blk hr1];rfl
  have gf1:w1.frozen? ⟨w.heap.size,1,none⟩=false:=frozen_blk hr1 1
  have g2:w1.cell? ⟨w.heap.size,2,none⟩=some (.int .i64 0):=by rw [cell_blk hr1];rfl
  have gf2:w1.frozen? ⟨w.heap.size,2,none⟩=false:=frozen_blk hr1 2
  have g3:w1.cell? ⟨w.heap.size,3,none⟩=some (.int .i64 0):=by rw [cell_blk hr1];rfl
  have gf3:w1.frozen? ⟨w.heap.size,3,none⟩=false:=frozen_blk hr1 3
  have g4:w1.cell? ⟨w.heap.size,4,none⟩=some (.int .i64 0):=by rw [cell_blk hr1];rfl
  have gf4:w1.frozen? ⟨w.heap.size,4,none⟩=false:=frozen_blk hr1 4
  have g5:w1.cell? ⟨w.heap.size,5,none⟩=some (.int .i64 0):=by rw [cell_blk hr1];rfl
  have gf5:w1.frozen? ⟨w.heap.size,5,none⟩=false:=frozen_blk hr1 5
  have g6:w1.cell? ⟨w.heap.size,6,none⟩=some (.int .i64 0):=by rw [cell_blk hr1];rfl
  have gf6:w1.frozen? ⟨w.heap.size,6,none⟩=false:=frozen_blk hr1 6
  have g7:w1.cell? ⟨w.heap.size,7,none⟩=some (.int .i64 0):=by rw [cell_blk hr1];rfl
  have gf7:w1.frozen? ⟨w.heap.size,7,none⟩=false:=frozen_blk hr1 7
  have g8:w1.cell? ⟨w.heap.size,8,none⟩=some (.int .i64 0):=by rw [cell_blk hr1];rfl
  have gf8:w1.frozen? ⟨w.heap.size,8,none⟩=false:=frozen_blk hr1 8
  have Her0:=Lib.hid her0
  clear hr1
  go_wp2
  obtain⟨w7,hw7⟩:∃ w7,w7=(((((((((w1.setCell ⟨w.heap.size,0,none⟩ (.slice none 0 0)).setCell ⟨w.heap.size,1,none⟩ (.slice none 0 0)).setCell ⟨w.heap.size,2,none⟩ (.int .i64 0)).setCell ⟨w.heap.size,3,none⟩ (.int .i64 0)).setCell ⟨w.heap.size,4,none⟩ (.int .i64 0)).setCell ⟨w.heap.size,5,none⟩ (.int .i64 0)).setCell ⟨w.heap.size,6,none⟩ (.int .i64 0)).setCell ⟨w.heap.size,7,none⟩ (.int .i64 0)).setCell ⟨w.heap.size,8,none⟩ (.int .i64 0)):=⟨_,rfl⟩
  rw [<-hw7]
  have hr7:w7.heap[w.heap.size]?=some (.cells #[.slice none 0 0,.slice none 0 0,.int .i64 0,.int .i64 0,.int .i64 0,.int .i64 0,.int .i64 0,.int .i64 0,.int .i64 0] 32 (0,0)):=by rw [hw7,(blk_set (blk_set (blk_set (blk_set (blk_set (blk_set (blk_set (blk_set (blk_set Hr1.out _ _) _ _) _ _) _ _) _ _) _ _) _ _) _ _) _ _)];rfl
  have hch7:Chg (λb=>b=w.heap.size) w1 w7:=by rw [hw7];exact((((((((((Chg.refl (λb=>b=w.heap.size) w1).setCell (by exact .inl rfl) _).setCell (by exact .inl rfl) _).setCell (by exact .inl rfl) _).setCell (by exact .inl rfl) _).setCell (by exact .inl rfl) _).setCell (by exact .inl rfl) _).setCell (by exact .inl rfl) _).setCell (by exact .inl rfl) _).setCell (by exact .inl rfl) _)
  have k0:w7.cell? ⟨w.heap.size,0,none⟩=some (.slice none 0 0):=by rw [cell_blk hr7];rfl
  have k1:w7.cell? ⟨w.heap.size,1,none⟩=some (.slice none 0 0):=by rw [cell_blk hr7];rfl
  have k2:w7.cell? ⟨w.heap.size,2,none⟩=some (.int .i64 0):=by rw [cell_blk hr7];rfl
  have k3:w7.cell? ⟨w.heap.size,3,none⟩=some (.int .i64 0):=by rw [cell_blk hr7];rfl
  have k4:w7.cell? ⟨w.heap.size,4,none⟩=some (.int .i64 0):=by rw [cell_blk hr7];rfl
  have k5:w7.cell? ⟨w.heap.size,5,none⟩=some (.int .i64 0):=by rw [cell_blk hr7];rfl
  have k6:w7.cell? ⟨w.heap.size,6,none⟩=some (.int .i64 0):=by rw [cell_blk hr7];rfl
  have k7:w7.cell? ⟨w.heap.size,7,none⟩=some (.int .i64 0):=by rw [cell_blk hr7];rfl
  have k8:w7.cell? ⟨w.heap.size,8,none⟩=some (.int .i64 0):=by rw [cell_blk hr7];rfl
  clear hw7 hr7
  refine bodyPost_ret (v:=.tuple #[repV (.slice none 0 0) (.slice none 0 0) ⟨[],[],c0,0,0⟩,.int .i64 er]) (by simp [results,Tryz.results20 ,go_sem,k0,k1,k2,k3,k4,k5,k6,k7,k8,repV,c0]) rfl ?_
  have hall:Chg (λb=>w.heap.size<=b) w w7:=((Chg.of_below Hga.out).trans (Chg.of_below Hb1.out)).trans (hch7.mono (λb _ h=>by omega))
  exact⟨hall.mono (λb hb h=>absurd hb (by omega)),.inl ⟨Her0.out,rfl⟩⟩
end
section

/- Layer 6: what a play hands out, in one form. -/
open Go.RowKit
structure CallsAt (X:Nat->Prop) (w:World) (ca:Option Addr) (calls:List CallD):Prop where
 sl:SlAt w ca calls.length 6 (callG calls)
 ok:∀ x∈calls,CallOk x
 nx:0<calls.length->∀ b off,ca=some ⟨b,off,none⟩->¬ X b
structure PicksAt (w:World) (pa:Option Addr) (picks:List Int):Prop where
 sl:SlAt w pa picks.length 1 (intG picks)
 ok:∀ x∈picks,(Lit.int .i64 x).wf=true
theorem CallsAt.grown {X:Nat->Prop} {w w':World} {ca:Option Addr} {calls:List CallD} (h:CallsAt X w ca calls) (hb:Below w.heap.size w w'):CallsAt X w' ca calls:=⟨h.sl.grown hb,h.ok,h.nx⟩
theorem PicksAt.grown {w w':World} {pa:Option Addr} {picks:List Int} (h:PicksAt w pa picks) (hb:Below w.heap.size w w'):PicksAt w' pa picks:=⟨h.sl.grown hb,h.ok⟩
def PlayRest (X:Nat->Prop) (w w':World) (er:Int) (r:RepD) (ea:Option Addr) (en ec:Nat) (va:Option Addr) (vn vc:Nat) (rp:RepD):Prop:=
 Below w.heap.size w w'/\((er≠0/\ea=none/\en=0/\ec=0/\va=none/\vn=0/\vc=0/\rp=⟨[],[],c0,0,0⟩)∨
  (er=0/\rp=r/\en=r.evs.length/\vn=r.words.length/\∃ ers,RepAt X w.heap.size w' (.slice ea en ec) (.slice va vn vc) ers r))
def PlayRet (X:Nat->Prop) (w w':World) (er:Int) (r:RepD) (e:Ending):Prop:=
 ∃ ea en ec va vn vc rp,e=.returned (.tuple #[repV (.slice ea en ec) (.slice va vn vc) rp,.int .i64 er])/\PlayRest X w w' er r ea en ec va vn vc rp
theorem PlayTo.ret {X:Nat->Prop} {w w':World} {er:Int} {r:RepD} {e:Ending} (h:PlayTo X w w' er r e):PlayRet X w w' er r e:=by
 obtain⟨hb,⟨h0,rfl⟩|⟨h0,ea,ec,va,vc,ers,rfl,hr⟩⟩:=h
 ·exact⟨none,0,0,none,0,0,_,rfl,hb,.inl ⟨h0,rfl,rfl,rfl,rfl,rfl,rfl,rfl⟩⟩
 ·exact⟨ea,_,ec,va,_,vc,r,by rw [h0],hb,.inr ⟨h0,rfl,rfl,rfl,ers,hr⟩⟩
theorem PlayRest.chg {X X' Q:Nat->Prop} {w0 w w' w'':World} {er:Int} {r:RepD} {ea:Option Addr} {en ec:Nat} {va:Option Addr} {vn vc:Nat} {rp:RepD} (h:PlayRest X w w' er r ea en ec va vn vc rp) (hc:Chg Q w' w'') (hQ:∀ b,Q b->X b/\w0.heap.size<=b/\b<w.heap.size) (h0:Below w0.heap.size w0 w) (hX:∀ b,X' b->X b):PlayRest X' w0 w'' er r ea en ec va vn vc rp:=by
 obtain⟨hb,hr⟩:=h
 have hb1:Chg (λb=>w0.heap.size<=b) w0 w'':=((Chg.of_below h0).trans (show Chg (λb=>w0.heap.size<=b) w w' from⟨hb.os,hb.tape,hb.output,hb.size,λk hk _=>hb.block k hk⟩)).trans (hc.mono (λb _ hq=>(hQ b hq).2.1))
 refine⟨hb1.below (λb h=>h) (Nat.le_refl _),?_⟩
 rcases hr with hr|⟨h1,h2,h3,h4,ers,h5⟩
 ·exact .inl hr
 ·exact .inr ⟨h1,h2,h3,h4,ers,(h5.chg hc (λb hb=>⟨(hQ b hb).1,(hQ b hb).2.2⟩)).low h0.size hX⟩
theorem u64_info':(Tryz.prog.info? 46).map (λi=>(i.zero,i.size,i.bytes))=some (some (.int .u64 0),1,8):=by kernel_rfl
theorem Chg.setCells (b:Nat):∀(vs:List Value) (o:Nat) (w:World),Chg (λk=>k=b) w (w.setCells b o vs)
 | [],_,w=>Chg.refl _ w
 | v::r,o,w=>((Chg.refl (λk=>k=b) w).setCell (p:=⟨b,o,none⟩) (.inl rfl) v).trans (Chg.setCells b r (o+1) (w.setCell ⟨b,o,none⟩ v))
set_option maxHeartbeats 2000000 in
theorem rep_store (w:World) (b:Nat) (ev wv:Value) (r:RepD) (h:w.heap[b]?=some (.cells #[.slice none 0 0,.slice none 0 0,.int .i64 0,.int .i64 0,.int .i64 0,.int .i64 0,.int .i64 0,.int .i64 0,.int .i64 0] 32 (0,0))) (h1:ev.oneCell'=true) (h2:wv.oneCell'=true) :
  ∃(cs:Array Value) (w7:World),repV ev wv r=.agg cs/\cs.size=9/\(storeCells ⟨b,0,none⟩ cs.toList).run Tryz.prog w=.ok () w7/\w7.heap[b]?=some (.cells cs 32 (0,0))/\Chg (λk=>k=b) w w7:=by
 refine⟨#[ev,wv,.int .i64 (r.c.read:Int),.int .i64 (r.c.write:Int),.int .i64 (r.c.swap:Int),.int .i64 (r.c.add:Int),.int .i64 (r.c.fault:Int),.int .i64 (r.ticks:Int),.int .i64 (r.idle:Int)],_,rfl,rfl,run_storeCells_cells (P:=Tryz.prog) b 0 _ 0 w (λj hj=>?_) (λj hj=>frozen_blk h _) (λv hv=>?_),?_,?_⟩
 ·rw [cell_blk h]
  have:j<9:=by simpa using hj
  rw [Array.getElem?_eq_getElem (by simpa using this)];rfl
 ·simp only [List.mem_cons,List.not_mem_nil,or_false] at hv
  rcases hv with rfl|rfl|rfl|rfl|rfl|rfl|rfl|rfl|rfl
  ·exact h1
  ·exact h2
  all_goals rfl
 ·simp only [World.setCells,Nat.reduceAdd]
  rw [(blk_set (blk_set (blk_set (blk_set (blk_set (blk_set (blk_set (blk_set (blk_set h _ _) _ _) _ _) _ _) _ _) _ _) _ _) _ _) _ _)]
  simp only [zq4,zq5,zq6]
 ·exact Chg.setCells b _ _ w
theorem rep_info:(Tryz.prog.info? 32).map (·.size)=some 9:=by kernel_rfl
theorem rep_load (w:World) (b:Nat) (cs:Array Value) (h:w.heap[b]?=some (.cells cs 32 (0,0))) (hc:cs.size=9):(loadVar 32 ⟨b,0,none⟩).run Tryz.prog w=.ok (.agg cs) w:=by
 have:=run_loadVar_mid (P:=Tryz.prog) w b 0 32 cs.toList _ (λj v hv=>by rw [Nat.zero_add,cell_blk h];simpa using hv) Tryz.underlying32 rfl (by rw [rep_info];simp [hc])
 simpa using this
end
section

/- Layer 7: cons.Play. -/
open Go.RowKit
end
section

/- Layer 7: agreement, in plain numbers. -/
open Go.RowKit
def Proposed (calls:List CallD) (evs:List EvD) (x:Nat):Prop:=∃ i,i<evs.length/\(calls.getD (evAt evs i).call d0).obj=0/\(calls.getD (evAt evs i).call d0).kind=0/\(calls.getD (evAt evs i).call d0).a+1=x
def EvFits (x:Nat) (e:EvD):Prop:=e.steps<=2/\(e.resp≠0->e.ans.err=0->e.ans.val+1=x)
structure CoInv (calls:List CallD) (st:PlayD consS) (x:Nat):Prop where
 good:StGood calls st
 ws:st.wd.mem.ws=[x]
 prop:x≠0->Proposed calls st.evs x
 evs:∀ i,i<st.evs.length->EvFits x (evAt st.evs i)
 hand:∀ p s k,st.hands.getD p (none,0)=(some s,k)->∃ v,s=.prop v true/\(evAt st.evs k).steps=1/\x≠0
theorem Proposed.keep {calls:List CallD} {evs evs':List EvD} {x:Nat} (h:Proposed calls evs x) (hl:evs.length<=evs'.length) (hc:∀ i,i<evs.length->(evAt evs' i).call=(evAt evs i).call):Proposed calls evs' x:=by
 obtain⟨i,h1,h2⟩:=h
 exact⟨i,by omega,by rw [hc i h1];exact h2⟩
theorem evAt_old {l:List EvD} {e:EvD} {i:Nat} (h:i<l.length):evAt (l++[e]) i=evAt l i:=getD_snoc_lt h
theorem evAt_last {l:List EvD} {e:EvD}:evAt (l++[e]) l.length=e:=getD_snoc_eq
end
section

/- Layer 6: what one pick does to a play, case by case, in plain numbers. -/
open Go.RowKit
variable {S:Sys}
def ev1 (S:Sys) (r:S.ω×WD×S.σ×Bool) (q:Nat) (e:EvD):EvD:=if r.2.2.2 then finishEv r.2.1 q (S.answer r.2.2.1).1 (S.answer r.2.2.1).2 e else stepEv e
def stepTo (st:PlayD S) (r:S.ω×WD×S.σ×Bool) (q i k:Nat) (evs0:List EvD):PlayD S:=
 { wd:=r.2.1,obj:=r.1,fin:=if r.2.2.2 then st.fin.set i true else st.fin,hands:=st.hands.set q (if r.2.2.2 then none else some r.2.2.1,k),evs:=evs0.set k (ev1 S r q (evAt evs0 k)),idle:=st.idle }
def refuseTo (st:PlayD S) (q i:Nat) (er:Int):PlayD S:=
 { wd:=st.wd.tick.begin q,obj:=st.obj,fin:=st.fin.set i true,hands:=st.hands.set q (none,st.evs.length),evs:=st.evs++[finishEv (st.wd.tick.begin q) q ⟨er,0,[]⟩ [] (newEv i (st.wd.tick.begin q))],idle:=st.idle }
inductive From (calls:List CallD) (st:PlayD S) (q i:Nat):Nat->S.σ->List EvD->WD->Prop where
 | old (k:Nat) (s:S.σ) (hh:st.hands.getD q (none,0)=(some s,k)) (hk:k<st.evs.length) (hc:(evAt st.evs k).call=i) (hr:(evAt st.evs k).resp=0):From calls st q i k s st.evs st.wd.tick
 | new (s:S.σ) (hh:(st.hands.getD q (none,0)).1=none) (hs:startD S st.obj (st.wd.tick.begin q) q (calls.getD i d0)=.run s):From calls st q i st.evs.length s (st.evs++[newEv i (st.wd.tick.begin q)]) (st.wd.tick.begin q)
inductive Turn (calls:List CallD) (st:PlayD S):PlayD S->Prop where
 | idle:Turn calls st { st with idle:=st.idle+1 }
 | refuse (q i:Nat) (er:Int) (hq:q<16) (hN:nowN calls st.fin (q:Int)=some i) (hh:(st.hands.getD q (none,0)).1=none) (hs:startD S st.obj (st.wd.tick.begin q) q (calls.getD i d0)=.refuse er):Turn calls st (refuseTo st q i er)
 | step (q i k:Nat) (s:S.σ) (evs0:List EvD) (wd0:WD) (hq:q<16) (hN:nowN calls st.fin (q:Int)=some i) (hf:From calls st q i k s evs0 wd0):Turn calls st (stepTo st (S.step st.obj wd0 q s) q i k evs0)
theorem goStep_to {st0 st:PlayD S} {q i k:Nat} {s:S.σ} {evs0:List EvD} (ho:st0.obj=st.obj) (he:st0.evs=evs0) (hh:st0.hands.set q (none,k)=st.hands.set q (none,k)) (hh2:∀ x,st0.hands.set q (some x,k)=st.hands.set q (some x,k)) (hf:st0.fin=st.fin) (hi:st0.idle=st.idle) :
  (if (goStep S st0 q k s).2 then { (goStep S st0 q k s).1 with fin:=(goStep S st0 q k s).1.fin.set i true } else (goStep S st0 q k s).1)=stepTo st (S.step st.obj st0.wd q s) q i k evs0:=by
 unfold goStep stepTo ev1
 simp only
 rw [ho]
 cases hd:(S.step st.obj st0.wd q s).2.2.2 with
 | true=>simp only [if_true,hh,hf,hi,modEv];rw [he];rfl
 | false=>simp only [Bool.false_eq_true,if_false,hh2,hf,hi,modEv];rw [he];rfl
theorem pick_turn {calls:List CallD} (hthr:∀ c,c<calls.length->0<=(calls.getD c d0).thread/\(calls.getD c d0).thread<16) {st:PlayD S} (h:StGood calls st) (p:Int):Turn calls st (pickD S calls st p):=by
 cases hN:nowN calls st.fin p with
 | none=>
  have hp:pickD S calls st p={ st with idle:=st.idle+1 }:=by unfold pickD;rw [hN]
  rw [hp];exact .idle
 | some i=>
  obtain⟨n1,n2,n3⟩:=nowN_spec hN
  obtain⟨t1,t2⟩:=hthr i n1
  obtain⟨q,rfl⟩:∃ q:Nat,p=(q:Int):=⟨p.toNat,by omega⟩
  have hq:q<16:=by omega
  have hp:pickD S calls st (q:Int)=if (stepD S calls st q i).2 then { (stepD S calls st q i).1 with fin:=(stepD S calls st q i).1.fin.set i true } else (stepD S calls st q i).1:=by unfold pickD;rw [hN];rfl
  rw [hp]
  cases hs:(st.hands.getD q (none,0)).1 with
  | some s=>
   obtain⟨k,hk⟩:∃ k,k=(st.hands.getD q (none,0)).2:=⟨_,rfl⟩
   have hh:hndOf st.hands q=some k:=by unfold hndOf;rw [hs,hk];rfl
   obtain⟨k1,k2,k3,k4⟩:=h.ev.hand q k hh
   have hst:stepD S calls st q i=goStep S { st with wd:=st.wd.tick } q k s:=by unfold stepD;rw [hs];simp only;rw [<-hk]
   rw [hst]
   exact(congrArg (Turn calls st) (goStep_to (i:=i) (st0:={ st with wd:=st.wd.tick }) (st:=st) (q:=q) (k:=k) (s:=s) (evs0:=st.evs) rfl rfl rfl (λ_=>rfl) rfl rfl)).mpr
    (.step q i k s st.evs st.wd.tick hq hN (.old k s (Prod.ext hs hk.symm) k1 (by rw [hN] at k4;cases k4;rfl) k3))
  | none=>
   cases hst:startD S st.obj (st.wd.tick.begin q) q (calls.getD i d0) with
   | refuse e=>
    have hst2:stepD S calls st q i=({ st with wd:=st.wd.tick.begin q,hands:=st.hands.set q (none,st.evs.length),evs:=st.evs++[finishEv (st.wd.tick.begin q) q ⟨e,0,[]⟩ [] (newEv i (st.wd.tick.begin q))] },true):=by
     unfold stepD;rw [hs];simp only;rw [hst]
    rw [hst2]
    exact .refuse q i e hq hN hs hst
   | run s=>
    have hst2:stepD S calls st q i=goStep S { st with wd:=st.wd.tick.begin q,hands:=st.hands.set q (some s,st.evs.length),evs:=st.evs++[newEv i (st.wd.tick.begin q)] } q st.evs.length s:=by
     unfold stepD;rw [hs];simp only;rw [hst]
    rw [hst2]
    exact(congrArg (Turn calls st) (goStep_to (i:=i) (st0:={ st with wd:=st.wd.tick.begin q,hands:=st.hands.set q (some s,st.evs.length),evs:=st.evs++[newEv i (st.wd.tick.begin q)] }) (st:=st) (q:=q) (k:=st.evs.length) (s:=s) (evs0:=st.evs++[newEv i (st.wd.tick.begin q)]) rfl rfl (by simp [List.set_set]) (λ_=>by simp [List.set_set]) rfl rfl)).mpr
     (.step q i st.evs.length s _ _ hq hN (.new s hs hst))
theorem picks_ind {calls:List CallD} (hnow:∀ o wd p s,(S.step o wd p s).2.1.now=wd.now) (hthr:∀ c,c<calls.length->0<=(calls.getD c d0).thread/\(calls.getD c d0).thread<16) {J:PlayD S->Prop}
  (hJ:∀ st st',StGood calls st->StGood calls st'->J st->Turn calls st st'->J st'):∀(picks:List Int) {st:PlayD S},StGood calls st->J st->StGood calls (picksD S calls st picks)/\J (picksD S calls st picks)
 | [],_,hg,h=>⟨hg,h⟩
 | p::ps,_,hg,h=>picks_ind hnow hthr hJ ps (pick_good hnow hthr hg p) (hJ _ _ hg (pick_good hnow hthr hg p) h (pick_turn hthr hg p))
theorem From.len {calls:List CallD} {st:PlayD S} {q i k:Nat} {s:S.σ} {evs0:List EvD} {wd0:WD} (h:From calls st q i k s evs0 wd0):k<evs0.length:=by
 cases h with
 | old k s hh hk hc hr=>exact hk
 | new s hh hs=>simp
theorem From.call {calls:List CallD} {st:PlayD S} {q i k:Nat} {s:S.σ} {evs0:List EvD} {wd0:WD} (h:From calls st q i k s evs0 wd0):(evAt evs0 k).call=i:=by
 cases h with
 | old k s hh hk hc hr=>exact hc
 | new s hh hs=>rw [evAt_last];rfl
theorem From.open_ {calls:List CallD} {st:PlayD S} {q i k:Nat} {s:S.σ} {evs0:List EvD} {wd0:WD} (h:From calls st q i k s evs0 wd0):(evAt evs0 k).resp=0:=by
 cases h with
 | old k s hh hk hc hr=>exact hr
 | new s hh hs=>rw [evAt_last];rfl
theorem From.now {calls:List CallD} {st:PlayD S} {q i k:Nat} {s:S.σ} {evs0:List EvD} {wd0:WD} (h:From calls st q i k s evs0 wd0):wd0.now=st.wd.now+1:=by
 cases h<;>rfl
theorem From.mem {calls:List CallD} {st:PlayD S} {q i k:Nat} {s:S.σ} {evs0:List EvD} {wd0:WD} (h:From calls st q i k s evs0 wd0):wd0.mem=st.wd.mem:=by
 cases h<;>rfl
theorem From.traces {calls:List CallD} {st:PlayD S} {q i k:Nat} {s:S.σ} {evs0:List EvD} {wd0:WD} (h:From calls st q i k s evs0 wd0):wd0.traces=st.wd.traces:=by
 cases h<;>rfl
theorem From.obj {calls:List CallD} {st:PlayD S} {q i k:Nat} {s:S.σ} {evs0:List EvD} {wd0:WD} (h:From calls st q i k s evs0 wd0):st.evs.length<=evs0.length/\∀ j,j<st.evs.length->evAt evs0 j=evAt st.evs j:=by
 cases h with
 | old k s hh hk hc hr=>exact⟨Nat.le_refl _,λ_ _=>rfl⟩
 | new s hh hs=>exact⟨by simp,λj hj=>evAt_old hj⟩
theorem From.other {calls:List CallD} {st:PlayD S} {q i k:Nat} {s:S.σ} {evs0:List EvD} {wd0:WD} (h:From calls st q i k s evs0 wd0) (e:EvD) {j:Nat} (hj:j<(evs0.set k e).length) (hjk:j≠k):j<st.evs.length/\evAt (evs0.set k e) j=evAt st.evs j:=by
 rw [List.length_set] at hj
 rw [evAt_set _ h.len,if_neg hjk]
 cases h with
 | old k s hh hk hc hr=>exact⟨hj,rfl⟩
 | new s hh hs=>
  have:j<st.evs.length:=by simp at hj;omega
  exact⟨this,evAt_old this⟩
theorem From.self {calls:List CallD} {st:PlayD S} {q i k:Nat} {s:S.σ} {evs0:List EvD} {wd0:WD} (h:From calls st q i k s evs0 wd0) (e:EvD):evAt (evs0.set k e) k=e:=by rw [evAt_set _ h.len,if_pos rfl]
theorem From.size {calls:List CallD} {st:PlayD S} {q i k:Nat} {s:S.σ} {evs0:List EvD} {wd0:WD} (h:From calls st q i k s evs0 wd0) (e:EvD):st.evs.length<=(evs0.set k e).length:=by rw [List.length_set];exact h.obj.1
theorem hands_set {h16:Nat} {hands:List (Option S.σ×Nat)} {q:Nat} (hl:hands.length=h16) (hq:q<h16) (x:Option S.σ×Nat) (p:Nat):(hands.set q x).getD p (none,0)=if p=q then x else hands.getD p (none,0):=by
 by_cases h:p=q
 ·subst h;rw [if_pos rfl];exact getD_set_eq (by omega)
 ·rw [if_neg h];exact getD_set_neq (Ne.symm h)
end
end Go.Proofs.YtfkokppncipgnaaGreat
