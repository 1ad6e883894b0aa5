/- Layer 15: what every play of a snapshot keeps, from its beginning on; no step is made unsafely; how many steps there are. -/
import Derived.Test.YtlepjmnhekeofaaR28
import Derived.Test.YtlepjmnhekeofaaR39
import Derived.Test.YtlepjmnhekeofaaR21
set_option maxRecDepth 100000
set_option linter.unusedVariables false
set_option linter.unusedSimpArgs false
set_option linter.unnecessarySimpa false
namespace Go.Proofs.Ytlepjmnhekeofaa
section
open Go.RowKit
variable {n k:Nat} {calls:List CallD}
theorem sn_play0 (hn1:1<=n) (hn:n<=16) (k:Nat) (calls:List CallD):SnInv n k calls (play0 (snapS n k) snO0 (List.replicate (snSize n k) 0) calls) (λ_=>0):=by
 have hz:∀ t,List.getD (α:=Nat) (play0 (snapS n k) snO0 (List.replicate (snSize n k) 0) calls).obj t 0=0:=λt=>getD_rep'
 have hw:∀ a,(List.replicate (snSize n k) 0).getD a 0=0:=λa=>getD_rep'
 refine⟨rfl,rfl,Nat.le_refl _,by show(List.replicate (snSize n k) 0).length=_;rw [List.length_replicate];rfl,rfl,λt=>by rw [hz];exact Nat.zero_le _,λt _=>by rw [hz];rfl,⟨λi hi=>⟨none,λj hj=>absurd hj (Nat.not_lt_zero _),hw i⟩,by show n<=(List.replicate (snSize n k) 0).length;rw [List.length_replicate];unfold snSize;omega,λx hx=>absurd hx (Nat.not_lt_zero _),λx y hx=>absurd hx (Nat.not_lt_zero _),λx hx=>absurd hx (Nat.not_lt_zero _),λx hx=>absurd hx (Nat.not_lt_zero _),λx y hx=>absurd hx (Nat.not_lt_zero _),λx y hx=>absurd hx (Nat.not_lt_zero _)⟩,λx hx=>absurd hx (Nat.not_lt_zero _),λp s j hp=>?_,λj hj=>absurd hj (Nat.not_lt_zero _)⟩
 rw [show(play0 (snapS n k) snO0 (List.replicate (snSize n k) 0) calls).hands.getD p (none,0)=(none,0) from getD_rep'] at hp;cases hp
theorem sn_picks {np:Nat} (hck:checkN n calls np=0) (hk:k<=64) (l:List Int):StGood calls (picksD (snapS n k) calls (play0 (snapS n k) snO0 (List.replicate (snSize n k) 0) calls) l)/\TickApart (picksD (snapS n k) calls (play0 (snapS n k) snO0 (List.replicate (snSize n k) 0) calls) l)/\∃ rho,SnInv n k calls (picksD (snapS n k) calls (play0 (snapS n k) snO0 (List.replicate (snSize n k) 0) calls) l) rho:=by
 obtain⟨hn1,hn16⟩:=n_ok hck
 have hthr':=thr_16 hck
 have hthr:∀ c,c<calls.length->0<=(calls.getD c d0).thread/\(calls.getD c d0).thread<n:=λc hc=>by have:=thr_ok hck c hc;omega
 have hnow:=(snap_ok n k 0 (by omega) hk).now
 exact picks_ind (S:=snapS n k) hnow hthr' (J:=λst=>TickApart st/\∃ rho,SnInv n k calls st rho) (λst st' hg _ hj hT=>⟨turn_apart hnow hg hj.1 hT,sn_turn (by omega) (by omega) hthr hg hj.2 hT⟩) l (play0_good (S:=snapS n k) calls snO0 (List.replicate (snSize n k) 0)) ⟨λi j hi=>absurd hi (Nat.not_lt_zero _),_,sn_play0 (by omega) (by omega) k calls⟩
theorem rec_small {p:Nat} {u:Nat} (hn:n<=16) (hk:k<=64) (hp:p<n) (hu:u<k):snRecord n k p u<20000:=by
 have h1:=rec_hi (n:=n) hp hu
 have h2:snSz n k<=20000:=snSize_le hn hk
 omega
theorem ScOk.stepsLe {prt val:CallD->Nat} {rho:Nat->Nat} {evs:List EvD} {traces:Int->List Int} {T p I N:Nat} {s:ScD} (hn:n<=16) (hp:p<n) (h:ScOk n calls prt val rho evs traces T p I N s):N<=(n+1)*n+n:=by
 rcases h.body with⟨_,c⟩|⟨_,c⟩|⟨_,c⟩|⟨_,c⟩
 ·have h1:=cntT_lt hp (by have:=h.l3;omega) h.dn h.own
  have h2:=c.few
  have h3:s.rounds*n<=n*n:=Nat.mul_le_mul_right n (by omega)
  have h4:=c.at_
  rw [c.steps,Nat.succ_mul];omega
 ·have:=c.steps;have:=c.at_;omega
 ·have:=c.steps;have:=c.at_;omega
 ·exact c.steps
theorem sn_live {st:PlayD (snapS n k)} {q i j:Nat} {evs0:List EvD} {rho:Nat->Nat} {s:SnS} {wd0:WD} (hn:1<=n) (hn16:n<=16) (hk:k<=64) (hthr:∀ c,c<calls.length->0<=(calls.getD c d0).thread/\(calls.getD c d0).thread<n) (hg:StGood calls st) (h:SnInv n k calls st rho) (ht:st.wd.now<=1000000) (hN:nowN calls st.fin (q:Int)=some i) (hf:From calls st q i j s evs0 wd0):snLive n st.obj wd0 s:=by
 have hopen:(evAt evs0 j).resp=0:=hf.open_
 have hnx:=hf.next hg hN (stepEv (evAt evs0 j)) rfl
 have hqn:=sn_q hthr hN
 have hwl:st.wd.mem.ws.length<=20000:=by rw [h.wl];exact snSize_le hn16 hk
 obtain⟨g1,g2⟩:=sn_pre hn hthr hg h hN hf hnx (.inl hopen)
 have sc:∀(x:ScD) (N:Nat),x.pc≠3->ScOk n calls prtT valA rho (evs0.set j (stepEv (evAt evs0 j))) st.wd.traces (st.wd.now+1) q (evAt evs0 j).inv N x->ScLive n wd0 x/\((scGo n wd0 x).pc=3->0<=(scGo n wd0 x).moment/\(scGo n wd0 x).moment<1000000000):=λx N h3 hx=>by
  obtain⟨a1,a2,a3⟩:=sn_scan hn hn16 hthr hg h hN hf hnx (.inl hopen) (piW_open hopen) h3 hx
  refine⟨?_,λe=>?_⟩
  ·rcases hx.body with⟨e,c⟩|⟨e,c⟩|⟨e,c⟩|⟨e,_⟩
   ·refine⟨by omega,c.at_,λ_=>⟨?_,c.nil,λhl hr d f hd=>?_⟩,λh9=>by omega,λh9=>by omega,λh9=>by omega⟩
    ·have h1:=cntT_lt hqn (by have:=hx.l3;omega) hx.dn hx.own
     have h2:=c.few
     omega
    ·have hne:x.old≠x.now.set x.at_ (taGot wd0 x.at_):=λe9=>by
      obtain⟨_,s2⟩:=scDif_spec x.old (x.now.set x.at_ (taGot wd0 x.at_)) n 0 x.diff (by have:=hx.l3;omega)
      obtain⟨y,_,_,y3,_⟩:=s2 d f hd
      exact y3 (by rw [<-e9])
     have hgo:scGo n wd0 x={ x with now:=x.now.set x.at_ (taGot wd0 x.at_),at_:=0,rounds:=x.rounds+1,diff:=d,pc:=2,from_:=f,moment:=(wd0.traces f).headD 0 }:=by
      have ha:scAddr x=x.at_:=by unfold scAddr;rw [if_pos e]
      unfold scGo scNext
      rw [if_pos e,if_pos hl,ha]
      exact scHeld_some (s:={ x with now:=x.now.set x.at_ (taGot wd0 x.at_),at_:=x.at_+1 }) hr hne hd
     rw [hgo] at a2
     rcases a2.body with⟨e',_⟩|⟨e',_⟩|⟨_,c'⟩|⟨e',_⟩
     ·cases e'
     ·cases e'
     ·obtain⟨jj,j1,j2,j3⟩:=c'.ref
      have h5:=(a3.pos jj j1 j2).2
      have j3:f=rho jj:=j3
      have h6:st.wd.traces (f:Int)=[_]:=c'.tr
      exact⟨by omega,by rw [hf.trs,h6];exact List.cons_ne_nil _ _⟩
     ·cases e'
   ·refine⟨by omega,c.at_,λh9=>by omega,λ_=>c.len,λ_=>?_,λh9=>by omega⟩
    obtain⟨m,_,_,_,m4,_⟩:=c.mom
    obtain⟨oj,o1,o2⟩:=m4 x.at_ c.at_
    match oj,o1,o2 with
    | none,_,o2=>exact absurd o2 c.pos
    | some y,o1,o2=>
     have h5:=(a3.pos y o1.1 o1.2.1).2
     have o2:x.now.getD x.at_ 0=rho y:=o2
     omega
   ·refine⟨by omega,c.at_,λh9=>by omega,λ_=>c.len,λh9=>by omega,λ_=>?_⟩
    obtain⟨jj,j1,j2,j3⟩:=c.ref
    have h5:=(a3.pos jj j1 j2).2
    omega
   ·exact absurd e h3
  ·rcases a2.body with⟨e',_⟩|⟨e',_⟩|⟨e',_⟩|⟨_,c⟩
   ·omega
   ·omega
   ·omega
   ·obtain⟨m,m1,m2,m3,_⟩:=c.mom
    omega
 match s,g2 with
 | .rd x key,⟨_,_,h3,hx⟩=>exact sc x _ h3 hx
 | .up x p' r nx v sc',⟨_,g3,_,g5,g6,g7⟩=>
  rcases g7 with⟨rfl,_,h3,hx⟩|⟨rfl,h3,h4,⟨N,hx,_⟩,_⟩
  ·exact(sc x _ h3 hx).1
  ·rcases hx.body with⟨e',_⟩|⟨e',_⟩|⟨e',_⟩|⟨_,c⟩
   ·omega
   ·omega
   ·omega
   ·refine⟨c.len,?_,h4,by omega,?_⟩
    ·have:=rec_small hn16 hk hqn g5;omega
    ·rw [g3];omega
theorem sn_safe (hk:k<=64) {picks:List Int} (hck:checkN n calls picks.length=0):∀ l p m,picks=l++p::m->SafeAt (snapR n k 0) calls (picksD (snapS n k) calls (play0 (snapS n k) snO0 (List.replicate (snSize n k) 0) calls) l) p:=by
 intro l p m hl i hN
 obtain⟨hn1,hn16⟩:=n_ok hck
 have hnp:=np_ok hck
 have hll:l.length<picks.length:=by rw [hl];simp
 have htk:=picks_ticks (S:=snapS n k) (snap_ok n k 0 (by omega) hk).now (play0 (snapS n k) snO0 (List.replicate (snSize n k) 0) calls) l (calls:=calls)
 rw [show(play0 (snapS n k) snO0 (List.replicate (snSize n k) 0) calls).wd.now=0 from rfl,show(play0 (snapS n k) snO0 (List.replicate (snSize n k) 0) calls).idle=0 from rfl] at htk
 obtain⟨a,_,rho,b⟩:=sn_picks hck hk l
 have hthr:∀ c,c<calls.length->0<=(calls.getD c d0).thread/\(calls.getD c d0).thread<n:=λc hc=>by have:=thr_ok hck c hc;omega
 have hN0:=hN
 obtain⟨n1,n2,n3⟩:=nowN_spec hN
 have ht:=thr_16 hck i n1
 obtain⟨q,rfl⟩:∃ q:Nat,p=(q:Int):=⟨p.toNat,by omega⟩
 simp only [Int.toNat_natCast]
 refine⟨λs j hh=>?_,λhh s hs=>?_⟩
 ·obtain⟨k1,k2,k3,k4⟩:=a.ev.hand q j (by unfold hndOf;rw [hh];rfl)
  have hc:(evAt (picksD (snapS n k) calls (play0 (snapS n k) snO0 (List.replicate (snSize n k) 0) calls) l).evs j).call=i:=by rw [hN] at k4;exact(Option.some.inj k4).symm
  exact sn_live (by omega) (by omega) hk hthr a b (by omega) hN (.old j s hh k1 hc k3)
 ·exact sn_live (by omega) (by omega) hk hthr a b (by omega) hN (.new s hh hs)
theorem sn_steps {st:PlayD (snapS n k)} {rho:Nat->Nat} (hn:n<=16) (hthr:∀ c,c<calls.length->0<=(calls.getD c d0).thread/\(calls.getD c d0).thread<n) (hg:StGood calls st) (h:SnInv n k calls st rho) {i:Nat} (hi:i<st.evs.length):(evAt st.evs i).steps<=(n+1)*n+n+n+2/\(kindOf calls (evAt st.evs i)=1->(evAt st.evs i).steps<=(n+1)*n+n):=by
 by_cases hr:(evAt st.evs i).resp=0
 ·have ho:=(hg.ev.open_ i hi hr).2
  unfold hndOf at ho
  obtain⟨p,hp⟩:∃ p,p=tn calls (evAt st.evs i):=⟨_,rfl⟩
  have hpn:p<n:=by
   have h5:=hthr _ (hg.ev.call i hi)
   rw [hp];unfold tn;omega
  rw [<-hp] at ho
  cases hh:st.hands.getD p (none,0) with
  | mk m j=>
   rw [hh] at ho
   cases m with
   | none=>simp at ho
   | some s=>
    simp only [Option.isSome_some,if_true,Option.some.injEq] at ho
    subst ho
    obtain⟨_,g2⟩:=h.hand p s j hh
    match s,g2 with
    | .rd x key,⟨_,_,_,hx⟩=>
     have:=hx.stepsLe hn hpn
     exact⟨by omega,λ_=>this⟩
    | .up x p' r nx v sc,⟨k0,_,_,_,_,g7⟩=>
     refine⟨?_,λh1=>by omega⟩
     rcases g7 with⟨_,_,_,hx⟩|⟨_,_,h4,⟨N,hx,h5⟩,_⟩
     ·have:=hx.stepsLe hn hpn;omega
     ·have:=hx.stepsLe hn hpn;omega
 ·exact(h.told i hi hr).st
structure SnGood (n k:Nat) (calls:List CallD) (evs:List EvD):Prop where
 call:∀ i,i<evs.length->(evAt evs i).call<calls.length
 steps:∀ i,i<evs.length->(evAt evs i).steps<=(n+1)*n+n+n+2/\(kindOf calls (evAt evs i)=1->(evAt evs i).steps<=(n+1)*n+n)
theorem sn_report (hk:k<=64) {picks:List Int} (hck:checkN n calls picks.length=0) :
  (playD (snapS n k) snO0 (List.replicate (snSize n k) 0) calls picks).evs.length<=picks.length/\SnGood n k calls (playD (snapS n k) snO0 (List.replicate (snSize n k) 0) calls picks).evs:=by
 obtain⟨hn1,hn16⟩:=n_ok hck
 have hnp:=np_ok hck
 have hthr:∀ c,c<calls.length->0<=(calls.getD c d0).thread/\(calls.getD c d0).thread<n:=λc hc=>by have:=thr_ok hck c hc;omega
 have htk:=picks_ticks (S:=snapS n k) (snap_ok n k 0 (by omega) hk).now (play0 (snapS n k) snO0 (List.replicate (snSize n k) 0) calls) picks (calls:=calls)
 rw [show(play0 (snapS n k) snO0 (List.replicate (snSize n k) 0) calls).wd.now=0 from rfl,show(play0 (snapS n k) snO0 (List.replicate (snSize n k) 0) calls).idle=0 from rfl] at htk
 obtain⟨hg,_,rho,h⟩:=sn_picks hck hk picks
 obtain⟨st,hst⟩:∃ st,st=picksD (snapS n k) calls (play0 (snapS n k) snO0 (List.replicate (snSize n k) 0) calls) picks:=⟨_,rfl⟩
 rw [<-hst] at hg h htk
 have hE:(playD (snapS n k) snO0 (List.replicate (snSize n k) 0) calls picks).evs=endD (snapS n k) st:=by rw [hst];rfl
 rw [hE]
 have hlen:=end_length (calls:=calls) hg
 obtain⟨e1,e2⟩:=end_same st (λ_ _ _ _=>rfl) (List.range 16) st.evs
 have hev:=hg.ev.len_le
 have hsame:∀ i,(evAt (endD (snapS n k) st) i).call=(evAt st.evs i).call/\(evAt (endD (snapS n k) st) i).inv=(evAt st.evs i).inv/\(evAt (endD (snapS n k) st) i).resp=(evAt st.evs i).resp/\(evAt (endD (snapS n k) st) i).steps=(evAt st.evs i).steps/\(evAt (endD (snapS n k) st) i).ans=(evAt st.evs i).ans:=e2
 refine⟨by omega,⟨λi hi=>?_,λi hi=>?_⟩⟩
 ·rw [hlen] at hi
  rw [(hsame i).1];exact hg.ev.call i hi
 ·rw [hlen] at hi
  obtain⟨s1,s2,s3,s4,s5⟩:=hsame i
  unfold kindOf
  rw [s1,s4]
  exact sn_steps (by omega) hthr hg h hi
end
section

/- Operations done one by one, in the order of their keys: what makes a report whole, in plain numbers. -/
open Go.RowKit
instance evLt_dec (evs:List EvD) (i j:Nat):Decidable (evLt evs i j):=inferInstanceAs (Decidable (_∨_))
theorem cnt_filter (P:EvD->Bool):∀ l:List EvD,cnt P l=(l.filter P).length
 | []=>rfl
 | e::l=>by
  rw [cnt_cons,cnt_filter P l,List.filter_cons]
  split
  ·rw [List.length_cons];omega
  ·omega
theorem evs_range (evs:List EvD):evs=(List.range evs.length).map (evAt evs):=by
 apply List.ext_getElem
 ·simp
 ·intro i h1 h2
  simp [evAt,List.getD_eq_getElem?_getD,h1]
theorem cnt_range (P:EvD->Bool) (evs:List EvD):cnt P evs=((List.range evs.length).filter λi=>P (evAt evs i)).length:=by
 rw [cnt_filter]
 have h:=evs_range evs
 have h2:(evs.filter P).length=(((List.range evs.length).map (evAt evs)).filter P).length:=by rw [<-h]
 rw [h2,List.filter_map,List.length_map];rfl
structure WholeGood (ap:List Nat->CallD->List Nat×AnsD) (s0:List Nat) (calls:List CallD) (n:Nat) (r:RepD):Prop where
 rows:RowsGood calls n r
 fold:Fold ap calls r.evs s0 (orderD r.evs)
end
end Go.Proofs.Ytlepjmnhekeofaa
