/- Layer 15: what every play of a snapshot keeps, from its beginning on; no step is made unsafely; how many steps there are. -/
import Derived.Test.YtlepjmnhekeofaaW25
import Derived.Test.YtlepjmnhekeofaaW34
import Derived.Test.YtlepjmnhekeofaaW20
import Derived.Test.YtlepjmnhekeofaaW19
set_option maxRecDepth 100000
set_option linter.unusedVariables false
set_option linter.unusedSimpArgs false
set_option linter.unnecessarySimpa false
namespace Go.Proofs.Ytlepjmnhekeofaa
section
open Go.RowKit
variable {n k:Nat} {calls:List CallD}
theorem sn_play0 (hn1:1<=n) (hn:n<=16) (k:Nat) (calls:List CallD):SnInv n k calls (play0 (snapS n k) snO0 (List.replicate (snSize n k) 0) calls) (λ_=>0):=by
 have hz:∀ t,List.getD (α:=Nat) (play0 (snapS n k) snO0 (List.replicate (snSize n k) 0) calls).obj t 0=0:=λt=>getD_rep'
 have hw:∀ a,(List.replicate (snSize n k) 0).getD a 0=0:=λa=>getD_rep'
 refine⟨rfl,rfl,Nat.le_refl _,by show(List.replicate (snSize n k) 0).length=_;rw [List.length_replicate];rfl,rfl,λt=>by rw [hz];exact Nat.zero_le _,λt _=>by rw [hz];rfl,⟨λi hi=>⟨none,λj hj=>absurd hj (Nat.not_lt_zero _),hw i⟩,by show n<=(List.replicate (snSize n k) 0).length;rw [List.length_replicate];unfold snSize;omega,λx hx=>absurd hx (Nat.not_lt_zero _),λx y hx=>absurd hx (Nat.not_lt_zero _),λx hx=>absurd hx (Nat.not_lt_zero _),λx hx=>absurd hx (Nat.not_lt_zero _),λx y hx=>absurd hx (Nat.not_lt_zero _),λx y hx=>absurd hx (Nat.not_lt_zero _)⟩,λx hx=>absurd hx (Nat.not_lt_zero _),λp s j hp=>?_,λj hj=>absurd hj (Nat.not_lt_zero _)⟩
 rw [show(play0 (snapS n k) snO0 (List.replicate (snSize n k) 0) calls).hands.getD p (none,0)=(none,0) from getD_rep'] at hp;cases hp
theorem sn_picks {np:Nat} (hck:checkN n calls np=0) (hk:k<=64) (l:List Int):StGood calls (picksD (snapS n k) calls (play0 (snapS n k) snO0 (List.replicate (snSize n k) 0) calls) l)/\TickApart (picksD (snapS n k) calls (play0 (snapS n k) snO0 (List.replicate (snSize n k) 0) calls) l)/\∃ rho,SnInv n k calls (picksD (snapS n k) calls (play0 (snapS n k) snO0 (List.replicate (snSize n k) 0) calls) l) rho:=by
 obtain⟨hn1,hn16⟩:=n_ok hck
 have hthr':=thr_16 hck
 have hthr:∀ c,c<calls.length->0<=(calls.getD c d0).thread/\(calls.getD c d0).thread<n:=λc hc=>by have:=thr_ok hck c hc;omega
 have hnow:=(snap_ok n k 0 (by omega) hk).now
 exact picks_ind (S:=snapS n k) hnow hthr' (J:=λst=>TickApart st/\∃ rho,SnInv n k calls st rho) (λst st' hg _ hj hT=>⟨turn_apart hnow hg hj.1 hT,sn_turn (by omega) (by omega) hthr hg hj.2 hT⟩) l (play0_good (S:=snapS n k) calls snO0 (List.replicate (snSize n k) 0)) ⟨λi j hi=>absurd hi (Nat.not_lt_zero _),_,sn_play0 (by omega) (by omega) k calls⟩
theorem rec_small {p:Nat} {u:Nat} (hn:n<=16) (hk:k<=64) (hp:p<n) (hu:u<k):snRecord n k p u<20000:=by
 have h1:=rec_hi (n:=n) hp hu
 have h2:snSz n k<=20000:=snSize_le hn hk
 omega
theorem ScOk.stepsLe {prt val:CallD->Nat} {rho:Nat->Nat} {evs:List EvD} {traces:Int->List Int} {T p I N:Nat} {s:ScD} (hn:n<=16) (hp:p<n) (h:ScOk n calls prt val rho evs traces T p I N s):N<=(n+1)*n+n:=by
 rcases h.body with⟨_,c⟩|⟨_,c⟩|⟨_,c⟩|⟨_,c⟩
 ·have h1:=cntT_lt hp (by have:=h.l3;omega) h.dn h.own
  have h2:=c.few
  have h3:s.rounds*n<=n*n:=Nat.mul_le_mul_right n (by omega)
  have h4:=c.at_
  rw [c.steps,Nat.succ_mul];omega
 ·have:=c.steps;have:=c.at_;omega
 ·have:=c.steps;have:=c.at_;omega
 ·exact c.steps
theorem sn_live {st:PlayD (snapS n k)} {q i j:Nat} {evs0:List EvD} {rho:Nat->Nat} {s:SnS} {wd0:WD} (hn:1<=n) (hn16:n<=16) (hk:k<=64) (hthr:∀ c,c<calls.length->0<=(calls.getD c d0).thread/\(calls.getD c d0).thread<n) (hg:StGood calls st) (h:SnInv n k calls st rho) (ht:st.wd.now<=1000000) (hN:nowN calls st.fin (q:Int)=some i) (hf:From calls st q i j s evs0 wd0):snLive n st.obj wd0 s:=by
 have hopen:(evAt evs0 j).resp=0:=hf.open_
 have hnx:=hf.next hg hN (stepEv (evAt evs0 j)) rfl
 have hqn:=sn_q hthr hN
 have hwl:st.wd.mem.ws.length<=20000:=by rw [h.wl];exact snSize_le hn16 hk
 obtain⟨g1,g2⟩:=sn_pre hn hthr hg h hN hf hnx (.inl hopen)
 have sc:∀(x:ScD) (N:Nat),x.pc≠3->ScOk n calls prtT valA rho (evs0.set j (stepEv (evAt evs0 j))) st.wd.traces (st.wd.now+1) q (evAt evs0 j).inv N x->ScLive n wd0 x/\((scGo n wd0 x).pc=3->0<=(scGo n wd0 x).moment/\(scGo n wd0 x).moment<1000000000):=λx N h3 hx=>by
  obtain⟨a1,a2,a3⟩:=sn_scan hn hn16 hthr hg h hN hf hnx (.inl hopen) (piW_open hopen) h3 hx
  refine⟨?_,λe=>?_⟩
  ·rcases hx.body with⟨e,c⟩|⟨e,c⟩|⟨e,c⟩|⟨e,_⟩
   ·refine⟨by omega,c.at_,λ_=>⟨?_,c.nil,λhl hr d f hd=>?_⟩,λh9=>by omega,λh9=>by omega,λh9=>by omega⟩
    ·have h1:=cntT_lt hqn (by have:=hx.l3;omega) hx.dn hx.own
     have h2:=c.few
     omega
    ·have hne:x.old≠x.now.set x.at_ (taGot wd0 x.at_):=λe9=>by
      obtain⟨_,s2⟩:=scDif_spec x.old (x.now.set x.at_ (taGot wd0 x.at_)) n 0 x.diff (by have:=hx.l3;omega)
      obtain⟨y,_,_,y3,_⟩:=s2 d f hd
      exact y3 (by rw [<-e9])
     have hgo:scGo n wd0 x={ x with now:=x.now.set x.at_ (taGot wd0 x.at_),at_:=0,rounds:=x.rounds+1,diff:=d,pc:=2,from_:=f,moment:=(wd0.traces f).headD 0 }:=by
      have ha:scAddr x=x.at_:=by unfold scAddr;rw [if_pos e]
      unfold scGo scNext
      rw [if_pos e,if_pos hl,ha]
      exact scHeld_some (s:={ x with now:=x.now.set x.at_ (taGot wd0 x.at_),at_:=x.at_+1 }) hr hne hd
     rw [hgo] at a2
     rcases a2.body with⟨e',_⟩|⟨e',_⟩|⟨_,c'⟩|⟨e',_⟩
     ·cases e'
     ·cases e'
     ·obtain⟨jj,j1,j2,j3⟩:=c'.ref
      have h5:=(a3.pos jj j1 j2).2
      have j3:f=rho jj:=j3
      have h6:st.wd.traces (f:Int)=[_]:=c'.tr
      exact⟨by omega,by rw [hf.trs,h6];exact List.cons_ne_nil _ _⟩
     ·cases e'
   ·refine⟨by omega,c.at_,λh9=>by omega,λ_=>c.len,λ_=>?_,λh9=>by omega⟩
    obtain⟨m,_,_,_,m4,_⟩:=c.mom
    obtain⟨oj,o1,o2⟩:=m4 x.at_ c.at_
    match oj,o1,o2 with
    | none,_,o2=>exact absurd o2 c.pos
    | some y,o1,o2=>
     have h5:=(a3.pos y o1.1 o1.2.1).2
     have o2:x.now.getD x.at_ 0=rho y:=o2
     omega
   ·refine⟨by omega,c.at_,λh9=>by omega,λ_=>c.len,λh9=>by omega,λ_=>?_⟩
    obtain⟨jj,j1,j2,j3⟩:=c.ref
    have h5:=(a3.pos jj j1 j2).2
    omega
   ·exact absurd e h3
  ·rcases a2.body with⟨e',_⟩|⟨e',_⟩|⟨e',_⟩|⟨_,c⟩
   ·omega
   ·omega
   ·omega
   ·obtain⟨m,m1,m2,m3,_⟩:=c.mom
    omega
 match s,g2 with
 | .rd x key,⟨_,_,h3,hx⟩=>exact sc x _ h3 hx
 | .up x p' r nx v sc',⟨_,g3,_,g5,g6,g7⟩=>
  rcases g7 with⟨rfl,_,h3,hx⟩|⟨rfl,h3,h4,⟨N,hx,_⟩,_⟩
  ·exact(sc x _ h3 hx).1
  ·rcases hx.body with⟨e',_⟩|⟨e',_⟩|⟨e',_⟩|⟨_,c⟩
   ·omega
   ·omega
   ·omega
   ·refine⟨c.len,?_,h4,by omega,?_⟩
    ·have:=rec_small hn16 hk hqn g5;omega
    ·rw [g3];omega
theorem sn_safe (hk:k<=64) {picks:List Int} (hck:checkN n calls picks.length=0):∀ l p m,picks=l++p::m->SafeAt (snapR n k 0) calls (picksD (snapS n k) calls (play0 (snapS n k) snO0 (List.replicate (snSize n k) 0) calls) l) p:=by
 intro l p m hl i hN
 obtain⟨hn1,hn16⟩:=n_ok hck
 have hnp:=np_ok hck
 have hll:l.length<picks.length:=by rw [hl];simp
 have htk:=picks_ticks (S:=snapS n k) (snap_ok n k 0 (by omega) hk).now (play0 (snapS n k) snO0 (List.replicate (snSize n k) 0) calls) l (calls:=calls)
 rw [show(play0 (snapS n k) snO0 (List.replicate (snSize n k) 0) calls).wd.now=0 from rfl,show(play0 (snapS n k) snO0 (List.replicate (snSize n k) 0) calls).idle=0 from rfl] at htk
 obtain⟨a,_,rho,b⟩:=sn_picks hck hk l
 have hthr:∀ c,c<calls.length->0<=(calls.getD c d0).thread/\(calls.getD c d0).thread<n:=λc hc=>by have:=thr_ok hck c hc;omega
 have hN0:=hN
 obtain⟨n1,n2,n3⟩:=nowN_spec hN
 have ht:=thr_16 hck i n1
 obtain⟨q,rfl⟩:∃ q:Nat,p=(q:Int):=⟨p.toNat,by omega⟩
 simp only [Int.toNat_natCast]
 refine⟨λs j hh=>?_,λhh s hs=>?_⟩
 ·obtain⟨k1,k2,k3,k4⟩:=a.ev.hand q j (by unfold hndOf;rw [hh];rfl)
  have hc:(evAt (picksD (snapS n k) calls (play0 (snapS n k) snO0 (List.replicate (snSize n k) 0) calls) l).evs j).call=i:=by rw [hN] at k4;exact(Option.some.inj k4).symm
  exact sn_live (by omega) (by omega) hk hthr a b (by omega) hN (.old j s hh k1 hc k3)
 ·exact sn_live (by omega) (by omega) hk hthr a b (by omega) hN (.new s hh hs)
theorem sn_steps {st:PlayD (snapS n k)} {rho:Nat->Nat} (hn:n<=16) (hthr:∀ c,c<calls.length->0<=(calls.getD c d0).thread/\(calls.getD c d0).thread<n) (hg:StGood calls st) (h:SnInv n k calls st rho) {i:Nat} (hi:i<st.evs.length):(evAt st.evs i).steps<=(n+1)*n+n+n+2/\(kindOf calls (evAt st.evs i)=1->(evAt st.evs i).steps<=(n+1)*n+n):=by
 by_cases hr:(evAt st.evs i).resp=0
 ·have ho:=(hg.ev.open_ i hi hr).2
  unfold hndOf at ho
  obtain⟨p,hp⟩:∃ p,p=tn calls (evAt st.evs i):=⟨_,rfl⟩
  have hpn:p<n:=by
   have h5:=hthr _ (hg.ev.call i hi)
   rw [hp];unfold tn;omega
  rw [<-hp] at ho
  cases hh:st.hands.getD p (none,0) with
  | mk m j=>
   rw [hh] at ho
   cases m with
   | none=>simp at ho
   | some s=>
    simp only [Option.isSome_some,if_true,Option.some.injEq] at ho
    subst ho
    obtain⟨_,g2⟩:=h.hand p s j hh
    match s,g2 with
    | .rd x key,⟨_,_,_,hx⟩=>
     have:=hx.stepsLe hn hpn
     exact⟨by omega,λ_=>this⟩
    | .up x p' r nx v sc,⟨k0,_,_,_,_,g7⟩=>
     refine⟨?_,λh1=>by omega⟩
     rcases g7 with⟨_,_,_,hx⟩|⟨_,_,h4,⟨N,hx,h5⟩,_⟩
     ·have:=hx.stepsLe hn hpn;omega
     ·have:=hx.stepsLe hn hpn;omega
 ·exact(h.told i hi hr).st
structure SnGood (n k:Nat) (calls:List CallD) (evs:List EvD):Prop where
 call:∀ i,i<evs.length->(evAt evs i).call<calls.length
 steps:∀ i,i<evs.length->(evAt evs i).steps<=(n+1)*n+n+n+2/\(kindOf calls (evAt evs i)=1->(evAt evs i).steps<=(n+1)*n+n)
theorem sn_report (hk:k<=64) {picks:List Int} (hck:checkN n calls picks.length=0) :
  (playD (snapS n k) snO0 (List.replicate (snSize n k) 0) calls picks).evs.length<=picks.length/\SnGood n k calls (playD (snapS n k) snO0 (List.replicate (snSize n k) 0) calls picks).evs:=by
 obtain⟨hn1,hn16⟩:=n_ok hck
 have hnp:=np_ok hck
 have hthr:∀ c,c<calls.length->0<=(calls.getD c d0).thread/\(calls.getD c d0).thread<n:=λc hc=>by have:=thr_ok hck c hc;omega
 have htk:=picks_ticks (S:=snapS n k) (snap_ok n k 0 (by omega) hk).now (play0 (snapS n k) snO0 (List.replicate (snSize n k) 0) calls) picks (calls:=calls)
 rw [show(play0 (snapS n k) snO0 (List.replicate (snSize n k) 0) calls).wd.now=0 from rfl,show(play0 (snapS n k) snO0 (List.replicate (snSize n k) 0) calls).idle=0 from rfl] at htk
 obtain⟨hg,_,rho,h⟩:=sn_picks hck hk picks
 obtain⟨st,hst⟩:∃ st,st=picksD (snapS n k) calls (play0 (snapS n k) snO0 (List.replicate (snSize n k) 0) calls) picks:=⟨_,rfl⟩
 rw [<-hst] at hg h htk
 have hE:(playD (snapS n k) snO0 (List.replicate (snSize n k) 0) calls picks).evs=endD (snapS n k) st:=by rw [hst];rfl
 rw [hE]
 have hlen:=end_length (calls:=calls) hg
 obtain⟨e1,e2⟩:=end_same st (λ_ _ _ _=>rfl) (List.range 16) st.evs
 have hev:=hg.ev.len_le
 have hsame:∀ i,(evAt (endD (snapS n k) st) i).call=(evAt st.evs i).call/\(evAt (endD (snapS n k) st) i).inv=(evAt st.evs i).inv/\(evAt (endD (snapS n k) st) i).resp=(evAt st.evs i).resp/\(evAt (endD (snapS n k) st) i).steps=(evAt st.evs i).steps/\(evAt (endD (snapS n k) st) i).ans=(evAt st.evs i).ans:=e2
 refine⟨by omega,⟨λi hi=>?_,λi hi=>?_⟩⟩
 ·rw [hlen] at hi
  rw [(hsame i).1];exact hg.ev.call i hi
 ·rw [hlen] at hi
  obtain⟨s1,s2,s3,s4,s5⟩:=hsame i
  unfold kindOf
  rw [s1,s4]
  exact sn_steps (by omega) hthr hg h hi
end
section

/- A report's events, as the laws' checks meet them. -/
open Go.RowKit
theorem RepAt.ev8 {X:Nat->Prop} {B:Nat} {w wr:World} {ea:Option Addr} {en ec:Nat} {wv:Value} {ers:List (Value×Value)} {r:RepD} (h:RepAt X B w (.slice ea en ec) wv ers r) (hn:en=r.evs.length) {k:Nat} (hk:k<en) (hb:Below w.heap.size w wr) :
  ∃ g la lc ka kc,ea=some ⟨g,0,none⟩/\g<wr.heap.size/\
   wr.cell? ⟨g,k*8,none⟩=some (.int .i64 ((evAt r.evs k).call:Int))/\wr.cell? ⟨g,k*8+1,none⟩=some (.int .i64 ((evAt r.evs k).inv:Int))/\wr.cell? ⟨g,k*8+2,none⟩=some (.int .i64 ((evAt r.evs k).resp:Int))/\wr.cell? ⟨g,k*8+3,none⟩=some (.int .i64 ((evAt r.evs k).steps:Int))/\
   wr.cell? ⟨g,k*8+4,none⟩=some (.int .i64 (evAt r.evs k).ans.err)/\wr.cell? ⟨g,k*8+5,none⟩=some (.int .u64 ((evAt r.evs k).ans.val:Int))/\wr.cell? ⟨g,k*8+6,none⟩=some (.slice la (evAt r.evs k).ans.list.length lc)/\wr.cell? ⟨g,k*8+7,none⟩=some (.slice ka (evAt r.evs k).key.length kc)/\
   SlAt wr la (evAt r.evs k).ans.list.length 1 (u64G (evAt r.evs k).ans.list)/\SlAt wr ka (evAt r.evs k).key.length 1 (intG (evAt r.evs k).key)/\((evAt r.evs k).key=[]->ka=none/\kc=0):=by
 obtain⟨g,rfl,hg,hev⟩:=h.event hn (by omega)
 have hans:=h.ans k (by rw [<-hn];exact hk)
 obtain⟨V,hV⟩:∃ V,V=ers.getD k vv0:=⟨_,rfl⟩
 rw [<-hV] at hans
 obtain⟨⟨la,lc,hlv,hls,_⟩,⟨ka,kc,hkv,hkn,hks,_⟩⟩:=hans
 have hcells:∀ f,f<8->wr.cell? ⟨g,k*8+f,none⟩=(evCells (evAt r.evs k) V)[f]?:=λf hf=>by rw [hb.cell hg,hev k f hk hf,hV];rfl
 refine⟨g,la,lc,ka,kc,rfl,Nat.lt_of_lt_of_le hg hb.size,hcells 0 (by omega),hcells 1 (by omega),hcells 2 (by omega),hcells 3 (by omega),hcells 4 (by omega),hcells 5 (by omega),?_,?_,hls.grown hb,hks.grown hb,λh0=>?_⟩
 ·rw [hcells 6 (by omega)];exact congrArg some hlv
 ·rw [hcells 7 (by omega)];exact congrArg some hkv
 ·have:=hkn h0
  rw [hkv] at this
  simp only [Value.slice.injEq] at this
  exact⟨this.1,this.2.2⟩
end
section

/- Layer 15: a thread that updates, and another one that scans. -/
open Go.RowKit
theorem snCheck_zero {q0 q1:Int} {calls:List CallD} {np:Nat} (h:snCheck q0 q1 calls np=0):checkN q0 calls np=0/\1<=q1/\q1<=64:=by
 unfold snCheck at h
 split at h
 ·rename_i h1;exact absurd h h1
 ·rename_i h1
  split at h
  ·cases h
  ·rename_i h2;exact⟨Classical.not_not.1 h1,by omega,by omega⟩
theorem snapPlay_safe (X:Nat->Prop) (w:World) (n k:Int) (calls:List CallD) (picks:List Int) (ca pa:Option Addr) (cc pc:Nat) (hX:∀ b,X b->b<w.heap.size) (hc:CallsAt X w ca calls) (hp:PicksAt w pa picks) :
  Calls Try.prog 23 #[.int .i64 n,.int .i64 k,.slice ca calls.length cc,.slice pa picks.length pc] w λe w'=>PlayRet X w w' (snCheck n k calls picks.length) (playD (snapS n.toNat k.toNat) snO0 (List.replicate (snSize n.toNat k.toNat) 0) calls picks) e:=by
 refine snapPlay_any X w n k calls picks ca pa cc pc hX hc hp (λh0 h1 h2=>?_)
 have hn:=n_ok h0
 exact sn_safe (by omega) (by rw [show((n.toNat:Nat):Int)=n by omega];exact h0)
def fiveCalls15:List CallD:=[⟨0,0,0,5,0,0⟩,⟨1,0,1,0,0,0⟩]
theorem five_rep15:playD (snapS 2 1) snO0 (List.replicate (snSize 2 1) 0) fiveCalls15 [0,0,0,0,0,0,0,0,1,1,1,1,1]=⟨[⟨0,1,8,8,⟨0,0,[]⟩,[16]⟩,⟨1,9,13,5,⟨0,0,[5,0]⟩,[20,26]⟩],[2,0,5,0,0,0,0,0],⟨9,4,0,0,0⟩,13,0⟩:=by kernel_rfl
theorem five_check15:snCheck 2 1 fiveCalls15 13=0:=by rfl
set_option maxHeartbeats 4000000 in
theorem snap_five (w:World):Calls Try.prog 22 #[] w λe w'=>e=.returned (.bool true)/\Below w.heap.size w w':=by
 obtain⟨wa,hwa⟩:∃ wa,wa=(w.alloc (.cells #[.int .i64 0,.int .i64 0,.int .i64 0,.int .u64 5,.int .u64 0,.int .u64 0,.int .i64 1,.int .i64 0,.int .i64 1,.int .u64 0,.int .u64 0,.int .u64 0] 46)).alloc (.cells #[.int .i64 0,.int .i64 0,.int .i64 0,.int .i64 0,.int .i64 0,.int .i64 0,.int .i64 0,.int .i64 0,.int .i64 1,.int .i64 1,.int .i64 1,.int .i64 1,.int .i64 1] 3):=⟨_,rfl⟩
 have hga:Below w.heap.size w wa:=by rw [hwa];exact Gr.alloc (Gr.new _ _) _
 have h1:wa.heap[w.heap.size]?=some (.cells (fiveCalls15.flatMap callL).toArray 46 (0,0)):=by rw [hwa,Below.heap_alloc _ _ _ (by simp),heap_alloc_new];rfl
 have h2:wa.heap[w.heap.size+1]?=some (.cells (([0,0,0,0,0,0,0,0,1,1,1,1,1]:List Int).map (Value.int .i64)).toArray 3 (0,0)):=by
  rw [hwa]
  have:=heap_alloc_new (w.alloc (.cells #[.int .i64 0,.int .i64 0,.int .i64 0,.int .u64 5,.int .u64 0,.int .u64 0,.int .i64 1,.int .i64 0,.int .i64 1,.int .u64 0,.int .u64 0,.int .u64 0] 46)) (.cells #[.int .i64 0,.int .i64 0,.int .i64 0,.int .i64 0,.int .i64 0,.int .i64 0,.int .i64 0,.int .i64 0,.int .i64 1,.int .i64 1,.int .i64 1,.int .i64 1,.int .i64 1] 3 (0,0))
  simp only [World.size_alloc] at this
  exact this
 have P:=snapPlay_safe noB wa 2 1 fiveCalls15 [0,0,0,0,0,0,0,0,1,1,1,1,1] (some ⟨w.heap.size,0,none⟩) (some ⟨w.heap.size+1,0,none⟩) 2 13 (λb hb=>hb.elim) ⟨calls_block h1 (by decide),(by
   intro x hx
   simp only [fiveCalls15,List.mem_cons,List.not_mem_nil,or_false] at hx
   rcases hx with rfl|rfl<;>exact callOk_small (by decide) (by decide) (by decide) (by decide) (by decide) (by decide) (by decide)),λ_ _ _ _ h=>h⟩ ⟨ints_block h2 (by decide),by intro x hx;simp only [List.mem_cons,List.not_mem_nil,or_false] at hx;rcases hx with rfl|rfl|rfl|rfl|rfl|rfl|rfl|rfl|rfl|rfl|rfl|rfl|rfl<;>rfl⟩
 rw [show([0,0,0,0,0,0,0,0,1,1,1,1,1]:List Int).length=13 from rfl,five_check15,show(2:Int).toNat=2 from rfl,show(1:Int).toNat=1 from rfl,five_rep15,show fiveCalls15.length=2 from rfl] at P
 have HP:=Lib.hid P;have Hwa:=Lib.hid hwa;have Hga:=Lib.hid hga
 clear P h1 h2 hwa hga
 go_enter Try.func22,Try.ntmps22
 go_wp2_with fail
 rw [<-Hwa.out]
 refine HP.out.mono ?_
 rintro e w1 ⟨ea,en,ec,va,vn,vc,rp,rfl,hb,hr⟩
 rcases hr with⟨h0,_⟩|⟨_,hrp,hen,hvn,ers,hrep⟩
 ·exact absurd rfl h0
 subst hrp
 obtain⟨g,la,lc,ka,kc,rfl,hg,_,_,_,_,_,_,e6,_,hls,_,_⟩:=hrep.ev8 hen (k:=1) (by rw [hen];decide) (Gr.refl _)
 obtain⟨g2,hgg,_,hev⟩:=hrep.event hen (by rw [hen];decide)
 cases hgg
 have hen2:en=2:=hen
 subst hen2
 have c14:w1.cell? ⟨g,14,none⟩=some (.slice la 2 lc):=e6
 have hls':SlAt w1 la [5,0].length 1 (u64G [5,0]):=hls
 have c2:w1.cell? ⟨g,2,none⟩=some (.int .i64 8):=hev 0 2 (by omega) (by omega)
 have c10:w1.cell? ⟨g,10,none⟩=some (.int .i64 13):=hev 1 2 (by omega) (by omega)
 have Hb:=Lib.hid hb;have Hls:=Lib.hid hls'
 obtain⟨w4,hw4⟩:∃ w4,w4=(w1.alloc (.cells #[.slice (some ⟨g,0,none⟩) 2 ec,.slice va vn vc,.int .i64 9,.int .i64 4,.int .i64 0,.int .i64 0,.int .i64 0,.int .i64 13,.int .i64 0] 32)).alloc (.cells #[.int .u64 5,.int .u64 0] 40):=⟨_,rfl⟩
 have hb4:Below w1.heap.size w1 w4:=by rw [hw4];exact Gr.alloc (Gr.new _ _) _
 have hq4:w4.heap[w1.heap.size+1]?=some (.cells #[.int .u64 5,.int .u64 0] 40 (0,0)):=by
  have:=heap_alloc_new (w1.alloc (.cells #[.slice (some ⟨g,0,none⟩) 2 ec,.slice va vn vc,.int .i64 9,.int .i64 4,.int .i64 0,.int .i64 0,.int .i64 0,.int .i64 13,.int .i64 0] 32)) (.cells #[.int .u64 5,.int .u64 0] 40 (0,0))
  simp only [World.size_alloc] at this
  rw [hw4];exact this
 have hsl4:SlAt w4 (some ⟨w1.heap.size+1,0,none⟩) [5,0].length 1 (u64G [5,0]):=⟨by decide,λj hj=>⟨w1.heap.size+1,0,rfl,blk_lt hq4,λf hf=>by
  have hj':j<2:=hj
  rw [cell_blk hq4]
  have hf0:f=0:=by omega
  subst hf0
  have:j=0∨j=1:=by omega
  rcases this with rfl|rfl<;>rfl⟩⟩
 have SM:=Lib.hid (same_eq [5,0] la (some ⟨w1.heap.size+1,0,none⟩) lc 2 w4 (Hls.out.grown hb4) hsl4)
 have Hw4:=Lib.hid hw4;have Hb4:=Lib.hid hb4
 clear hw4 hb4 hq4 hsl4
 clear hrep hev hb hen hvn hls hls' e6
 unfold repV
 go_wp2_with fail
 rw [<-Hw4.out]
 refine SM.out.mono ?_
 rintro e w5 ⟨rfl,hb5⟩
 go_wp2
 go_ret
 exact⟨rfl,Gr.trans Hga.out (Gr.trans Hb.out (Gr.trans Hb4.out hb5))⟩
end
end Go.Proofs.Ytlepjmnhekeofaa
