/- Layer 14: what every play of a register keeps. -/
import Derived.Test.YtlepjmnhekeofaaP31
import Derived.Test.YtlepjmnhekeofaaP33
import Derived.Test.YtlepjmnhekeofaaP21
import Derived.Test.YtlepjmnhekeofaaP22
import Derived.Test.YtlepjmnhekeofaaP23
set_option maxRecDepth 100000
set_option linter.unusedVariables false
set_option linter.unusedSimpArgs false
set_option linter.unnecessarySimpa false
namespace Go.Proofs.Ytlepjmnhekeofaa
section
open Go.RowKit
variable {n k:Nat} {calls:List CallD}
theorem pi_turn (hn:1<=n) (hn16:n<=16) (hk1:1<=k) (hthr:∀ c,c<calls.length->0<=(calls.getD c d0).thread/\(calls.getD c d0).thread<n) {st st':PlayD (pinS n k)} (ht:st.wd.now<=1000000) (hg:StGood calls st) (h:PiInv n k calls st) (hT:Turn calls st st'):PiInv n k calls st':=by
 cases hT with
 | idle=>exact⟨h.w,h.hand,h.cont,h.done⟩
 | refuse q i er hq hN hh hs=>exact pi_refuse hg h hq hN hh hs
 | step q i j s evs0 wd0 hq hN hf=>
  match s,hf with
  | .wr v q' iw 0,hf=>exact pi_step_look hn hk1 hthr hg h hq hN hf
  | .wr v q' iw 1,hf=>exact pi_step_fill hn hthr hg h hq hN hf
  | .wr v q' iw (ph+2),hf=>exact pi_step_change hn hn16 ht hthr hg h hq hN hf
  | .rd q' 0 l key,hf=>exact pi_step_come hn hn16 ht hthr hg h hq hN hf
  | .rd q' (j'+1) l key,hf=>
   by_cases hjk:j'<k
   ·exact pi_step_read hn hjk hthr hg h hq hN hf
   ·exact pi_step_leave hn hjk ht hthr hg h hq hN hf
theorem pi_play0 (n k:Nat) (calls:List CallD):PiInv n k calls (play0 (pinS n k) (pinO0 n) (List.replicate (1+(n+1)*(k+1)) 0) calls):=by
 have hw:∀ a,(List.replicate (1+(n+1)*(k+1)) 0).getD a 0=0:=λa=>getD_rep'
 have hH:∀ q,piH q (List.replicate 16 ((none:Option PiS),0))=0:=λq=>by simp [piH,List.countP_replicate,piAt]
 refine⟨⟨?_,?_,Nat.zero_le _,⟨0,?_,Nat.le_refl _,Nat.le_refl _,λq hq=>?_⟩,λq hq=>?_⟩,λp s j hp=>?_,λq hq _=>.inl λa ha=>hw _,λj hj=>absurd hj (Nat.not_lt_zero _)⟩
 ·show(List.replicate _ 0).length=_;simp
 ·show(List.replicate (n+1) 0).length=_;simp
 ·show(List.replicate _ 0).getD 0 0=0*4294967296+0;rw [hw]
 ·show(List.replicate (n+1) 0).getD q 0+(if q=0 then 0 - 0 else 0)=(List.replicate _ 0).getD (1+q) 0+piH q (List.replicate 16 ((none:Option PiS),0))
  rw [hw,hH,getD_rep'];simp
 ·show(List.replicate (n+1) 0).getD q 0<=0
  rw [getD_rep'];exact Nat.le_refl _
 ·rw [show(play0 (pinS n k) (pinO0 n) (List.replicate (1+(n+1)*(k+1)) 0) calls).hands.getD p (none,0)=(none,0) from getD_rep'] at hp;cases hp
theorem pi_picks {np:Nat} (hk1:1<=k) (hck:checkN n calls np=0) (hk:k<=8) (l:List Int):StGood calls (picksD (pinS n k) calls (play0 (pinS n k) (pinO0 n) (List.replicate (1+(n+1)*(k+1)) 0) calls) l)/\((picksD (pinS n k) calls (play0 (pinS n k) (pinO0 n) (List.replicate (1+(n+1)*(k+1)) 0) calls) l).wd.now<=1000000->PiInv n k calls (picksD (pinS n k) calls (play0 (pinS n k) (pinO0 n) (List.replicate (1+(n+1)*(k+1)) 0) calls) l)):=by
 obtain⟨hn1,hn16⟩:=n_ok hck
 have hthr':=thr_16 hck
 have hthr:∀ c,c<calls.length->0<=(calls.getD c d0).thread/\(calls.getD c d0).thread<n:=λc hc=>by have:=thr_ok hck c hc;omega
 refine picks_ind (S:=pinS n k) (pin_ok n k 0 1 (by omega) hk (by decide)).now hthr' (J:=λst=>st.wd.now<=1000000->PiInv n k calls st) (λst st' hg _ hj hT ht=>?_) l (play0_good (S:=pinS n k) calls (pinO0 n) (List.replicate (1+(n+1)*(k+1)) 0)) (λ_=>pi_play0 n k calls)
 have hm:st.wd.now<=st'.wd.now:=by
  cases hT with
  | idle=>exact Nat.le_refl _
  | refuse q i er hq hN hh hs=>exact Nat.le_succ _
  | step q i j s evs0 wd0 hq hN hf=>
   have h1:=(pin_ok n k 0 1 (by omega) hk (by decide)).now st.obj wd0 q s
   have h2:=hf.now
   show st.wd.now<=((pinS n k).step st.obj wd0 q s).2.1.now
   omega
 exact pi_turn (by omega) (by omega) hk1 hthr (by omega) hg (hj (by omega)) hT
theorem pi_safe (hk1:1<=k) (hk:k<=8) {picks:List Int} (hck:checkN n calls picks.length=0):∀ l p m,picks=l++p::m->SafeAt (pinR n k 0 0) calls (picksD (pinS n k) calls (play0 (pinS n k) (pinO0 n) (List.replicate (1+(n+1)*(k+1)) 0) calls) l) p:=by
 intro l p m hl i hN
 obtain⟨hn1,hn16⟩:=n_ok hck
 have hnp:=np_ok hck
 have hll:l.length<picks.length:=by rw [hl];simp
 have htk:=picks_ticks (S:=pinS n k) (pin_ok n k 0 1 (by omega) hk (by decide)).now (play0 (pinS n k) (pinO0 n) (List.replicate (1+(n+1)*(k+1)) 0) calls) l (calls:=calls)
 rw [show(play0 (pinS n k) (pinO0 n) (List.replicate (1+(n+1)*(k+1)) 0) calls).wd.now=0 from rfl,show(play0 (pinS n k) (pinO0 n) (List.replicate (1+(n+1)*(k+1)) 0) calls).idle=0 from rfl] at htk
 obtain⟨a,b⟩:=pi_picks hk1 hck hk l
 have b:=b (by omega)
 have hthr:∀ c,c<calls.length->0<=(calls.getD c d0).thread/\(calls.getD c d0).thread<n:=λc hc=>by have:=thr_ok hck c hc;omega
 obtain⟨n1,n2,n3⟩:=nowN_spec hN
 have ht:=thr_16 hck i n1
 obtain⟨q,rfl⟩:∃ q:Nat,p=(q:Int):=⟨p.toNat,by omega⟩
 simp only [Int.toNat_natCast]
 refine⟨λs j hh=>?_,λhh s hs=>?_⟩
 ·obtain⟨k1,k2,k3,k4⟩:=a.ev.hand q j (by unfold hndOf;rw [hh];rfl)
  have hc:(evAt (picksD (pinS n k) calls (play0 (pinS n k) (pinO0 n) (List.replicate (1+(n+1)*(k+1)) 0) calls) l).evs j).call=i:=by rw [hN] at k4;exact(Option.some.inj k4).symm
  exact pi_live (by omega) hk (pi_pre (by omega) hthr a b (.old j s hh k1 hc k3)).2.1
 ·exact pi_live (by omega) hk (pi_pre (by omega) hthr a b (.new s hh hs)).2.1
end
section

/- Layer 14: what a play of a register reports, in plain numbers. -/
open Go.RowKit
variable {n k:Nat} {calls:List CallD}
theorem pi_steps {st:PlayD (pinS n k)} (hn:1<=n) (hg:StGood calls st) (h:PiInv n k calls st) {i:Nat} (hi:i<st.evs.length):(evAt st.evs i).steps<=n+k+1/\(kindOf calls (evAt st.evs i)=1->(evAt st.evs i).steps<=k+2):=by
 by_cases hr:(evAt st.evs i).resp=0
 ·have ho:=(hg.ev.open_ i hi hr).2
  unfold hndOf at ho
  obtain⟨p,hp⟩:∃ p,p=tn calls (evAt st.evs i):=⟨_,rfl⟩
  rw [<-hp] at ho
  cases hh:st.hands.getD p (none,0) with
  | mk m j=>
   rw [hh] at ho
   cases m with
   | none=>simp at ho
   | some s=>
    simp only [Option.isSome_some,if_true,Option.some.injEq] at ho
    subst ho
    obtain⟨_,g2⟩:=h.hand p s j hh
    match s,g2 with
    | .wr v q iw ph,⟨_,b2,_,_,b5⟩=>
     refine⟨?_,λh1=>by omega⟩
     rcases b5 with⟨_,_,_,c4⟩|⟨_,_,_,_,c5,c6,_⟩<;>omega
    | .rd q jj l key,⟨_,b2,b3,_,b5⟩=>
     exact⟨by omega,λ_=>by omega⟩
 ·exact⟨(h.done i hi hr).1,(h.done i hi hr).2.1⟩
structure PinGood (n k:Nat) (calls:List CallD) (evs:List EvD):Prop where
 call:∀ i,i<evs.length->(evAt evs i).call<calls.length
 steps:∀ i,i<evs.length->(evAt evs i).steps<=n+k+1/\(kindOf calls (evAt evs i)=1->(evAt evs i).steps<=k+2)
 list:∀ i,i<evs.length->(evAt evs i).resp≠0->objOf calls (evAt evs i)=0->kindOf calls (evAt evs i)=1->(evAt evs i).ans.list.length=k/\piGood k calls (λa=>(evAt evs i).ans.list.getD a 0)
theorem pi_report (hk1:1<=k) (hk:k<=8) {picks:List Int} (hck:checkN n calls picks.length=0) :
  (playD (pinS n k) (pinO0 n) (List.replicate (1+(n+1)*(k+1)) 0) calls picks).evs.length<=picks.length/\PinGood n k calls (playD (pinS n k) (pinO0 n) (List.replicate (1+(n+1)*(k+1)) 0) calls picks).evs:=by
 obtain⟨hn1,hn16⟩:=n_ok hck
 have hnp:=np_ok hck
 have htk:=picks_ticks (S:=pinS n k) (pin_ok n k 0 1 (by omega) hk (by decide)).now (play0 (pinS n k) (pinO0 n) (List.replicate (1+(n+1)*(k+1)) 0) calls) picks (calls:=calls)
 rw [show(play0 (pinS n k) (pinO0 n) (List.replicate (1+(n+1)*(k+1)) 0) calls).wd.now=0 from rfl,show(play0 (pinS n k) (pinO0 n) (List.replicate (1+(n+1)*(k+1)) 0) calls).idle=0 from rfl] at htk
 obtain⟨hg,h⟩:=pi_picks hk1 hck hk picks
 have h:=h (by omega)
 obtain⟨st,hst⟩:∃ st,st=picksD (pinS n k) calls (play0 (pinS n k) (pinO0 n) (List.replicate (1+(n+1)*(k+1)) 0) calls) picks:=⟨_,rfl⟩
 rw [<-hst] at hg h htk
 have hE:(playD (pinS n k) (pinO0 n) (List.replicate (1+(n+1)*(k+1)) 0) calls picks).evs=endD (pinS n k) st:=by rw [hst];rfl
 rw [hE]
 have hlen:=end_length (calls:=calls) hg
 obtain⟨e1,e2⟩:=end_same st (λ_ _ _ _=>rfl) (List.range 16) st.evs
 have hev:=hg.ev.len_le
 have hsame:∀ i,(evAt (endD (pinS n k) st) i).call=(evAt st.evs i).call/\(evAt (endD (pinS n k) st) i).inv=(evAt st.evs i).inv/\(evAt (endD (pinS n k) st) i).resp=(evAt st.evs i).resp/\(evAt (endD (pinS n k) st) i).steps=(evAt st.evs i).steps/\(evAt (endD (pinS n k) st) i).ans=(evAt st.evs i).ans:=e2
 refine⟨by omega,⟨λi hi=>?_,λi hi=>?_,λi hi hr ho hkd=>?_⟩⟩
 ·rw [hlen] at hi
  rw [(hsame i).1];exact hg.ev.call i hi
 ·rw [hlen] at hi
  obtain⟨s1,s2,s3,s4,s5⟩:=hsame i
  unfold kindOf
  rw [s1,s4]
  exact pi_steps (by omega) hg h hi
 ·rw [hlen] at hi
  obtain⟨s1,s2,s3,s4,s5⟩:=hsame i
  unfold objOf at ho
  unfold kindOf at hkd
  rw [s1] at ho hkd
  rw [s3] at hr
  rw [s5]
  exact(h.done i hi hr).2.2 ho hkd
end
section

/- A report's events, as the laws' checks meet them. -/
open Go.RowKit
theorem RepAt.ev8 {X:Nat->Prop} {B:Nat} {w wr:World} {ea:Option Addr} {en ec:Nat} {wv:Value} {ers:List (Value×Value)} {r:RepD} (h:RepAt X B w (.slice ea en ec) wv ers r) (hn:en=r.evs.length) {k:Nat} (hk:k<en) (hb:Below w.heap.size w wr) :
  ∃ g la lc ka kc,ea=some ⟨g,0,none⟩/\g<wr.heap.size/\
   wr.cell? ⟨g,k*8,none⟩=some (.int .i64 ((evAt r.evs k).call:Int))/\wr.cell? ⟨g,k*8+1,none⟩=some (.int .i64 ((evAt r.evs k).inv:Int))/\wr.cell? ⟨g,k*8+2,none⟩=some (.int .i64 ((evAt r.evs k).resp:Int))/\wr.cell? ⟨g,k*8+3,none⟩=some (.int .i64 ((evAt r.evs k).steps:Int))/\
   wr.cell? ⟨g,k*8+4,none⟩=some (.int .i64 (evAt r.evs k).ans.err)/\wr.cell? ⟨g,k*8+5,none⟩=some (.int .u64 ((evAt r.evs k).ans.val:Int))/\wr.cell? ⟨g,k*8+6,none⟩=some (.slice la (evAt r.evs k).ans.list.length lc)/\wr.cell? ⟨g,k*8+7,none⟩=some (.slice ka (evAt r.evs k).key.length kc)/\
   SlAt wr la (evAt r.evs k).ans.list.length 1 (u64G (evAt r.evs k).ans.list)/\SlAt wr ka (evAt r.evs k).key.length 1 (intG (evAt r.evs k).key)/\((evAt r.evs k).key=[]->ka=none/\kc=0):=by
 obtain⟨g,rfl,hg,hev⟩:=h.event hn (by omega)
 have hans:=h.ans k (by rw [<-hn];exact hk)
 obtain⟨V,hV⟩:∃ V,V=ers.getD k vv0:=⟨_,rfl⟩
 rw [<-hV] at hans
 obtain⟨⟨la,lc,hlv,hls,_⟩,⟨ka,kc,hkv,hkn,hks,_⟩⟩:=hans
 have hcells:∀ f,f<8->wr.cell? ⟨g,k*8+f,none⟩=(evCells (evAt r.evs k) V)[f]?:=λf hf=>by rw [hb.cell hg,hev k f hk hf,hV];rfl
 refine⟨g,la,lc,ka,kc,rfl,Nat.lt_of_lt_of_le hg hb.size,hcells 0 (by omega),hcells 1 (by omega),hcells 2 (by omega),hcells 3 (by omega),hcells 4 (by omega),hcells 5 (by omega),?_,?_,hls.grown hb,hks.grown hb,λh0=>?_⟩
 ·rw [hcells 6 (by omega)];exact congrArg some hlv
 ·rw [hcells 7 (by omega)];exact congrArg some hkv
 ·have:=hkn h0
  rw [hkv] at this
  simp only [Value.slice.injEq] at this
  exact⟨this.1,this.2.2⟩
end
section

/- Layer 14: a thread that reads while another one writes. -/
open Go.RowKit
theorem piCheck_zero {q0 q1:Int} {calls:List CallD} {np:Nat} (h:piCheck q0 q1 calls np=0):checkN q0 calls np=0/\1<=q1/\q1<=8:=by
 unfold piCheck at h
 split at h
 ·rename_i h1;exact absurd h h1
 ·rename_i h1
  split at h
  ·cases h
  ·rename_i h2;exact⟨Classical.not_not.1 h1,by omega,by omega⟩
theorem pinPlay_safe (X:Nat->Prop) (w:World) (n k:Int) (calls:List CallD) (picks:List Int) (ca pa:Option Addr) (cc pc:Nat) (hX:∀ b,X b->b<w.heap.size) (hc:CallsAt X w ca calls) (hp:PicksAt w pa picks) :
  Calls Try.prog 20 #[.int .i64 n,.int .i64 k,.slice ca calls.length cc,.slice pa picks.length pc] w λe w'=>PlayRet X w w' (piCheck n k calls picks.length) (playD (pinS n.toNat k.toNat) (pinO0 n.toNat) (List.replicate (1+(n.toNat+1)*(k.toNat+1)) 0) calls picks) e:=by
 refine pinPlay_any X w n k calls picks ca pa cc pc hX hc hp (λh0 h1 h2=>?_)
 have hn:=n_ok h0
 exact pi_safe (by omega) (by omega) (by rw [show((n.toNat:Nat):Int)=n by omega];exact h0)
def slowCalls14:List CallD:=[⟨0,0,0,7,0,0⟩,⟨1,0,1,0,0,0⟩]
theorem slow_rep14:playD (pinS 2 1) (pinO0 2) (List.replicate (1+(2+1)*(1+1)) 0) slowCalls14 [1,0,0,0,1,1]=⟨[⟨1,1,6,3,⟨0,0,[0]⟩,[2]⟩,⟨0,2,4,3,⟨0,0,[]⟩,[8]⟩],[4294967297,1,0,0,0,7,0],⟨2,1,0,3,0⟩,6,0⟩:=by rfl
theorem slow_check14:piCheck 2 1 slowCalls14 6=0:=by rfl
set_option maxHeartbeats 4000000 in
theorem pin_slow (w:World):Calls Try.prog 19 #[] w λe w'=>e=.returned (.bool true)/\Below w.heap.size w w':=by
 obtain⟨wa,hwa⟩:∃ wa,wa=(w.alloc (.cells #[.int .i64 0,.int .i64 0,.int .i64 0,.int .u64 7,.int .u64 0,.int .u64 0,.int .i64 1,.int .i64 0,.int .i64 1,.int .u64 0,.int .u64 0,.int .u64 0] 46)).alloc (.cells #[.int .i64 1,.int .i64 0,.int .i64 0,.int .i64 0,.int .i64 1,.int .i64 1] 3):=⟨_,rfl⟩
 have hga:Below w.heap.size w wa:=by rw [hwa];exact Gr.alloc (Gr.new _ _) _
 have h1:wa.heap[w.heap.size]?=some (.cells (slowCalls14.flatMap callL).toArray 46 (0,0)):=by rw [hwa,Below.heap_alloc _ _ _ (by simp),heap_alloc_new];rfl
 have h2:wa.heap[w.heap.size+1]?=some (.cells (([1,0,0,0,1,1]:List Int).map (Value.int .i64)).toArray 3 (0,0)):=by
  rw [hwa]
  have:=heap_alloc_new (w.alloc (.cells #[.int .i64 0,.int .i64 0,.int .i64 0,.int .u64 7,.int .u64 0,.int .u64 0,.int .i64 1,.int .i64 0,.int .i64 1,.int .u64 0,.int .u64 0,.int .u64 0] 46)) (.cells #[.int .i64 1,.int .i64 0,.int .i64 0,.int .i64 0,.int .i64 1,.int .i64 1] 3 (0,0))
  simp only [World.size_alloc] at this
  exact this
 have P:=pinPlay_safe noB wa 2 1 slowCalls14 [1,0,0,0,1,1] (some ⟨w.heap.size,0,none⟩) (some ⟨w.heap.size+1,0,none⟩) 2 6 (λb hb=>hb.elim) ⟨calls_block h1 (by decide),(by
   intro x hx
   simp only [slowCalls14,List.mem_cons,List.not_mem_nil,or_false] at hx
   rcases hx with rfl|rfl<;>exact callOk_small (by decide) (by decide) (by decide) (by decide) (by decide) (by decide) (by decide)),λ_ _ _ _ h=>h⟩ ⟨ints_block h2 (by decide),by intro x hx;simp only [List.mem_cons,List.not_mem_nil,or_false] at hx;rcases hx with rfl|rfl|rfl|rfl|rfl|rfl<;>rfl⟩
 rw [show([1,0,0,0,1,1]:List Int).length=6 from rfl,slow_check14,show(2:Int).toNat=2 from rfl,show(1:Int).toNat=1 from rfl,slow_rep14,show slowCalls14.length=2 from rfl] at P
 have HP:=Lib.hid P;have Hwa:=Lib.hid hwa;have Hga:=Lib.hid hga
 clear P h1 h2 hwa hga
 go_enter Try.func19,Try.ntmps19
 go_wp2_with fail
 rw [<-Hwa.out]
 refine HP.out.mono ?_
 rintro e w1 ⟨ea,en,ec,va,vn,vc,rp,rfl,hb,hr⟩
 rcases hr with⟨h0,_⟩|⟨_,hrp,hen,hvn,ers,hrep⟩
 ·exact absurd rfl h0
 subst hrp
 obtain⟨g,la,lc,ka,kc,rfl,hg,_,_,_,_,_,_,e6,_,hls,_,_⟩:=hrep.ev8 hen (k:=0) (by rw [hen];decide) (Gr.refl _)
 obtain⟨g2,hgg,_,hev⟩:=hrep.event hen (by rw [hen];decide)
 cases hgg
 obtain⟨q,rfl,hq,hwd⟩:=hrep.word hvn (by rw [hvn];decide)
 have hen2:en=2:=hen
 have hvn2:vn=7:=hvn
 subst hen2 hvn2
 have c6:w1.cell? ⟨g,6,none⟩=some (.slice la 1 lc):=e6
 obtain⟨lb,lo,rfl,hlb,hlc⟩:=hls.2 0 (by decide)
 have c60:w1.cell? ⟨lb,lo,none⟩=some (.int .u64 0):=hlc 0 (by omega)
 have c10:w1.cell? ⟨g,10,none⟩=some (.int .i64 4):=hev 1 2 (by omega) (by omega)
 have d0:w1.cell? ⟨q,0,none⟩=some (.int .u64 4294967297):=hwd 0 (by omega)
 have d1:w1.cell? ⟨q,1,none⟩=some (.int .u64 1):=hwd 1 (by omega)
 have d5:w1.cell? ⟨q,5,none⟩=some (.int .u64 7):=hwd 5 (by omega)
 have Hb:=Lib.hid hb
 clear hrep hev hwd hb hen hvn hls hlc e6
 unfold repV
 go_wp2
 go_ret
 exact⟨rfl,Gr.trans Hga.out (Gr.trans Hb.out (Gr.new _ _))⟩
end
section

/- What Between asks of a report, in plain numbers. -/
open Go.RowKit
def bD (calls:List CallD) (iv:Nat) (y:EvD):Bool:=decide (y.ans.err=0) && decide ((calls.getD y.call d0).obj=0) && decide ((calls.getD y.call d0).kind=0) && decide (y.resp≠0) && decide (y.resp<iv)
def bB (calls:List CallD) (rs:Nat) (y:EvD):Bool:=decide (y.ans.err=0) && decide ((calls.getD y.call d0).obj=0) && decide ((calls.getD y.call d0).kind=0) && decide (y.inv<rs)
structure BetGood (calls:List CallD) (evs:List EvD):Prop where
 call:∀ i,i<evs.length->(evAt evs i).call<calls.length
 reads:∀ i,i<evs.length->(calls.getD (evAt evs i).call d0).obj=0->(calls.getD (evAt evs i).call d0).kind=1->(evAt evs i).resp≠0->(evAt evs i).ans.err=0->
  (∀ j,j<evs.length->(evAt evs j).ans.err=0->(calls.getD (evAt evs j).call d0).obj=0->(calls.getD (evAt evs j).call d0).kind=1->(evAt evs j).resp≠0->(evAt evs j).resp<(evAt evs i).inv->(evAt evs j).ans.val<=(evAt evs i).ans.val)/\
  cnt (bD calls (evAt evs i).inv) evs<=(evAt evs i).ans.val/\(evAt evs i).ans.val<=cnt (bB calls (evAt evs i).resp) evs
end
end Go.Proofs.Ytlepjmnhekeofaa
