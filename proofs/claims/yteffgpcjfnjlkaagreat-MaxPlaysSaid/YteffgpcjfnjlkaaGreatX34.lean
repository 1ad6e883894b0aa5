/- Layer 10: what every play of a max register keeps: its machines are not at their ends, its ticks are small. -/
import Derived.Test.YteffgpcjfnjlkaaGreatX33
import Derived.Test.YteffgpcjfnjlkaaGreatX32
import Derived.Test.YteffgpcjfnjlkaaGreatX08
set_option maxRecDepth 100000
set_option linter.unusedVariables false
set_option linter.unusedSimpArgs false
set_option linter.unnecessarySimpa false
namespace Go.Proofs.YteffgpcjfnjlkaaGreat
section
open Go.RowKit
theorem downN_turns (v:Nat):∀(n:Nat) (y:WayD),∃ l,(downN v n y).turns=y.turns++l/\(∀ t,t∈l->t.2=true)/\l.length+(downN v n y).left=y.left+(l.length - y.left)
 | 0,y=>⟨[],by simp [downN],(λt h=>by cases h),by simp [downN]⟩
 | n+1,y=>by
  unfold downN
  split
  ·obtain⟨l,h1,h2,h3⟩:=downN_turns v n (y.turn true)
   refine⟨(y.k,true)::l,?_,λt ht=>?_,?_⟩
   ·rw [h1];show(y.turns++[(y.k,true)])++l=_;simp
   ·rcases List.mem_cons.1 ht with rfl|ht
    ·rfl
    ·exact h2 t ht
   ·have e:(y.turn true).left=y.left - 1:=rfl
    rw [e] at h3
    rw [List.length_cons]
    omega
  ·exact⟨[],by simp,(λt h=>by cases h),by simp⟩
theorem mxSkip_full (ts:List (Nat×Bool)) (hl:0<ts.length) (h:(ts.getD (ts.length - 1) (0,false)).2=true):mxSkip ts ts.length=ts.length:=by
 obtain⟨n,hn⟩:∃ n,ts.length=n+1:=⟨ts.length - 1,by omega⟩
 rw [hn] at h ⊢
 unfold mxSkip
 rw [Nat.add_sub_cancel] at h
 rw [if_pos h]
theorem newWr_live {m v:Nat} (hm:0<m):if (newWr m v).up=true then 1<=(newWr m v).nx else 0<(newWr m v).y.left:=by
 obtain⟨l,h1,h2,h3⟩:=downN_turns v m (way0 m)
 have e1:newWr m v=if (downN v m (way0 m)).left=0 then (⟨downN v m (way0 m),v,false,1,[]⟩:WrD).fin else ⟨downN v m (way0 m),v,false,1,[]⟩:=rfl
 rw [e1]
 have e2:(way0 m).left=m:=rfl
 have e3:(way0 m).turns=[]:=rfl
 rw [e3,List.nil_append] at h1
 rw [e2] at h3
 have hw:=(WayOk.downN v m (WayOk.init m) rfl).len
 by_cases h0:(downN v m (way0 m)).left=0
 ·rw [if_pos h0]
  have hl:(downN v m (way0 m)).turns.length=m:=by omega
  show if true=true then 1<=mxSkip (downN v m (way0 m)).turns (downN v m (way0 m)).turns.length else _
  rw [if_pos rfl,mxSkip_full _ (by omega) ?_]
  ·omega
  ·have hlt:(downN v m (way0 m)).turns.length - 1<(downN v m (way0 m)).turns.length:=by omega
   rw [List.getD_eq_getElem?_getD,List.getElem?_eq_getElem hlt]
   have h9:∀ t,t∈(downN v m (way0 m)).turns->t.2=true:=λt ht=>h2 t (by rw [h1] at ht;exact ht)
   exact h9 _ (List.getElem_mem hlt)
 ·rw [if_neg h0]
  show if false=true then _ else 0<(downN v m (way0 m)).left
  rw [if_neg Bool.false_ne_true];omega
def mxHand (m now:Nat):MxS->Prop
 | .rd x=>0<x.y.left/\RdOk m x/\x.y.last<=now
 | .wr x=>(if x.up=true then 1<=x.nx else 0<x.y.left)/\WrOk m x/\x.y.last<=now
theorem mxHand.mono {m n1 n2:Nat} (h:n1<=n2) {s:MxS} (hs:mxHand m n1 s):mxHand m n2 s:=by
 match s,hs with
 | .rd x,⟨a,b,c⟩=>exact⟨a,b,Nat.le_trans c h⟩
 | .wr x,⟨a,b,c⟩=>exact⟨a,b,Nat.le_trans c h⟩
structure MxBase (m:Nat) (st:PlayD (maxS m)):Prop where
 tr:∀ a x,x∈st.wd.traces a->0<=x/\x<=(st.wd.now:Int)
 inv:∀ p,st.wd.inv.getD p 0<=st.wd.now
 hand:∀ p s k,st.hands.getD p (none,0)=(some s,k)->mxHand m st.wd.now s
theorem downN_last (v:Nat):∀(n:Nat) (y:WayD),(downN v n y).last=y.last
 | 0,y=>rfl
 | n+1,y=>by
  unfold downN
  split
  ·exact downN_last v n (y.turn true)
  ·rfl
theorem WrD.down_last (x:WrD):x.down.y.last=x.y.last:=by
 unfold WrD.down
 split
 ·exact downN_last _ _ _
 ·exact downN_last _ _ _
theorem WrD.down_left (x:WrD) (h:x.up=false):x.down.up=false->0<x.down.y.left:=by
 unfold WrD.down
 split
 ·exact λe=>by cases e
 ·rename_i h1;exact λ_=>Nat.pos_of_ne_zero h1
theorem mx_pre {m:Nat} (hm:0<m) {calls:List CallD} {st:PlayD (maxS m)} {q i k:Nat} {s:MxS} {evs0:List EvD} {wd0:WD} (h:MxBase m st) (hf:From calls st q i k s evs0 wd0):mxHand m st.wd.now s:=by
 rcases hf.or with⟨hh,_⟩|⟨hh,hs,_⟩
 ·exact h.hand q s k hh
 ·unfold startD at hs
  split at hs
  ·rename_i ho
   have hs':(if (calls.getD i d0).kind=1 then Mc.run (MxS.rd ⟨way0 m,0,[]⟩) else if (calls.getD i d0).kind≠0 then .refuse 9 else if (calls.getD i d0).a / 2^m≠0 then .refuse 10 else .run (.wr (newWr m (calls.getD i d0).a)))=Mc.run s:=hs
   split at hs'
   ·cases hs';exact⟨hm,RdOk.init m,Nat.zero_le _⟩
   ·split at hs'
    ·cases hs'
    ·split at hs'
     ·cases hs'
     ·rename_i h9
      cases hs'
      have hlt:(calls.getD i d0).a<2^m:=by
       rcases Nat.lt_or_ge (calls.getD i d0).a (2^m) with h8|h8
       ·exact h8
       ·have:=Nat.div_pos h8 (Nat.two_pow_pos m);omega
      refine⟨newWr_live hm,WrOk.init hlt,?_⟩
      have e1:(newWr m (calls.getD i d0).a).y.last=0:=(WrD.down_last _).trans rfl
      rw [e1];exact Nat.zero_le _
  ·cases hs
theorem From.invs {S:Sys} {calls:List CallD} {st:PlayD S} {q i k:Nat} {s:S.σ} {evs0:List EvD} {wd0:WD} (h:From calls st q i k s evs0 wd0) (hi:∀ p,st.wd.inv.getD p 0<=st.wd.now):∀ p,wd0.inv.getD p 0<=wd0.now:=by
 cases h with
 | old=>exact λp=>Nat.le_succ_of_le (hi p)
 | new s hh hs=>
  intro p
  show(st.wd.inv.set q (st.wd.now+1)).getD p 0<=st.wd.now+1
  by_cases hpq:q=p
  ·subst hpq
   by_cases hl:q<st.wd.inv.length
   ·rw [getD_set_eq hl];exact Nat.le_refl _
   ·rw [List.set_eq_of_length_le (by omega)];exact Nat.le_succ_of_le (hi q)
  ·rw [getD_set_neq hpq];exact Nat.le_succ_of_le (hi p)
theorem mxPut_tr {b k:Nat} {wd:WD} (h:∀ a x,x∈wd.traces a->0<=x/\x<=(wd.now:Int)):∀ a x,x∈(mxPut b k wd).traces a->0<=x/\x<=(wd.now:Int):=by
 intro a x hx
 have hx':x∈(if mxSet wd.traces b k=0 then updT wd.traces ((b+k - 1:Nat):Int) [(wd.now:Int)] else wd.traces) a:=hx
 split at hx'
 ·unfold updT at hx'
  split at hx'
  ·rw [List.mem_singleton.1 hx'];omega
  ·exact h a x hx'
 ·exact h a x hx'
theorem wrGo_tr {b:Nat} {wd:WD} {x:WrD} (h:∀ a z,z∈wd.traces a->0<=z/\z<=(wd.now:Int)):(∀ a z,z∈(wrGo b wd x).1.traces a->0<=z/\z<=(wd.now:Int))/\(wrGo b wd x).1.inv=wd.inv/\(wrGo b wd x).1.now=wd.now/\(wrGo b wd x).1.marks=wd.marks:=by
 unfold wrGo
 split
 ·exact⟨mxPut_tr h,rfl,rfl,rfl⟩
 ·split<;>exact⟨h,rfl,rfl,rfl⟩
theorem wrGo_last {b:Nat} {wd:WD} {x:WrD} (hl:x.y.last<=wd.now):(wrGo b wd x).2.y.last<=wd.now:=by
 unfold wrGo
 split
 ·exact hl
 ·split
  ·exact Nat.le_refl _
  ·rw [WrD.down_last];exact Nat.le_refl _
theorem wrGo_live {b:Nat} {wd:WD} {x:WrD} (hd:(wrGo b wd x).2.done=false) (hl:x.up=false->0<x.y.left):if (wrGo b wd x).2.up=true then 1<=(wrGo b wd x).2.nx else 0<(wrGo b wd x).2.y.left:=by
 cases hu:(wrGo b wd x).2.up with
 | true=>
  rw [if_pos rfl]
  unfold WrD.done at hd
  rw [hu] at hd
  simp at hd
  omega
 | false=>
  rw [if_neg Bool.false_ne_true]
  unfold wrGo at hu ⊢
  split at hu
  ·rename_i h1;exact absurd (hu.symm.trans h1) Bool.false_ne_true
  ·rename_i h1
   rw [if_neg h1]
   split at hu
   ·cases hu
   ·rename_i h2
    rw [if_neg h2]
    exact WrD.down_left _ (by simpa using h1) hu
theorem mx_base {m:Nat} (hm:0<m) {calls:List CallD} {st st':PlayD (maxS m)} (hg:StGood calls st) (h:MxBase m st) (ht:Turn calls st st'):MxBase m st':=by
 cases ht with
 | idle=>exact⟨h.tr,h.inv,h.hand⟩
 | refuse q i er hq hN hh hs=>
  refine⟨λa x hx=>?_,?_,λp s k hp=>?_⟩
  ·have:=h.tr a x hx
   show 0<=x/\x<=((st.wd.now+1:Nat):Int)
   omega
  ·intro p
   show(st.wd.inv.set q (st.wd.now+1)).getD p 0<=st.wd.now+1
   by_cases hpq:q=p
   ·subst hpq
    by_cases hl:q<st.wd.inv.length
    ·rw [getD_set_eq hl];exact Nat.le_refl _
    ·rw [List.set_eq_of_length_le (by omega)];exact Nat.le_succ_of_le (h.inv q)
   ·rw [getD_set_neq hpq];exact Nat.le_succ_of_le (h.inv p)
  ·have hp':(st.hands.set q (none,st.evs.length)).getD p (none,0)=(some s,k):=hp
   rw [hands_set hg.h16 hq] at hp'
   split at hp'
   ·cases hp'
   ·exact(h.hand p s k hp').mono (Nat.le_succ _)
 | step q i k s evs0 wd0 hq hN hf=>
  have hpre:=mx_pre hm h hf
  have hnow:=hf.now
  have htr:∀ a x,x∈wd0.traces a->0<=x/\x<=(wd0.now:Int):=λa x hx=>by
   rw [hf.traces] at hx
   have:=h.tr a x hx
   omega
  have hinv:=hf.invs h.inv
  have other:∀(hd:Option (maxS m).σ×Nat) (now:Nat),st.wd.now<=now->(∀ s k,hd=(some s,k)->mxHand m now s)->∀ p s' k',(st.hands.set q hd).getD p (none,0)=(some s',k')->mxHand m now s':=λhd now hn hd1 p s' k' hp=>by
   rw [hands_set hg.h16 hq] at hp
   split at hp
   ·exact hd1 _ _ hp
   ·exact(h.hand p s' k' hp).mono hn
  match s,hpre with
  | .rd x,⟨b1,b2,b3⟩=>
   have hst:(maxS m).step st.obj wd0 q (.rd x)=((),(rdStep 0 q wd0 x).1,.rd (rdStep 0 q wd0 x).2.1,(rdStep 0 q wd0 x).2.2):=rfl
   have hw:(rdStep 0 q wd0 x).1=taRead wd0 (0+x.y.k - 1):=rdStep_mem _ _ _ _
   have hok:=b2.step 0 q wd0 b1
   refine⟨?_,?_,?_⟩
   ·show ∀ a z,z∈(rdStep 0 q wd0 x).1.traces a->0<=z/\z<=(((rdStep 0 q wd0 x).1.now:Nat):Int)
    rw [hw];exact htr
   ·show ∀ p,(rdStep 0 q wd0 x).1.inv.getD p 0<=(rdStep 0 q wd0 x).1.now
    rw [hw];exact hinv
   ·have hn:(rdStep 0 q wd0 x).1.now=wd0.now:=by rw [hw];rfl
    refine other _ (rdStep 0 q wd0 x).1.now (by omega) (λs' k' e=>?_)
    have e':(if (rdStep 0 q wd0 x).2.2=true then none else some (MxS.rd (rdStep 0 q wd0 x).2.1),k)=(some s',k'):=e
    rw [hn]
    unfold rdStep at e' hok
    split at e'
    ·rename_i hlt
     rw [if_pos hlt] at hok
     cases e'
     exact⟨hlt,hok,Nat.le_refl _⟩
    ·cases e'
  | .wr x,⟨b1,b2,b3⟩=>
   have hl:x.up=false->0<x.y.left:=λhu=>by rw [hu,if_neg Bool.false_ne_true] at b1;exact b1
   obtain⟨t1,t2,t3,_⟩:=wrGo_tr (b:=0) (x:=x) htr
   have hw:(wrStep 0 q wd0 x).1=(wrGo 0 wd0 x).1:=wrStep_fst _ _ _ _
   have hok:=b2.step 0 q wd0 hl
   refine⟨?_,?_,?_⟩
   ·show ∀ a z,z∈(wrStep 0 q wd0 x).1.traces a->0<=z/\z<=(((wrStep 0 q wd0 x).1.now:Nat):Int)
    rw [hw,t3];exact t1
   ·show ∀ p,(wrStep 0 q wd0 x).1.inv.getD p 0<=(wrStep 0 q wd0 x).1.now
    rw [hw,t2,t3];exact hinv
   ·have hn:(wrStep 0 q wd0 x).1.now=wd0.now:=by rw [hw,t3]
    refine other _ (wrStep 0 q wd0 x).1.now (by omega) (λs' k' e=>?_)
    have e':(if (wrStep 0 q wd0 x).2.2=true then none else some (MxS.wr (wrStep 0 q wd0 x).2.1),k)=(some s',k'):=e
    rw [hn]
    unfold wrStep at e' hok
    split at e'
    ·cases e'
    ·rename_i hnd
     rw [if_neg hnd] at hok
     cases e'
     exact⟨wrGo_live (by simpa using hnd) hl,hok,wrGo_last (by omega)⟩
theorem mx_play0 (m:Nat) (calls:List CallD) (ws:List Nat):MxBase m (play0 (maxS m) () ws calls) where
 tr:=λa x hx=>by cases hx
 inv:=λp=>by show(List.replicate 16 0).getD p 0<=0;rw [getD_rep'];exact Nat.le_refl _
 hand:=λp s k hp=>by rw [show(play0 (maxS m) () ws calls).hands.getD p (none,0)=(none,0) from getD_rep'] at hp;cases hp
theorem mx_picks {m n:Nat} (hm:0<m) {calls:List CallD} {np:Nat} (hck:checkN n calls np=0) (ws:List Nat) (l:List Int):StGood calls (picksD (maxS m) calls (play0 (maxS m) () ws calls) l)/\MxBase m (picksD (maxS m) calls (play0 (maxS m) () ws calls) l)/\
  (picksD (maxS m) calls (play0 (maxS m) () ws calls) l).wd.now<=l.length:=by
 obtain⟨a,b⟩:=picks_ind (S:=maxS m) (max_now m) (thr_16 hck) (J:=MxBase m) (λst st' hg _ hj ht=>mx_base hm hg hj ht) l (play0_good (S:=maxS m) calls () ws) (mx_play0 m calls ws)
 refine⟨a,b,?_⟩
 have htk:=picks_ticks (max_now m) (play0 (maxS m) () ws calls) l (calls:=calls)
 rw [show(play0 (maxS m) () ws calls).wd.now=0 from rfl,show(play0 (maxS m) () ws calls).idle=0 from rfl] at htk
 omega
theorem mx_live {m:Nat} (hm:0<m) {calls:List CallD} {st:PlayD (maxS m)} {q i k:Nat} {s:MxS} {evs0:List EvD} {wd0:WD} (h:MxBase m st) (hnow:st.wd.now<100000) (hf:From calls st q i k s evs0 wd0):mxLive wd0 s:=by
 have hpre:=mx_pre hm h hf
 have hn:=hf.now
 have hT:TrOk wd0:=⟨λa x hx=>by
  rw [hf.traces] at hx
  have:=h.tr a x hx
  omega,λp=>by have:=hf.invs h.inv p;omega⟩
 match s,hpre with
 | .rd x,⟨b1,b2,b3⟩=>exact⟨b1,hT,by omega⟩
 | .wr x,⟨b1,b2,b3⟩=>exact⟨b1,hT,by omega,by omega⟩
theorem mx_safe {m n:Nat} (hm:0<m) (calls:List CallD) (picks:List Int) (hck:checkN n calls picks.length=0) (ws:List Nat):∀ l p r,picks=l++p::r->SafeAt (maxR m) calls (picksD (maxS m) calls (play0 (maxS m) () ws calls) l) p:=by
 intro l p r hl i hN
 obtain⟨a,b,c⟩:=mx_picks hm hck ws l
 have hnp:=np_ok hck
 have hll:l.length<picks.length:=by rw [hl];simp
 obtain⟨n1,n2,n3⟩:=nowN_spec hN
 have ht:=thr_16 hck i n1
 obtain⟨q,rfl⟩:∃ q:Nat,p=(q:Int):=⟨p.toNat,by omega⟩
 simp only [Int.toNat_natCast]
 refine⟨λs j hh=>?_,λhh s hs=>?_⟩
 ·obtain⟨k1,k2,k3,k4⟩:=a.ev.hand q j (by unfold hndOf;rw [hh];rfl)
  have hc:(evAt (picksD (maxS m) calls (play0 (maxS m) () ws calls) l).evs j).call=i:=by rw [hN] at k4;exact(Option.some.inj k4).symm
  exact mx_live (calls:=calls) hm b (by omega) (.old j s hh k1 hc k3)
 ·exact mx_live (calls:=calls) hm b (by omega) (.new s hh hs)
end
section

/- A max register in the reference's play: plain numbers. -/
open Go.RowKit
def w64 (x:Int):Int:=IntKind.i64.wrap x
theorem w64_of {x:Int} (h:-10000000<=x/\x<=10000000):w64 x=x:=by unfold w64;rw [IntKind.wrap_i64];omega
def mxKeyStepW (S:Nat->Int) (t:Nat×Bool) (key:List Int):List Int:=
 if t.2=false/\0<S t.1/\w64 (2*S t.1)<key.headD 0 then w64 (w64 (2*S t.1) - 1)::key
 else if t.2=true/\0<S t.1/\key.headD 0<=w64 (2*S t.1) then w64 (2*S t.1)::key
 else key
def mxKeyW (S:Nat->Int) (turns:List (Nat×Bool)) (last:Int):List Int:=turns.foldr (mxKeyStepW S) [w64 (2*last)]
theorem mxKeyStepW_eq {S:Nat->Int} (hS:∀ k,0<=S k/\S k<=1000000) (t:Nat×Bool) (key:List Int):mxKeyStepW S t key=mxKeyStep S t key:=by
 have h1:=hS t.1
 have e1:w64 (2*S t.1)=2*S t.1:=w64_of (by omega)
 have e2:w64 (2*S t.1 - 1)=2*S t.1 - 1:=w64_of (by omega)
 unfold mxKeyStepW mxKeyStep
 rw [e1,e2]
 by_cases h0:S t.1=0
 ·rw [if_pos h0,if_neg (λx=>by have:=x.2.1;omega),if_neg (λx=>by have:=x.2.1;omega)]
 ·have hp:0<S t.1:=by omega
  rw [if_neg h0]
  by_cases h2:t.2=false/\2*S t.1<key.headD 0
  ·rw [if_pos ⟨h2.1,hp,h2.2⟩,if_pos h2]
  ·rw [if_neg (λx=>h2 ⟨x.1,x.2.2⟩),if_neg h2]
   by_cases h3:t.2=true/\key.headD 0<=2*S t.1
   ·rw [if_pos ⟨h3.1,hp,h3.2⟩,if_pos h3]
   ·rw [if_neg (λx=>h3 ⟨x.1,x.2.2⟩),if_neg h3]
theorem mxKeyW_eq {S:Nat->Int} (hS:∀ k,0<=S k/\S k<=1000000) {last:Int} (hl:0<=last/\last<=1000000):∀ ts:List (Nat×Bool),mxKeyW S ts last=mxKey S ts last
 | []=>by show [w64 (2*last)]=[2*last];rw [w64_of (by omega)]
 | t::ts=>by
  show mxKeyStepW S t (mxKeyW S ts last)=mxKeyStep S t (mxKey S ts last)
  rw [mxKeyW_eq hS hl ts,mxKeyStepW_eq hS]
def rSet (r:RWD) (b:Nat):Nat->Int:=mxSet (λa=>traceP a r) b
def rdRun (b:Nat):Nat->Nat->List (Nat×Bool)->Nat->TapeP->RWD->(List (Nat×Bool)×Nat)×TapeP×RWD
 | 0,_,ts,val,t,r=>((ts,val),t,r)
 | n+1,k,ts,val,t,r=>rdRun b n (2*k+(decide ((accP 0 ((b+k - 1:Nat):Int) 0 0 t r).1=1)).toNat) (ts++[(k,decide ((accP 0 ((b+k - 1:Nat):Int) 0 0 t r).1=1))]) (2*val+(accP 0 ((b+k - 1:Nat):Int) 0 0 t r).1 % 2) (accP 0 ((b+k - 1:Nat):Int) 0 0 t r).2.1 (accP 0 ((b+k - 1:Nat):Int) 0 0 t r).2.2
def rdEnd (b:Nat) (z:(List (Nat×Bool)×Nat)×TapeP×RWD):Nat×TapeP×RWD:=
 if z.2.1.halt=true then (0,z.2) else (z.1.2,{ z.2.1 with key:=mxKeyW (rSet z.2.2 b) z.1.1 (lastP z.2.1) },z.2.2)
def mxReadP (b m:Nat) (t:TapeP) (r:RWD):Nat×TapeP×RWD:=rdEnd b (rdRun b m 1 [] 0 t r)
def dnRun (b v:Nat):Nat->Nat->List (Nat×Bool)->Int->TapeP->RWD->(List (Nat×Bool)×Int)×TapeP×RWD
 | 0,_,ts,last,t,r=>((ts,last),t,r)
 | n+1,k,ts,last,t,r=>
  if t.halt=true then ((ts,last),t,r)
  else if v / 2^n % 2=1 then dnRun b v n (2*k+1) (ts++[(k,true)]) last t r
  else if (accP 0 ((b+k - 1:Nat):Int) 0 0 t r).1=1 then ((ts,lastP (accP 0 ((b+k - 1:Nat):Int) 0 0 t r).2.1),(accP 0 ((b+k - 1:Nat):Int) 0 0 t r).2)
  else dnRun b v n (2*k) (ts++[(k,false)]) (lastP (accP 0 ((b+k - 1:Nat):Int) 0 0 t r).2.1) (accP 0 ((b+k - 1:Nat):Int) 0 0 t r).2.1 (accP 0 ((b+k - 1:Nat):Int) 0 0 t r).2.2
def upAcc (a:Nat) (t:TapeP) (r:RWD):TapeP×RWD:=
 ((accP 1 (a:Int) 1 0 t r).2.1,if traceP (a:Int) (accP 1 (a:Int) 1 0 t r).2.2=[] then noteP (a:Int) [lastP (accP 1 (a:Int) 1 0 t r).2.1] (accP 1 (a:Int) 1 0 t r).2.1 (accP 1 (a:Int) 1 0 t r).2.2 else (accP 1 (a:Int) 1 0 t r).2.2)
def upRun (b:Nat) (ts:List (Nat×Bool)):Nat->TapeP->RWD->TapeP×RWD
 | 0,t,r=>(t,r)
 | n+1,t,r=>
  if t.halt=true then (t,r)
  else if (ts.getD n (0,false)).2=true then upRun b ts n (upAcc (b+(ts.getD n (0,false)).1 - 1) t r).1 (upAcc (b+(ts.getD n (0,false)).1 - 1) t r).2
  else upRun b ts n t r
def wrEnd (b:Nat) (y:List (Nat×Bool)×Int) (z:TapeP×RWD):TapeP×RWD:=
 if z.1.halt=true then z else ({ z.1 with key:=mxKeyW (rSet z.2 b) y.1 y.2 },z.2)
def wrMid (b:Nat) (z:(List (Nat×Bool)×Int)×TapeP×RWD):TapeP×RWD:=wrEnd b z.1 (upRun b z.1.1 z.1.1.length z.2.1 z.2.2)
def mxWriteP (b m v:Nat) (t:TapeP) (r:RWD):TapeP×RWD:=wrMid b (dnRun b v m 1 [] (t.inv:Int) t r)
def rmaxDo (m:Nat) (c:CallD) (t:TapeP) (r:RWD):TapeP×RWD:=
 if c.kind=1 then ({ (mxReadP 0 m t r).2.1 with val:=(mxReadP 0 m t r).1 },(mxReadP 0 m t r).2.2)
 else if c.kind≠0 then ({ t with err:=9 },r)
 else if c.a / 2^m≠0 then ({ t with err:=10 },r)
 else mxWriteP 0 m c.a t r
def lateEnd (b:Nat) (z:(List (Nat×Bool)×Int)×TapeP×RWD):List Int:=
 if z.2.1.halt=true then [] else if (z.1.1.any λt=>t.2 && decide (rSet z.2.2 b t.1=0))=true then [] else mxKeyW (rSet z.2.2 b) z.1.1 z.1.2
structure MxWd (m:Nat) (wd:WD):Prop where
 len:wd.mem.ws.length=2^m - 1
 w1:∀ x,x∈wd.mem.ws->x<=1
 pos:∀ a x,x∈wd.traces a->0<x
 mks:∀ p,wd.marks.getD p []=[]
theorem MxWd.tick {m:Nat} {wd:WD} (h:MxWd m wd):MxWd m wd.tick:=⟨h.len,h.w1,h.pos,h.mks⟩
theorem MxWd.begin {m:Nat} {wd:WD} (h:MxWd m wd) (q:Nat):MxWd m (wd.begin q):=⟨h.len,h.w1,h.pos,λp=>by
 show(wd.marks.set q []).getD p []=[]
 by_cases hpq:q=p
 ·subst hpq
  by_cases hl:q<wd.marks.length
  ·rw [getD_set_eq hl]
  ·rw [List.set_eq_of_length_le (by omega)];exact h.mks q
 ·rw [getD_set_neq hpq];exact h.mks p⟩
theorem From.mxwd {m:Nat} {S:Sys} {calls:List CallD} {st:PlayD S} {q i k:Nat} {s:S.σ} {evs0:List EvD} {wd0:WD} (h:From calls st q i k s evs0 wd0) (hw:MxWd m st.wd):MxWd m wd0:=by
 cases h with
 | old=>exact hw.tick
 | new=>exact hw.tick.begin q
theorem mem_set1 {l:List Nat} {j v:Nat} (h:∀ x,x∈l->x<=1) (hv:v<=1):∀ x,x∈l.set j v->x<=1:=λx hx=>by
 rcases List.mem_or_eq_of_mem_set hx with h9|h9
 ·exact h x h9
 ·rw [h9];exact hv
theorem MxWd.read {m:Nat} {wd:WD} (h:MxWd m wd) (a:Nat):MxWd m (taRead wd a):=by
 have e:(memRead wd.mem (a:Int)).1.ws=wd.mem.ws:=by unfold memRead MemD.fault;split<;>rfl
 exact⟨by show(memRead wd.mem (a:Int)).1.ws.length=_;rw [e];exact h.len,by show ∀ x,x∈(memRead wd.mem (a:Int)).1.ws->_;rw [e];exact h.w1,h.pos,h.mks⟩
theorem MxWd.put {m:Nat} {wd:WD} (h:MxWd m wd) (hn:0<wd.now) (b k:Nat):MxWd m (mxPut b k wd):=by
 have e:(memWrite wd.mem ((b+k - 1:Nat):Int) 1).ws=wd.mem.ws∨(memWrite wd.mem ((b+k - 1:Nat):Int) 1).ws=wd.mem.ws.set ((b+k - 1:Nat):Int).toNat 1:=by
  unfold memWrite MemD.fault
  split
  ·exact .inl rfl
  ·exact .inr rfl
 refine⟨?_,?_,λa x hx=>?_,h.mks⟩
 ·show(memWrite wd.mem ((b+k - 1:Nat):Int) 1).ws.length=_
  rcases e with e|e
  ·rw [e];exact h.len
  ·rw [e,List.length_set];exact h.len
 ·show ∀ x,x∈(memWrite wd.mem ((b+k - 1:Nat):Int) 1).ws->_
  rcases e with e|e
  ·rw [e];exact h.w1
  ·rw [e];exact mem_set1 h.w1 (Nat.le_refl 1)
 ·have hx':x∈(if mxSet wd.traces b k=0 then updT wd.traces ((b+k - 1:Nat):Int) [(wd.now:Int)] else wd.traces) a:=hx
  split at hx'
  ·unfold updT at hx'
   split at hx'
   ·rw [List.mem_singleton.1 hx'];omega
   ·exact h.pos a x hx'
  ·exact h.pos a x hx'
theorem MxWd.step {m:Nat} {wd:WD} (h:MxWd m wd) (hn:0<wd.now) (o:(maxS m).ω) (p:Nat) (s:MxS):MxWd m ((maxS m).step o wd p s).2.1:=by
 match s with
 | .rd x=>show MxWd m (rdStep 0 p wd x).1;rw [rdStep_mem];exact h.read _
 | .wr x=>
  show MxWd m (wrStep 0 p wd x).1
  rw [wrStep_fst]
  unfold wrGo
  split
  ·exact h.put hn 0 _
  ·split
   ·exact h.read _
   ·exact h.read _
theorem mxw_turn {m:Nat} {calls:List CallD} {st st':PlayD (maxS m)} (h:MxWd m st.wd) (ht:Turn calls st st'):MxWd m st'.wd:=by
 cases ht with
 | idle=>exact h
 | refuse q i er hq hN hh hs=>exact h.tick.begin q
 | step q i k s evs0 wd0 hq hN hf=>exact(hf.mxwd h).step (by have:=hf.now;omega) _ _ _
theorem mxw_play0 (m:Nat) (calls:List CallD):MxWd m (play0 (maxS m) () (List.replicate (2^m - 1) 0) calls).wd where
 len:=List.length_replicate ..
 w1:=λx hx=>by rw [(List.mem_replicate.1 hx).2];exact Nat.zero_le _
 pos:=λa x hx=>by cases hx
 mks:=λp=>getD_rep'
theorem mxw_picks {m n:Nat} {calls:List CallD} {np:Nat} (hck:checkN n calls np=0) (l:List Int):MxWd m (picksD (maxS m) calls (play0 (maxS m) () (List.replicate (2^m - 1) 0) calls) l).wd:=
 (picks_ind (S:=maxS m) (max_now m) (thr_16 hck) (J:=λst=>MxWd m st.wd) (λst st' hg _ hj ht=>mxw_turn hj ht) l (play0_good (S:=maxS m) calls () _) (mxw_play0 m calls)).2
end
end Go.Proofs.YteffgpcjfnjlkaaGreat
