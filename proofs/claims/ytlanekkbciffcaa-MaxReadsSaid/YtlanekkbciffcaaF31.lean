/- Layer 10: no operation on a max register makes more steps than it has bits, and each of its words is 0 or 1: in plain numbers. -/
import Derived.Test.YtlanekkbciffcaaF26
import Derived.Test.YtlanekkbciffcaaF24
import Derived.Test.YtlanekkbciffcaaF16
import Derived.Test.YtlanekkbciffcaaF23
import Derived.Test.YtlanekkbciffcaaF17
import Derived.Test.YtlanekkbciffcaaF30
set_option maxRecDepth 100000
set_option linter.unusedVariables false
set_option linter.unusedSimpArgs false
set_option linter.unnecessarySimpa false
namespace Go.Proofs.Ytlanekkbciffcaa
section
open Go.RowKit
def cntR (l:List (Nat×Bool)):Nat:=(l.filter (·.2)).length
theorem cntR_append (a b:List (Nat×Bool)):cntR (a++b)=cntR a+cntR b:=by simp [cntR]
theorem cntR_skip (ts:List (Nat×Bool)):∀ n,cntR (ts.take (mxSkip ts n))=cntR (ts.take n)
 | 0=>rfl
 | n+1=>by
  unfold mxSkip
  split
  ·rfl
  ·rename_i h
   rw [cntR_skip ts n]
   cases hx:ts[n]? with
   | none=>rw [List.take_add_one,hx];simp
   | some t=>
    have e:ts.getD n (0,false)=t:=by rw [List.getD_eq_getElem?_getD,hx];rfl
    rw [e] at h
    rw [List.take_add_one,hx,cntR_append]
    simp [cntR,h]
theorem cntR_take1 {ts:List (Nat×Bool)} {n:Nat} (h1:1<=n) (h2:n<=ts.length) (h:(ts.getD (n - 1) (0,false)).2=true):cntR (ts.take n)=cntR (ts.take (n - 1))+1:=by
 obtain⟨k,rfl⟩:∃ k,n=k+1:=⟨n - 1,by omega⟩
 rw [Nat.add_sub_cancel] at h ⊢
 have hx:ts[k]?=some ts[k]:=List.getElem?_eq_getElem (by omega)
 have e:ts.getD k (0,false)=ts[k]:=by rw [List.getD_eq_getElem?_getD,hx];rfl
 rw [e] at h
 rw [List.take_add_one,hx,cntR_append]
 simp [cntR,h]
def mxRem:MxS->Nat
 | .rd x=>x.y.left
 | .wr x=>if x.up=true then cntR (x.y.turns.take x.nx) else x.y.left+cntR x.y.turns
theorem cntR_all {l:List (Nat×Bool)} (h:∀ t,t∈l->t.2=true):cntR l=l.length:=by
 unfold cntR
 rw [List.filter_eq_self.2 h]
theorem fin_rem (x:WrD):mxRem (.wr x.fin)<=cntR x.y.turns:=by
 have e:mxRem (.wr x.fin)=cntR (x.y.turns.take (mxSkip x.y.turns x.y.turns.length)):=rfl
 rw [e,cntR_skip,List.take_length]
 exact Nat.le_refl _
theorem downN_len2 (v:Nat):∀(n:Nat) (y:WayD),y.left=n->(downN v n y).left<=n/\(downN v n y).turns.length+(downN v n y).left=y.turns.length+y.left
 | 0,y,h=>by subst_vars;exact⟨by show y.left<=0;omega,rfl⟩
 | n+1,y,h=>by
  unfold downN
  split
  ·have e1:(y.turn true).left=y.left - 1:=rfl
   have e2:(y.turn true).turns.length=y.turns.length+1:=by simp [WayD.turn]
   obtain⟨a,b⟩:=downN_len2 v n (y.turn true) (by omega)
   exact⟨by omega,by omega⟩
  ·exact⟨by omega,rfl⟩
theorem down_rem (x:WrD) (hu:x.up=false):mxRem (.wr x.down)<=x.y.left+cntR x.y.turns:=by
 obtain⟨l,h1,h2,h3⟩:=downN_turns x.v x.y.left x.y
 have hl:l.length+(downN x.v x.y.left x.y).left=x.y.left:=by
  have h4:=(downN_len2 x.v x.y.left x.y rfl).2
  rw [h1,List.length_append] at h4
  omega
 unfold WrD.down
 split
 ·refine Nat.le_trans (fin_rem _) ?_
  show cntR (downN x.v x.y.left x.y).turns<=_
  rw [h1,cntR_append,cntR_all h2];omega
 ·show(if x.up=true then _ else (downN x.v x.y.left x.y).left+cntR (downN x.v x.y.left x.y).turns)<=_
  rw [hu,if_neg Bool.false_ne_true,h1,cntR_append,cntR_all h2];omega
structure MxSt (m:Nat) (st:PlayD (maxS m)):Prop where
 wl:st.wd.mem.ws.length=2^m - 1
 word:∀ x,x∈st.wd.mem.ws->x<=1
 hand:∀ p s k,st.hands.getD p (none,0)=(some s,k)->(evAt st.evs k).steps+mxRem s<=m
 done:∀ j,j<st.evs.length->(evAt st.evs j).resp≠0->(evAt st.evs j).steps<=m
theorem newWr_rem {m v:Nat}:mxRem (.wr (newWr m v))<=m:=by
 have h:=down_rem (⟨way0 m,v,false,1,[]⟩:WrD) rfl
 have e:(⟨way0 m,v,false,1,[]⟩:WrD).y.left+cntR (⟨way0 m,v,false,1,[]⟩:WrD).y.turns=m:=rfl
 rw [e] at h;exact h
theorem rd_rem {b p:Nat} {wd:WD} {x:RdD} (hl:0<x.y.left):mxRem (.rd (rdStep b p wd x).2.1)+1<=mxRem (.rd x):=by
 unfold rdStep
 split
 ·show x.y.left - 1+1<=x.y.left;omega
 ·show x.y.left - 1+1<=x.y.left;omega
theorem wrGo_rem {b:Nat} {wd:WD} {x:WrD} (hl:if x.up=true then 1<=x.nx else 0<x.y.left) (hr:x.up=true->(x.y.turns.getD (x.nx - 1) (0,false)).2=true) (hn:x.up=true->x.nx<=x.y.turns.length):mxRem (.wr (wrGo b wd x).2)+1<=mxRem (.wr x):=by
 unfold wrGo
 split
 ·rename_i hu
  rw [if_pos hu] at hl
  show(if x.up=true then cntR (x.y.turns.take (mxSkip x.y.turns (x.nx - 1))) else _)+1<=(if x.up=true then _ else _)
  rw [if_pos hu,if_pos hu,cntR_skip,cntR_take1 hl (hn hu) (hr hu)]
  exact Nat.le_refl _
 ·rename_i hu
  have hu':x.up=false:=by simpa using hu
  rw [if_neg hu] at hl
  have e0:mxRem (.wr x)=x.y.left+cntR x.y.turns:=if_neg hu
  rw [e0]
  split
  ·have h1:=fin_rem ({ x with y:=x.y.look wd }:WrD)
   have e:cntR ({ x with y:=x.y.look wd }:WrD).y.turns=cntR x.y.turns:=rfl
   show mxRem (.wr ({ x with y:=x.y.look wd }:WrD).fin)+1<=_
   omega
  ·have h1:=down_rem ({ x with y:=(x.y.look wd).turn false }:WrD) hu'
   have e:({ x with y:=(x.y.look wd).turn false }:WrD).y.left+cntR ({ x with y:=(x.y.look wd).turn false }:WrD).y.turns=x.y.left - 1+cntR x.y.turns:=by
    show x.y.left - 1+cntR (x.y.turns++[(x.y.k,false)])=_
    rw [cntR_append];simp [cntR]
   show mxRem (.wr ({ x with y:=(x.y.look wd).turn false }:WrD).down)+1<=_
   omega
theorem wrStep_snd (b p:Nat) (wd:WD) (x:WrD):mxRem (.wr (wrStep b p wd x).2.1)=mxRem (.wr (wrGo b wd x).2):=by
 unfold wrStep
 split<;>rfl
def mxUp:MxS->Prop
 | .rd _=>True
 | .wr x=>x.up=true->1<=x.nx->(x.y.turns.getD (x.nx - 1) (0,false)).2=true
theorem fin_up (x:WrD):mxUp (.wr x.fin):=λ_ h=>mxSkip_right _ _ h
theorem down_up (x:WrD) (hu:x.up=false):mxUp (.wr x.down):=by
 unfold WrD.down
 split
 ·exact fin_up _
 ·intro h;have h':x.up=true:=h;rw [hu] at h';cases h'
theorem wrGo_up (b:Nat) (wd:WD) (x:WrD):mxUp (.wr (wrGo b wd x).2):=by
 unfold wrGo
 split
 ·exact λ_ h=>mxSkip_right _ _ h
 ·rename_i hu
  have hu':x.up=false:=by simpa using hu
  split
  ·exact fin_up _
  ·exact down_up _ hu'
theorem wrStep_up (b p:Nat) (wd:WD) (x:WrD):mxUp (.wr (wrStep b p wd x).2.1):=by
 have h:=wrGo_up b wd x
 unfold wrStep
 split
 ·exact h
 ·exact h
structure MxUp (m:Nat) (st:PlayD (maxS m)):Prop where
 hand:∀ p s k,st.hands.getD p (none,0)=(some s,k)->mxUp s
theorem mx_up_pre {m:Nat} {calls:List CallD} {st:PlayD (maxS m)} {q i k:Nat} {s:MxS} {evs0:List EvD} {wd0:WD} (h:MxUp m st) (hf:From calls st q i k s evs0 wd0):mxUp s:=by
 rcases hf.or with⟨hh,_⟩|⟨hh,hs,_⟩
 ·exact h.hand q s k hh
 ·unfold startD at hs
  split at hs
  ·have hs':(if (calls.getD i d0).kind=1 then Mc.run (MxS.rd ⟨way0 m,0,[]⟩) else if (calls.getD i d0).kind≠0 then .refuse 9 else if (calls.getD i d0).a / 2^m≠0 then .refuse 10 else .run (.wr (newWr m (calls.getD i d0).a)))=Mc.run s:=hs
   split at hs'
   ·cases hs';exact trivial
   ·split at hs'
    ·cases hs'
    ·split at hs'
     ·cases hs'
     ·cases hs';exact down_up _ rfl
  ·cases hs
theorem mx_rem_pre {m:Nat} {calls:List CallD} {st:PlayD (maxS m)} {q i k:Nat} {s:MxS} {evs0:List EvD} {wd0:WD} (h:MxSt m st) (hf:From calls st q i k s evs0 wd0):(evAt evs0 k).steps+mxRem s<=m:=by
 rcases hf.or with⟨hh,_,_,_,he,_⟩|⟨hh,hs,hk,he,_⟩
 ·rw [he];exact h.hand q s k hh
 ·unfold startD at hs
  split at hs
  ·have hs':(if (calls.getD i d0).kind=1 then Mc.run (MxS.rd ⟨way0 m,0,[]⟩) else if (calls.getD i d0).kind≠0 then .refuse 9 else if (calls.getD i d0).a / 2^m≠0 then .refuse 10 else .run (.wr (newWr m (calls.getD i d0).a)))=Mc.run s:=hs
   have e0:(evAt evs0 k).steps=0:=by rw [he,hk,evAt_last];rfl
   rw [e0,Nat.zero_add]
   split at hs'
   ·cases hs';exact Nat.le_refl m
   ·split at hs'
    ·cases hs'
    ·split at hs'
     ·cases hs'
     ·cases hs';exact newWr_rem
  ·cases hs
theorem memWrite_small {m:MemD} {a:Int} (h:∀ x,x∈m.ws->x<=1):∀ x,x∈(memWrite m a 1).ws->x<=1:=by
 unfold memWrite
 split
 ·exact h
 ·intro x hx
  rcases List.mem_or_eq_of_mem_set hx with h1|rfl
  ·exact h x h1
  ·exact Nat.le_refl 1
theorem memWrite_len (m:MemD) (a:Int) (v:Nat):(memWrite m a v).ws.length=m.ws.length:=by
 unfold memWrite
 split
 ·rfl
 ·exact List.length_set ..
theorem memRead_ws (m:MemD) (a:Int):(memRead m a).1.ws=m.ws:=by
 unfold memRead
 split<;>rfl
theorem max_step_st {m:Nat} {wd:WD} {q:Nat} {s:MxS} (hp:mxHand m wd.now s) (hu:mxUp s) (hw:∀ x,x∈wd.mem.ws->x<=1) :
  ((maxS m).step () wd q s).2.1.mem.ws.length=wd.mem.ws.length/\(∀ x,x∈((maxS m).step () wd q s).2.1.mem.ws->x<=1)/\mxRem ((maxS m).step () wd q s).2.2.1+1<=mxRem s/\mxUp ((maxS m).step () wd q s).2.2.1:=by
 match s,hp with
 | .rd x,⟨b1,b2,b3⟩=>
  have e:(maxS m).step () wd q (.rd x)=((),(rdStep 0 q wd x).1,.rd (rdStep 0 q wd x).2.1,(rdStep 0 q wd x).2.2):=rfl
  rw [e]
  refine⟨?_,?_,rd_rem b1,trivial⟩
  ·show(rdStep 0 q wd x).1.mem.ws.length=_
   rw [rdStep_mem]
   show(memRead wd.mem _).1.ws.length=_
   rw [memRead_ws]
  show ∀ z,z∈(rdStep 0 q wd x).1.mem.ws->z<=1
  rw [rdStep_mem]
  show ∀ z,z∈(memRead wd.mem _).1.ws->z<=1
  rw [memRead_ws];exact hw
 | .wr x,⟨b1,b2,b3⟩=>
  have e:(maxS m).step () wd q (.wr x)=((),(wrStep 0 q wd x).1,.wr (wrStep 0 q wd x).2.1,(wrStep 0 q wd x).2.2):=rfl
  rw [e]
  refine⟨?_,?_,?_,wrStep_up _ _ _ _⟩
  ·show(wrStep 0 q wd x).1.mem.ws.length=_
   rw [wrStep_fst]
   unfold wrGo
   split
   ·exact memWrite_len _ _ _
   ·split
    ·show(memRead wd.mem _).1.ws.length=_
     rw [memRead_ws]
    ·show(memRead wd.mem _).1.ws.length=_
     rw [memRead_ws]
  ·show ∀ z,z∈(wrStep 0 q wd x).1.mem.ws->z<=1
   rw [wrStep_fst]
   unfold wrGo
   split
   ·exact memWrite_small hw
   ·split
    ·show ∀ z,z∈(memRead wd.mem _).1.ws->z<=1
     rw [memRead_ws];exact hw
    ·show ∀ z,z∈(memRead wd.mem _).1.ws->z<=1
     rw [memRead_ws];exact hw
  ·show mxRem (.wr (wrStep 0 q wd x).2.1)+1<=_
   rw [wrStep_snd]
   refine wrGo_rem b1 (λh=>hu h ?_) b2.up
   rw [if_pos h] at b1;exact b1
theorem mxSt_turn {m:Nat} (hm:0<m) {calls:List CallD} {st st':PlayD (maxS m)} (hg:StGood calls st) (hb:MxBase m st) (h:MxSt m st/\MxUp m st) (ht:Turn calls st st'):MxSt m st'/\MxUp m st':=by
 obtain⟨h,hu⟩:=h
 cases ht with
 | idle=>exact⟨⟨h.wl,h.word,h.hand,h.done⟩,⟨hu.hand⟩⟩
 | refuse q i er hq hN hh hs=>
  have hx:=refuse_next (e1:=finishEv (st.wd.tick.begin q) q ⟨er,0,[]⟩ [] (newEv i (st.wd.tick.begin q))) hg hN rfl
  refine⟨⟨h.wl,h.word,λp s k hp=>?_,λj hj hr=>?_⟩,⟨λp s k hp=>?_⟩⟩
  ·have hp':(st.hands.set q (none,st.evs.length)).getD p (none,0)=(some s,k):=hp
   rw [hands_set hg.h16 hq] at hp'
   split at hp'
   ·cases hp'
   ·rename_i hpq
    obtain⟨a1,a2⟩:=hx.apart p s k hpq hp'
    have e:=(hx.other k (Nat.lt_of_lt_of_le a2 hx.size) a1).2
    show(evAt (st.evs++[_]) k).steps+mxRem s<=m
    rw [e];exact h.hand p s k hp'
  ·by_cases hjk:j=st.evs.length
   ·subst hjk
    show(evAt (st.evs++[_]) st.evs.length).steps<=m
    rw [evAt_last]
    show 0+1<=m
    omega
   ·obtain⟨a1,e⟩:=hx.other j hj hjk
    have hr':(evAt (st.evs++[finishEv (st.wd.tick.begin q) q ⟨er,0,[]⟩ [] (newEv i (st.wd.tick.begin q))]) j).resp≠0:=hr
    show(evAt (st.evs++[_]) j).steps<=m
    rw [e] at hr' ⊢
    exact h.done j a1 hr'
  ·have hp':(st.hands.set q (none,st.evs.length)).getD p (none,0)=(some s,k):=hp
   rw [hands_set hg.h16 hq] at hp'
   split at hp'
   ·cases hp'
   ·exact hu.hand p s k hp'
 | step q i k s evs0 wd0 hq hN hf=>
  have hpre:=(mx_pre hm hb hf).mono (show st.wd.now<=wd0.now by rw [hf.now];exact Nat.le_succ _)
  have hup:=mx_up_pre hu hf
  have hrem:=mx_rem_pre h hf
  obtain⟨s0,s1,s2,s3⟩:=max_step_st (q:=q) hpre hup (by rw [hf.mem];exact h.word)
  have hob:st.obj=():=rfl
  obtain⟨e1,he1⟩:∃ e1,e1=ev1 (maxS m) ((maxS m).step st.obj wd0 q s) q (evAt evs0 k):=⟨_,rfl⟩
  have hst1:e1.steps=(evAt evs0 k).steps+1:=by rw [he1];unfold ev1;split<;>rfl
  have hcall:e1.call=(evAt evs0 k).call:=by rw [he1];unfold ev1;split<;>rfl
  have hx:=hf.next hg hN e1 hcall
  have hev:(stepTo st ((maxS m).step st.obj wd0 q s) q i k evs0).evs=evs0.set k e1:=by rw [he1];rfl
  have hhd:∀ p,(stepTo st ((maxS m).step st.obj wd0 q s) q i k evs0).hands.getD p (none,0)=if p=q then (if ((maxS m).step st.obj wd0 q s).2.2.2 then none else some ((maxS m).step st.obj wd0 q s).2.2.1,k) else st.hands.getD p (none,0):=λp=>hands_set hg.h16 hq _ p
  refine⟨⟨s0.trans (by rw [hf.mem];exact h.wl),s1,λp s' k' hp=>?_,λj hj hr=>?_⟩,⟨λp s' k' hp=>?_⟩⟩
  ·rw [hhd] at hp
   rw [hev]
   split at hp
   ·split at hp
    ·cases hp
    ·cases hp
     rw [hx.self,hst1]
     have s2':mxRem ((maxS m).step st.obj wd0 q s).2.2.1+1<=mxRem s:=s2
     omega
   ·rename_i hpq
    obtain⟨a1,a2⟩:=hx.apart p s' k' hpq hp
    rw [(hx.other k' (Nat.lt_of_lt_of_le a2 hx.size) a1).2]
    exact h.hand p s' k' hp
  ·rw [hev] at hj hr ⊢
   by_cases hjk:j=k
   ·subst hjk
    rw [hx.self,hst1]
    omega
   ·obtain⟨a1,e⟩:=hx.other j hj hjk
    rw [e] at hr ⊢
    exact h.done j a1 hr
  ·rw [hhd] at hp
   split at hp
   ·split at hp
    ·cases hp
    ·cases hp;exact s3
   ·exact hu.hand p s' k' hp
theorem mxSt_report {m n:Nat} (hm:0<m) {calls:List CallD} {picks:List Int} (hck:checkN n calls picks.length=0) :
  (∀ x,x∈(playD (maxS m) () (List.replicate (2^m - 1) 0) calls picks).words->x<=1)/\(∀ j,j<(playD (maxS m) () (List.replicate (2^m - 1) 0) calls picks).evs.length->(evAt (playD (maxS m) () (List.replicate (2^m - 1) 0) calls picks).evs j).steps<=m)/\
  (playD (maxS m) () (List.replicate (2^m - 1) 0) calls picks).evs.length<=picks.length/\(playD (maxS m) () (List.replicate (2^m - 1) 0) calls picks).words.length=2^m - 1:=by
 have hthr':=thr_16 hck
 obtain⟨hg,hb,h,hu⟩:=picks_ind (S:=maxS m) (max_now m) hthr' (J:=λst=>MxBase m st/\MxSt m st/\MxUp m st) (λst st' hg _ hj ht=>⟨mx_base hm hg hj.1 ht,mxSt_turn hm hg hj.1 hj.2 ht⟩) picks (play0_good (S:=maxS m) calls () (List.replicate (2^m - 1) 0))
  ⟨mx_play0 m calls _,⟨(by show(List.replicate (2^m - 1) 0).length=_;simp),(λx hx=>by have hx':x∈List.replicate (2^m - 1) 0:=hx;rw [(List.mem_replicate.1 hx').2];exact Nat.zero_le _),(λp s k hp=>by rw [show(play0 (maxS m) () (List.replicate (2^m - 1) 0) calls).hands.getD p (none,0)=(none,0) from getD_rep'] at hp;cases hp),λj hj=>absurd hj (Nat.not_lt_zero _)⟩,⟨λp s k hp=>by rw [show(play0 (maxS m) () (List.replicate (2^m - 1) 0) calls).hands.getD p (none,0)=(none,0) from getD_rep'] at hp;cases hp⟩⟩
 have htk:=picks_ticks (max_now m) (play0 (maxS m) () (List.replicate (2^m - 1) 0) calls) picks (calls:=calls)
 rw [show(play0 (maxS m) () (List.replicate (2^m - 1) 0) calls).wd.now=0 from rfl,show(play0 (maxS m) () (List.replicate (2^m - 1) 0) calls).idle=0 from rfl] at htk
 obtain⟨st,hst⟩:∃ st,st=picksD (maxS m) calls (play0 (maxS m) () (List.replicate (2^m - 1) 0) calls) picks:=⟨_,rfl⟩
 rw [<-hst] at hg hb h hu htk
 have hP:playD (maxS m) () (List.replicate (2^m - 1) 0) calls picks=reportD (maxS m) st:=by rw [hst];rfl
 rw [hP]
 have hlen:=end_length (calls:=calls) hg
 have hat:=λi hi=>end_at hg hthr' (i:=i) hi
 refine⟨h.word,λj hj=>?_,?_,h.wl⟩
 ·have hj':j<st.evs.length:=by rw [<-hlen];exact hj
  show(evAt (endD (maxS m) st) j).steps<=m
  by_cases hr:(evAt st.evs j).resp=0
  ·obtain⟨s,hs,e⟩:=(hat j hj').2 hr
   rw [e]
   have h1:=h.hand _ s j hs
   show(evAt st.evs j).steps<=m
   omega
  ·rw [(hat j hj').1 hr]
   exact h.done j hj' hr
 ·show(endD (maxS m) st).length<=_
  rw [hlen]
  have:=hg.ev.len_le
  omega
end
section

/- A report's events, as the laws' checks meet them. -/
open Go.RowKit
theorem RepAt.ev8 {X:Nat->Prop} {B:Nat} {w wr:World} {ea:Option Addr} {en ec:Nat} {wv:Value} {ers:List (Value×Value)} {r:RepD} (h:RepAt X B w (.slice ea en ec) wv ers r) (hn:en=r.evs.length) {k:Nat} (hk:k<en) (hb:Below w.heap.size w wr) :
  ∃ g la lc ka kc,ea=some ⟨g,0,none⟩/\g<wr.heap.size/\
   wr.cell? ⟨g,k*8,none⟩=some (.int .i64 ((evAt r.evs k).call:Int))/\wr.cell? ⟨g,k*8+1,none⟩=some (.int .i64 ((evAt r.evs k).inv:Int))/\wr.cell? ⟨g,k*8+2,none⟩=some (.int .i64 ((evAt r.evs k).resp:Int))/\wr.cell? ⟨g,k*8+3,none⟩=some (.int .i64 ((evAt r.evs k).steps:Int))/\
   wr.cell? ⟨g,k*8+4,none⟩=some (.int .i64 (evAt r.evs k).ans.err)/\wr.cell? ⟨g,k*8+5,none⟩=some (.int .u64 ((evAt r.evs k).ans.val:Int))/\wr.cell? ⟨g,k*8+6,none⟩=some (.slice la (evAt r.evs k).ans.list.length lc)/\wr.cell? ⟨g,k*8+7,none⟩=some (.slice ka (evAt r.evs k).key.length kc)/\
   SlAt wr la (evAt r.evs k).ans.list.length 1 (u64G (evAt r.evs k).ans.list)/\SlAt wr ka (evAt r.evs k).key.length 1 (intG (evAt r.evs k).key)/\((evAt r.evs k).key=[]->ka=none/\kc=0):=by
 obtain⟨g,rfl,hg,hev⟩:=h.event hn (by omega)
 have hans:=h.ans k (by rw [<-hn];exact hk)
 obtain⟨V,hV⟩:∃ V,V=ers.getD k vv0:=⟨_,rfl⟩
 rw [<-hV] at hans
 obtain⟨⟨la,lc,hlv,hls,_⟩,⟨ka,kc,hkv,hkn,hks,_⟩⟩:=hans
 have hcells:∀ f,f<8->wr.cell? ⟨g,k*8+f,none⟩=(evCells (evAt r.evs k) V)[f]?:=λf hf=>by rw [hb.cell hg,hev k f hk hf,hV];rfl
 refine⟨g,la,lc,ka,kc,rfl,Nat.lt_of_lt_of_le hg hb.size,hcells 0 (by omega),hcells 1 (by omega),hcells 2 (by omega),hcells 3 (by omega),hcells 4 (by omega),hcells 5 (by omega),?_,?_,hls.grown hb,hks.grown hb,λh0=>?_⟩
 ·rw [hcells 6 (by omega)];exact congrArg some hlv
 ·rw [hcells 7 (by omega)];exact congrArg some hkv
 ·have:=hkn h0
  rw [hkv] at this
  simp only [Value.slice.injEq] at this
  exact⟨this.1,this.2.2⟩
set_option maxHeartbeats 4000000 in
theorem most_true {X:Nat->Prop} {B:Nat} (w:World) (m:Nat) (ea va:Option Addr) (en ec vn vc:Nat) (ers:List (Value×Value)) (rp:RepD) (hrep:RepAt X B w (.slice ea en ec) (.slice va vn vc) ers rp) (hen:en=rp.evs.length) (hlen:rp.evs.length<1000000) (hm:∀ i,i<rp.evs.length->(evAt rp.evs i).steps<=m) :
  Calls Try.prog 19 #[repV (.slice ea en ec) (.slice va vn vc) rp,.int .i64 (m:Int)] w λe w'=>e=.returned (.bool true)/\Below w.heap.size w w':=by
 obtain⟨wa,hwa⟩:∃ wa,wa=w.alloc (.cells #[.slice ea en ec,.slice va vn vc,.int .i64 (rp.c.read:Int),.int .i64 (rp.c.write:Int),.int .i64 (rp.c.swap:Int),.int .i64 (rp.c.add:Int),.int .i64 (rp.c.fault:Int),.int .i64 (rp.ticks:Int),.int .i64 (rp.idle:Int)] 32):=⟨_,rfl⟩
 have hga:Below w.heap.size w wa:=by rw [hwa];exact Gr.new _ _
 have hba:wa.heap[w.heap.size]?=some (.cells #[.slice ea en ec,.slice va vn vc,.int .i64 (rp.c.read:Int),.int .i64 (rp.c.write:Int),.int .i64 (rp.c.swap:Int),.int .i64 (rp.c.add:Int),.int .i64 (rp.c.fault:Int),.int .i64 (rp.ticks:Int),.int .i64 (rp.idle:Int)] 32 (0,0)):=by rw [hwa];exact heap_alloc_new _ _
 have a0:wa.cell? ⟨w.heap.size,0,none⟩=some (.slice ea en ec):=by rw [cell_blk hba];rfl
 have hlt0:=blk_lt hba
 have henl:en<=9223372036854775807:=by omega
 have Hrep:=Lib.hid hrep;have Hen:=Lib.hid hen;have Hm:=Lib.hid hm;have Hga:=Lib.hid hga;have A0:=Lib.hid a0;have Hlt0:=Lib.hid hlt0;have Hwa:=Lib.hid hwa
 clear hrep hen hm hga hba hlt0 hwa hlen
 unfold repV
 go_enter Try.func19,Try.ntmps19
 go_wp2_with fail
 rw [<-Hwa.out]
 go_wp2
 go_loopw [9] (λi wr=>∃ k:Nat,k<=en/\i=.int .i64 k/\Below wa.heap.size wa wr) (λi _=>en - (intOf i).toNat)
 case atStart=>exact⟨0,Nat.zero_le _,rfl,Gr.refl _⟩
 case round=>
  obtain⟨k,hk,rfl,hb⟩:=hrel
  have b0:wr.cell? ⟨w.heap.size,0,none⟩=some (.slice ea en ec):=(hb.cell Hlt0.out).trans A0.out
  by_cases hlt:k<en
  ·obtain⟨g,la,lc,ka,kc,rfl,hg,e0,e1,e2,e3,e4,e5,e6,e7,hls,hks,hkn⟩:=Hrep.out.ev8 Hen.out hlt (Gr.trans Hga.out hb)
   have hs:=Hm.out k (by rw [<-Hen.out];exact hlt)
   obtain⟨st,hst⟩:∃ st,st=(evAt rp.evs k).steps:=⟨_,rfl⟩
   rw [<-hst] at e3 hs
   have l1:(k:Int)<(en:Int):=by omega
   have l2:(st:Int)<=(m:Int):=by omega
   have Hb:=Lib.hid hb
   clear e0 e1 e2 e4 e5 e6 e7 hls hks hst hs hb hg hkn
   go_wp2
   go_roundw
   case rel=>exact⟨k+1,by omega,by go_num,Hb.out⟩
   case measure=>simp [intOf]<;>omega
  ·have l1:¬ (k:Int)<(en:Int):=by omega
   have Hb:=Lib.hid hb
   clear hb
   go_wp2
   go_ret
   exact⟨rfl,Gr.trans Hga.out Hb.out⟩
end
section

/- Layer 10: what it means that a max register's play is not refused. -/
theorem mxCheck_zero {q0 q1:Int} {calls:List CallD} {np:Nat} (h:mxCheck q0 q1 calls np=0):checkN q0 calls np=0/\1<=q1/\q1<=12:=by
 unfold mxCheck at h
 split at h
 ·rename_i h1;exact absurd h h1
 ·rename_i h1
  split at h
  ·cases h
  ·rename_i h2;exact⟨Classical.not_not.1 h1,by omega,by omega⟩
end
end Go.Proofs.Ytlanekkbciffcaa
