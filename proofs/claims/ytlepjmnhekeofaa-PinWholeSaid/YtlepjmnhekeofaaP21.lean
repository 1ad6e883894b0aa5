/- Layer 6: a report's rows, in plain numbers: what roundelayplain.Rows asks for. -/
import Derived.Test.YtlepjmnhekeofaaP20
import Derived.Test.YtlepjmnhekeofaaP15
set_option maxRecDepth 100000
set_option linter.unusedVariables false
set_option linter.unusedSimpArgs false
set_option linter.unnecessarySimpa false
namespace Go.Proofs.Ytlepjmnhekeofaa
section
open Go.RowKit
variable {S:Sys}
theorem end_fold {calls:List CallD} {st:PlayD S} (h:StGood calls st) {i:Nat} (hi:i<st.evs.length):∀(l:List Nat) (evs:List EvD),l.Nodup->evs.length=st.evs.length->
  evAt (l.foldl (endEv S st) evs) i=(match st.hands.getD (tn calls (evAt st.evs i)) (none,0) with
   | (some s,k)=>if tn calls (evAt st.evs i)∈l/\k=i then { evAt evs i with key:=(S.late st.obj st.wd (tn calls (evAt st.evs i)) s).getD (st.wd.marks.getD (tn calls (evAt st.evs i)) []) } else evAt evs i
   | (none,_)=>evAt evs i)
 | [],evs,_,_=>by
  simp only [List.foldl_nil]
  split
  ·rw [if_neg (by simp)]
  ·rfl
 | p::l,evs,hnd,hlen=>by
  rw [List.foldl_cons]
  have hl:(endEv S st evs p).length=st.evs.length:=by
   unfold endEv;split
   ·exact hlen
   ·rw [modEv_length];exact hlen
  rw [end_fold h hi l (endEv S st evs p) (List.nodup_cons.1 hnd).2 hl]
  obtain⟨t,ht⟩:∃ t,t=tn calls (evAt st.evs i):=⟨_,rfl⟩
  rw [<-ht]
  by_cases hpt:p=t
  ·subst hpt
   have hpn:p ∉ l:=(List.nodup_cons.1 hnd).1
   cases hh:st.hands.getD p (none,0) with
   | mk m k=>
    cases m with
    | none=>
     simp only
     unfold endEv;rw [hh]
    | some s=>
     simp only
     rw [if_neg (λh=>hpn h.1)]
     have hkl:k<st.evs.length:=(h.ev.hand p k (by unfold hndOf;rw [hh];rfl)).1
     have:endEv S st evs p=modEv evs k λe=>{ e with key:=(S.late st.obj st.wd p s).getD (st.wd.marks.getD p []) }:=by unfold endEv;rw [hh]
     rw [this]
     unfold modEv
     rw [evAt_set _ (by omega)]
     by_cases hki:k=i
     ·subst hki
      rw [if_pos rfl,if_pos ⟨by simp,rfl⟩];rfl
     ·rw [if_neg (Ne.symm hki),if_neg (λh=>hki h.2)]
  ·have hsame:evAt (endEv S st evs p) i=evAt evs i:=by
    unfold endEv
    split
    ·rfl
    ·rename_i s k hk
     obtain⟨k1,k2,_⟩:=h.ev.hand p k (by unfold hndOf;rw [hk];rfl)
     unfold modEv
     rw [evAt_set _ (by omega),if_neg]
     rintro rfl
     exact hpt (k2.symm.trans ht.symm)
   rw [hsame]
   have hmem:(t∈p::l)↔t∈l:=by simp [Ne.symm hpt]
   split
   ·rename_i s2 k2 hk2
    by_cases hm2:t∈l/\k2=i
    ·rw [if_pos hm2,if_pos ⟨hmem.2 hm2.1,hm2.2⟩]
    ·rw [if_neg hm2,if_neg (λh=>hm2 ⟨hmem.1 h.1,h.2⟩)]
   ·rfl
theorem end_at {calls:List CallD} {st:PlayD S} (h:StGood calls st) (hthr:∀ c,c<calls.length->0<=(calls.getD c d0).thread/\(calls.getD c d0).thread<16) {i:Nat} (hi:i<st.evs.length) :
  ((evAt st.evs i).resp≠0->evAt (endD S st) i=evAt st.evs i)/\
  ((evAt st.evs i).resp=0->∃ s,st.hands.getD (tn calls (evAt st.evs i)) (none,0)=(some s,i)/\evAt (endD S st) i={ evAt st.evs i with key:=(S.late st.obj st.wd (tn calls (evAt st.evs i)) s).getD (st.wd.marks.getD (tn calls (evAt st.evs i)) []) }):=by
 have hf:=end_fold h hi (List.range 16) st.evs List.nodup_range rfl
 unfold endD
 rw [hf]
 refine⟨λhr=>?_,λhr=>?_⟩
 ·split
  ·rename_i s k hk
   rw [if_neg]
   rintro⟨_,rfl⟩
   exact hr (h.ev.hand _ k (by unfold hndOf;rw [hk];rfl)).2.2.1
  ·rfl
 ·have ho:=(h.ev.open_ i hi hr).2
  unfold hndOf at ho
  cases hh:st.hands.getD (tn calls (evAt st.evs i)) (none,0) with
  | mk m k=>
   rw [hh] at ho
   cases m with
   | none=>simp at ho
   | some s=>
    simp only [Option.isSome_some,if_true,Option.some.injEq] at ho
    subst ho
    refine⟨s,rfl,?_⟩
    have hm:tn calls (evAt st.evs k)∈List.range 16:=by
     have:=hthr _ (h.ev.call k hi)
     rw [List.mem_range];unfold tn;omega
    simp only
    rw [if_pos (by exact⟨hm,by trivial⟩)]
theorem end_length {calls:List CallD} {st:PlayD S} (h:StGood calls st):(endD S st).length=st.evs.length:=by
 have:∀(l:List Nat) (evs:List EvD),(l.foldl (endEv S st) evs).length=evs.length:=by
  intro l
  induction l with
  | nil=>intro evs;rfl
  | cons p l ih=>
   intro evs
   rw [List.foldl_cons,ih]
   unfold endEv;split
   ·rfl
   ·rw [modEv_length]
 exact this _ _
def lastN (evs:List EvD) (calls:List CallD) (n:Nat):Nat->List Int
 | 0=>List.replicate n 0
 | k+1=>(lastN evs calls n k).set (tn calls (evAt evs k)) (if (evAt evs k).resp=0 then -1 else ((evAt evs k).resp:Int))
def callN (evs:List EvD) (calls:List CallD) (n:Nat):Nat->List Int
 | 0=>List.replicate n 0
 | k+1=>(callN evs calls n k).set (tn calls (evAt evs k)) (((evAt evs k).call:Int)+1)
theorem lastN_length (evs:List EvD) (calls:List CallD) (n:Nat):∀ k,(lastN evs calls n k).length=n
 | 0=>by simp [lastN]
 | k+1=>by simp [lastN,lastN_length evs calls n k]
theorem callN_length (evs:List EvD) (calls:List CallD) (n:Nat):∀ k,(callN evs calls n k).length=n
 | 0=>by simp [callN]
 | k+1=>by simp [callN,callN_length evs calls n k]
theorem lastN_get (evs:List EvD) (calls:List CallD) (n:Nat) {p:Nat} (hp:p<n):∀ k,((lastN evs calls n k).getD p 0=0/\(callN evs calls n k).getD p 0=0)∨
  ∃ i,i<k/\tn calls (evAt evs i)=p/\(lastN evs calls n k).getD p 0=(if (evAt evs i).resp=0 then -1 else ((evAt evs i).resp:Int))/\(callN evs calls n k).getD p 0=((evAt evs i).call:Int)+1
 | 0=>.inl ⟨by simp [lastN,List.getD_eq_getElem?_getD,List.getElem?_replicate,hp],by simp [callN,List.getD_eq_getElem?_getD,List.getElem?_replicate,hp]⟩
 | k+1=>by
  by_cases h:tn calls (evAt evs k)=p
  ·refine .inr ⟨k,Nat.lt_succ_self k,h,?_,?_⟩
   ·show((lastN evs calls n k).set (tn calls (evAt evs k)) _).getD p 0=_
    rw [h];exact getD_set_eq (by rw [lastN_length];exact hp)
   ·show((callN evs calls n k).set (tn calls (evAt evs k)) _).getD p 0=_
    rw [h];exact getD_set_eq (by rw [callN_length];exact hp)
  ·have e1:(lastN evs calls n (k+1)).getD p 0=(lastN evs calls n k).getD p 0:=getD_set_neq h
   have e2:(callN evs calls n (k+1)).getD p 0=(callN evs calls n k).getD p 0:=getD_set_neq h
   rw [e1,e2]
   rcases lastN_get evs calls n hp k with h1|⟨i,h1,h2⟩
   ·exact .inl h1
   ·exact .inr ⟨i,by omega,h2⟩
structure RowGood (calls:List CallD) (n:Nat) (ticks:Nat) (e:EvD):Prop where
 call:e.call<calls.length
 thr:0<=(calls.getD e.call d0).thread/\(calls.getD e.call d0).thread<n
 inv1:1<=e.inv
 invt:e.inv<=ticks
 steps:1<=e.steps
 resp:e.resp≠0->e.inv<=e.resp/\e.resp<=ticks/\e.steps<=e.resp - e.inv+1/\Within e.key e.inv e.resp
 open_:e.resp=0->e.key=[]∨Within e.key e.inv ticks
structure RowsGood (calls:List CallD) (n:Nat) (r:RepD):Prop where
 n1:1<=n
 n16:n<=16
 ev:∀ i,i<r.evs.length->RowGood calls n r.ticks (evAt r.evs i)
 rise:∀ i j,i<j->j<r.evs.length->(evAt r.evs i).inv<(evAt r.evs j).inv
 same:∀ i j,i<j->j<r.evs.length->tn calls (evAt r.evs i)=tn calls (evAt r.evs j)->(evAt r.evs i).resp≠0/\(evAt r.evs i).resp<(evAt r.evs j).inv/\(evAt r.evs i).call<(evAt r.evs j).call
 sum:(r.evs.map (·.steps)).sum=r.ticks
 fault:r.c.fault=0
 all:r.c.read+r.c.write+r.c.swap+r.c.add<=r.ticks
 small:r.ticks<1000000
structure KeysFit (st:PlayD S):Prop where
 keys:∀ i,i<st.evs.length->(evAt st.evs i).resp≠0->Within (evAt st.evs i).key (evAt st.evs i).inv (evAt st.evs i).resp
 late:∀ p s k,st.hands.getD p (none,0)=(some s,k)->(S.late st.obj st.wd p s).getD (st.wd.marks.getD p [])=[]∨Within ((S.late st.obj st.wd p s).getD (st.wd.marks.getD p [])) (evAt st.evs k).inv st.wd.now
theorem sum_end {calls:List CallD} {st:PlayD S} (h:StGood calls st):((endD S st).map (·.steps)).sum=(st.evs.map (·.steps)).sum:=by
 have:∀(l:List Nat) (evs:List EvD),(∀ i,(evAt evs i).steps=(evAt evs i).steps)->((l.foldl (endEv S st) evs).map (·.steps))=evs.map (·.steps):=by
  intro l
  induction l with
  | nil=>intro evs _;rfl
  | cons p l ih=>
   intro evs _
   rw [List.foldl_cons,ih _ (λ_=>rfl)]
   unfold endEv;split
   ·rfl
   ·unfold modEv
    rename_i s k _
    rw [List.map_set]
    rcases Nat.lt_or_ge k evs.length with hk|hk
    ·apply List.ext_getElem?
     intro j
     rw [List.getElem?_set]
     split
     ·rename_i e;subst e
      simp [hk,List.getD_eq_getElem?_getD]
     ·rfl
    ·rw [List.set_eq_of_length_le (by simpa using hk)]
 unfold endD
 rw [this _ _ (λ_=>rfl)]
theorem rows_good {calls:List CallD} {n:Nat} {st:PlayD S} (h:StGood calls st) (hn1:1<=n) (hn16:n<=16) (hthr:∀ c,c<calls.length->0<=(calls.getD c d0).thread/\(calls.getD c d0).thread<n)
  (hk:KeysFit st) (hf:st.wd.mem.c.fault=0) (ha:st.wd.mem.c.all<=st.wd.now) (hs:st.wd.now<1000000):RowsGood calls n (reportD S st):=by
 have hthr':∀ c,c<calls.length->0<=(calls.getD c d0).thread/\(calls.getD c d0).thread<16:=λc hc=>by have:=hthr c hc;omega
 have hlen:=end_length (calls:=calls) h
 have hat:=λi hi=>end_at h hthr' (i:=i) hi
 have hpre:∀ i,i<st.evs.length->(evAt (endD S st) i).call=(evAt st.evs i).call/\(evAt (endD S st) i).inv=(evAt st.evs i).inv/\(evAt (endD S st) i).resp=(evAt st.evs i).resp/\(evAt (endD S st) i).steps=(evAt st.evs i).steps:=by
  intro i hi
  by_cases hr:(evAt st.evs i).resp=0
  ·obtain⟨s,_,e⟩:=(hat i hi).2 hr
   rw [e];exact⟨rfl,rfl,rfl,rfl⟩
  ·rw [(hat i hi).1 hr];exact⟨rfl,rfl,rfl,rfl⟩
 have htn:∀ i,i<st.evs.length->tn calls (evAt (endD S st) i)=tn calls (evAt st.evs i):=λi hi=>by unfold tn;rw [(hpre i hi).1]
 refine⟨hn1,hn16,λi hi=>?_,λi j hij hj=>?_,λi j hij hj ht=>?_,?_,hf,?_,hs⟩
 ·have hi':i<st.evs.length:=by rw [<-hlen];exact hi
  obtain⟨p1,p2,p3,p4⟩:=hpre i hi'
  have ht:=h.ev.tick i hi'
  show RowGood calls n st.wd.now (evAt (endD S st) i)
  refine⟨by rw [p1];exact h.ev.call i hi',by rw [p1];exact hthr _ (h.ev.call i hi'),by rw [p2];exact ht.1,by rw [p2];exact ht.2.1,by rw [p4];exact ht.2.2.1,λhr=>?_,λhr=>?_⟩
  ·rw [p3] at hr
   have hre:=h.ev.resp i hi' hr
   rw [(hat i hi').1 hr]
   exact⟨hre.1,ht.2.2.2,hre.2.1,hk.keys i hi' hr⟩
  ·rw [p3] at hr
   obtain⟨s,hh,e⟩:=(hat i hi').2 hr
   rw [e]
   exact hk.late _ s i hh
 ·have hj':j<st.evs.length:=by rw [<-hlen];exact hj
  show(evAt (endD S st) i).inv<(evAt (endD S st) j).inv
  rw [(hpre i (by omega)).2.1,(hpre j hj').2.1];exact h.ev.rise i j hij hj'
 ·have hj':j<st.evs.length:=by rw [<-hlen];exact hj
  have ht':tn calls (evAt (endD S st) i)=tn calls (evAt (endD S st) j):=ht
  rw [htn i (by omega),htn j hj'] at ht'
  have:=h.ev.same i j hij hj' ht'
  show(evAt (endD S st) i).resp≠0/\(evAt (endD S st) i).resp<(evAt (endD S st) j).inv/\(evAt (endD S st) i).call<(evAt (endD S st) j).call
  rw [(hpre i (by omega)).2.2.1,(hpre i (by omega)).1,(hpre j hj').2.1,(hpre j hj').1]
  exact this
 ·show((endD S st).map (·.steps)).sum=st.wd.now
  rw [sum_end h];exact h.ev.sum
 ·show st.wd.mem.c.read+st.wd.mem.c.write+st.wd.mem.c.swap+st.wd.mem.c.add<=st.wd.now
  unfold CountsD.all at ha;omega
end
section

/- Layer 6: the order of keys, in plain lists. -/
open Go.RowKit
def keyLt:List Int->List Int->Bool
 | [],[]=>false
 | [],_::_=>true
 | _::_,[]=>false
 | a::l1,b::l2=>if a=b then keyLt l1 l2 else decide (a<b)
theorem keyLt_irrefl:∀ a,keyLt a a=false
 | []=>rfl
 | a::l1=>by unfold keyLt;rw [if_pos rfl];exact keyLt_irrefl l1
theorem keyLt_trans:∀ a b c,keyLt a b=true->keyLt b c=true->keyLt a c=true
 | [],[],_,h,_=>by simp [keyLt] at h
 | [],_::_,[],_,h=>by simp [keyLt] at h
 | [],_::_,_::_,_,_=>rfl
 | _::_,[],_,h,_=>by simp [keyLt] at h
 | _::_,_::_,[],_,h=>by simp [keyLt] at h
 | a::l1,b::l2,c::l3,h,k=>by
  unfold keyLt at h k ⊢
  by_cases h1:a=b
  ·subst h1
   rw [if_pos rfl] at h
   by_cases h2:a=c
   ·rw [if_pos h2] at k ⊢;exact keyLt_trans l1 l2 l3 h k
   ·rw [if_neg h2] at k ⊢;exact k
  ·rw [if_neg h1] at h
   have h':a<b:=of_decide_eq_true h
   by_cases h2:b=c
   ·subst h2;rw [if_neg h1];exact h
   ·rw [if_neg h2] at k
    have k':b<c:=of_decide_eq_true k
    rw [if_neg (by omega)];exact decide_eq_true (by omega)
theorem keyLt_tri:∀ a b,keyLt a b=true∨a=b∨keyLt b a=true
 | [],[]=>.inr (.inl rfl)
 | [],_::_=>.inl rfl
 | _::_,[]=>.inr (.inr rfl)
 | a::l1,b::l2=>by
  unfold keyLt
  by_cases h:a=b
  ·subst h
   simp only [if_true]
   rcases keyLt_tri l1 l2 with h|h|h
   ·exact .inl h
   ·exact .inr (.inl (by rw [h]))
   ·exact .inr (.inr h)
  ·rw [if_neg h,if_neg (Ne.symm h)]
   rcases Int.lt_or_gt_of_ne h with h1|h1
   ·exact .inl (decide_eq_true h1)
   ·exact .inr (.inr (decide_eq_true h1))
theorem keyLt_head {a b:List Int} (ha:a≠[]) (hb:b≠[]) (h:a.headD 0<b.headD 0):keyLt a b=true:=by
 match a,b,ha,hb with
 | x::_,y::_,_,_=>
  simp only [List.headD_cons] at h
  unfold keyLt;rw [if_neg (by omega)];exact decide_eq_true h
def kAt (evs:List EvD) (i:Nat):List Int:=(evAt evs i).key
def evLt (evs:List EvD) (i j:Nat):Prop:=keyLt (kAt evs i) (kAt evs j)=true∨(kAt evs i=kAt evs j/\i<j)
theorem evLt_irrefl (evs:List EvD) (i:Nat):¬ evLt evs i i:=by
 rintro(h|h)
 ·rw [keyLt_irrefl] at h;cases h
 ·omega
theorem evLt_trans {evs:List EvD} {i j k:Nat} (h:evLt evs i j) (g:evLt evs j k):evLt evs i k:=by
 rcases h with h|⟨h,h'⟩<;>rcases g with g|⟨g,g'⟩
 ·exact .inl (keyLt_trans _ _ _ h g)
 ·exact .inl (by rw [<-g];exact h)
 ·exact .inl (by rw [h];exact g)
 ·exact .inr ⟨h.trans g,by omega⟩
theorem evLt_tri (evs:List EvD) (i j:Nat):evLt evs i j∨i=j∨evLt evs j i:=by
 rcases keyLt_tri (kAt evs i) (kAt evs j) with h|h|h
 ·exact .inl (.inl h)
 ·rcases Nat.lt_trichotomy i j with g|g|g
  ·exact .inl (.inr ⟨h,g⟩)
  ·exact .inr (.inl g)
  ·exact .inr (.inr (.inr ⟨h.symm,g⟩))
 ·exact .inr (.inr (.inl h))
def insAt (evs:List EvD) (out:List Nat) (i:Nat):Nat->Nat
 | 0=>0
 | k+1=>if keyLt (kAt evs i) (kAt evs (out.getD k 0)) then insAt evs out i k else k+1
theorem insAt_le (evs:List EvD) (out:List Nat) (i:Nat):∀ k,insAt evs out i k<=k
 | 0=>Nat.le_refl _
 | k+1=>by unfold insAt;split;exact Nat.le_succ_of_le (insAt_le evs out i k);exact Nat.le_refl _
def insK (evs:List EvD) (out:List Nat) (i:Nat):List Nat:=out.take (insAt evs out i out.length)++i::out.drop (insAt evs out i out.length)
def orderK (evs:List EvD):Nat->List Nat
 | 0=>[]
 | i+1=>if kAt evs i=[] then orderK evs i else insK evs (orderK evs i) i
def orderD (evs:List EvD):List Nat:=orderK evs evs.length
theorem insAt_spec {evs:List EvD} {out:List Nat} {i:Nat}:∀ k,k<=out.length->(∀ j,insAt evs out i k<=j->j<k->keyLt (kAt evs i) (kAt evs (out.getD j 0))=true)/\(0<insAt evs out i k->keyLt (kAt evs i) (kAt evs (out.getD (insAt evs out i k - 1) 0))=false)
 | 0,_=>⟨λj _ h=>by omega,λh=>by simp [insAt] at h⟩
 | k+1,hk=>by
  unfold insAt
  by_cases h:keyLt (kAt evs i) (kAt evs (out.getD k 0))=true
  ·rw [if_pos h]
   obtain⟨a,b⟩:=insAt_spec (evs:=evs) (out:=out) (i:=i) k (by omega)
   refine⟨λj h1 h2=>?_,b⟩
   by_cases hj:j=k
   ·rw [hj];exact h
   ·exact a j h1 (by omega)
  ·rw [if_neg h]
   exact⟨λj h1 h2=>by omega,λ_=>by simpa using h⟩
theorem insK_mem {evs:List EvD} {out:List Nat} {i x:Nat}:x∈insK evs out i↔x=i∨x∈out:=by
 unfold insK
 rw [List.mem_append,List.mem_cons]
 constructor
 ·rintro(h|h|h)
  ·exact .inr (List.mem_of_mem_take h)
  ·exact .inl h
  ·exact .inr (List.mem_of_mem_drop h)
 ·rintro(h|h)
  ·exact .inr (.inl h)
  ·rw [<-List.take_append_drop (insAt evs out i out.length) out,List.mem_append] at h
   rcases h with h|h
   ·exact .inl h
   ·exact .inr (.inr h)
theorem insK_sorted {evs:List EvD} {out:List Nat} {i:Nat} (h:out.Pairwise (evLt evs)) (hi:∀ x∈out,x<i):(insK evs out i).Pairwise (evLt evs):=by
 obtain⟨k,hk⟩:∃ k,k=insAt evs out i out.length:=⟨_,rfl⟩
 obtain⟨s1,s2⟩:=insAt_spec (evs:=evs) (out:=out) (i:=i) out.length (Nat.le_refl _)
 have hle:=insAt_le evs out i out.length
 unfold insK
 rw [<-hk] at s1 s2 hle ⊢
 have hsp:=h
 rw [<-List.take_append_drop k out,List.pairwise_append] at hsp
 obtain⟨a1,a2,a3⟩:=hsp
 have hpre:∀ x∈out.take k,evLt evs x i:=by
  intro x hx
  have hk0:0<k:=by
   rcases Nat.eq_zero_or_pos k with h0|h0
   ·rw [h0] at hx;simp at hx
   ·exact h0
  have hb:=s2 hk0
  have hlast:out.getD (k - 1) 0∈out:=by rw [List.getD_eq_getElem?_getD,List.getElem?_eq_getElem (by omega)];exact List.getElem_mem _
  have hlt:evLt evs (out.getD (k - 1) 0) i:=by
   rcases evLt_tri evs (out.getD (k - 1) 0) i with h1|h1|h1
   ·exact h1
   ·have:=hi _ hlast;omega
   ·rcases h1 with h1|⟨_,h1⟩
    ·rw [hb] at h1;cases h1
    ·have:=hi _ hlast;omega
  obtain⟨j,hj,rfl⟩:=List.mem_iff_getElem.1 hx
  have hj':j<k:=by simp at hj;omega
  rw [List.getElem_take]
  by_cases hjk:j=k - 1
  ·subst hjk
   rw [List.getD_eq_getElem?_getD,List.getElem?_eq_getElem (by omega)] at hlt
   exact hlt
  ·refine evLt_trans ?_ hlt
   rw [List.getD_eq_getElem?_getD,List.getElem?_eq_getElem (by omega)]
   exact List.pairwise_iff_getElem.1 h j (k - 1) (by omega) (by omega) (by omega)
 have hpost:∀ x∈out.drop k,evLt evs i x:=by
  intro x hx
  obtain⟨j,hj,rfl⟩:=List.mem_iff_getElem.1 hx
  rw [List.getElem_drop]
  have hj':k+j<out.length:=by simp at hj;omega
  have:=s1 (k+j) (by omega) hj'
  rw [List.getD_eq_getElem?_getD,List.getElem?_eq_getElem hj'] at this
  exact .inl this
 rw [List.pairwise_append,List.pairwise_cons]
 refine⟨a1,⟨hpost,a2⟩,λx hx y hy=>?_⟩
 simp only [List.mem_cons] at hy
 rcases hy with rfl|hy
 ·exact hpre x hx
 ·exact a3 x hx y hy
theorem orderK_spec (evs:List EvD):∀ k,(orderK evs k).Pairwise (evLt evs)/\(∀ x,x∈orderK evs k↔x<k/\kAt evs x≠[])
 | 0=>⟨List.Pairwise.nil,λx=>by simp [orderK]⟩
 | k+1=>by
  obtain⟨h1,h2⟩:=orderK_spec evs k
  unfold orderK
  by_cases h:kAt evs k=[]
  ·rw [if_pos h]
   refine⟨h1,λx=>?_⟩
   rw [h2]
   constructor
   ·rintro⟨a,b⟩;exact⟨by omega,b⟩
   ·rintro⟨a,b⟩
    refine⟨?_,b⟩
    have:x≠k:=by rintro rfl;exact b h
    omega
  ·rw [if_neg h]
   refine⟨insK_sorted h1 (λx hx=>((h2 x).1 hx).1),λx=>?_⟩
   rw [insK_mem,h2]
   constructor
   ·rintro(rfl|⟨a,b⟩)
    ·exact⟨by omega,h⟩
    ·exact⟨by omega,b⟩
   ·rintro⟨a,b⟩
    by_cases hx:x=k
    ·exact .inl hx
    ·exact .inr ⟨by omega,b⟩
theorem orderD_mem {evs:List EvD} {i:Nat} (h:i∈orderD evs):i<evs.length/\kAt evs i≠[]:=((orderK_spec evs evs.length).2 i).1 h
theorem orderK_len (evs:List EvD):∀ k,(orderK evs k).length<=k
 | 0=>Nat.le_refl _
 | k+1=>by
  unfold orderK;split
  ·exact Nat.le_succ_of_le (orderK_len evs k)
  ·unfold insK
   rw [List.length_append,List.length_cons,List.length_take,List.length_drop]
   have:=orderK_len evs k
   have:=insAt_le evs (orderK evs k) k (orderK evs k).length
   omega
def Fold (ap:List Nat->CallD->List Nat×AnsD) (calls:List CallD) (evs:List EvD):List Nat->List Nat->Prop
 | _,[]=>True
 | st,i::l=>
  if (calls.getD (evAt evs i).call d0).obj≠0 then ((evAt evs i).resp≠0->(evAt evs i).ans=⟨12,0,[]⟩)/\Fold ap calls evs st l
  else ((evAt evs i).resp≠0->(evAt evs i).ans=(ap st (calls.getD (evAt evs i).call d0)).2)/\Fold ap calls evs (ap st (calls.getD (evAt evs i).call d0)).1 l
def foldTo (ap:List Nat->CallD->List Nat×AnsD) (calls:List CallD) (evs:List EvD):List Nat->List Nat->List Nat
 | st,[]=>st
 | st,i::l=>foldTo ap calls evs (if (calls.getD (evAt evs i).call d0).obj≠0 then st else (ap st (calls.getD (evAt evs i).call d0)).1) l
end
section

/- Layer 9: adder.Play. -/
open Go.RowKit
abbrev adderS:Sys:=onceSys adderRef adderAct
end
end Go.Proofs.Ytlepjmnhekeofaa
