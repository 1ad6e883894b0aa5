/- Layer 10: of the report of a play of a max register: what is read, and that operations are as if they were done one by one: in plain numbers. -/
import Derived.Test.YtlanekkbciffcaaF39
set_option maxRecDepth 100000
set_option linter.unusedVariables false
set_option linter.unusedSimpArgs false
set_option linter.unnecessarySimpa false
namespace Go.Proofs.Ytlanekkbciffcaa
open Go.RowKit
def maxAp (m:Nat) (st:List Nat) (c:CallD):List Nat×AnsD:=
 if c.kind=1 then (st,⟨0,st.getD 0 0,[]⟩) else if c.kind≠0 then (st,⟨9,0,[]⟩) else if c.a / 2^m≠0 then (st,⟨10,0,[]⟩) else ([max (st.getD 0 0) c.a],⟨0,0,[]⟩)
theorem maxAp_1 {m:Nat} {st:List Nat} {c:CallD} (h:c.kind=1):maxAp m st c=(st,⟨0,st.getD 0 0,[]⟩):=if_pos h
def mxQ (m:Nat) (calls:List CallD) (evs:List EvD) (j:Nat):Prop:=objOf calls (evAt evs j)=0/\kindOf calls (evAt evs j)=0/\(calls.getD (evAt evs j).call d0).a / 2^m=0
theorem mx_foldTo (m:Nat) (calls:List CallD) (evs:List EvD):∀(l:List Nat) (v:Nat),∃ x,foldTo (maxAp m) calls evs [v] l=[x]/\v<=x/\(∀ j,j∈l->mxQ m calls evs j->(calls.getD (evAt evs j).call d0).a<=x)/\(x=v∨∃ j,j∈l/\mxQ m calls evs j/\(calls.getD (evAt evs j).call d0).a=x)
 | [],v=>⟨v,rfl,Nat.le_refl _,λj hj=>(List.not_mem_nil hj).elim,.inl rfl⟩
 | i::l,v=>by
  have hskip:¬ mxQ m calls evs i->(if (calls.getD (evAt evs i).call d0).obj≠0 then [v] else (maxAp m [v] (calls.getD (evAt evs i).call d0)).1)=[v]:=λhn=>by
   split
   ·rfl
   ·rename_i ho
    unfold maxAp
    split
    ·rfl
    ·split
     ·rfl
     ·rename_i hk
      split
      ·rfl
      ·rename_i ha
       exact absurd ⟨Classical.not_not.1 ho,Classical.not_not.1 hk,Classical.not_not.1 ha⟩ hn
  by_cases hq:mxQ m calls evs i
  ·obtain⟨q1,q2,q3⟩:=hq
   have e:(if (calls.getD (evAt evs i).call d0).obj≠0 then [v] else (maxAp m [v] (calls.getD (evAt evs i).call d0)).1)=[max v (calls.getD (evAt evs i).call d0).a]:=by
    have q1':(calls.getD (evAt evs i).call d0).obj=0:=q1
    have q2':(calls.getD (evAt evs i).call d0).kind=0:=q2
    rw [if_neg (λx=>x q1')]
    unfold maxAp
    rw [q2',if_neg (by decide),if_neg (by decide),if_neg (λx=>x q3)]
    rfl
   obtain⟨x,h1,h2,h3,h4⟩:=mx_foldTo m calls evs l (max v (calls.getD (evAt evs i).call d0).a)
   refine⟨x,?_,by omega,λj hj hjq=>?_,?_⟩
   ·show foldTo (maxAp m) calls evs (if _ then _ else _) l=_
    rw [e];exact h1
   ·rcases List.mem_cons.1 hj with rfl|hj
    ·omega
    ·exact h3 j hj hjq
   ·rcases h4 with h4|⟨j,hj,hjq,h5⟩
    ·by_cases hv:v<=(calls.getD (evAt evs i).call d0).a
     ·exact .inr ⟨i,List.mem_cons_self ..,⟨q1,q2,q3⟩,by omega⟩
     ·exact .inl (by omega)
    ·exact .inr ⟨j,List.mem_cons_of_mem _ hj,hjq,h5⟩
  ·obtain⟨x,h1,h2,h3,h4⟩:=mx_foldTo m calls evs l v
   refine⟨x,?_,h2,λj hj hjq=>?_,?_⟩
   ·show foldTo (maxAp m) calls evs (if _ then _ else _) l=_
    rw [hskip hq];exact h1
   ·rcases List.mem_cons.1 hj with rfl|hj
    ·exact absurd hjq hq
    ·exact h3 j hj hjq
   ·rcases h4 with h4|⟨j,hj,hjq,h5⟩
    ·exact .inl h4
    ·exact .inr ⟨j,List.mem_cons_of_mem _ hj,hjq,h5⟩
structure MxRep (calls:List CallD) (r:RepD):Prop where
 call:∀ j,j<r.evs.length->(evAt r.evs j).call<calls.length
 ge:∀ i j,i<r.evs.length->j<r.evs.length->objOf calls (evAt r.evs i)=0->kindOf calls (evAt r.evs i)=1->(evAt r.evs i).resp≠0->objOf calls (evAt r.evs j)=0->(evAt r.evs j).ans.err=0->(evAt r.evs j).resp≠0->(evAt r.evs j).resp<(evAt r.evs i).inv->
  (kindOf calls (evAt r.evs j)=0->(calls.getD (evAt r.evs j).call d0).a<=(evAt r.evs i).ans.val)/\(kindOf calls (evAt r.evs j)=1->(evAt r.evs j).ans.val<=(evAt r.evs i).ans.val)
 was:∀ i,i<r.evs.length->objOf calls (evAt r.evs i)=0->kindOf calls (evAt r.evs i)=1->(evAt r.evs i).resp≠0->(evAt r.evs i).ans.val=0∨∃ j,j<r.evs.length/\objOf calls (evAt r.evs j)=0/\(evAt r.evs j).ans.err=0/\kindOf calls (evAt r.evs j)=0/\(calls.getD (evAt r.evs j).call d0).a=(evAt r.evs i).ans.val/\(evAt r.evs j).inv<(evAt r.evs i).resp
theorem keyLt_le {a b:List Int} (ha:a≠[]) (hb:b≠[]) (h:keyLt a b=true):a.headD 0<=b.headD 0:=by
 rcases Int.lt_or_le (b.headD 0) (a.headD 0) with h1|h1
 ·rw [keyLt_no ha hb h1] at h;cases h
 ·exact h1
theorem mx_refused {m:Nat} {wd:WD} {p:Nat} {c:CallD} {er:Int} (h:startD (maxS m) () wd p c=.refuse er):(c.obj=0->c.kind=1->False)/\(c.obj=0->c.kind=0->c.a / 2^m=0->False)/\er≠0/\(∀ s,(if c.obj≠0 then ⟨12,0,[]⟩ else (maxAp m s c).2)=(⟨er,0,[]⟩:AnsD)):=by
 unfold startD at h
 split at h
 ·rename_i ho
  have h':(if c.kind=1 then Mc.run (MxS.rd ⟨way0 m,0,[]⟩) else if c.kind≠0 then .refuse 9 else if c.a / 2^m≠0 then .refuse 10 else .run (.wr (newWr m c.a)))=Mc.refuse er:=h
  split at h'
  ·cases h'
  ·rename_i k1
   split at h'
   ·rename_i k0
    cases h'
    refine⟨λ_ e=>k1 e,λ_ e=>absurd e k0,by decide,λs=>?_⟩
    rw [if_neg (λx=>x ho)];unfold maxAp;rw [if_neg k1,if_pos k0]
   ·rename_i k0
    split at h'
    ·rename_i k2
     cases h'
     refine⟨λ_ e=>k1 e,λ_ _ e=>absurd e k2,by decide,λs=>?_⟩
     rw [if_neg (λx=>x ho)];unfold maxAp;rw [if_neg k1,if_neg k0,if_pos k2]
    ·cases h'
 ·rename_i ho
  cases h
  exact⟨λe=>absurd e ho,λe=>absurd e ho,by decide,λs=>if_pos ho⟩
set_option maxHeartbeats 1000000 in
theorem mx_report {m n:Nat} (hm:0<m) {calls:List CallD} {picks:List Int} (hck:checkN n calls picks.length=0) (hnp:picks.length<=65536) :
  WholeGood (maxAp m) [0] calls n (playD (maxS m) () (List.replicate (2^m - 1) 0) calls picks)/\MxRep calls (playD (maxS m) () (List.replicate (2^m - 1) 0) calls picks)/\(playD (maxS m) () (List.replicate (2^m - 1) 0) calls picks).evs.length<=picks.length:=by
 obtain⟨H,hg,hb,h⟩:=mxH_picks hm hck
 have hthr':=thr_16 hck
 have htk:=picks_ticks (max_now m) (play0 (maxS m) () (List.replicate (2^m - 1) 0) calls) picks (calls:=calls)
 rw [show(play0 (maxS m) () (List.replicate (2^m - 1) 0) calls).wd.now=0 from rfl,show(play0 (maxS m) () (List.replicate (2^m - 1) 0) calls).idle=0 from rfl] at htk
 obtain⟨st,hst⟩:∃ st,st=picksD (maxS m) calls (play0 (maxS m) () (List.replicate (2^m - 1) 0) calls) picks:=⟨_,rfl⟩
 rw [<-hst] at hg hb h htk
 have hP:playD (maxS m) () (List.replicate (2^m - 1) 0) calls picks=reportD (maxS m) st:=by rw [hst];rfl
 rw [hP]
 clear hP hst
 obtain⟨h1,h2⟩:=n_ok hck
 have hthr:∀ c,c<calls.length->0<=(calls.getD c d0).thread/\(calls.getD c d0).thread<n:=λc hc=>by have:=thr_ok hck c hc;omega
 have hlen:=end_length (calls:=calls) hg
 have hat:=λi hi=>end_at hg hthr' (i:=i) hi
 have hlow:=hg.ev.len_le
 have hS:=mxS_of hb
 have F:=mx_facts h
 have hend:=λ{j:Nat} {g:GOp} (hj:H j=some g)=>mx_end hg hthr' h hj
 have hpre:∀ i,i<st.evs.length->(evAt (endD (maxS m) st) i).call=(evAt st.evs i).call/\(evAt (endD (maxS m) st) i).inv=(evAt st.evs i).inv/\(evAt (endD (maxS m) st) i).resp=(evAt st.evs i).resp/\(evAt (endD (maxS m) st) i).ans=(evAt st.evs i).ans:=by
  intro i hi
  by_cases hr:(evAt st.evs i).resp=0
  ·obtain⟨s,_,e⟩:=(hat i hi).2 hr
   rw [e];exact⟨rfl,rfl,rfl,rfl⟩
  ·rw [(hat i hi).1 hr];exact⟨rfl,rfl,rfl,rfl⟩
 have hge:∀ {j:Nat} {g:GOp},H j=some g->2*((evAt st.evs j).inv:Int)<=(mxKey (mxS st.wd.traces) g.ts g.last).headD 0:=λ{j g} hj=>by
  obtain⟨a1,a2,a3,_⟩:=h.ok j g hj
  rw [<-a3]
  exact key_ge a2.inv1 a2.left
 have hle:∀ {j:Nat} {g:GOp},H j=some g->(mxKey (mxS st.wd.traces) g.ts g.last).headD 0<=2*(st.wd.now:Int):=λ{j g} hj=>key_le (h.ok j g hj).2.1.last (λt _ _=>(hS t.1).2)
 obtain⟨hfin,hwithin⟩:(∀ p s k,st.hands.getD p (none,0)=(some s,k)->((maxS m).late st.obj st.wd p s).getD (st.wd.marks.getD p [])=[]∨Within (((maxS m).late st.obj st.wd p s).getD (st.wd.marks.getD p [])) (evAt st.evs k).inv st.wd.now)/\(∀ i,i<st.evs.length->(evAt st.evs i).resp≠0->Within (evAt st.evs i).key (evAt st.evs i).inv (evAt st.evs i).resp):=by
  refine⟨λp s k hp=>?_,λi hi hr=>?_⟩
  ·obtain⟨b1,b2,b3⟩:=h.hand p s k hp
   obtain⟨c1,c2,c3,c4⟩:=hg.ev.hand p k (by unfold hndOf;rw [hp];rfl)
   have e:=(hat k c1).2 c3
   obtain⟨s2,hs2,e⟩:=e
   rw [c2,hp] at hs2
   cases hs2
   have hk:kAt (endD (maxS m) st) k=((maxS m).late st.obj st.wd p s).getD (st.wd.marks.getD p []):=by unfold kAt;rw [e,c2]
   rw [<-hk]
   by_cases h0:kAt (endD (maxS m) st) k=[]
   ·exact .inl h0
   ·right
    rw [(hend b1).2.2 h0]
    exact⟨mxKey_ne _ _ _,hge b1,hle b1⟩
  ·cases hHi:H i with
   | none=>
    rw [(h.none_ i hi hHi).2.1]
    exact within_tick (hg.ev.resp i hi hr).1
   | some g=>
    rw [(h.fin i g hHi hr).2.1]
    refine⟨mxKey_ne _ _ _,hge hHi,?_⟩
    rw [<-(h.fin i g hHi hr).2.1];exact h.kr i g hHi hr
 have hrows:RowsGood calls n (reportD (maxS m) st):=rows_good hg (by omega) (by omega) hthr ⟨hwithin,hfin⟩ h.cf h.ca (by omega)
 have hwa:∀ {j:Nat} {g:GOp},H j=some g->g.wr=true->(calls.getD (evAt st.evs j).call d0).a / 2^m=0:=λ{j g} hj hw=>by
  obtain⟨_,a2,_,_,_,a6⟩:=h.ok j g hj
  rw [<-a6 hw]
  have:=a2.val
  unfold GOp.at at this;rw [if_pos hw] at this
  exact Nat.div_eq_of_lt this
 have hob:∀ j,j<st.evs.length->objOf calls (evAt (endD (maxS m) st) j)=objOf calls (evAt st.evs j):=λj hj=>by unfold objOf;rw [(hpre j hj).1]
 have hkb:∀ j,j<st.evs.length->kindOf calls (evAt (endD (maxS m) st) j)=kindOf calls (evAt st.evs j):=λj hj=>by unfold kindOf;rw [(hpre j hj).1]
 have hQ:∀ {j:Nat} {g:GOp},H j=some g->g.wr=true->mxQ m calls (endD (maxS m) st) j:=λ{j g} hj hw=>by
  obtain⟨a1,a2,_,a4,a5,a6⟩:=h.ok j g hj
  refine⟨by rw [hob j a1];exact a4,by rw [hkb j a1,a5,hw];rfl,by rw [(hpre j a1).1];exact hwa hj hw⟩
 have hQ2:∀ {j:Nat},j<st.evs.length->mxQ m calls (endD (maxS m) st) j->kAt (endD (maxS m) st) j≠[]->∃ g',H j=some g'/\g'.wr=true/\g'.up=true/\RSet (mxS st.wd.traces) g'.ts 0/\g'.v=(calls.getD (evAt (endD (maxS m) st) j).call d0).a:=λ{j} hj hq hk=>by
  obtain⟨q1,q2,q3⟩:=hq
  rw [hob j hj] at q1;rw [hkb j hj] at q2;rw [(hpre j hj).1] at q3
  cases hHj:H j with
  | none=>
   obtain⟨_,_,er,hs,ha⟩:=h.none_ j hj hHj
   exact((mx_refused (hs st.wd 0)).2.1 q1 q2 q3).elim
  | some g'=>
   obtain⟨b1,b2,b3,b4,b5,b6⟩:=h.ok j g' hHj
   have hw:g'.wr=true:=by
    cases hw:g'.wr with
    | true=>rfl
    | false=>rw [hw,q2] at b5;cases b5
   have hu:=((hend hHj).1 hw).1 hk
   exact⟨g',rfl,hw,hu.1,hu.2,by rw [(hpre j hj).1];exact b6 hw⟩
 have hrdr:∀ {i:Nat},i<st.evs.length->objOf calls (evAt st.evs i)=0->kindOf calls (evAt st.evs i)=1->∃ g,H i=some g/\g.wr=false:=λ{i} hi i1 i2=>by
  cases hHi:H i with
  | none=>
   obtain⟨_,_,er,hs,ha⟩:=h.none_ i hi hHi
   exact((mx_refused (hs st.wd 0)).1 i1 i2).elim
  | some g=>
   refine⟨g,rfl,?_⟩
   have b5:=(h.ok i g hHi).2.2.2.2.1
   cases hw:g.wr with
   | false=>rfl
   | true=>rw [hw,i2] at b5;cases b5
 have hrd:∀ {i:Nat} {g:GOp},H i=some g->g.wr=false->(evAt st.evs i).resp≠0->(∀ j g',H j=some g'->g'.wr=true->g'.up=true->RSet (mxS st.wd.traces) g'.ts 0->keyLt (mxKey (mxS st.wd.traces) g.ts g.last) (mxKey (mxS st.wd.traces) g'.ts g'.last)=false->g'.v<=g.v)/\
   (g.v=0∨∃ j g',H j=some g'/\g'.wr=true/\g'.up=true/\RSet (mxS st.wd.traces) g'.ts 0/\keyLt (mxKey (mxS st.wd.traces) g'.ts g'.last) (mxKey (mxS st.wd.traces) g.ts g.last)=true/\g'.v=g.v):=λ{i g} hHi hw hr=>by
  have hv:g.v<2^m:=by
   have:=(h.ok i g hHi).2.1.val
   unfold GOp.at at this;rw [hw,if_neg Bool.false_ne_true,(h.fin i g hHi hr).2.2.1 hw] at this
   exact this
  obtain⟨r1,r2⟩:=mx_read F (r:=mxOf g) ⟨i,g,hHi,hw,hr,rfl⟩ hv (λx hx=>by
   obtain⟨j,g',a1,a2,a3,rfl⟩:=hx
   have:=(h.ok j g' a1).2.1.val
   unfold GOp.at at this;rw [if_pos a2] at this
   exact this)
  refine⟨λj g' a1 a2 a3 a4 a5=>r1 (mxOf g') ⟨j,g',a1,a2,a3,rfl⟩ (rset_eff.1 a4) a5,?_⟩
  rcases r2 with e|⟨x,⟨j,g',a1,a2,a3,rfl⟩,x2,x3,x4⟩
  ·exact .inl e
  ·exact .inr ⟨j,g',a1,a2,a3,rset_eff.2 x2,x3,x4⟩
 refine⟨⟨hrows,?_⟩,?_,by show(endD (maxS m) st).length<=_;omega⟩
 ·show Fold (maxAp m) calls (endD (maxS m) st) [0] (orderD (endD (maxS m) st))
  refine fold_of _ _ λl i m' hL hr=>?_
  have hiL:i∈orderD (endD (maxS m) st):=by rw [hL];simp
  have hi:i<st.evs.length:=by rw [<-hlen];exact(orderD_mem hiL).1
  obtain⟨p1,p2,p3,p4⟩:=hpre i hi
  rw [p3] at hr
  rw [p4,p1]
  cases hHi:H i with
  | none=>
   obtain⟨_,_,er,hs,ha⟩:=h.none_ i hi hHi
   rw [ha]
   exact((mx_refused (hs st.wd 0)).2.2.2 _).symm
  | some g=>
   obtain⟨a1,a2,a3,a4,a5,a6⟩:=h.ok i g hHi
   obtain⟨f1,f2,f3,f4⟩:=h.fin i g hHi hr
   have ho:¬ (calls.getD (evAt st.evs i).call d0).obj≠0:=λx=>x a4
   rw [if_neg ho,f1]
   have hkd:(calls.getD (evAt st.evs i).call d0).kind=if g.wr=true then 0 else 1:=a5
   cases hw:g.wr with
   | true=>
    rw [hw,if_pos rfl] at hkd
    rw [if_pos rfl]
    unfold maxAp
    rw [if_neg (by rw [hkd];decide),if_neg (by rw [hkd];decide),if_neg (λx=>x (hwa hHi hw))]
   | false=>
    rw [hw,if_neg Bool.false_ne_true] at hkd
    rw [maxAp_1 hkd]
    obtain⟨x,x1,x2,x3,x4⟩:=mx_foldTo m calls (endD (maxS m) st) l 0
    have x1':foldTo (maxAp m) calls (endD (maxS m) st) [0] l=[x]:=x1
    obtain⟨r1,r2⟩:=hrd hHi hw hr
    have hpw:=(orderK_spec (endD (maxS m) st) (endD (maxS m) st).length).1
    have hpw':(l++i::m').Pairwise (evLt (endD (maxS m) st)):=by rw [<-hL];exact hpw
    rw [List.pairwise_append] at hpw'
    obtain⟨_,q2,q3⟩:=hpw'
    have hki:=(hend hHi).2.2 (orderD_mem hiL).2
    have hx:g.v=x:=by
     apply Nat.le_antisymm
     ·rcases r2 with r2|⟨j,g',hj,w1,w2,w3,w4,w5⟩
      ·omega
      ·have hkj:=(hend hj).2.2 (((hend hj).1 w1).2 ⟨w2,w3⟩)
       have hjm:j∈orderD (endD (maxS m) st):=((orderK_spec _ _).2 j).2 ⟨by rw [hlen];exact(h.ok j g' hj).1,((hend hj).1 w1).2 ⟨w2,w3⟩⟩
       rw [hL] at hjm
       rcases List.mem_append.1 hjm with hjl|hjl
       ·have:=x3 j hjl (hQ hj w1)
        rw [(hpre j (h.ok j g' hj).1).1] at this
        have e:=(h.ok j g' hj).2.2.2.2.2 w1
        omega
       ·exfalso
        rcases List.mem_cons.1 hjl with rfl|hjl
        ·rw [hHi] at hj;cases hj;rw [hw] at w1;cases w1
        ·have h9:=(List.pairwise_cons.1 q2).1 j hjl
         rcases h9 with h9|⟨h9,_⟩
         ·rw [hki,hkj,keyLt_asymm w4] at h9;cases h9
         ·rw [hki,hkj] at h9;rw [h9,keyLt_irrefl] at w4;cases w4
     ·rcases x4 with x4|⟨j,hjl,hjq,x5⟩
      ·omega
      ·have hjm:j∈orderD (endD (maxS m) st):=by rw [hL];exact List.mem_append_left _ hjl
       have hj1:j<st.evs.length:=by rw [<-hlen];exact(orderD_mem hjm).1
       obtain⟨g',hj,w1,w2,w3,w5⟩:=hQ2 hj1 hjq (orderD_mem hjm).2
       have hkj:=(hend hj).2.2 (orderD_mem hjm).2
       have hlt:=q3 j hjl i (List.mem_cons_self ..)
       have:g'.v<=g.v:=r1 j g' hj w1 w2 w3 (by
        rcases hlt with h9|⟨h9,_⟩
        ·rw [hki,hkj] at h9;exact keyLt_asymm h9
        ·rw [hki,hkj] at h9;rw [h9];exact keyLt_irrefl _)
       omega
    rw [x1',hx]
    rfl
 ·refine⟨λj hj=>?_,λi j hi hj i1 i2 i3 j1 j2 j3 hlt=>?_,λi hi i1 i2 i3=>?_⟩
  ·have hj':j<st.evs.length:=by rw [<-hlen];exact hj
   show(evAt (endD (maxS m) st) j).call<_
   rw [(hpre j hj').1];exact hg.ev.call j hj'
  ·have hi':i<st.evs.length:=by rw [<-hlen];exact hi
   have hj':j<st.evs.length:=by rw [<-hlen];exact hj
   obtain⟨g,hHi,hw⟩:=hrdr hi' ((hob i hi').symm.trans i1) ((hkb i hi').symm.trans i2)
   have i3':(evAt st.evs i).resp≠0:=by rw [<-(hpre i hi').2.2.1];exact i3
   have j3':(evAt st.evs j).resp≠0:=by rw [<-(hpre j hj').2.2.1];exact j3
   have hkne:=((hend hHi).2.1 hw).2 i3'
   obtain⟨k1,k2⟩:=rows_ahead hrows hj hi j3 hlt hkne
   have hki:=(hend hHi).2.2 hkne
   obtain⟨r1,r2⟩:=hrd hHi hw i3'
   have hvi:(evAt (endD (maxS m) st) i).ans.val=g.v:=by
    rw [(hpre i hi').2.2.2,(h.fin i g hHi i3').1,hw];rfl
   show(kindOf calls (evAt (endD (maxS m) st) j)=0->(calls.getD (evAt (endD (maxS m) st) j).call d0).a<=(evAt (endD (maxS m) st) i).ans.val)/\(kindOf calls (evAt (endD (maxS m) st) j)=1->(evAt (endD (maxS m) st) j).ans.val<=(evAt (endD (maxS m) st) i).ans.val)
   rw [hvi]
   cases hHj:H j with
   | none=>
    exfalso
    obtain⟨_,_,er,hs,ha⟩:=h.none_ j hj' hHj
    have j2':(evAt (endD (maxS m) st) j).ans.err=0:=j2
    rw [(hpre j hj').2.2.2,ha] at j2'
    exact(mx_refused (hs st.wd 0)).2.2.1 j2'
   | some g'=>
    obtain⟨b1,b2,b3,b4,b5,b6⟩:=h.ok j g' hHj
    have hkj:=(hend hHj).2.2 k1
    have k2':keyLt (kAt (endD (maxS m) st) j) (kAt (endD (maxS m) st) i)=true:=k2
    rw [hki,hkj] at k2'
    rw [hkb j hj',b5,(hpre j hj').1]
    cases hw':g'.wr with
    | true=>
     refine⟨λ_=>?_,(λe=>by rw [if_pos rfl] at e;cases e)⟩
     rw [<-b6 hw']
     have f4:=(h.fin j g' hHj j3').2.2.2 hw'
     exact r1 j g' hHj hw' f4.1 f4.2 (keyLt_asymm k2')
    | false=>
     refine⟨(λe=>by rw [if_neg Bool.false_ne_true] at e;cases e),λ_=>?_⟩
     have hvj:(evAt (endD (maxS m) st) j).ans.val=g'.v:=by
      rw [(hpre j hj').2.2.2,(h.fin j g' hHj j3').1,hw'];rfl
     rw [hvj]
     rcases(hrd hHj hw' j3').2 with e|⟨j2,g2,hj2,w1,w2,w3,w4,w5⟩
     ·omega
     ·have:=r1 j2 g2 hj2 w1 w2 w3 (keyLt_asymm (keyLt_trans _ _ _ w4 k2'))
      omega
  ·have hi':i<st.evs.length:=by rw [<-hlen];exact hi
   obtain⟨g,hHi,hw⟩:=hrdr hi' ((hob i hi').symm.trans i1) ((hkb i hi').symm.trans i2)
   have i3':(evAt st.evs i).resp≠0:=by rw [<-(hpre i hi').2.2.1];exact i3
   have hkne:=((hend hHi).2.1 hw).2 i3'
   obtain⟨r1,r2⟩:=hrd hHi hw i3'
   have hvi:(evAt (endD (maxS m) st) i).ans.val=g.v:=by
    rw [(hpre i hi').2.2.2,(h.fin i g hHi i3').1,hw];rfl
   show(evAt (endD (maxS m) st) i).ans.val=0∨_
   rw [hvi]
   rcases r2 with e|⟨j,g',hj,w1,w2,w3,w4,w5⟩
   ·exact .inl e
   ·right
    obtain⟨b1,b2,b3,b4,b5,b6⟩:=h.ok j g' hj
    have hij:i≠j:=λe=>by subst e;rw [hHi] at hj;cases hj;rw [hw] at w1;cases w1
    refine⟨j,by show j<(endD (maxS m) st).length;omega,(hob j b1).trans b4,?_,(hkb j b1).trans (by rw [b5,w1];rfl),?_,?_⟩
    ·show(evAt (endD (maxS m) st) j).ans.err=0
     rw [(hpre j b1).2.2.2]
     by_cases hrj:(evAt st.evs j).resp=0
     ·rw [h.opn j b1 hrj];rfl
     ·rw [(h.fin j g' hj hrj).1]
    ·show(calls.getD (evAt (endD (maxS m) st) j).call d0).a=(evAt (endD (maxS m) st) i).ans.val
     rw [hvi,(hpre j b1).1,<-b6 w1,w5]
    ·show(evAt (endD (maxS m) st) j).inv<(evAt (endD (maxS m) st) i).resp
     rw [(hpre j b1).2.1,(hpre i hi').2.2.1]
     have c1:=hge hj
     have c2:=keyLt_le (mxKey_ne _ _ _) (mxKey_ne _ _ _) w4
     have c3:=h.kr i g hHi i3'
     rw [(h.fin i g hHi i3').2.1] at c3
     have c4:=h.tk i j hi' b1 hij i3'
     omega
end Go.Proofs.Ytlanekkbciffcaa
