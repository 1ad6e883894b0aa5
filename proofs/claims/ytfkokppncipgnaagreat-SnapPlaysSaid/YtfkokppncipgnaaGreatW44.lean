/- A snapshot's plays: numbers stay small, what was borrowed stays written. -/
import Derived.Test.YtfkokppncipgnaaGreatW43
import Derived.Test.YtfkokppncipgnaaGreatW29
import Derived.Test.YtfkokppncipgnaaGreatW33
set_option maxRecDepth 100000
set_option linter.unusedVariables false
set_option linter.unusedSimpArgs false
set_option linter.unnecessarySimpa false
namespace Go.Proofs.YtfkokppncipgnaaGreat
section
open Go.RowKit
variable {n k:Nat} {calls:List aD} {st:aP (aV n k)} {rho:Nat->Nat} {q i j:Nat} {aQ:List EvD} {cZ:WD} {σ:SnS}
def gH:Nat:=18446744073709551616
def xN (n k:Nat) (o:List Nat) (tr:Int->List Int) (s:ScD):Prop:=(∀ x,x∈s.list->x<gH)/\(s.pc<=1->s.from_=0)/\(s.from_≠0->s.from_<20000/\JH n k o s.from_/\(tr (s.from_:Int)).headD 0=s.moment)
def Dp (n k:Nat) (o:List Nat) (tr:Int->List Int):SnS->Prop
 | .rd s _=>xN n k o tr s
 | .up s _ _ _ v _=>xN n k o tr s/\v<gH
structure SnX (n k:Nat) (st:aP (aV n k)):Prop where
 ws:∀ x,x∈st.wd.mem.ws->x<gH
 hand:∀ p s j,st.hands.getD p (none,0)=(some s,j)->Dp n k st.obj st.wd.traces s
theorem JH.keep {o o':List Nat} {f:Nat} (h:JH n k o f) (ho:∀ t,o.getD t 0<=o'.getD t 0):JH n k o' f:=by
 obtain⟨t,r,h1,h2,h3⟩:=h
 exact⟨t,r,h1,Nat.lt_of_lt_of_le h2 (ho t),h3⟩
theorem xN.keep {o o':List Nat} {tr tr':Int->List Int} {s:ScD} (h:xN n k o tr s) (ho:∀ t,o.getD t 0<=o'.getD t 0) (ht:∀ f,JH n k o f->tr' (f:Int)=tr (f:Int)):xN n k o' tr' s:=by
 refine⟨h.1,h.2.1,λhf=>?_⟩
 obtain⟨a,b,c⟩:=h.2.2 hf
 exact⟨a,b.keep ho,by rw [ht _ b];exact c⟩
theorem Dp.keep {o o':List Nat} {tr tr':Int->List Int} {s:SnS} (h:Dp n k o tr s) (ho:∀ t,o.getD t 0<=o'.getD t 0) (ht:∀ f,JH n k o f->tr' (f:Int)=tr (f:Int)):Dp n k o' tr' s:=by
 match s,h with
 | .rd s key,h=>exact xN.keep h ho ht
 | .up s p r nx v sc,h=>exact⟨xN.keep h.1 ho ht,h.2⟩
theorem IL (n:Nat):∀(m:Nat) (s:ScD),(dI n m s).from_=s.from_/\(∀ x,x∈(dI n m s).list->x∈s.list∨x=0)
 | 0,s=>⟨rfl,λx h=>.inl h⟩
 | m+1,s=>by
  unfold dI
  split
  ·obtain⟨a,b⟩:=IL n m { s with list:=s.list++[0],at_:=s.at_+1 }
   refine⟨a,λx hx=>?_⟩
   rcases b x hx with h|h
   ·rcases List.mem_append.1 h with h9|h9
    ·exact .inl h9
    ·exact .inr (List.mem_singleton.1 h9)
   ·exact .inr h
  ·exact⟨rfl,λx h=>.inl h⟩
theorem LH {wd:WD} (h:∀ x,x∈wd.mem.ws->x<gH) (a:Nat):dZ wd a<gH:=by
 unfold dZ bL
 split
 ·exact(by decide:(0:Nat)<gH)
 ·show wd.mem.ws.getD _ 0<_
  rw [List.getD_eq_getElem?_getD]
  cases hx:wd.mem.ws[((a:Nat):Int).toNat]? with
  | none=>exact(by decide:(0:Nat)<gH)
  | some x=>exact h x (List.mem_of_getElem? hx)
theorem yT {m:dR} {a:Int} {v:Nat} (h:∀ x,x∈m.ws->x<gH) (hv:v<gH):∀ x,x∈(fJ m a v).ws->x<gH:=by
 unfold fJ
 split
 ·exact h
 ·intro x hx
  rcases List.mem_or_eq_of_mem_set hx with h9|h9
  ·exact h x h9
  ·rw [h9];exact hv
theorem getD_lt {l:List Nat} (h:∀ x,x∈l->x<gH) (i:Nat):l.getD i 0<gH:=by
 rw [List.getD_eq_getElem?_getD]
 cases hx:l[i]? with
 | none=>exact(by decide:(0:Nat)<gH)
 | some x=>exact h x (List.mem_of_getElem? hx)
theorem xN.go {wd:WD} {s:ScD} (h:xN n k st.obj wd.traces s) (hs:EL n k st wd s) (hw:∀ x,x∈wd.mem.ws->x<gH):xN n k st.obj wd.traces (bE n wd s):=by
 have hgot:=LH hw (bK s)
 have hl:∀ x,x∈s.list++[dZ wd (bK s)]->x<gH:=λx hx=>by
  rcases List.mem_append.1 hx with h9|h9
  ·exact h.1 x h9
  ·rw [List.mem_singleton.1 h9];exact hgot
 have h0:∀ {l:List Nat} {x:Nat},(∀ x,x∈l->x<gH)->x∈l∨x=0->x<gH:=λh1 h2=>by
  rcases h2 with h2|h2
  ·exact h1 _ h2
  ·rw [h2];exact(by decide:(0:Nat)<gH)
 have pass:∀ s':ScD,(∀ x,x∈s'.list->x<gH)->s'.from_=0->xN n k st.obj wd.traces (dI n n s'):=λs' a b=>by
  obtain⟨p1,p2⟩:=IL n n s'
  exact⟨λx hx=>h0 a (p2 x hx),λ_=>p1.trans b,λhf=>absurd (p1.trans b) hf⟩
 unfold bE jJ
 by_cases hp:s.pc=0
 ·rw [if_pos hp]
  have hf0:=h.2.1 (by omega)
  have ha:bK s=s.at_:=by unfold bK;rw [if_pos hp]
  rw [ha]
  split
  ·rename_i hlast
   unfold eH
   split
   ·exact⟨h.1,λ_=>hf0,λhf=>absurd hf0 hf⟩
   ·rename_i hr
    split
    ·exact pass _ h.1 hf0
    ·rename_i hne
     obtain⟨z,hz⟩:∃ z,z=iA s.old (s.now.set s.at_ (dZ wd s.at_)) n 0 s.diff:=⟨_,rfl⟩
     show xN n k st.obj wd.traces (match iA s.old (s.now.set s.at_ (dZ wd s.at_)) n 0 s.diff with
      | (d,some f)=>_
      | (d,none)=>_)
     rw [<-hz]
     match z,hz with
     | (d,some f),hz=>
      obtain⟨b1,b2,b3⟩:=hs.bor hp hlast hr hne d f hz.symm
      exact⟨h.1,λe=>absurd e (by show ¬ (2:Nat)<=1;omega),λ_=>⟨b2,b3,rfl⟩⟩
     | (d,none),hz=>exact⟨h.1,λ_=>hf0,λhf=>absurd hf0 hf⟩
  ·exact⟨h.1,λ_=>hf0,λhf=>absurd hf0 hf⟩
 ·rw [if_neg hp]
  by_cases hp1:s.pc=1
  ·rw [if_pos hp1]
   exact pass _ hl (h.2.1 (by omega))
  ·rw [if_neg hp1]
   refine⟨hl,λe=>?_,h.2.2⟩
   have e':(if s.at_+1=n then 3 else s.pc)<=1:=e
   split at e'<;>omega
theorem vL {l:List (Option SnS×Nat)} {q p j:Nat} {x:Option SnS×Nat} {s:SnS} (h:(l.set q x).getD p (none,0)=(some s,j)):(p=q/\x=(some s,j))∨(p≠q/\l.getD p (none,0)=(some s,j)):=by
 by_cases e:p=q
 ·left
  subst e
  refine⟨rfl,?_⟩
  by_cases hl:p<l.length
  ·rw [aI hl] at h;exact h
  ·rw [List.getD_eq_getElem?_getD,List.getElem?_eq_none (by rw [List.length_set];omega)] at h
   cases h
 ·right
  rw [aK (Ne.symm e)] at h
  exact⟨e,h⟩
theorem Pd (o:List Nat) (tr:Int->List Int):xN n k o tr AQ:=⟨λx hx=>(by cases hx),λ_=>rfl,λh=>absurd rfl h⟩
theorem UK (hA:∀ c,(calls.getD c d0).a<gH) (hX:SnX n k st) (hf:From calls st q i j σ aQ cZ):Dp n k st.obj cZ.traces σ:=by
 rw [hf.traces]
 rcases hf.or with⟨hh,_,_,_,_,_⟩|⟨_,hs,_,_,_⟩
 ·exact hX.hand q σ j hh
 ·rcases Kc hs with rfl|⟨e,rfl⟩
  ·exact Pd _ _
  ·exact⟨Pd _ _,hA i⟩
theorem Gs (o:List Nat) (p t:Nat):o.getD t 0<=(o.set p (o.getD p 0+1)).getD t 0:=by
 by_cases e:t=p
 ·subst e
  by_cases hl:t<o.length
  ·rw [aI hl];omega
  ·rw [List.getD_eq_getElem?_getD,List.getElem?_eq_none (by omega)];exact Nat.zero_le _
 ·rw [aK (Ne.symm e)];exact Nat.le_refl _
theorem Eg (hn:1<=n) (hn16:n<=16) (hk:k<=64) (hA:∀ c,(calls.getD c d0).a<gH) (hthr:∀ c,c<calls.length->0<=(calls.getD c d0).thread/\(calls.getD c d0).thread<n) {st':aP (aV n k)} (hg:bQ calls st) (h:gY n k calls st rho) (hX:SnX n k st) (hT:OZ calls st st'):SnX n k st':=by
 cases hT with
 | idle=>exact⟨hX.ws,hX.hand⟩
 | refuse q i er hq hN hh hs=>
  refine⟨hX.ws,λp s j hp=>?_⟩
  rcases vL hp with⟨_,e⟩|⟨_,e⟩
  ·cases e
  ·exact hX.hand p s j e
 | step q i j s aQ cZ hq hN hf=>
  have S0:=EP hn hn16 hk hthr hg h hf
  have X0:=UK hA hX hf
  have hw:∀ x,x∈cZ.mem.ws->x<gH:=by rw [hf.mem];exact hX.ws
  have oth:∀ {o':List Nat} {tr':Int->List Int} {p:Nat} {s:SnS} {j:Nat},st.hands.getD p (none,0)=(some s,j)->(∀ t,List.getD (α:=Nat) st.obj t 0<=o'.getD t 0)->(∀ f,JH n k st.obj f->tr' (f:Int)=st.wd.traces (f:Int))->Dp n k o' tr' s:=λhp ho ht=>(hX.hand _ _ _ hp).keep ho ht
  match s,hf,S0,X0 with
  | .rd s key,hf,S0,X0=>
   refine⟨λx hx=>hw x (by rw [<-AC cZ (bK s)];exact hx),λp s' j' hp=>?_⟩
   rcases vL hp with⟨_,e⟩|⟨_,e⟩
   ·have e1:(if decide ((bE n cZ s).pc=3)=true then none else some (SnS.rd (bE n cZ s) (if (bE n cZ s).pc=3 then [2*(bE n cZ s).moment,2*(cZ.now:Int)] else key)))=some s':=congrArg Prod.fst e
    split at e1
    ·cases e1
    ·cases e1
     exact(xN.go (st:=st) X0 S0 hw:xN n k st.obj cZ.traces (bE n cZ s))
   ·exact oth e (λt=>Nat.le_refl _) (λf _=>by show cZ.traces _=_;rw [hf.traces])
  | .up s p0 r nx v false,hf,S0,X0=>
   refine⟨λx hx=>hw x (by rw [<-AC cZ (bK s)];exact hx),λp s' j' hp=>?_⟩
   rcases vL hp with⟨_,e⟩|⟨_,e⟩
   ·have e1:some (SnS.up (bE n cZ s) p0 r nx v (decide ((bE n cZ s).pc=3)))=some s':=congrArg Prod.fst e
    cases e1
    exact⟨(xN.go (st:=st) X0.1 S0.1 hw:xN n k st.obj cZ.traces (bE n cZ s)),X0.2⟩
   ·exact oth e (λt=>Nat.le_refl _) (λf _=>by show cZ.traces _=_;rw [hf.traces])
  | .up s p0 r 0 v true,hf,S0,X0=>
   refine⟨yT hw X0.2,λp s' j' hp=>?_⟩
   rcases vL hp with⟨_,e⟩|⟨_,e⟩
   ·have e1:some (SnS.up s p0 r 1 v true)=some s':=congrArg Prod.fst e
    cases e1
    exact X0
   ·exact oth e (λt=>Nat.le_refl _) (λf _=>by show cZ.traces _=_;rw [hf.traces])
  | .up s p0 r (a+1) v true,hf,S0,X0=>
   obtain⟨s1,s2,s3,s4,s5,s6,s7⟩:=S0
   by_cases ha:a+1<=n
   ·have hst:(aV n k).step st.obj cZ q (.up s p0 r (a+1) v true)=(st.obj,eB cZ (r+(a+1)) (s.list.getD a 0),.up s p0 r (a+2) v true,false):=if_pos ha
    rw [hst]
    refine⟨yT hw (getD_lt X0.1.1 a),λp s' j' hp=>?_⟩
    rcases vL hp with⟨_,e⟩|⟨_,e⟩
    ·have e1:some (SnS.up s p0 r (a+2) v true)=some s':=congrArg Prod.fst e
     cases e1
     exact X0
    ·exact oth e (λt=>Nat.le_refl _) (λf _=>by show cZ.traces _=_;rw [hf.traces])
   ·have hst:(aV n k).step st.obj cZ q (.up s p0 r (a+1) v true)=(List.set (α:=Nat) st.obj p0 (List.getD (α:=Nat) st.obj p0 0+1),eB (vU cZ r s.moment) p0 r,.up s p0 r (a+2) v true,true):=if_neg ha
    rw [hst]
    have hr:r<gH:=by
     have h1:=QT hn16 hk (YM hthr hN) s7
     rw [s6]
     have:(20000:Nat)<gH:=by decide
     omega
    refine⟨yT hw hr,λp s' j' hp=>?_⟩
    rcases vL hp with⟨_,e⟩|⟨_,e⟩
    ·cases e
    ·refine oth e (λt=>?_) (λf hfr=>?_)
     ·exact Gs st.obj p0 t
     ·obtain⟨t,r',t1,t2,t3⟩:=hfr
      show BF cZ.traces (r:Int) [s.moment] (f:Int)=_
      rw [hf.traces]
      unfold BF
      rw [if_neg]
      intro e9
      have e8:bG n k t r'+0=bG n k q (List.getD (α:=Nat) st.obj q 0)+0:=by omega
      obtain⟨f1,f2,_⟩:=LA (Nat.lt_of_lt_of_le t2 (h.uk t)) s7 (Nat.zero_le _) (Nat.zero_le _) e8
      subst f1
      omega
end
section
open Go.RowKit
variable {n k:Nat} {calls:List aD} {st:aP (aV n k)} {K:List Nat->Int->Pq} {s:ScD} {T:List Int} {P:Pq} {wd:WD}
def SB (T:List Int) (s:ScD) (c:Int):Prop:=(s.from_=0/\∃ i:Nat,c=(i:Int)/\1<=i/\i - 1<T.length/\T.getD (i - 1) 0=s.moment)∨(s.from_≠0/\c=-(s.from_:Int) - 1)
def TV (n:Nat) (K:List Nat->Int->Pq) (f i:Nat) (old:List Nat) (d:List Bool) (now:List Nat):Pq:=
 if (gJ n d old now).1=true then iY now [] λo=>K o (i:Int)
 else if (gJ n d old now).2.1≠0 then CQ (gJ n d old now).2.1 n 0 [] λo=>K o (-((gJ n d old now).2.1:Int) - 1)
 else AX (gJ n) n K f (i+n) now (gJ n d old now).2.2
theorem UT {F f i:Nat} {old:List Nat} {d:List Bool} (h:F=f+1):AX (gJ n) n K F i old d=vB n 0 [] (TV n K f i old d):=by subst h;rfl
structure SnA (n:Nat) (K:List Nat->Int->Pq) (s:ScD) (T:List Int) (P:Pq):Prop where
 rounds:s.rounds=0
 diff:s.diff.take n=List.replicate n false
 tl:T.length=s.at_
 tree:P=vB (n - s.at_) s.at_ (s.now.take s.at_) (λold=>AX (gJ n) n K zA n old (List.replicate n false))
structure SnB (n:Nat) (K:List Nat->Int->Pq) (s:ScD) (T:List Int) (P:Pq):Prop where
 rounds:1<=s.rounds
 tl:T.length=s.rounds*n+s.at_
 last:(s.last:Int)=T.getD (s.rounds*n - 1) 0
 tree:∃ f,f+s.rounds=zA/\P=vB (n - s.at_) s.at_ (s.now.take s.at_) (TV n K f (s.rounds*n) (s.old.take n) (s.diff.take n))
structure xU (n:Nat) (K:List Nat->Int->Pq) (s:ScD) (T:List Int) (P:Pq):Prop where
 at_:s.at_<n
 l2:s.now.length=16
 body:(s.pc=0/\s.from_=0/\SnA n K s T P)∨(s.pc=0/\s.from_=0/\SnB n K s T P)∨
  (s.pc=1/\s.from_=0/\s.now.getD s.at_ 0≠0/\∃ c,SB T s c/\P=iY ((s.now.take n).drop s.at_) s.list (λo=>K o c))∨
  (s.pc=2/\s.from_≠0/\P=CQ s.from_ (n - s.at_) s.at_ s.list (λo=>K o (-(s.from_:Int) - 1)))
theorem xU.acc (hn16:n<=16) (h:xU n K s T P):∃ kd a x y eff kk,P=.acc kd a x y eff kk:=by
 rcases h.body with⟨_,_,b⟩|⟨_,_,b⟩|⟨_,_,b1,c,_,b⟩|⟨_,_,b⟩
 ·exact⟨_,_,_,_,_,_,b.tree.trans (ED _ h.at_)⟩
 ·obtain⟨f,_,b⟩:=b.tree
  exact⟨_,_,_,_,_,_,b.trans (ED _ h.at_)⟩
 ·exact⟨_,_,_,_,_,_,b.trans (ZP (by rw [h.l2];exact hn16) _ h.at_ b1)⟩
 ·exact⟨_,_,_,_,_,_,b.trans (ZJ _ h.at_)⟩
theorem SB.grow {s s':ScD} {c x:Int} (h:SB T s c) (hf:s'.from_=s.from_) (hm:s'.moment=s.moment):SB (T++[x]) s' c:=by
 rcases h with⟨a,i,b1,b2,b3,b4⟩|⟨a,b⟩
 ·refine .inl ⟨hf.trans a,i,b1,b2,by rw [List.length_append];omega,?_⟩
  rw [List.getD_eq_getElem?_getD,List.getElem?_append_left b3,<-List.getD_eq_getElem?_getD,b4,hm]
 ·exact .inr ⟨by rw [hf];exact a,by rw [hf];exact b⟩
theorem BL {l:List Int} {x:Int} {i:Nat} (h:i=l.length):(l++[x]).getD i 0=x:=by
 subst h
 rw [List.getD_eq_getElem?_getD,List.getElem?_append_right (Nat.le_refl _),Nat.sub_self];rfl
theorem MS {l:List Int} {x:Int} {i:Nat} (h:i<l.length):(l++[x]).getD i 0=l.getD i 0:=by
 rw [List.getD_eq_getElem?_getD,List.getElem?_append_left h,<-List.getD_eq_getElem?_getD]
theorem PZ (hn16:n<=16) {s1:ScD} {c:Int} (h2:s1.now.length=16) (hat:s1.at_<=n) (hpc:s1.pc=1) (hf:s1.from_=0) (hm:SB T s1 c) (hP:P=iY ((s1.now.take n).drop s1.at_) s1.list (λo=>K o c)) :
  ((dI n n s1).pc=3->∃ c,SB T (dI n n s1) c/\P=K (dI n n s1).list c)/\((dI n n s1).pc≠3->xU n K (dI n n s1) T P):=by
 obtain⟨a,a1,a2,a3,a4,a5⟩:=yX n n s1 hat (by omega)
 rw [a5]
 obtain⟨m,hm'⟩:∃ m,a=s1.at_+m:=⟨a - s1.at_,by omega⟩
 have hv:=QC (now:=s1.now) (K:=λo=>K o c) (n:=n) (by omega) m s1.at_ s1.list (by omega) (λx x1 x2=>a3 x x1 (by omega))
 rw [hv,<-hm'] at hP
 have hl:a - s1.at_=m:=by omega
 rw [hl]
 by_cases e:a=n
 ·rw [e] at hP
  rw [Fh] at hP
  refine⟨λ_=>⟨c,?_,hP⟩,λh=>absurd (if_pos e) h⟩
  rcases hm with⟨b1,b2⟩|⟨b1,b2⟩
  ·exact .inl ⟨b1,b2⟩
  ·exact .inr ⟨b1,b2⟩
 ·have e3:(if a=n then 3 else s1.pc)=1:=by rw [if_neg e,hpc]
  refine⟨λh=>?_,λ_=>⟨?_,h2,.inr (.inr (.inl ⟨e3,hf,a4 (by omega),c,?_,hP⟩))⟩⟩
  ·have:(if a=n then 3 else s1.pc)=3:=h
   omega
  ·show a<n;omega
  ·rcases hm with⟨b1,b2⟩|⟨b1,b2⟩
   ·exact .inl ⟨b1,b2⟩
   ·exact .inr ⟨b1,b2⟩
theorem FR (hn:1<=n) (hn16:n<=16) (hw:st.wd.mem.ws.length<=20000) (hS:EL n k st wd s) (hN:xU n K s T P):∃ kk,P=.acc 0 ((bK s:Nat):Int) 0 0 kY kk/\
  ((bE n wd s).pc=3->∃ c,SB (T++[(wd.now:Int)]) (bE n wd s) c/\kk (dZ wd (bK s))=K (bE n wd s).list c)/\((bE n wd s).pc≠3->xU n K (bE n wd s) (T++[(wd.now:Int)]) (kk (dZ wd (bK s)))):=by
 have hat:=hN.at_
 have hl2:=hN.l2
 rcases hN.body with⟨p0,p1,b⟩|⟨p0,p1,b⟩|⟨p0,p1,p2,c,pc,b⟩|⟨p0,p1,b⟩
 ·have ha:bK s=s.at_:=by unfold bK;rw [if_pos p0]
  refine⟨_,by rw [ha];exact b.tree.trans (ED _ hat),?_⟩
  rw [ha]
  obtain⟨g,hg⟩:∃ g,g=dZ wd s.at_:=⟨_,rfl⟩
  have hts:=PY (l:=s.now) (g:=g) (i:=s.at_) (by omega)
  have hgo:bE n wd s=if s.at_+1=n then eH n wd { s with now:=s.now.set s.at_ g,at_:=s.at_+1 } else { s with now:=s.now.set s.at_ g,at_:=s.at_+1 }:=by
   unfold bE jJ
   rw [if_pos p0,ha,hg]
  rw [<-hg,hgo,<-hts]
  by_cases hlast:s.at_+1=n
  ·rw [if_pos hlast]
   have hh:eH n wd { s with now:=s.now.set s.at_ g,at_:=s.at_+1 }={ s with now:=s.now.set s.at_ g,at_:=0,rounds:=1,old:=s.now.set s.at_ g,last:=wd.now }:=by
    unfold eH
    rw [if_pos (show s.rounds+1=1 by rw [b.rounds])]
    simp only [b.rounds]
   rw [hh,hlast,PU,UT (F:=zA) (f:=100000001) rfl]
   refine⟨λe=>?_,λ_=>⟨hn,by show(s.now.set s.at_ g).length=16;rw [List.length_set];exact hl2,.inr (.inl ⟨p0,p1,⟨Nat.le_refl 1,?_,?_,⟨100000001,rfl,?_⟩⟩⟩)⟩⟩
   ·have e':s.pc=3:=e
    omega
   ·show(T++[_]).length=1*n+0
    rw [List.length_append,b.tl,List.length_singleton];omega
   ·show(wd.now:Int)=(T++[_]).getD (1*n - 1) 0
    rw [BL (by rw [b.tl];omega)]
   ·show _=vB (n - 0) 0 _ (TV n K 100000001 (1*n) _ (s.diff.take n))
    rw [b.diff,Nat.one_mul];rfl
  ·rw [if_neg hlast]
   refine⟨λe=>?_,λ_=>⟨by show s.at_+1<n;omega,by show(s.now.set s.at_ g).length=16;rw [List.length_set];exact hl2,.inl ⟨p0,p1,⟨b.rounds,b.diff,?_,rfl⟩⟩⟩⟩
   ·have e':s.pc=3:=e
    omega
   ·show(T++[_]).length=s.at_+1
    rw [List.length_append,b.tl];rfl
 ·have ha:bK s=s.at_:=by unfold bK;rw [if_pos p0]
  obtain⟨f,f1,f2⟩:=b.tree
  refine⟨_,by rw [ha];exact f2.trans (ED _ hat),?_⟩
  rw [ha]
  have hbor:=hS.bor p0
  obtain⟨g,hg⟩:∃ g,g=dZ wd s.at_:=⟨_,rfl⟩
  rw [<-hg] at hbor
  have hts:=PY (l:=s.now) (g:=g) (i:=s.at_) (by omega)
  have hgo:bE n wd s=if s.at_+1=n then eH n wd { s with now:=s.now.set s.at_ g,at_:=s.at_+1 } else { s with now:=s.now.set s.at_ g,at_:=s.at_+1 }:=by
   unfold bE jJ
   rw [if_pos p0,ha,hg]
  rw [<-hg,hgo,<-hts]
  have hb1:=b.rounds
  have hrn:1<=s.rounds*n:=Nat.mul_pos hb1 hn
  have hlen1:(s.now.set s.at_ g).length=16:=by rw [List.length_set];exact hl2
  by_cases hlast:s.at_+1=n
  ·rw [if_pos hlast]
   have hnl:s.list=[]/\s.rounds<=n:=by
    rcases hS.pc with⟨_,z,z'⟩|⟨z,_⟩|⟨z,_⟩
    ·exact⟨z,z'⟩
    ·omega
    ·omega
   obtain⟨vH,Ow⟩:∃ vH,vH=s.now.set s.at_ g:=⟨_,rfl⟩
   rw [<-Ow] at hbor hlen1 ⊢
   have hP1:∀ X:List Nat->Pq,vB (n - (s.at_+1)) (s.at_+1) (vH.take (s.at_+1)) X=X (vH.take n):=λX=>by rw [hlast,PU]
   rw [hP1]
   have hcm:gJ n (s.diff.take n) (s.old.take n) (vH.take n)=_:=ET n 0 true 0 s.diff (by omega)
   unfold TV
   rw [hcm]
   simp only
   have hr1:¬ s.rounds+1=1:=by omega
   by_cases heq:s.old=vH
   ·have hc1:(vC s.old vH n 0 true 0 s.diff).1=true:=(zR n 0 true 0 s.diff).2 ⟨rfl,λx _ _=>by rw [heq]⟩
    rw [if_pos hc1]
    have hh:eH n wd { s with now:=vH,at_:=s.at_+1 }=dI n n { s with now:=vH,at_:=0,rounds:=s.rounds+1,pc:=1,moment:=s.last }:=by
     unfold eH
     rw [if_neg (show ¬ s.rounds+1=1 from hr1),if_pos (show s.old=vH from heq)]
    rw [hh]
    refine PZ (c:=((s.rounds*n:Nat):Int)) hn16 hlen1 (Nat.zero_le n) rfl p1 (.inl ⟨p1,s.rounds*n,rfl,hrn,?_,?_⟩) ?_
    ·rw [List.length_append,b.tl];omega
    ·rw [MS (by rw [b.tl];omega)]
     exact b.last.symm
    ·show _=iY ((vH.take n).drop 0) s.list _
     rw [hnl.1,List.drop_zero]
   ·have hc1:¬ (vC s.old vH n 0 true 0 s.diff).1=true:=λe=>by
     obtain⟨_,e2⟩:=(zR n 0 true 0 s.diff).1 e
     refine heq (OI hS.l1 hlen1 λi hi=>?_)
     by_cases hin:i<n
     ·exact e2 i (Nat.zero_le i) (by omega)
     ·rw [(hS.z i (by omega)).1,Ow,aK (by omega)]
      exact(hS.z i (by omega)).2.symm
    rw [if_neg hc1]
    obtain⟨d1,d2⟩:=OD (old:=s.old) (now:=vH) n 0 true s.diff
    obtain⟨z,hz⟩:∃ z,z=iA s.old vH n 0 s.diff:=⟨_,rfl⟩
    match z,hz with
    | (d,some f'),hz=>
     obtain⟨b1,b2,b3⟩:=hbor hlast hr1 heq d f' hz.symm
     rw [d1 d f' hz.symm b1,if_pos b1]
     have hh:eH n wd { s with now:=vH,at_:=s.at_+1 }={ s with now:=vH,at_:=0,rounds:=s.rounds+1,diff:=d,pc:=2,from_:=f',moment:=(wd.traces f').headD 0 }:=wF (s:={ s with now:=vH,at_:=s.at_+1 }) hb1 heq hz.symm
     rw [hh]
     refine⟨λe=>(by cases e),λ_=>⟨hn,hlen1,.inr (.inr (.inr ⟨rfl,b1,?_⟩))⟩⟩
     show _=CQ f' (n - 0) 0 s.list _
     rw [hnl.1];rfl
    | (d,none),hz=>
     have hd2:=d2 d hz.symm
     have e1:(vC s.old vH n 0 true 0 s.diff).2.1=0:=by rw [hd2]
     have e2:(vC s.old vH n 0 true 0 s.diff).2.2=d:=by rw [hd2]
     rw [e1,e2,if_neg (λh=>h rfl)]
     have hh:eH n wd { s with now:=vH,at_:=s.at_+1 }={ s with now:=vH,at_:=0,rounds:=s.rounds+1,diff:=d,old:=vH,last:=wd.now }:=IJ (s:={ s with now:=vH,at_:=s.at_+1 }) hb1 heq hz.symm
     rw [hh]
     have hbf:zA=100000002:=rfl
     obtain⟨f0,hf0⟩:∃ f0,f=f0+1:=⟨f - 1,by have:=hnl.2;omega⟩
     rw [UT hf0]
     have hmul:(s.rounds+1)*n=s.rounds*n+n:=Nat.succ_mul _ _
     refine⟨λe=>?_,λ_=>⟨hn,hlen1,.inr (.inl ⟨p0,p1,⟨by show 1<=s.rounds+1;omega,?_,?_,⟨f0,?_,?_⟩⟩⟩)⟩⟩
     ·have e':s.pc=3:=e
      omega
     ·show(T++[_]).length=(s.rounds+1)*n+0
      rw [List.length_append,b.tl,List.length_singleton];omega
     ·show(wd.now:Int)=(T++[_]).getD ((s.rounds+1)*n - 1) 0
      rw [BL (by rw [b.tl];omega)]
     ·show f0+(s.rounds+1)=zA;omega
     ·show _=vB (n - 0) 0 _ (TV n K f0 ((s.rounds+1)*n) (vH.take n) (d.take n))
      rw [hmul];rfl
  ·rw [if_neg hlast]
   refine⟨λe=>?_,λ_=>⟨by show s.at_+1<n;omega,hlen1,.inr (.inl ⟨p0,p1,⟨hb1,?_,?_,⟨f,f1,rfl⟩⟩⟩)⟩⟩
   ·have e':s.pc=3:=e
    omega
   ·show(T++[_]).length=s.rounds*n+(s.at_+1)
    rw [List.length_append,b.tl];rfl
   ·show(s.last:Int)=(T++[_]).getD (s.rounds*n - 1) 0
    rw [MS (by rw [b.tl];omega)]
    exact b.last
 ·have ha:bK s=s.now.getD s.at_ 0:=by unfold bK;rw [if_neg (by omega),if_pos p0]
  have hadr:=hS.addr
  refine⟨_,by rw [ha] at hadr ⊢;rw [b,ZP (by omega) _ hat p2,NJ (by omega)],?_⟩
  have hgo:bE n wd s=dI n n { s with list:=s.list++[dZ wd (bK s)],at_:=s.at_+1 }:=by
   unfold bE jJ
   rw [if_neg (by omega),if_pos p0]
  rw [hgo]
  exact PZ (s1:={ s with list:=s.list++[dZ wd (bK s)],at_:=s.at_+1 }) (c:=c) hn16 hl2 (by show s.at_+1<=n;omega) p0 p1 (pc.grow rfl rfl) rfl
 ·have ha:bK s=s.from_+1+s.at_:=by unfold bK;rw [if_neg (by omega),if_neg (by omega)]
  have hadr:=hS.addr
  refine⟨_,by rw [ha] at hadr ⊢;rw [b,ZJ _ hat,WX (by omega)],?_⟩
  have hgo:bE n wd s={ s with list:=s.list++[dZ wd (bK s)],at_:=s.at_+1,pc:=if s.at_+1=n then 3 else s.pc }:=by
   unfold bE jJ
   rw [if_neg (by omega),if_neg (by omega)]
  rw [hgo]
  by_cases hlast:s.at_+1=n
  ·refine⟨λ_=>⟨_,.inr ⟨p1,rfl⟩,?_⟩,λe=>absurd (if_pos hlast) e⟩
   rw [hlast,Dw]
  ·refine⟨λe=>?_,λ_=>⟨by show s.at_+1<n;omega,hl2,.inr (.inr (.inr ⟨?_,p1,rfl⟩))⟩⟩
   ·have e':(if s.at_+1=n then 3 else s.pc)=3:=e
    rw [if_neg hlast] at e'
    omega
   ·show(if s.at_+1=n then 3 else s.pc)=2
    rw [if_neg hlast];exact p0
end
section
open Go.RowKit
inductive PoS where
 | take (a e m:Nat) (free:Bool) (r:Int×Nat)
 | once (c:aD) (r:Int×Nat)
def ZB (a v:Nat):Nat:=a+2+v*1024
def Aj (c:aD) (wd:WD):dR×Bool:=vF wd.mem ((c.a % 1024 - 2:Nat):Int) (2*(c.a / 1024)+1) (2*(c.a / 1024))
def Af (c:aD) (wd:WD):WD×(Int×Nat):=({ wd with mem:=(Aj c wd).1 },(if (Aj c wd).2 then 0 else 8,0))
def Vv (n k:Nat) (c:aD):Bool:=decide (c.a % 1024<2) || decide (2+n*k<=c.a % 1024) || decide (1099511627776<=c.a / 1024)
def Xw (n k:Nat):Sys where
 σ:=PoS
 ω:=Unit
 start:=λ_ _ p c=>if c.kind=0 then .run (.take (p*k) (p*k+k) 0 false (0,0)) else if c.kind≠1 then .refuse 9 else if Vv n k c=true then .refuse 10 else .run (.once c (0,0))
 step:=λ_ wd _ s=>match s with
  | .take a e m true r=>((),eB wd a (m+3),.take a e m true (r.1,ZB a (m / 2+1)),true)
  | .take a e _ false r=>if dZ wd a % 2=0 then ((),eY wd a,.take a e (dZ wd a) true r,false) else if a+1<e then ((),eY wd a,.take (a+1) e (dZ wd a) false r,false) else ((),eY wd a,.take (a+1) e (dZ wd a) false (6,r.2),true)
  | .once c _=>((),(Af c wd).1,.once c (Af c wd).2,true)
 answer:=λs=>match s with
  | .take _ _ _ _ r=>(⟨r.1,r.2,[]⟩,[])
  | .once _ r=>(⟨r.1,r.2,[]⟩,[])
 late:=λ_ _ _ _=>none
def IE (calls:List aD) (e:EvD):Nat:=(calls.getD e.call d0).a
def pIs (calls:List aD) (kd:Int) (e:EvD):Bool:=isK calls kd e && decide (e.ans.err=0)
def pRT (calls:List aD) (lo hi t:Nat) (e:EvD):Bool:=pIs calls 0 e && decide (lo+2<=e.ans.val % 1024/\e.ans.val % 1024<hi+2) && decide (e.resp<t)
def pRG (calls:List aD) (lo hi t:Nat) (e:EvD):Bool:=pIs calls 1 e && decide (lo+2<=IE calls e % 1024/\IE calls e % 1024<hi+2) && decide (e.resp<t)
def Qe (k:Nat) (calls:List aD) (ws:List Nat) (evs:List EvD) (p:Nat) (e:EvD):PoS->Prop
 | .take a f m free r=>f=p*k+k/\p*k<=a/\a<f/\r=(0,0)/\(free=true->ws.getD a 0=m/\m % 2=0)/\kindOf calls e=0/\cnt (pRT calls (p*k) a e.inv) evs=cnt (pRG calls (p*k) a e.inv) evs+(a - p*k)/\e.steps=a - p*k+(if free then 1 else 0)
 | .once _ _=>False
def Sa (k:Nat) (calls:List aD) (evs:List EvD) (e:EvD):Prop:=
 e.steps<=k+1/\(e.ans.err=6->cnt (pRT calls (tn calls e*k) (tn calls e*k+k) e.inv) evs=cnt (pRG calls (tn calls e*k) (tn calls e*k+k) e.inv) evs+k)
def Qg (k:Nat) (calls:List aD) (ws:List Nat) (evs:List EvD) (e:EvD) (a v:Nat):Prop:=
 tn calls e*k<=a/\a<tn calls e*k+k/\1<=v/\e.ans.val=ZB a v/\2*v<=ws.getD a 0/\(ws.getD a 0=2*v+1∨∃ j,j<evs.length/\pIs calls 1 (aF evs j)=true/\IE calls (aF evs j)=e.ans.val)
def Qx (calls:List aD) (ws:List Nat) (evs:List EvD) (e:EvD) (a v:Nat):Prop:=
 IE calls e=ZB a v/\2*v<=ws.getD a 0/\ws.getD a 0≠2*v+1/\∃ j,j<evs.length/\pIs calls 0 (aF evs j)=true/\(aF evs j).resp<e.resp/\(aF evs j).ans.val=IE calls e
structure PoW (n k:Nat) (calls:List aD) (now:Nat) (ws:List Nat) (evs:List EvD):Prop where
 wlen:ws.length=n*k
 top:∀ a,a<n*k->ws.getD a 0<=2*now+1
 takes:∀ i,i<evs.length->pIs calls 0 (aF evs i)=true->∃ a v,a<n*k/\Qg k calls ws evs (aF evs i) a v
 gives:∀ i,i<evs.length->pIs calls 1 (aF evs i)=true->∃ a v,a<n*k/\Qx calls ws evs (aF evs i) a v
 odd:∀ a,a<n*k->ws.getD a 0 % 2=1->∃ j,j<evs.length/\pIs calls 0 (aF evs j)=true/\(aF evs j).ans.val=ZB a (ws.getD a 0 / 2)
 tt:∀ i j,i<evs.length->j<evs.length->i≠j->pIs calls 0 (aF evs i)=true->pIs calls 0 (aF evs j)=true->(aF evs i).ans.val % 1024=(aF evs j).ans.val % 1024->
  (aF evs j).ans.val≠(aF evs i).ans.val/\((aF evs i).resp<(aF evs j).resp∨∃ m,m<evs.length/\pIs calls 1 (aF evs m)=true/\IE calls (aF evs m)=(aF evs j).ans.val/\(aF evs m).resp<(aF evs i).resp)
 gg:∀ i j,i<evs.length->j<evs.length->i≠j->pIs calls 1 (aF evs i)=true->pIs calls 1 (aF evs j)=true->IE calls (aF evs j)≠IE calls (aF evs i)
 cT:∀ a t,a<n*k->cnt (pRT calls a (a+1) t) evs<=cnt (pRG calls a (a+1) t) evs+1
 cN:∀ a,a<n*k->cnt (pRT calls a (a+1) (now+1)) evs=cnt (pRG calls a (a+1) (now+1)) evs+ws.getD a 0 % 2
structure aAI (n k:Nat) (calls:List aD) (st:aP (Xw n k)):Prop where
 w:PoW n k calls st.wd.now st.wd.mem.ws st.evs
 hand:∀ p s j,st.hands.getD p (none,0)=(some s,j)->iG calls (aF st.evs j)=0/\Qe k calls st.wd.mem.ws st.evs p (aF st.evs j) s
 done:∀ i,i<st.evs.length->(aF st.evs i).resp≠0->Sa k calls st.evs (aF st.evs i)
 fresh:∀ i,i<st.evs.length->(aF st.evs i).resp=0->(aF st.evs i).ans.err=0
section
variable {S:Sys} {calls:List aD} {st:aP S} {q k:Nat} {evs':List EvD} {e1:EvD}
theorem Next.kept (h:Next calls st q evs' k e1) {j:Nat} (hj:j<st.evs.length) (hr:(aF st.evs j).resp≠0):j≠k/\j<evs'.length/\aF evs' j=aF st.evs j:=by
 have hjk:j≠k:=by rintro rfl;exact hr (h.old hj)
 have hl:=Nat.lt_of_lt_of_le hj h.size
 exact⟨hjk,hl,(h.other j hl hjk).2⟩
end
end
section
open Go.RowKit
end
section
open Go.RowKit
def Vu (n:Nat) (l:List Nat):List Nat:=l++List.replicate (n+3 - l.length) 0
structure aAH (n:Nat) (o:SH) (own:List Nat):Prop where
 len:own.length=0∨own.length=n+3
 pad:Vu n own=o.come++[o.last,o.now]
theorem Kh {n:Nat} {r:RWD} {wd:WD} (hrw:iJ n r wd) {m m':dR} (e:m=m') (el:m.ws.length=r.mem.ws.length):iJ n { r with mem:=m } { wd with mem:=m' }:=⟨e,hrw.now,hrw.mlen,hrw.marks,hrw.tr,hrw.tl.acc rfl el⟩
theorem WE {n:Nat} {r:RWD} {wd:WD} (h:iJ n r wd) (a:Nat):(bA r.mem 0 (a:Int) 0 0).2=dZ wd a/\iJ n { r with mem:=(bA r.mem 0 (a:Int) 0 0).1 } (eY wd a):=by
 have e:bA r.mem 0 (a:Int) 0 0=bL wd.mem (a:Int):=by rw [h.mem];rfl
 exact⟨by rw [e];rfl,Kh h (by rw [e]) (by rw [e,h.mem];exact WJ _ _)⟩
theorem ES {n:Nat} {r:RWD} {wd:WD} (h:iJ n r wd) (a v:Nat):iJ n { r with mem:=(bA r.mem 1 (a:Int) v 0).1 } (eB wd a v):=by
 have e:(bA r.mem 1 (a:Int) v 0).1=fJ wd.mem (a:Int) v:=by rw [h.mem];rfl
 exact Kh h e (by rw [e,h.mem];exact TJ _ _ _)
end
end Go.Proofs.YtfkokppncipgnaaGreat
