/- A snapshot: the reference's operations beside the machines. -/
import Derived.Test.YtfkokppncipgnaaGreatW44
import Derived.Test.YtfkokppncipgnaaGreatW42
import Derived.Test.YtfkokppncipgnaaGreatW26
import Derived.Test.YtfkokppncipgnaaGreatW18
import Derived.Test.YtfkokppncipgnaaGreatW43
import Derived.Test.YtfkokppncipgnaaGreatW28
import Derived.Test.YtfkokppncipgnaaGreatW03
import Derived.Test.YtfkokppncipgnaaGreatW01
import Derived.Test.YtfkokppncipgnaaGreatW02
set_option maxRecDepth 100000
set_option linter.unusedVariables false
set_option linter.unusedSimpArgs false
set_option linter.unnecessarySimpa false
namespace Go.Proofs.YtfkokppncipgnaaGreat
section
open Go.RowKit
variable {n k:Nat} {calls:List aD}
def Pe (n p:Nat) (c:aD) (own:List Nat) (T:List Int) (P:Pq):SnS->Prop
 | .rd s key=>c.kind=1/\xU n XE s T P
 | .up s p' r nx v false=>c.kind=0/\p'=p/\nx=0/\xU n (VW r p (own.headD 0) v) s T P
 | .up s p' r nx v true=>c.kind=0/\p'=p/\∃ c',SB T s c'/\(nx=0->P=VW r p (own.headD 0) v s.list c')/\(1<=nx->P=wrT r (MH r p (own.headD 0) c') (s.list.drop (nx - 1)) (nx - 1))
def xX (n k:Nat):vO (aV n k) where
 Rel:=λ_ _ p c h σ=>h.ticks.length=h.got.length/\(∀ x,x∈h.got->x<gH)/\(vY n k c p h.own).deep h.got/\Pe n p c h.own h.ticks ((vY n k c p h.own).res h.got) σ
 Own:=λo p own=>own.headD 0=List.getD (α:=Nat) o p 0
def NE (n k:Nat) (calls:List aD) (st:aP (aV n k)):Prop:=bQ calls st/\(∃ rho,gY n k calls st rho)/\SnX n k st/\st.wd.now<=65536
theorem YP {r:RWD} {wd:WD} (htr:∀ a,gN a r=wd.traces a) (b:Nat) (tl:b<r.traces.length) (l:List Int):∀ a,gN a { r with traces:=r.traces.set b l }=BF wd.traces (b:Int) l a:=λa=>by
 unfold BF
 by_cases h:a=(b:Int)
 ·subst h
  rw [if_pos rfl]
  unfold gN
  rw [if_neg (by show ¬ ((b:Int)<0∨((r.traces.set b l).length:Int)<=(b:Int));rw [List.length_set];omega)]
  exact aI tl
 ·rw [if_neg h,<-htr a]
  unfold gN
  rw [List.length_set]
  split
  ·rfl
  ·exact aK (by omega)
theorem Bo {r:RWD} {wd:WD} (h:iJ n r wd) {b:Nat} (hb:b<r.traces.length) (m:Int):iJ n (wZ b [m] r) (vU wd b m):=by
 unfold wZ
 rw [if_pos hb]
 exact⟨h.mem,h.now,h.mlen,h.marks,YP h.tr b hb [m],by show 0<(r.traces.set b [m]).length;rw [List.length_set];exact h.tl.1,by show(r.traces.set b [m]).length=_;rw [List.length_set];exact h.tl.2⟩
theorem ZT {T:List Int} {s:ScD} {c:Int} {t:aJ} {r:RWD} (h:SB T s c) (hT:t.ticks=T) (hf:s.from_≠0->s.from_<20000/\(gN (s.from_:Int) r).headD 0=s.moment):EK c t r=s.moment:=by
 unfold EK
 rcases h with⟨_,i,rfl,h1,h2,h3⟩|⟨h1,rfl⟩
 ·rw [if_neg (by omega),hT]
  exact h3
 ·obtain⟨a,b⟩:=hf h1
  rw [if_pos (by omega),show(-(-(s.from_:Int) - 1+1)).toNat=s.from_ by omega,NJ (by omega)]
  exact b
theorem QL {x:Int} (h0:0<=x) (h:x<=1000000000):w64 x=x:=by unfold w64;rw [IntKind.wrap_i64];omega
theorem Cx {h:dW} {p v now:Nat} (he:h.ticks.length=h.got.length):lI (jV { h.tape p with at_:=h.got.length } v now)=(now:Int):=by
 unfold lI
 show(if h.got.length+1=0 then _ else _:Int)=_
 rw [if_neg (by omega)]
 show(h.ticks++[(now:Int)]).getD (h.got.length+1 - 1) 0=_
 exact BL (by omega)
theorem Ah {a cell u i:Nat} {c':Int} {l:List Nat}:∃ kd a' x y eff kk,wrT a (MH a cell u c') (l.drop i) i=.acc kd a' x y eff kk:=by
 by_cases h:i<l.length
 ·exact⟨_,_,_,_,_,_,Fu h⟩
 ·exact⟨_,_,_,_,_,_,ZR (by omega)⟩
theorem Oh {c:aD} (h1:c.kind=1) (p:Nat) (own:List Nat):vY n k c p own=kR (gJ n) n zA (List.replicate n false) XE:=by unfold vY;rw [if_pos h1]
theorem UW (hn:1<=n) (hn16:n<=16) (K:List Nat->Int->Pq):xU n K AQ [] (kR (gJ n) n zA (List.replicate n false) K):=by
 refine⟨hn,rfl,.inl ⟨rfl,rfl,⟨rfl,?_,rfl,rfl⟩⟩⟩
 show(List.replicate 16 false).take n=_
 rw [List.take_replicate,Nat.min_eq_left hn16]
theorem DD {α β:Type} {a:List α} {b:List β} (h:a.length=b.length) (x:α) (y:β):(a++[x]).length=(b++[y]).length:=by rw [List.length_append,List.length_append,h];rfl
theorem AL {l:List Nat} {v:Nat} (h:∀ x,x∈l->x<gH) (hv:v<gH):∀ x,x∈l++[v]->x<gH:=λx hx=>by
 rcases List.mem_append.1 hx with h9|h9
 ·exact h x h9
 ·rw [List.mem_singleton.1 h9];exact hv
theorem Bj (o:List Nat) (p v:Nat) (h:p<o.length):(o.set p v).getD p 0=v:=aI h
theorem zV:0<gH:=by decide
set_option maxHeartbeats 1000000 in
theorem FU (hn:1<=n) (hn16:n<=16) (hk:k<=64) (hA:∀ c,(calls.getD c d0).a<gH) (hthr:∀ c,c<calls.length->0<=(calls.getD c d0).thread/\(calls.getD c d0).thread<n):CX (aV n k) (xX n k) n (iE n k) Yw calls (NE n k calls) where
 refuse:=by
  intro st c p h e r hG hob hp hown hs hrw hgot htk
  have hown':h.own.headD 0=List.getD (α:=Nat) st.obj p 0:=hown
  have h9:(if c.kind=1 then Mc.run (SnS.rd AQ []) else if c.kind≠0 then .refuse 9 else if k<=List.getD (α:=Nat) st.obj p 0 then .refuse 6 else .run (.up AQ p (bG n k p (List.getD (α:=Nat) st.obj p 0)) 0 c.a false))=Mc.refuse e:=hs
  have fin:∀ e',vY n k c p h.own=Kk e'->e'=e->∃ t',iE n k c (h.tape p) r=(t',r)/\t'.halt=false/\t'.err=e/\t'.val=0/\t'.list=[]/\t'.key=[]/\(xX n k).Own st.obj p t'.priv:=λe' hP he=>by
   refine⟨{ h.tape p with err:=e' },?_,rfl,he,rfl,rfl,rfl,hown⟩
   show(vY n k c p h.own).run (h.tape p) r=_
   rw [hP];rfl
  split at h9
  ·cases h9
  ·rename_i h1
   split at h9
   ·rename_i h0
    cases h9
    exact fin 9 (by unfold vY;rw [if_neg h1,if_pos h0]) rfl
   ·rename_i h0
    split at h9
    ·rename_i h2
     cases h9
     exact fin 6 (by unfold vY;rw [if_neg h1,if_neg h0,if_pos (by rw [hown'];exact h2)]) rfl
    ·cases h9
 start:=by
  intro st c p h σ r hG hob hth hp hown hs hrw hgot htk hinv
  have hown':h.own.headD 0=List.getD (α:=Nat) st.obj p 0:=hown
  have h9:(if c.kind=1 then Mc.run (SnS.rd AQ []) else if c.kind≠0 then .refuse 9 else if k<=List.getD (α:=Nat) st.obj p 0 then .refuse 6 else .run (.up AQ p (bG n k p (List.getD (α:=Nat) st.obj p 0)) 0 c.a false))=Mc.run σ:=hs
  have e0:h.ticks.length=h.got.length:=by rw [hgot,htk];rfl
  have e1:(vY n k c p h.own).deep h.got:=by rw [hgot];exact Pq.deep_nil _
  refine⟨e0,by rw [hgot];exact λx hx=>(by cases hx),e1,?_⟩
  rw [hgot,Pq.res_nil,htk]
  split at h9
  ·rename_i h1
   cases h9
   exact⟨h1,by rw [Oh h1];exact UW hn hn16 _⟩
  ·rename_i h1
   split at h9
   ·cases h9
   ·rename_i h0
    split at h9
    ·cases h9
    ·rename_i h2
     cases h9
     refine⟨Classical.not_not.1 h0,rfl,rfl,?_⟩
     have e:vY n k c p h.own=kR (gJ n) n zA (List.replicate n false) (VW (bG n k p (h.own.headD 0)) p (h.own.headD 0) c.a):=by
      unfold vY
      rw [if_neg h1,if_neg h0,if_neg (by rw [hown'];exact h2)]
     rw [e,hown']
     exact UW hn hn16 _
 step:=by
  intro st c p h σ r wd kk0 aQ hG hf hc hp hinv hown hrel hrw hob
  obtain⟨hSt,⟨rho,hI⟩,hX,hnow⟩:=hG
  have S0:=EP hn hn16 hk hthr hSt hI hf
  have X0:=UK hA hX hf
  have hmem:wd.mem=st.wd.mem:=hf.mem
  have hwn:wd.now=st.wd.now+1:=hf.now
  have hw:∀ x,x∈wd.mem.ws->x<gH:=by rw [hmem];exact hX.ws
  have hwl:st.wd.mem.ws.length<=20000:=by rw [hI.wl];exact kF hn16 hk
  have hown':h.own.headD 0=List.getD (α:=Nat) st.obj p 0:=hown
  obtain⟨htl,hgl,hdp,hT⟩:=hrel
  have htl':h.ticks.length=h.got.length:=htl
  have hdp':(vY n k c p h.own).deep h.got:=hdp
  have hgl':∀ x,x∈h.got->x<gH:=hgl
  show DW (xX n k) n p c h st.obj r σ wd ((vY n k c p h.own).run (h.tape p) r)
  match σ,hf,S0,X0,hT with
  | .rd s key,hf,S0,X0,⟨h1,hN⟩=>
   obtain⟨kk,k1,k2,k3⟩:=FR hn hn16 hwl S0 hN
   obtain⟨a1,a2⟩:=WE hrw (bK s)
   have XG:xN n k st.obj wd.traces (bE n wd s):=xN.go (st:=st) X0 S0 hw
   refine Pq.sim (h:=h) (r2:={ r with mem:=(bA r.mem 0 ((bK s:Nat):Int) 0 0).1 }) hdp' k1 a1 rfl (o':=st.obj) (wd':=eY wd (bK s)) (σ':=.rd (bE n wd s) (if (bE n wd s).pc=3 then [2*(bE n wd s).moment,2*(wd.now:Int)] else key)) (b:=decide ((bE n wd s).pc=3)) rfl a2 rfl rfl (λe=>?_) (λe=>⟨?_,λhd hr=>⟨DD htl' _ _,AL hgl' (LH hw _),hd,h1,?_⟩,hown⟩)
   ·have e3:(bE n wd s).pc=3:=by simpa using e
    obtain⟨cc,m1,m2⟩:=k2 e3
    refine⟨_,m2,λt1 ht1=>⟨by rw [ht1];rfl,?_,by rw [ht1];exact hown⟩⟩
    have hd:EK cc t1 { r with mem:=(bA r.mem 0 ((bK s:Nat):Int) 0 0).1 }=(bE n wd s).moment:=ZT m1 (by rw [ht1];show h.ticks++[(r.now:Int)]=_;rw [hrw.now]) (λhfr=>⟨(XG.2.2 hfr).1,by rw [a2.tr];exact(XG.2.2 hfr).2.2⟩)
    have hl:lI t1=(wd.now:Int):=by rw [ht1,Cx htl',hrw.now]
    obtain⟨m,hm1,hm2⟩:=S0.mom e3
    show yQ _ p [w64 (2*EK cc t1 _),w64 (2*lI t1)]=keyOf _ p (if (bE n wd s).pc=3 then [2*(bE n wd s).moment,2*(wd.now:Int)] else key)
    rw [hd,hl,if_pos e3,QL (by omega) (by omega),QL (by omega) (by omega)]
    exact QK a2 hp _
   ·exact(k3 (by simpa using e)).acc hn16
   ·rw [hr]
    show xU n XE (bE n wd s) (h.ticks++[(r.now:Int)]) _
    rw [hrw.now]
    exact k3 (by simpa using e)
  | .up s p' r0 nx v false,hf,S0,X0,⟨h1,e1,e2,hN⟩=>
   subst e1
   subst e2
   obtain⟨kk,k1,k2,k3⟩:=FR hn hn16 hwl S0.1 hN
   obtain⟨a1,a2⟩:=WE hrw (bK s)
   refine Pq.sim (h:=h) hdp' k1 a1 rfl (o':=st.obj) (wd':=eY wd (bK s)) (σ':=.up (bE n wd s) p' r0 0 v (decide ((bE n wd s).pc=3))) (b:=false) rfl a2 rfl rfl (λe=>by cases e) (λ_=>⟨?_,λhd hr=>⟨DD htl' _ _,AL hgl' (LH hw _),hd,?_⟩,hown⟩)
   ·by_cases e3:(bE n wd s).pc=3
    ·obtain⟨cc,m1,m2⟩:=k2 e3
     exact⟨_,_,_,_,_,_,m2⟩
    ·exact(k3 e3).acc hn16
   ·rw [hr]
    show Pe n p' c h.own (h.ticks++[(r.now:Int)]) _ (.up (bE n wd s) p' r0 0 v (decide ((bE n wd s).pc=3)))
    rw [hrw.now]
    by_cases e3:(bE n wd s).pc=3
    ·rw [decide_eq_true e3]
     obtain⟨cc,m1,m2⟩:=k2 e3
     exact⟨h1,rfl,cc,m1,λ_=>m2,λe=>by omega⟩
    ·rw [decide_eq_false e3]
     exact⟨h1,rfl,rfl,k3 e3⟩
  | .up s p' r0 0 v true,hf,S0,X0,⟨h1,e1,cc,m1,m2,_⟩=>
   subst e1
   obtain⟨s1,s2,s3,s4,s5,s6,s7⟩:=S0
   have k1:=m2 rfl
   have a2:=ES hrw r0 v
   refine Pq.sim (h:=h) (a:=(r0:Int)) hdp' k1 rfl rfl (o':=st.obj) (wd':=eB wd r0 v) (σ':=.up s p' r0 1 v true) (b:=false) rfl a2 rfl rfl (λe=>by cases e) (λ_=>⟨Ah (i:=0) (l:=s.list),λhd hr=>⟨DD htl' _ _,AL hgl' zV,hd,h1,rfl,cc,m1.grow rfl rfl,λe=>by omega,λ_=>hr⟩,hown⟩)
  | .up s p' r0 (a+1) v true,hf,S0,X0,⟨h1,e1,cc,m1,_,m2⟩=>
   subst e1
   obtain⟨s1,s2,s3,s4,s5,s6,s7⟩:=S0
   have k1:=m2 (by omega)
   rw [show a+1 - 1=a by omega] at k1
   by_cases ha:a+1<=n
   ·have hst:(aV n k).step st.obj wd p' (.up s p' r0 (a+1) v true)=(st.obj,eB wd (r0+(a+1)) (s.list.getD a 0),.up s p' r0 (a+2) v true,false):=if_pos ha
    rw [Fu (by omega),show r0+1+a=r0+(a+1) by omega] at k1
    have a2:=ES hrw (r0+(a+1)) (s.list.getD a 0)
    refine Pq.sim (h:=h) hdp' k1 rfl rfl hst a2 rfl rfl (λe=>by cases e) (λ_=>⟨Ah,λhd hr=>⟨DD htl' _ _,AL hgl' zV,hd,h1,rfl,cc,m1.grow rfl rfl,λe=>by omega,λ_=>hr⟩,hown⟩)
   ·have hst:(aV n k).step st.obj wd p' (.up s p' r0 (a+1) v true)=(List.set (α:=Nat) st.obj p' (List.getD (α:=Nat) st.obj p' 0+1),eB (vU wd r0 s.moment) p' r0,.up s p' r0 (a+2) v true,true):=if_neg ha
    rw [ZR (by omega)] at k1
    have a2:=ES hrw p' r0
    have hX2:=X0.1.2.2
    have hr0:r0<r.traces.length:=by
     rw [hrw.tl.2,hrw.mem,hmem,hI.wl,s6]
     have:=SN (n:=n) hp s7
     omega
    obtain⟨r1,hr1⟩:∃ r1:RWD,r1={ r with mem:=(bA r.mem 1 (p':Int) r0 0).1 }:=⟨_,rfl⟩
    have hdec:∀ t1,t1=jV { h.tape p' with at_:=h.got.length } 0 r.now->EK cc t1 r1=s.moment:=λt1 ht1=>ZT (m1.grow (s':=s) (x:=(r.now:Int)) rfl rfl) (by rw [ht1];rfl) (λhfr=>⟨(hX2 hfr).1,by rw [hr1,a2.tr];exact(hX2 hfr).2.2⟩)
    have a3:iJ n (wZ r0 [EK cc (jV { h.tape p' with at_:=h.got.length } 0 r.now) r1] r1) (eB (vU wd r0 s.moment) p' r0):=by
     rw [hdec _ rfl]
     have:=Bo (r:=r1) (by rw [hr1];exact a2) (b:=r0) (by rw [hr1];exact hr0) s.moment
     exact this
    refine Pq.sim (h:=h) (a:=(p':Int)) hdp' k1 rfl rfl hst (by rw [<-hr1];exact a3) rfl rfl (λ_=>⟨_,rfl,λt1 ht1=>⟨by rw [ht1];rfl,by rw [ht1];exact QK (by rw [<-hr1];exact a3) hp _,?_⟩⟩) (λe=>by cases e)
    show([h.own.headD 0+1]:List Nat).headD 0=(List.set (α:=Nat) st.obj p' _).getD p' 0
    rw [hown']
    exact(Bj st.obj p' _ (by rw [show List.length (α:=Nat) st.obj=16 from hI.u16];omega)).symm
 ownOther:=by
  intro st p σ wd kk aQ q own hG hf hqp h
  obtain⟨hSt,⟨rho,hI⟩,hX,hnow⟩:=hG
  have S0:=EP hn hn16 hk hthr hSt hI hf
  have h':own.headD 0=List.getD (α:=Nat) st.obj q 0:=h
  match σ,hf,S0 with
  | .rd s key,_,_=>exact h
  | .up s p' r nx v false,_,_=>exact h
  | .up s p' r 0 v true,_,_=>exact h
  | .up s p' r (a+1) v true,_,⟨_,_,_,_,e,_⟩=>
   show own.headD 0=List.getD (α:=Nat) (if a+1<=n then _ else _:List Nat×WD×SnS×Bool).1 q 0
   split
   ·exact h'
   ·rw [h']
    exact(aK (by rw [e];exact Ne.symm hqp)).symm
 relOther:=by
  intro st p σ wd kk aQ r q c h σ' r' hG hf hqp hh hrel hrw
  exact hrel
 relTick:=λ_ _ _ _ _ _ h=>h
 relBegin:=λ_ _ _ _ _ _ _ h=>h
 late:=by
  intro st c p h σ r hG hh hinv hrel hrw hp
  exact hrw.marks p hp
end
section
open Go.RowKit
theorem SY {q0 q1:Int} {calls:List aD} {np:Nat} (h:gB q0 q1 calls np=0):checkN q0 calls np=0/\1<=q1/\q1<=64:=by
 unfold gB at h
 split at h
 ·rename_i h1;exact absurd h h1
 ·rename_i h1
  split at h
  ·cases h
  ·rename_i h2;exact⟨Classical.not_not.1 h1,by omega,by omega⟩
theorem AZ (X:Nat->Prop) (w:World) (n k:Int) (calls:List aD) (picks:List Int) (ca pa:Option Addr) (cc pc:Nat) (hX:∀ b,X b->b<w.heap.size) (hc:jD X w ca calls) (hp:jU w pa picks) :
  Calls Tryz.prog 15 #[.int .i64 n,.int .i64 k,.slice ca calls.length cc,.slice pa picks.length pc] w λe w'=>yC X w w' (gB n k calls picks.length) (uY (aV n.toNat k.toNat) jL (List.replicate (dH n.toNat k.toNat) 0) calls picks) e:=by
 refine TL X w n k calls picks ca pa cc pc hX hc hp (λh0 h1 h2=>?_)
 have hn:=Jk h0
 exact Nq (by omega) (by rw [show((n.toNat:Nat):Int)=n by omega];exact h0)
def kI:List aD:=[⟨0,0,0,5,0,0⟩,⟨1,0,1,0,0,0⟩]
theorem XR:uY (aV 2 1) jL (List.replicate (dH 2 1) 0) kI [0,0,0,0,0,0,0,0,1,1,1,1,1]=⟨[⟨0,1,8,8,⟨0,0,[]⟩,[16]⟩,⟨1,9,13,5,⟨0,0,[5,0]⟩,[20,26]⟩],[2,0,5,0,0,0,0,0],⟨9,4,0,0,0⟩,13,0⟩:=by kernel_rfl
theorem RB:gB 2 1 kI 13=0:=by rfl
set_option maxHeartbeats 4000000 in
theorem Aq (w:World):Calls Tryz.prog 14 #[] w λe w'=>e=.returned (.bool true)/\Below w.heap.size w w':=by
 obtain⟨wa,hwa⟩:∃ wa,wa=(w.alloc (.cells #[.int .i64 0,.int .i64 0,.int .i64 0,.int .u64 5,.int .u64 0,.int .u64 0,.int .i64 1,.int .i64 0,.int .i64 1,.int .u64 0,.int .u64 0,.int .u64 0] 48)).alloc (.cells #[.int .i64 0,.int .i64 0,.int .i64 0,.int .i64 0,.int .i64 0,.int .i64 0,.int .i64 0,.int .i64 0,.int .i64 1,.int .i64 1,.int .i64 1,.int .i64 1,.int .i64 1] 3):=⟨_,rfl⟩
 have hga:Below w.heap.size w wa:=by rw [hwa];exact Gr.alloc (Gr.new _ _) _
 have h1:wa.heap[w.heap.size]?=some (.cells (kI.flatMap callL).toArray 48 (0,0)):=by rw [hwa,Below.heap_alloc _ _ _ (by simp),heap_alloc_new];rfl
 have h2:wa.heap[w.heap.size+1]?=some (.cells (([0,0,0,0,0,0,0,0,1,1,1,1,1]:List Int).map (Value.int .i64)).toArray 3 (0,0)):=by
  rw [hwa]
  have:=heap_alloc_new (w.alloc (.cells #[.int .i64 0,.int .i64 0,.int .i64 0,.int .u64 5,.int .u64 0,.int .u64 0,.int .i64 1,.int .i64 0,.int .i64 1,.int .u64 0,.int .u64 0,.int .u64 0] 48)) (.cells #[.int .i64 0,.int .i64 0,.int .i64 0,.int .i64 0,.int .i64 0,.int .i64 0,.int .i64 0,.int .i64 0,.int .i64 1,.int .i64 1,.int .i64 1,.int .i64 1,.int .i64 1] 3 (0,0))
  simp only [World.size_alloc] at this
  exact this
 have P:=AZ noB wa 2 1 kI [0,0,0,0,0,0,0,0,1,1,1,1,1] (some ⟨w.heap.size,0,none⟩) (some ⟨w.heap.size+1,0,none⟩) 2 13 (λb hb=>hb.elim) ⟨UD h1 (by decide),(by
   intro x hx
   simp only [kI,List.mem_cons,List.not_mem_nil,or_false] at hx
   rcases hx with rfl|rfl<;>exact TI (by decide) (by decide) (by decide) (by decide) (by decide) (by decide) (by decide)),λ_ _ _ _ h=>h⟩ ⟨BV h2 (by decide),by intro x hx;simp only [List.mem_cons,List.not_mem_nil,or_false] at hx;rcases hx with rfl|rfl|rfl|rfl|rfl|rfl|rfl|rfl|rfl|rfl|rfl|rfl|rfl<;>rfl⟩
 rw [show([0,0,0,0,0,0,0,0,1,1,1,1,1]:List Int).length=13 from rfl,RB,show(2:Int).toNat=2 from rfl,show(1:Int).toNat=1 from rfl,XR,show kI.length=2 from rfl] at P
 have HP:=Lib.hid P;have Hwa:=Lib.hid hwa;have Hga:=Lib.hid hga
 clear P h1 h2 hwa hga
 go_enter Tryz.func14,Tryz.ntmps14
 go_wp2_with fail
 rw [<-Hwa.out]
 refine HP.out.mono ?_
 rintro e w1 ⟨ea,en,ec,va,vn,vc,rp,rfl,hb,hr⟩
 rcases hr with⟨h0,_⟩|⟨_,hrp,hen,hvn,ers,hrep⟩
 ·exact absurd rfl h0
 subst hrp
 obtain⟨g,la,lc,ka,kc,rfl,hg,_,_,_,_,_,_,e6,_,hls,_,_⟩:=hrep.ev8 hen (k:=1) (by rw [hen];decide) (Gr.refl _)
 obtain⟨g2,hgg,_,hev⟩:=hrep.event hen (by rw [hen];decide)
 cases hgg
 have aAc:en=2:=hen
 subst aAc
 have c14:w1.cell? ⟨g,14,none⟩=some (.slice la 2 lc):=e6
 have hls':cB w1 la [5,0].length 1 (fE [5,0]):=hls
 have c2:w1.cell? ⟨g,2,none⟩=some (.int .i64 8):=hev 0 2 (by omega) (by omega)
 have c10:w1.cell? ⟨g,10,none⟩=some (.int .i64 13):=hev 1 2 (by omega) (by omega)
 have Hb:=Lib.hid hb;have Hls:=Lib.hid hls'
 obtain⟨w4,hw4⟩:∃ w4,w4=(w1.alloc (.cells #[.slice (some ⟨g,0,none⟩) 2 ec,.slice va vn vc,.int .i64 9,.int .i64 4,.int .i64 0,.int .i64 0,.int .i64 0,.int .i64 13,.int .i64 0] 32)).alloc (.cells #[.int .u64 5,.int .u64 0] 46):=⟨_,rfl⟩
 have hb4:Below w1.heap.size w1 w4:=by rw [hw4];exact Gr.alloc (Gr.new _ _) _
 have hq4:w4.heap[w1.heap.size+1]?=some (.cells #[.int .u64 5,.int .u64 0] 46 (0,0)):=by
  have:=heap_alloc_new (w1.alloc (.cells #[.slice (some ⟨g,0,none⟩) 2 ec,.slice va vn vc,.int .i64 9,.int .i64 4,.int .i64 0,.int .i64 0,.int .i64 0,.int .i64 13,.int .i64 0] 32)) (.cells #[.int .u64 5,.int .u64 0] 46 (0,0))
  simp only [World.size_alloc] at this
  rw [hw4];exact this
 have Tc:cB w4 (some ⟨w1.heap.size+1,0,none⟩) [5,0].length 1 (fE [5,0]):=⟨by decide,λj hj=>⟨w1.heap.size+1,0,rfl,aC hq4,λf hf=>by
  have hj':j<2:=hj
  rw [aA hq4]
  have hf0:f=0:=by omega
  subst hf0
  have:j=0∨j=1:=by omega
  rcases this with rfl|rfl<;>rfl⟩⟩
 have SM:=Lib.hid (same_eq [5,0] la (some ⟨w1.heap.size+1,0,none⟩) lc 2 w4 (Hls.out.grown hb4) Tc)
 have Hw4:=Lib.hid hw4;have Hb4:=Lib.hid hb4
 clear hw4 hb4 hq4 Tc
 clear hrep hev hb hen hvn hls hls' e6
 unfold lC
 go_wp2_with fail
 rw [<-Hw4.out]
 refine SM.out.mono ?_
 rintro e w5 ⟨rfl,hb5⟩
 go_wp2
 go_ret
 exact⟨rfl,Gr.trans Hga.out (Gr.trans Hb.out (Gr.trans Hb4.out hb5))⟩
end
section
open Go.RowKit
theorem YX (n:Nat) (P Q:Int) {R:Int} (hR:R=-1) (u:World):Calls Tryz.prog 63 #[.int .i64 (n:Int),.agg #[.int .i64 5,.int .i64 P,.int .i64 Q]] u λe w'=>e=.returned (.int .i64 R)/\Below u.heap.size u w':=by
 subst hR
 go_enter Tryz.func63,Tryz.ntmps63
 go_wp2
 go_ret
 exact⟨rfl,Gr.new _ _⟩
theorem QO (n:Nat) (P Q R:Int) (w:World) (hn:n<=16) (hR:R=if 1<=P/\P<=64 then (n:Int)+(n:Int)*P*((n:Int)+1) else -1):Calls Tryz.prog 55 #[.int .i64 (n:Int),.agg #[.int .i64 5,.int .i64 P,.int .i64 Q]] w λe w'=>e=.returned (.int .i64 R)/\Below w.heap.size w w':=by
 by_cases h1:1<=P
 ·by_cases h2:P<=64
  ·rw [if_pos ⟨h1,h2⟩] at hR
   have m1:(n:Int)*P<=16*64:=Int.mul_le_mul (by omega) (by omega) (by omega) (by omega)
   have m0:0<=(n:Int)*P:=Int.mul_nonneg (by omega) (by omega)
   have hle:(n:Int)*P*((n:Int)+1)<=16*64*17:=Int.mul_le_mul m1 (by omega) (by omega) (by omega)
   have hge:0<=(n:Int)*P*((n:Int)+1):=Int.mul_nonneg m0 (by omega)
   have w1:IntKind.i64.wrap ((n:Int)+1)=(n:Int)+1:=by rw [IntKind.wrap_i64];omega
   have w2:IntKind.i64.wrap ((n:Int)*P)=(n:Int)*P:=by rw [IntKind.wrap_i64];omega
   have w3:IntKind.i64.wrap ((n:Int)*P*((n:Int)+1))=(n:Int)*P*((n:Int)+1):=by rw [IntKind.wrap_i64];omega
   have hw:IntKind.i64.wrap ((n:Int)+(n:Int)*P*((n:Int)+1))=R:=by rw [hR,IntKind.wrap_i64];omega
   clear hR hle hge m0 m1
   go_enter Tryz.func55,Tryz.ntmps55
   go_wp2
   go_ret
   exact⟨rfl,Gr.new _ _⟩
  ·rw [if_neg (λh=>h2 h.2)] at hR
   have HB:=Lib.hid (YX n P Q hR)
   clear hR
   go_enter Tryz.func55,Tryz.ntmps55
   go_wp2_with (go_at_call 63;refine(HB.out _).mono ?_;rintro e w' ⟨rfl,hb⟩)
   go_ret
   exact⟨rfl,Gr.trans (Gr.new _ _) hb⟩
 ·rw [if_neg (λh=>h1 h.1)] at hR
  have HB:=Lib.hid (YX n P Q hR)
  clear hR
  go_enter Tryz.func55,Tryz.ntmps55
  go_wp2_with (go_at_call 63;refine(HB.out _).mono ?_;rintro e w' ⟨rfl,hb⟩)
  go_ret
  exact⟨rfl,Gr.trans (Gr.new _ _) hb⟩
theorem Ga {n k sz:Nat} {calls:List aD} {s:dS} {st:aP (aV n k)} {q i:Nat} (hn16:n<=16) (hk:k<=64) (hP:BQ (xX n k) n calls s st) (hg:bQ calls st) (hG:NE n k calls st) (hR:kS n sz calls s) (hT:zJ n s) (hnow:s.rw.now<=65536) (hq:q<n) (hN:gF calls s.fin (q:Int)=some i) (s1:dS) (hs1:s1=dM { s with rw:=s.rw.tick } q i) :
  VG n (calls.getD i d0) ((s1.hands.getD q aY).tape q) s1.rw:=by
 have H:=Fj hP hg hR hT hnow hq hN s1 hs1
 obtain⟨h,hh⟩:∃ h,h=s1.hands.getD q aY:=⟨_,rfl⟩
 rw [<-hh] at H ⊢
 obtain⟨hSt,⟨rho,hI⟩,hX,Sn⟩:=hG
 refine⟨rfl,rfl,?_,?_,hq,?_⟩
 ·show ∀ x,x∈h.got->x<gH
  rcases H.how with⟨e1,_⟩|⟨σ,hs,hr,_⟩
  ·rw [e1];exact λx hx=>(by cases hx)
  ·exact hr.2.1
 ·rw [H.traces,hP.rw.tl.2,hP.rw.mem,hI.wl]
  have:VB n k<=20000:=kF hn16 hk
  omega
 ·have hown:(s.hands.getD q aY).own.headD 0=List.getD (α:=Nat) st.obj q 0:=(hP.hand q hq).own
  show h.own.headD 0<=64
  rw [H.own,hown]
  exact Nat.le_trans (hI.uk q) hk
theorem RQ {n k:Nat} (hn:n<=16) (hk:k<=64):∀ o wd p s,((aV n k).step o wd p s).2.1.now=wd.now:=(LB n k 0 hn hk).now
theorem VD {n k:Nat} {calls:List aD} {np:Nat} (hck:checkN n calls np=0) (hk:k<=64) (hA:∀ c,(calls.getD c d0).a<gH) (l:List Int) (hl:l.length<=65536):NE n k calls (eF (aV n k) calls (dG (aV n k) jL (List.replicate (dH n k) 0) calls) l):=by
 obtain⟨hn1,hn16⟩:=Jk hck
 have hthr':=WU hck
 have hthr:∀ c,c<calls.length->0<=(calls.getD c d0).thread/\(calls.getD c d0).thread<n:=λc hc=>by have:=zH hck c hc;omega
 have hnow:=RQ (n:=n) (k:=k) (by omega) hk
 have h0:SnX n k (dG (aV n k) jL (List.replicate (dH n k) 0) calls):=by
  refine⟨λx hx=>?_,λp s j hp=>?_⟩
  ·rw [List.eq_of_mem_replicate (show x∈List.replicate (dH n k) 0 from hx)];exact zV
  ·rw [show(dG (aV n k) jL (List.replicate (dH n k) 0) calls).hands.getD p (none,0)=(none,0) from jN] at hp;cases hp
 obtain⟨g1,g2,g3⟩:=zS (S:=aV n k) hnow hthr' (J:=λst=>(∃ rho,gY n k calls st rho)/\SnX n k st) (λst st' hg _ hj hT=>⟨ZY (by omega) (by omega) hthr hg hj.1 hT,by
  obtain⟨⟨rho,hI⟩,hX⟩:=hj
  exact Eg (by omega) (by omega) hk hA hthr hg hI hX hT⟩) l (vR (S:=aV n k) calls jL (List.replicate (dH n k) 0)) ⟨⟨_,UI (by omega) (by omega) k calls⟩,h0⟩
 refine⟨g1,g2,g3,?_⟩
 have htk:=zF (S:=aV n k) hnow (dG (aV n k) jL (List.replicate (dH n k) 0) calls) l (calls:=calls)
 rw [show(dG (aV n k) jL (List.replicate (dH n k) 0) calls).wd.now=0 from rfl,show(dG (aV n k) jL (List.replicate (dH n k) 0) calls).idle=0 from rfl] at htk
 omega
theorem Ad {X:Nat->Prop} {w:World} {ca:Option Addr} {calls:List aD} (hc:jD X w ca calls):∀ c,(calls.getD c d0).a<gH:=λc=>by
 rw [List.getD_eq_getElem?_getD]
 cases hx:calls[c]? with
 | none=>exact zV
 | some x=>exact(hc.ok x (List.mem_of_getElem? hx)).a
theorem Eh (n k p:Nat):(xX n k).Own jL p []:=(jN).symm
theorem YD (X:Nat->Prop) (q0 q1:Int) (calls:List aD) (picks:List Int) (ca pa:Option Addr) (cc pc bS:Nat) (w:World) (hX:∀ b,X b->b<w.heap.size) (hS:kM w bS 5 q1 0) (hc:jD noB w ca calls) (hp:jU w pa picks) :
  Calls Tryz.prog 10 #[.int .i64 q0,.slice (some ⟨bS,0,none⟩) 1 1,.slice ca calls.length cc,.slice pa picks.length pc] w λe w'=>xQ X w w' (gB q0 q1 calls picks.length) (uY (aV q0.toNat q1.toNat) jL (List.replicate (dH q0.toNat q1.toNat) 0) calls picks) true e:=by
 by_cases hck:checkN q0 calls picks.length=0
 ·obtain⟨z1,z2,z3,_⟩:=gZ (eD hck).1
  obtain⟨n,rfl⟩:∃ n:Nat,q0=(n:Int):=⟨q0.toNat,by omega⟩
  have hnp:=(eD hck).2
  have hn16:n<=16:=by omega
  by_cases hb:q1<1∨64<q1
  ·have er:gB (n:Int) q1 calls picks.length=10:=by unfold gB;rw [if_neg (λh=>h hck),if_pos hb]
   rw [er]
   refine LU X (n:Int) _ _ _ _ _ w (λu hu hul=>?_)
   exact Fw _ (n:Int) 5 q1 0 calls picks ca pa cc pc bS _ u hck (hS.grown hu) (hc.grown hu) (hp.grown hu) (λv=>QO n q1 0 (-1) v hn16 (by rw [if_neg (by omega)]))
  ·obtain⟨k,rfl⟩:∃ k:Nat,q1=(k:Int):=⟨q1.toNat,by omega⟩
   have er:gB (n:Int) (k:Int) calls picks.length=0:=by unfold gB;rw [if_neg (λh=>h hck),if_neg hb]
   have hk1:1<=k:=by omega
   have EU:k<=64:=by omega
   have hsz:=kF hn16 EU
   have hthr:∀ c,c<calls.length->0<=(calls.getD c d0).thread/\(calls.getD c d0).thread<n:=λc hc=>by have:=zH hck c hc;omega
   have hA:=Ad hc
   rw [er,Int.toNat_natCast,Int.toNat_natCast]
   exact Bu (S:=aV n k) (M:=xX n k) X (dH n k) 5 (k:Int) 0 picks ca pa cc pc bS w jL (VG n) hX (by decide) (by omega) (by unfold dH;omega) hck hS hc hp (λv=>QO n (k:Int) 0 _ v hn16 (by rw [if_pos (by omega)];unfold dH;push_cast;rfl)) (xD n k) (Be n k) (Kz n k (by omega) hn16 EU) (WS 5 (k:Int) 0 n (by decide)) (FU (by omega) hn16 EU hA hthr) (RQ hn16 EU) (λp _=>Eh n k p)
    (λj=>VD hck EU hA (picks.take j) (by rw [List.length_take];omega)) (λs st q i h1 h2 h3 h4 h5 h6 h7 h8 _ s1 hs1=>Ga hn16 EU h1 h2 h3 h4 h5 h6 h7 h8 s1 hs1)
 ·have er:gB q0 q1 calls picks.length=checkN q0 calls picks.length:=by unfold gB;rw [if_pos hck]
  rw [er]
  refine LU X q0 _ _ _ _ _ w (λu hu hul=>?_)
  exact YK _ q0 calls picks ca pa cc pc _ _ u hck (hc.grown hu) (hp.grown hu)
theorem Bd {X:Nat->Prop} {w:World} {ca:Option Addr} {q0 q1:Int} {calls:List aD} {picks:List Int} (hc:jD X w ca calls) (h:gB q0 q1 calls picks.length=0):(uY (aV q0.toNat q1.toNat) jL (List.replicate (dH q0.toNat q1.toNat) 0) calls picks).evs.length<1000000/\(uY (aV q0.toNat q1.toNat) jL (List.replicate (dH q0.toNat q1.toNat) 0) calls picks).words.length<1000000:=by
 obtain⟨hck,hb1,hb2⟩:=SY h
 obtain⟨z1,z2,z3,_⟩:=gZ (eD hck).1
 have hnp:=(eD hck).2
 obtain⟨n,rfl⟩:∃ n:Nat,q0=(n:Int):=⟨q0.toNat,by omega⟩
 have hn16:n<=16:=by omega
 obtain⟨k,rfl⟩:∃ k:Nat,q1=(k:Int):=⟨q1.toNat,by omega⟩
 have EU:k<=64:=by omega
 have hsz:=kF hn16 EU
 have hthr:∀ c,c<calls.length->0<=(calls.getD c d0).thread/\(calls.getD c d0).thread<n:=λc hc=>by have:=zH hck c hc;omega
 have hA:=Ad hc
 rw [Int.toNat_natCast,Int.toNat_natCast]
 obtain⟨a1,a2⟩:=Fv (S:=aV n k) (M:=xX n k) (dH n k) picks jL (by unfold dH;omega) hck (xD n k) (FU (by omega) hn16 EU hA hthr) (RQ hn16 EU) (λp _=>Eh n k p) (λj=>VD hck EU hA (picks.take j) (by rw [List.length_take];omega))
 omega
end
section
open Go.RowKit
set_option maxHeartbeats 4000000 in
theorem snapPlays_any (q0 q1:Int) (calls:List aD) (picks:List Int) (ca pa:Option Addr) (cc pc:Nat) (w:World) (hc:jD noB w ca calls) (hp:jU w pa picks) :
  Calls Tryz.prog 5 #[.agg #[.int .i64 q0,.int .i64 q1],.slice ca calls.length cc,.slice pa picks.length pc] w λe w'=>e=.returned (.bool true)/\Below w.heap.size w w':=by
 have hgb:Below w.heap.size w (w.alloc (.cells #[.int .i64 q0,.int .i64 q1] 22)):=(Gr.new _ _)
 have M:=Gx ca pa calls.length picks.length cc pc (w.alloc (.cells #[.int .i64 q0,.int .i64 q1] 22)) (hc.grown hgb).sl.1 hp.sl.1
 have T:=Lib.hid Aq
 cases hM:Jm calls.length picks.length with
 | true=>
  rw [hM] at M
  have HM:=Lib.hid M;have Hgb:=Lib.hid hgb
  clear M hc hp hM hgb
  go_enter Tryz.func5,Tryz.ntmps5
  go_wp2_with (first|(go_at_call 7;refine(HM.out).mono ?_;rintro e w' ⟨rfl,rfl⟩)|(go_at_call 14;refine(T.out _).mono ?_;rintro e w' ⟨rfl,hb⟩))
  go_ret
  exact⟨rfl,Gr.trans Hgb.out hb⟩
 | false=>
  rw [hM] at M
  have HM:=Lib.hid M
  have P:=AZ noB (w.alloc (.cells #[.int .i64 q0,.int .i64 q1] 22)) q0 q1 calls picks ca pa cc pc (λb hb=>hb.elim) (hc.grown hgb) (hp.grown hgb)
  have RF:=Lib.hid (λ(u:World) (hu:Below w.heap.size w u) (bS:Nat) (hS:kM u bS 5 q1 0)=>YD noB q0 q1 calls picks ca pa cc pc bS u (λb hb=>hb.elim) hS (hc.grown hu) (hp.grown hu))
  have hlen:gB q0 q1 calls picks.length=0->_:=λh=>Bd hc h
  obtain⟨er,her⟩:∃ er,er=gB q0 q1 calls picks.length:=⟨_,rfl⟩
  obtain⟨rr,hrr⟩:∃ rr,rr=uY (aV q0.toNat q1.toNat) jL (List.replicate (dH q0.toNat q1.toNat) 0) calls picks:=⟨_,rfl⟩
  rw [<-her,<-hrr] at P RF hlen
  have hl1:(jR er rr).evs.length<1000000/\(jR er rr).words.length<1000000:=by
   unfold jR
   split
   ·rename_i h;exact hlen h
   ·exact⟨by decide,by decide⟩
  have HP:=Lib.hid P;have Hgb:=Lib.hid hgb;have Hl1:=Lib.hid hl1
  clear M P hc hp hM her hrr hgb hlen hl1
  go_enter Tryz.func5,Tryz.ntmps5
  go_wp2_with (go_at_call 7;refine(HM.out).mono ?_;rintro e w' ⟨rfl,rfl⟩)
  refine HP.out.mono ?_
  intro e w1 hret
  obtain⟨hb1,ea,ec,va,vc,ers,rfl,hrep⟩:=hret.one
  clear hret
  have hl1:=Hl1.out
  obtain⟨rp,hrp⟩:∃ rp,rp=jR er rr:=⟨_,rfl⟩
  rw [<-hrp] at hrep hl1  ⊢
  obtain⟨en,hen⟩:∃ en,en=rp.evs.length:=⟨_,rfl⟩
  obtain⟨vn,hvn⟩:∃ vn,vn=rp.words.length:=⟨_,rfl⟩
  rw [<-hen,<-hvn] at hrep ⊢
  obtain⟨w2,hw2⟩:∃ w2,w2=(w1.alloc (.cells #[.slice ea en ec,.slice va vn vc,.int .i64 (rp.c.read:Int),.int .i64 (rp.c.write:Int),.int .i64 (rp.c.swap:Int),.int .i64 (rp.c.add:Int),.int .i64 (rp.c.fault:Int),.int .i64 (rp.ticks:Int),.int .i64 (rp.idle:Int)] 32)).alloc (.cells #[.int .i64 5,.int .i64 q1,.int .i64 0] 39):=⟨_,rfl⟩
  have hb2:Below w1.heap.size w1 w2:=by rw [hw2];exact Gr.alloc (Gr.new _ _) _
  have hB1:w2.heap[w1.heap.size]?=some (.cells #[.slice ea en ec,.slice va vn vc,.int .i64 (rp.c.read:Int),.int .i64 (rp.c.write:Int),.int .i64 (rp.c.swap:Int),.int .i64 (rp.c.add:Int),.int .i64 (rp.c.fault:Int),.int .i64 (rp.ticks:Int),.int .i64 (rp.idle:Int)] 32 (0,0)):=by rw [hw2,Below.heap_alloc _ _ _ (by simp)];exact heap_alloc_new _ _
  have hSp:w2.heap[w1.heap.size+1]?=some (.cells #[.int .i64 5,.int .i64 q1,.int .i64 0] 39 (0,0)):=by
   rw [hw2]
   have:=heap_alloc_new (w1.alloc (.cells #[.slice ea en ec,.slice va vn vc,.int .i64 (rp.c.read:Int),.int .i64 (rp.c.write:Int),.int .i64 (rp.c.swap:Int),.int .i64 (rp.c.add:Int),.int .i64 (rp.c.fault:Int),.int .i64 (rp.ticks:Int),.int .i64 (rp.idle:Int)] 32)) (.cells #[.int .i64 5,.int .i64 q1,.int .i64 0] 39 (0,0))
   simp only [World.size_alloc] at this
   exact this
  have R2:=Lib.hid (RF.out w2 (Gr.trans Hgb.out (Gr.trans hb1 hb2)) (w1.heap.size+1) ⟨hSp⟩)
  have z0:w2.cell? ⟨w.heap.size,0,none⟩=some (.int .i64 q0):=((Gr.trans hb1 hb2).cell (p:=⟨w.heap.size,0,none⟩) (by simp)).trans (by rw [aA (heap_alloc_new w _)];rfl)
  have z1:w2.cell? ⟨w.heap.size,1,none⟩=some (.int .i64 q1):=((Gr.trans hb1 hb2).cell (p:=⟨w.heap.size,1,none⟩) (by simp)).trans (by rw [aA (heap_alloc_new w _)];rfl)
  have y0:w1.cell? ⟨w.heap.size,0,none⟩=some (.int .i64 q0):=(hb1.cell (p:=⟨w.heap.size,0,none⟩) (by simp)).trans (by rw [aA (heap_alloc_new w _)];rfl)
  have y1:w1.cell? ⟨w.heap.size,1,none⟩=some (.int .i64 q1):=(hb1.cell (p:=⟨w.heap.size,1,none⟩) (by simp)).trans (by rw [aA (heap_alloc_new w _)];rfl)
  have hlw:w.heap.size<w1.heap.size:=World.block_lt_of_cell? _ _ y0
  have Hb1:=Lib.hid hb1;have Hb2:=Lib.hid hb2;have HB1:=Lib.hid hB1;have Hw2:=Lib.hid hw2;have Hrep:=Lib.hid hrep;have Hrp:=Lib.hid hrp;have Hen:=Lib.hid hen;have Hvn:=Lib.hid hvn;have Hl:=Lib.hid hl1
  clear hb1 hb2 hB1 hSp hw2 hrep hrp hen hvn hl1
  unfold lC
  go_wp2_with fail
  rw [<-Hw2.out]
  refine R2.out.mono ?_
  intro e w3 hret
  obtain⟨hb3,Eo,En,Dr,Gm,WQ,rfl,NM,hsl2⟩:=hret.one
  clear hret
  rw [<-Hrp.out] at NM hsl2 ⊢
  rw [<-Hen.out] at NM ⊢
  rw [<-Hvn.out] at hsl2 ⊢
  obtain⟨w4,hw4⟩:∃ w4,w4=w3.alloc (.cells #[.slice Eo en En,.slice Dr vn Gm,.int .i64 (rp.c.read:Int),.int .i64 (rp.c.write:Int),.int .i64 (rp.c.swap:Int),.int .i64 (rp.c.add:Int),.int .i64 (rp.c.fault:Int),.int .i64 (rp.ticks:Int),.int .i64 (rp.idle:Int)] 32):=⟨_,rfl⟩
  have hb4:Below w3.heap.size w3 w4:=by rw [hw4];exact Gr.new _ _
  have hB2:w4.heap[w3.heap.size]?=some (.cells #[.slice Eo en En,.slice Dr vn Gm,.int .i64 (rp.c.read:Int),.int .i64 (rp.c.write:Int),.int .i64 (rp.c.swap:Int),.int .i64 (rp.c.add:Int),.int .i64 (rp.c.fault:Int),.int .i64 (rp.ticks:Int),.int .i64 (rp.idle:Int)] 32 (0,0)):=by rw [hw4];exact heap_alloc_new _ _
  have Qs:Below w1.heap.size w1 w4:=Gr.trans Hb2.out (Gr.trans hb3 hb4)
  obtain⟨b1,Rv⟩:∃ b1,b1=w1.heap.size:=⟨_,rfl⟩
  have hB1:w4.heap[b1]?=some (.cells #[.slice ea en ec,.slice va vn vc,.int .i64 (rp.c.read:Int),.int .i64 (rp.c.write:Int),.int .i64 (rp.c.swap:Int),.int .i64 (rp.c.add:Int),.int .i64 (rp.c.fault:Int),.int .i64 (rp.ticks:Int),.int .i64 (rp.idle:Int)] 32 (0,0)):=by rw [Rv];exact((Gr.trans hb3 hb4).block _ (aC HB1.out)).trans HB1.out
  have r0:w4.cell? ⟨b1,0,none⟩=some (.slice ea en ec):=by rw [aA hB1];rfl
  have r1:w4.cell? ⟨b1,1,none⟩=some (.slice va vn vc):=by rw [aA hB1];rfl
  have r2:w4.cell? ⟨b1,2,none⟩=some (.int .i64 (rp.c.read:Int)):=by rw [aA hB1];rfl
  have r3:w4.cell? ⟨b1,3,none⟩=some (.int .i64 (rp.c.write:Int)):=by rw [aA hB1];rfl
  have r4:w4.cell? ⟨b1,4,none⟩=some (.int .i64 (rp.c.swap:Int)):=by rw [aA hB1];rfl
  have r5:w4.cell? ⟨b1,5,none⟩=some (.int .i64 (rp.c.add:Int)):=by rw [aA hB1];rfl
  have r6:w4.cell? ⟨b1,6,none⟩=some (.int .i64 (rp.c.fault:Int)):=by rw [aA hB1];rfl
  have r7:w4.cell? ⟨b1,7,none⟩=some (.int .i64 (rp.ticks:Int)):=by rw [aA hB1];rfl
  have r8:w4.cell? ⟨b1,8,none⟩=some (.int .i64 (rp.idle:Int)):=by rw [aA hB1];rfl
  have s0:w4.cell? ⟨w3.heap.size,0,none⟩=some (.slice Eo en En):=by rw [aA hB2];rfl
  have s1:w4.cell? ⟨w3.heap.size,1,none⟩=some (.slice Dr vn Gm):=by rw [aA hB2];rfl
  have s2:w4.cell? ⟨w3.heap.size,2,none⟩=some (.int .i64 (rp.c.read:Int)):=by rw [aA hB2];rfl
  have s3:w4.cell? ⟨w3.heap.size,3,none⟩=some (.int .i64 (rp.c.write:Int)):=by rw [aA hB2];rfl
  have s4:w4.cell? ⟨w3.heap.size,4,none⟩=some (.int .i64 (rp.c.swap:Int)):=by rw [aA hB2];rfl
  have s5:w4.cell? ⟨w3.heap.size,5,none⟩=some (.int .i64 (rp.c.add:Int)):=by rw [aA hB2];rfl
  have s6:w4.cell? ⟨w3.heap.size,6,none⟩=some (.int .i64 (rp.c.fault:Int)):=by rw [aA hB2];rfl
  have s7:w4.cell? ⟨w3.heap.size,7,none⟩=some (.int .i64 (rp.ticks:Int)):=by rw [aA hB2];rfl
  have s8:w4.cell? ⟨w3.heap.size,8,none⟩=some (.int .i64 (rp.idle:Int)):=by rw [aA hB2];rfl
  have hrep:=Hrep.out;have hen:=Hen.out;have hvn:=Hvn.out;have hl:=Hl.out
  have SM:=Lib.hid (Ck w4 ea Eo va Dr en ec En vn vc Gm ers WQ rp (hrep.grown Qs) (NM.grown hb4) (hsl2.grown hb4) hen hvn hl.1 hl.2)
  unfold lC at SM
  have Hall:=Lib.hid (Gr.trans Hgb.out (Gr.trans Hb1.out Qs));have Hw4:=Lib.hid hw4
  rw [<-Rv]
  have hl4:b1<w4.heap.size:=aC hB1
  clear hb3 NM hsl2 hw4 hb4 hB1 hB2 Qs Rv hrep hen hvn hl
  unfold lC
  go_upto_region 5 with fail
  rw [<-Hw4.out]
  have le:(er == er)=true:=by simp
  go_wp2_with (first|(go_at_call 11;refine(SM.out).mono ?_;rintro e w5 ⟨rfl,hb5⟩)|(go_at_call 14;refine(T.out _).mono ?_;rintro e w7 ⟨rfl,MO⟩))
  go_ret
  exact⟨rfl,Gr.trans Hall.out (Gr.trans hb5 MO)⟩
end
section
open Go.ChangeShapes Go.WideShapes Go.ChangeAt Go.RowKit
def callV (x:aD) (f:Nat):Value:=
 if f=0 then .int .i64 x.thread else if f=1 then .int .i64 x.obj else if f=2 then .int .i64 x.kind else if f=3 then .int .u64 (x.a:Int) else if f=4 then .int .u64 (x.b:Int) else .int .u64 (x.c:Int)
structure XU (x:aD):Prop where
 thread:(Lit.int .i64 x.thread).wf=true
 obj:(Lit.int .i64 x.obj).wf=true
 kind:(Lit.int .i64 x.kind).wf=true
 a:U64 x.a
 b:U64 x.b
 c:U64 x.c
theorem Nc {H:Type} {enc:TypeId×Value->H} {W:World} {n:Nat} {cs:List Value} {x:DataW H×List MemPlace} (hx:DataW.trod enc Tryz.prog W 0 (λ_=>true) true n 48 cs=some x) :
  ∃ y:aD,(∀ f,f<6->cs[f]?=some (callV y f))/\cs.length=6/\XU y:=by
 have hu:=Tryz.underlying48
 have hi:=Tryz.underlying3
 have hq:=Tryz.underlying46
 have ci:Tryz.prog.cellsOf 3=1:=by kernel_rfl
 have cq:Tryz.prog.cellsOf 46=1:=by kernel_rfl
 have hl:=KM hu hx
 have hc:Tryz.prog.cellsOf 48=6:=by kernel_rfl
 rw [hc] at hl
 obtain⟨t0,e0,w0⟩:=iF hu hx (List.getElem_mem (n:=0) (by decide)) hi ci
 obtain⟨t1,e1,w1⟩:=iF hu hx (List.getElem_mem (n:=1) (by decide)) hi ci
 obtain⟨t2,e2,w2⟩:=iF hu hx (List.getElem_mem (n:=2) (by decide)) hi ci
 obtain⟨t3,e3,w3⟩:=iF hu hx (List.getElem_mem (n:=3) (by decide)) hq cq
 obtain⟨t4,e4,w4⟩:=iF hu hx (List.getElem_mem (n:=4) (by decide)) hq cq
 obtain⟨t5,e5,w5⟩:=iF hu hx (List.getElem_mem (n:=5) (by decide)) hq cq
 obtain⟨n3,rfl,u3⟩:=XD w3
 obtain⟨n4,rfl,u4⟩:=XD w4
 obtain⟨n5,rfl,u5⟩:=XD w5
 refine⟨⟨t0,t1,t2,n3,n4,n5⟩,λf hf=>?_,hl,⟨w0,w1,w2,u3,u4,u5⟩⟩
 obtain rfl|rfl|rfl|rfl|rfl|rfl:f=0∨f=1∨f=2∨f=3∨f=4∨f=5:=by omega
 ·exact e0
 ·exact e1
 ·exact e2
 ·exact e3
 ·exact e4
 ·exact e5
theorem open_calls {H:Type} {enc:TypeId×Value->H} {W:World} {base:Nat} {v:Value} {d:DataW H} {ps:List MemPlace}
  (hv:Value.okWide Tryz.prog W .any base 23 v) (h:DataW.Trod enc Tryz.prog W 0 (λ_=>true) true 23 v d ps) (hlt:∀ p∈ps,p.block<W.heap.size) :
  ∃(a:Option Addr) (c:Nat) (l:List aD),v=.slice a l.length c/\cB W a l.length 6 (iX l)/\(∀ y∈l,XU y):=by
 have hc:Tryz.prog.cellsOf 48=6:=by kernel_rfl
 obtain⟨a,c,l,h1,h2,h3⟩:=Ai Tryz.underlying23 hv h hlt (by rw [hc];omega) (⟨0,0,0,0,0,0⟩:aD) (λy cs=>(∀ f,f<6->cs[f]?=some (callV y f))/\cs.length=6/\XU y)
  (λn cs x hx=>Nc hx) callV (λy cs hy=>by rw [hc];exact⟨hy.2.1,hy.1⟩)
 rw [hc] at h2
 exact⟨a,c,l,h1,h2,λy hy=>by obtain⟨cs,_,_,hw⟩:=h3 y hy;exact hw⟩
end
section
open Go.ChangeShapes Go.WideShapes Go.ChangeAt Go.RowKit
end
end Go.Proofs.YtfkokppncipgnaaGreat
