/- A max register in the reference's play: RefOk. -/
import Derived.Test.YteffgpcjfnjlkaaGreatX40
set_option maxRecDepth 100000
set_option linter.unusedVariables false
set_option linter.unusedSimpArgs false
set_option linter.unnecessarySimpa false
namespace Go.Proofs.YteffgpcjfnjlkaaGreat
section
open Go.RowKit
def dOk (d:Nat) (h:RHand) (last:Nat):Prop:=(d=0/\last=0)∨(0<d/\d<=h.ticks.length/\0<last/\h.ticks.getD (d - 1) 0=(last:Int))
def maxSim (m:Nat):RefSim (maxS m) where
 Rel:=λ_ _ _ c h σ=>h.ticks.length=h.got.length/\(mxPg m c).deep h.got/\match σ with
  | .rd x=>c.kind=1/\0<x.y.left/\(mxPg m c).res h.got=rdPg 0 rdK x.y.left x.y.k x.y.turns x.val
  | .wr x=>c.kind=0/\c.a / 2^m=0/\wrLive x/\∃ d,dOk d h x.y.last/\(mxPg m c).res h.got=wrTree x h.got.length d/\(ltPg m c).res h.got=ltTree x h.got.length d
 Own:=λ_ _ _=>True
structure MaxGood (m:Nat) (st:PlayD (maxS m)):Prop where
 base:MxBase m st
 wd:MxWd m st.wd
 now:st.wd.now<=65536
theorem got_le1 {m:Nat} {wd:WD} (h:MxWd m wd) (a:Nat):taGot wd a<=1:=by
 unfold taGot memRead
 split
 ·exact Nat.zero_le _
 ·show wd.mem.ws.getD (a:Int).toNat 0<=1
  rw [List.getD_eq_getElem?_getD]
  cases hx:wd.mem.ws[(a:Int).toNat]? with
  | none=>exact Nat.zero_le _
  | some x=>exact h.w1 x (List.mem_of_getElem? hx)
theorem bit1 {g:Nat} (h:g<=1):g % 2=(decide (g=1)).toNat:=by
 rcases Nat.lt_or_ge g 1 with h1|h1
 ·obtain rfl:g=0:=by omega
  rfl
 ·obtain rfl:g=1:=by omega
  rfl
theorem key_same {r:RWD} {wd:WD} (p:Nat) (htr:∀ a,traceP a r=wd.traces a) (hT:TrOk wd) {l:Int} (hl:0<=l/\l<=1000000) (ts:List (Nat×Bool)):rkey r p (mxKeyW (rSet r 0) ts l)=keyOf wd p (mxKey (mxSet wd.traces 0) ts l):=by
 have e:rSet r 0=mxSet wd.traces 0:=by
  unfold rSet
  rw [show(λa=>traceP a r)=wd.traces from funext htr]
 have h1:=mxKey_len (mxSet wd.traces 0) l ts
 have hne:mxKey (mxSet wd.traces 0) ts l≠[]:=λh=>by rw [h] at h1;exact absurd h1.1 (by decide)
 rw [e,mxKeyW_eq (λk=>hT.set 0 k) hl]
 unfold rkey keyOf
 rw [if_neg hne,if_neg hne]
theorem trace_setN {r:RWD} {wd:WD} (htr:∀ a,traceP a r=wd.traces a) {k:Nat} (hk:k<r.traces.length) (l:List Int):∀ a,traceP a { r with traces:=r.traces.set k l }=updT wd.traces (k:Int) l a:=λa=>by
 unfold updT
 by_cases h:a=(k:Int)
 ·subst h
  rw [if_pos rfl]
  unfold traceP
  rw [if_neg (by show ¬ ((k:Int)<0∨((r.traces.set k l).length:Int)<=(k:Int));rw [List.length_set];omega)]
  exact getD_set_eq hk
 ·rw [if_neg h,<-htr a]
  unfold traceP
  rw [List.length_set]
  split
  ·rfl
  ·exact getD_set_neq (by omega)
theorem put_sim {n m:Nat} {r:RWD} {wd:WD} (h:RwSim n r wd) (hw:MxWd m wd) {k:Nat} (hk:1<=k/\k<2^m):RwSim n (mxNote (0+k - 1) { r with mem:=memWrite r.mem ((0+k - 1:Nat):Int) 1 }) (mxPut 0 k wd):=by
 have hlen:r.traces.length=2^m - 1:=by rw [h.tl.2,h.mem];exact hw.len
 have hlt:0+k - 1<r.traces.length:=by omega
 have hm1:memWrite r.mem ((0+k - 1:Nat):Int) 1=memWrite wd.mem ((0+k - 1:Nat):Int) 1:=by rw [h.mem]
 have htl:TlOk { r with mem:=memWrite r.mem ((0+k - 1:Nat):Int) 1 }:=h.tl.acc rfl (memWrite_len _ _ _)
 have hset:mxSet wd.traces 0 k=(wd.traces ((0+k - 1:Nat):Int)).headD 0:=rfl
 unfold mxNote mxPut
 by_cases he:wd.traces ((0+k - 1:Nat):Int)=[]
 ·have e1:traceP ((0+k - 1:Nat):Int) { r with mem:=memWrite r.mem ((0+k - 1:Nat):Int) 1 }=[]:=(h.tr _).trans he
  rw [if_pos e1,if_pos (by rw [hset,he];rfl)]
  refine⟨hm1,h.now,h.mlen,h.marks,?_,?_,?_⟩
  ·show ∀ a,traceP a { r with mem:=_,traces:=r.traces.set (0+k - 1) [(r.now:Int)] }=updT wd.traces ((0+k - 1:Nat):Int) [(wd.now:Int)] a
   rw [h.now]
   exact trace_setN (r:={ r with mem:=memWrite r.mem ((0+k - 1:Nat):Int) 1 }) (wd:=wd) h.tr hlt _
  ·show 0<(r.traces.set _ _).length
   rw [List.length_set];exact h.tl.1
  ·show(r.traces.set _ _).length=(memWrite r.mem ((0+k - 1:Nat):Int) 1).ws.length
   rw [List.length_set];exact htl.2
 ·have e1:¬ traceP ((0+k - 1:Nat):Int) { r with mem:=memWrite r.mem ((0+k - 1:Nat):Int) 1 }=[]:=λe=>he ((h.tr _).symm.trans e)
  have e2:¬ mxSet wd.traces 0 k=0:=by
   rw [hset]
   cases hx:wd.traces ((0+k - 1:Nat):Int) with
   | nil=>exact absurd hx he
   | cons x l=>
    have:=hw.pos _ x (by rw [hx];exact List.mem_cons_self ..)
    show ¬ x=0
    omega
  rw [if_neg e1,if_neg e2]
  exact⟨hm1,h.now,h.mlen,h.marks,h.tr,htl⟩
theorem read_sim {n:Nat} {r:RWD} {wd:WD} (h:RwSim n r wd) (a:Nat):RwSim n { r with mem:=(memAcc r.mem 0 (a:Int) 0 0).1 } (taRead wd a):=
 ⟨by show(memRead r.mem (a:Int)).1=(memRead wd.mem (a:Int)).1;rw [h.mem],h.now,h.mlen,h.marks,h.tr,h.tl.acc rfl (memRead_len _ _)⟩
theorem read_got {n:Nat} {r:RWD} {wd:WD} (h:RwSim n r wd) (a:Nat):(memAcc r.mem 0 (a:Int) 0 0).2=taGot wd a:=by
 show(memRead r.mem (a:Int)).2=(memRead wd.mem (a:Int)).2
 rw [h.mem]
theorem good_tr {m:Nat} {calls:List CallD} {st:PlayD (maxS m)} {q i k:Nat} {s:MxS} {evs0:List EvD} {wd0:WD} (hG:MaxGood m st) (hf:From calls st q i k s evs0 wd0):TrOk wd0/\MxWd m wd0/\0<wd0.now/\wd0.now<=65537:=by
 have hn:=hf.now
 have h1:=hG.now
 refine⟨⟨λa x hx=>?_,λp=>?_⟩,hf.mxwd hG.wd,by omega,by omega⟩
 ·rw [hf.traces] at hx
  have:=hG.base.tr a x hx
  omega
 ·have:=hf.invs hG.base.inv p
  omega
theorem rd_sim {m n p:Nat} {c:CallD} {h:RHand} {o:(maxS m).ω} {r:RWD} {x:RdD} {wd:WD} (hT:TrOk wd) (hW:MxWd m wd) (hn0:0<wd.now) (hn9:wd.now<=65537) (hrel:(maxSim m).Rel o r p c h (.rd x)) (hrw:RwSim n r wd):StepSim (maxSim m) n p c h o r (.rd x) wd (rmaxDo m c (h.tape p) r):=by
 obtain⟨htl,hdp,h1,hl,hres⟩:=hrel
 rw [rmax_rd h1]
 obtain⟨L,hL⟩:∃ L,x.y.left=L+1:=⟨x.y.left - 1,by omega⟩
 rw [hL] at hres
 obtain⟨t1,ht1,hret,hacc⟩:=Pg.step (P:=mxPg m c) (h:=h) (p:=p) (r:=r) (kd:=0) (a:=((0+x.y.k - 1:Nat):Int)) (x:=0) (y:=0) (eff:=id) hdp hres
 have hg:=read_got hrw (0+x.y.k - 1)
 have hsim:=read_sim hrw (0+x.y.k - 1)
 obtain⟨g,hgg⟩:∃ g,g=taGot wd (0+x.y.k - 1):=⟨_,rfl⟩
 have hg1:g<=1:=by rw [hgg];exact got_le1 hW _
 rw [<-hgg] at hg
 rw [hg] at ht1 hret hacc
 have hturn:rdTurn wd 0 x.y=decide (g=1):=by rw [hgg];rfl
 obtain⟨hs1,hs2⟩:=Pg.res_snoc h.got (mxPg m c) g hres hdp
 have ht1f:t1.got=h.got++[g]/\t1.ticks=h.ticks++[(r.now:Int)]/\t1.halt=false/\t1.err=0/\t1.list=[]/\t1.at_=h.got.length+1:=by rw [ht1];exact⟨rfl,rfl,rfl,rfl,rfl,rfl⟩
 obtain⟨y',hy'⟩:∃ y',y'=(x.y.look wd).turn (decide (g=1)):=⟨_,rfl⟩
 have hyl:y'.left=L:=by rw [hy'];show x.y.left - 1=L;omega
 cases L with
 | zero=>
  have hst:rdStep 0 p wd x=(taRead wd (0+x.y.k - 1),⟨y',2*x.val+(decide (g=1)).toNat,wayKey 0 p (taRead wd (0+x.y.k - 1)) y'⟩,true):=by
   unfold rdStep
   rw [hturn,<-hy',if_neg (by rw [hyl];exact Nat.lt_irrefl 0)]
  have hS:(maxS m).step o wd p (.rd x)=((),(rdStep 0 p wd x).1,.rd (rdStep 0 p wd x).2.1,(rdStep 0 p wd x).2.2):=rfl
  rw [hst] at hS
  have hr:=hret (rdOut y'.turns (2*x.val+g % 2)) (by rw [hy'];rfl)
  rw [hr]
  have hlast:lastP t1=(wd.now:Int):=by
   unfold lastP
   rw [if_neg (by rw [ht1f.2.2.2.2.2];omega),ht1f.2.2.2.2.2,ht1f.2.1,Nat.add_sub_cancel,<-htl,List.getD_eq_getElem?_getD,List.getElem?_append_right (Nat.le_refl _),Nat.sub_self,<-hrw.now];rfl
  have hway:wayLast (taRead wd (0+x.y.k - 1)) p y'=(wd.now:Int):=by
   have e:y'.last=wd.now:=by rw [hy'];rfl
   unfold wayLast
   rw [e,if_neg (by omega)]
  have hout:rdOut y'.turns (2*x.val+g % 2) t1 (id { r with mem:=(memAcc r.mem 0 ((0+x.y.k - 1:Nat):Int) 0 0).1 })=⟨t1.err,2*x.val+g % 2,t1.list,mxKeyW (rSet { r with mem:=(memAcc r.mem 0 ((0+x.y.k - 1:Nat):Int) 0 0).1 } 0) y'.turns (lastP t1),t1.priv⟩:=if_neg (by rw [ht1f.2.2.1];exact Bool.false_ne_true)
  rw [hout]
  refine⟨by rw [hS];exact hsim,by rw [hS];rfl,by rw [hS];rfl,by rw [hS];exact ht1f.2.2.1,λ_=>⟨?_,?_,trivial⟩,λe=>by have e':t1.halt=true:=e;rw [ht1f.2.2.1] at e';cases e'⟩
  ·rw [hS]
   show(⟨t1.err,2*x.val+g % 2,t1.list⟩:AnsD)=⟨0,2*x.val+(decide (g=1)).toNat,[]⟩
   rw [ht1f.2.2.2.1,ht1f.2.2.2.2.1,bit1 hg1]
  ·rw [hS]
   show rkey _ p (mxKeyW _ y'.turns (lastP t1))=keyOf (taRead wd (0+x.y.k - 1)) p (wayKey 0 p (taRead wd (0+x.y.k - 1)) y')
   unfold wayKey
   rw [hway,hlast]
   exact key_same p hsim.tr hT (by omega) _
 | succ L=>
  have hst:rdStep 0 p wd x=(taRead wd (0+x.y.k - 1),⟨y',2*x.val+(decide (g=1)).toNat,x.ky⟩,false):=by
   unfold rdStep
   rw [hturn,<-hy',if_pos (by rw [hyl];exact Nat.succ_pos _)]
  have hS:(maxS m).step o wd p (.rd x)=((),(rdStep 0 p wd x).1,.rd (rdStep 0 p wd x).2.1,(rdStep 0 p wd x).2.2):=rfl
  rw [hst] at hS
  obtain⟨o2,hr⟩:=hacc 0 _ 0 0 id _ rfl
  rw [hr]
  refine⟨by rw [hS];exact hsim,by rw [hS];rfl,by rw [hS];rfl,by rw [hS];rfl,(λe=>by cases e),λ_=>⟨?_,trivial⟩⟩
  rw [hS]
  show t1.ticks.length=t1.got.length/\(mxPg m c).deep t1.got/\c.kind=1/\0<y'.left/\(mxPg m c).res t1.got=rdPg 0 rdK y'.left y'.k y'.turns (2*x.val+(decide (g=1)).toNat)
  rw [ht1f.1,ht1f.2.1]
  refine⟨by rw [List.length_append,List.length_append,htl];rfl,hs2,h1,by omega,?_⟩
  rw [hs1,hyl,bit1 hg1,hy'];rfl
theorem wr_end_sim {m n p:Nat} {c:CallD} {h:RHand} {o:(maxS m).ω} {r r2:RWD} {x x2:WrD} {wd wd2:WD} {t1:TapeP} {d:Nat} (hx:wrGo 0 wd x=(wd2,x2)) (hdone:x2.done=true) (hsim:RwSim n r2 wd2) (hT:TrOk wd2) (hinv:wd2.inv=wd.inv) (hmk:wd2.marks=wd.marks) (hn9:x2.y.last<=1000000)
  (hlast:lastAt d t1=wayLast wd2 p x2.y) (ht:t1.halt=false/\t1.err=0/\t1.val=0/\t1.list=[]) (hz:rmaxDo m c (h.tape p) r=(t1.out (wrOut x2.y.turns d t1 r2),r2)):StepSim (maxSim m) n p c h o r (.wr x) wd (rmaxDo m c (h.tape p) r):=by
 have hst:wrStep 0 p wd x=(wd2,{ x2 with ky:=wayKey 0 p wd2 x2.y },true):=by unfold wrStep;rw [hx,if_pos hdone]
 have hS:(maxS m).step o wd p (.wr x)=((),(wrStep 0 p wd x).1,.wr (wrStep 0 p wd x).2.1,(wrStep 0 p wd x).2.2):=rfl
 rw [hst] at hS
 rw [hz]
 have hout:wrOut x2.y.turns d t1 r2=⟨t1.err,t1.val,t1.list,mxKeyW (rSet r2 0) x2.y.turns (lastAt d t1),t1.priv⟩:=if_neg (by rw [ht.1];exact Bool.false_ne_true)
 rw [hout]
 refine⟨by rw [hS];exact hsim,by rw [hS];exact hinv,by rw [hS];show wd2.marks.length=_;rw [hmk],by rw [hS];exact ht.1,λ_=>⟨?_,?_,trivial⟩,λe=>by have e':t1.halt=true:=e;rw [ht.1] at e';cases e'⟩
 ·rw [hS]
  show(⟨t1.err,t1.val,t1.list⟩:AnsD)=⟨0,0,[]⟩
  rw [ht.2.1,ht.2.2.1,ht.2.2.2]
 ·rw [hS]
  show rkey r2 p (mxKeyW (rSet r2 0) x2.y.turns (lastAt d t1))=keyOf wd2 p (mxKey (mxSet wd2.traces 0) x2.y.turns (wayLast wd2 p x2.y))
  rw [hlast]
  refine key_same p hsim.tr hT ?_ _
  unfold wayLast
  split
  ·have:=hT.2 p;omega
  ·omega
theorem wr_go_sim {m n p:Nat} {c:CallD} {h:RHand} {o:(maxS m).ω} {r r2:RWD} {x x2:WrD} {wd wd2:WD} {t1:TapeP} {o2:OutP} {d:Nat} {g:Nat} (hx:wrGo 0 wd x=(wd2,x2)) (hdone:x2.done=false) (hsim:RwSim n r2 wd2) (hinv:wd2.inv=wd.inv) (hmk:wd2.marks=wd.marks)
  (hz:rmaxDo m c (h.tape p) r=(({ t1 with halt:=true }:TapeP).out o2,r2)) (ht:t1.got=h.got++[g]/\t1.ticks=h.ticks++[(r.now:Int)]) (htl:h.ticks.length=h.got.length) (hdp:(mxPg m c).deep (h.got++[g])) (h0:c.kind=0) (h2:c.a / 2^m=0) (hlive:wrLive x2) (hd:dOk d { h with got:=h.got++[g],ticks:=h.ticks++[(r.now:Int)] } x2.y.last)
  (e1:(mxPg m c).res (h.got++[g])=wrTree x2 (h.got.length+1) d) (e2:(ltPg m c).res (h.got++[g])=ltTree x2 (h.got.length+1) d):StepSim (maxSim m) n p c h o r (.wr x) wd (rmaxDo m c (h.tape p) r):=by
 have hst:wrStep 0 p wd x=(wd2,x2,false):=by unfold wrStep;rw [hx,if_neg (by rw [hdone];exact Bool.false_ne_true)]
 have hS:(maxS m).step o wd p (.wr x)=((),(wrStep 0 p wd x).1,.wr (wrStep 0 p wd x).2.1,(wrStep 0 p wd x).2.2):=rfl
 rw [hst] at hS
 rw [hz]
 refine⟨by rw [hS];exact hsim,by rw [hS];exact hinv,by rw [hS];show wd2.marks.length=_;rw [hmk],by rw [hS];rfl,(λe=>by cases e),λ_=>⟨?_,trivial⟩⟩
 rw [hS]
 show t1.ticks.length=t1.got.length/\(mxPg m c).deep t1.got/\c.kind=0/\c.a / 2^m=0/\wrLive x2/\∃ d,dOk d { h with got:=t1.got,ticks:=t1.ticks } x2.y.last/\(mxPg m c).res t1.got=wrTree x2 t1.got.length d/\(ltPg m c).res t1.got=ltTree x2 t1.got.length d
 rw [ht.1,ht.2]
 refine⟨by rw [List.length_append,List.length_append,htl];rfl,hdp,h0,h2,hlive,d,hd,?_,?_⟩
 ·rw [e1,List.length_append];rfl
 ·rw [e2,List.length_append];rfl
theorem dOk_old {d last:Nat} {h:RHand} (hd:dOk d h last) (g:Nat) (x:Int):dOk d { h with got:=h.got++[g],ticks:=h.ticks++[x] } last:=by
 rcases hd with hd|⟨h1,h2,h3,h4⟩
 ·exact .inl hd
 ·refine .inr ⟨h1,by show d<=(h.ticks++[x]).length;rw [List.length_append];omega,h3,?_⟩
  show(h.ticks++[x]).getD (d - 1) 0=_
  rw [<-h4,List.getD_eq_getElem?_getD,List.getD_eq_getElem?_getD,List.getElem?_append_left (by omega)]
theorem dOk_new {h:RHand} {now:Nat} (hn:0<now) (htl:h.ticks.length=h.got.length) (g:Nat):dOk (h.got.length+1) { h with got:=h.got++[g],ticks:=h.ticks++[(now:Int)] } now:=by
 refine .inr ⟨Nat.succ_pos _,by show _<=(h.ticks++[_]).length;rw [List.length_append,List.length_singleton,htl];exact Nat.le_refl _,hn,?_⟩
 show(h.ticks++[(now:Int)]).getD (h.got.length+1 - 1) 0=_
 rw [Nat.add_sub_cancel,<-htl,List.getD_eq_getElem?_getD,List.getElem?_append_right (Nat.le_refl _),Nat.sub_self];rfl
theorem dOk_last {d p:Nat} {h:RHand} {y:WayD} {wd:WD} {t:TapeP} (hd:dOk d h y.last) (ht:t.ticks=h.ticks) (hi:(t.inv:Int)=((wd.inv.getD p 0:Nat):Int)):lastAt d t=wayLast wd p y:=by
 unfold lastAt wayLast
 rcases hd with⟨h1,h2⟩|⟨h1,h2,h3,h4⟩
 ·rw [if_pos h1,if_pos h2,hi]
 ·rw [if_neg (by omega),if_neg (by omega),ht,h4]
theorem live_acc {x:WrD} (h:wrLive x) (j d:Nat):∃ kd a xx y eff k,wrTree x j d=.acc kd a xx y eff k:=by
 unfold wrLive at h
 unfold wrTree
 by_cases hu:x.up=true
 ·rw [if_pos hu] at h ⊢
  obtain⟨h1,h2⟩:=h
  obtain⟨M,hM⟩:∃ M,x.nx=M+1:=⟨x.nx - 1,by omega⟩
  rw [hM] at h2 ⊢
  rw [Nat.add_sub_cancel] at h2
  unfold upPg
  rw [if_pos h2]
  exact⟨_,_,_,_,_,_,rfl⟩
 ·rw [if_neg hu] at h ⊢
  obtain⟨n,h1,h2⟩:=h
  rw [h1]
  unfold dnPg
  rw [if_neg h2]
  exact⟨_,_,_,_,_,_,rfl⟩
theorem done_ret {x:WrD} (h:x.done=true) (j d:Nat):wrTree x j d=.ret (wrOut x.y.turns d):=by
 have h1:x.up=true/\x.nx=0:=by unfold WrD.done at h;simpa using h
 unfold wrTree
 rw [if_pos h1.1,h1.2];rfl
theorem wr_sim {m n p:Nat} {c:CallD} {h:RHand} {o:(maxS m).ω} {r:RWD} {x:WrD} {wd:WD} (hT:TrOk wd) (hW:MxWd m wd) (hn0:0<wd.now) (hn9:wd.now<=65537) (hok:WrOk m x) (hy9:x.y.last<=1000000) (hinv:h.inv=wd.inv.getD p 0) (hrel:(maxSim m).Rel o r p c h (.wr x)) (hrw:RwSim n r wd):StepSim (maxSim m) n p c h o r (.wr x) wd (rmaxDo m c (h.tape p) r):=by
 obtain⟨htl,hdp,h0,h2,hlive,d,hd,hres,hlt⟩:=hrel
 have hrun:=rmax_wr (m:=m) (t:=h.tape p) h0 h2 r ⟨rfl,Nat.zero_le _,htl⟩ rfl rfl
 by_cases hu:x.up=true
 ·-- up
  have hl1:1<=x.nx/\(x.y.turns.getD (x.nx - 1) (0,false)).2=true:=by
   have:=hlive;unfold wrLive at this;rw [if_pos hu] at this;exact this
  obtain⟨N,hN⟩:∃ N,x.nx=N+1:=⟨x.nx - 1,by omega⟩
  have hNl:N<x.y.turns.length:=by have:=hok.up hu;omega
  rw [hN,Nat.add_sub_cancel] at hl1
  have hw0:wrTree x h.got.length d=.acc 1 ((0+wrK x - 1:Nat):Int) 1 0 (mxNote (0+wrK x - 1)) λ_=>upPg 0 (wrKK x.y.turns d) x.y.turns N:=by
   unfold wrTree
   rw [if_pos hu,hN]
   show(if (x.y.turns.getD N (0,false)).2=true then _ else _)=_
   rw [if_pos hl1.2]
   unfold wrK
   rw [hN,Nat.add_sub_cancel]
  rw [hw0] at hres
  have hkr:1<=wrK x/\wrK x<2^m:=by
   unfold wrK
   rw [hN,Nat.add_sub_cancel]
   exact hok.way.tk _ (by rw [List.getD_eq_getElem?_getD,List.getElem?_eq_getElem hNl];exact List.getElem_mem _)
  obtain⟨t1,ht1,hret,hacc⟩:=Pg.step (P:=mxPg m c) (h:=h) (p:=p) (r:=r) hdp hres
  obtain⟨hs1,hs2⟩:=Pg.res_snoc h.got (mxPg m c) 0 hres hdp
  have hsim:=put_sim hrw hW hkr
  obtain⟨r2,hr2⟩:∃ r2,r2=mxNote (0+wrK x - 1) { r with mem:=memWrite r.mem ((0+wrK x - 1:Nat):Int) 1 }:=⟨_,rfl⟩
  rw [<-hr2] at hsim
  have hr2':mxNote (0+wrK x - 1) { r with mem:=(memAcc r.mem 1 ((0+wrK x - 1:Nat):Int) 1 0).1 }=r2:=by rw [hr2];rfl
  have hgo:wrGo 0 wd x=(mxPut 0 (wrK x) wd,{ x with nx:=mxSkip x.y.turns N }):=by
   unfold wrGo;rw [if_pos hu,hN,Nat.add_sub_cancel]
  have hput:TrOk (mxPut 0 (wrK x) wd):=hT.put (by omega) 0 _
  have ht1f:t1.got=h.got++[0]/\t1.ticks=h.ticks++[(r.now:Int)]/\t1.halt=false/\t1.err=0/\t1.val=0/\t1.list=[]/\t1.inv=h.inv:=by rw [ht1];exact⟨rfl,rfl,rfl,rfl,rfl,rfl,rfl⟩
  have hd2:=dOk_old hd 0 (r.now:Int)
  rw [hr2'] at hret hacc
  have hup2:upPg 0 (wrKK x.y.turns d) x.y.turns N=wrTree { x with nx:=mxSkip x.y.turns N } (h.got.length+1) d:=by
   rw [upPg_skip]
   unfold wrTree
   rw [if_pos hu]
  by_cases hdn:mxSkip x.y.turns N=0
  ·have hr:=hret (wrOut x.y.turns d) (by rw [upPg_skip,hdn];rfl)
   refine wr_end_sim hgo (by show(x.up && decide (mxSkip x.y.turns N=0))=true;rw [hu,hdn];rfl) hsim hput rfl rfl hy9 ?_ ⟨ht1f.2.2.1,ht1f.2.2.2.1,ht1f.2.2.2.2.1,ht1f.2.2.2.2.2.1⟩ (hrun.trans hr)
   exact dOk_last (h:={ h with got:=h.got++[0],ticks:=h.ticks++[(r.now:Int)] }) hd2 ht1f.2.1 (by rw [ht1f.2.2.2.2.2.2,hinv];rfl)
  ·have hrt:=mxSkip_right x.y.turns N (by omega)
   obtain⟨M,hM⟩:∃ M,mxSkip x.y.turns N=M+1:=⟨mxSkip x.y.turns N - 1,by omega⟩
   have hcon:∃ eff k a,upPg 0 (wrKK x.y.turns d) x.y.turns N=.acc 1 a 1 0 eff k:=by
    rw [upPg_skip,hM]
    unfold upPg
    rw [hM,Nat.add_sub_cancel] at hrt
    rw [if_pos hrt]
    exact⟨_,_,_,rfl⟩
   obtain⟨eff',k',a',hc'⟩:=hcon
   obtain⟨o2,hr⟩:=hacc _ _ _ _ _ _ hc'
   refine wr_go_sim (g:=0) hgo (by show(x.up && decide (mxSkip x.y.turns N=0))=false;rw [hu];simp [hdn]) hsim rfl rfl (hrun.trans hr) ⟨ht1f.1,ht1f.2.1⟩ htl hs2 h0 h2 ?_ hd2 (by rw [hs1,hup2]) ?_
   ·unfold wrLive
    rw [if_pos (show x.up=true from hu)]
    exact⟨by show 1<=mxSkip x.y.turns N;omega,hrt⟩
   ·have e1:ltTree x h.got.length d=ltK x.y.turns d:=by unfold ltTree;rw [if_pos hu]
    rw [e1] at hlt
    have e2:=Pg.res_ret h.got (ltPg m c) 0 hlt
    rw [e2]
    unfold ltTree
    rw [if_pos (show x.up=true from hu)];rfl
 ·-- down
  have hu':x.up=false:=by simpa using hu
  obtain⟨L,hL,hbit⟩:∃ n,x.y.left=n+1/\¬ x.v / 2^n % 2=1:=by
   have:=hlive;unfold wrLive at this;rw [if_neg hu] at this;exact this
  have hw0:wrTree x h.got.length d=.acc 0 ((0+x.y.k - 1:Nat):Int) 0 0 id λg=>if g=1 then wrPgK x.y.turns (h.got.length+1) else dnPg 0 x.v wrPgK L (2*x.y.k) (x.y.turns++[(x.y.k,false)]) (h.got.length+1) (h.got.length+1):=by
   unfold wrTree
   rw [if_neg hu,hL]
   show(if x.v / 2^L % 2=1 then _ else _)=_
   rw [if_neg hbit]
  have hl0:ltTree x h.got.length d=.acc 0 ((0+x.y.k - 1:Nat):Int) 0 0 id λg=>if g=1 then ltK x.y.turns (h.got.length+1) else dnPg 0 x.v ltK L (2*x.y.k) (x.y.turns++[(x.y.k,false)]) (h.got.length+1) (h.got.length+1):=by
   unfold ltTree
   rw [if_neg hu,hL]
   show(if x.v / 2^L % 2=1 then _ else _)=_
   rw [if_neg hbit]
  rw [hw0] at hres
  rw [hl0] at hlt
  obtain⟨t1,ht1,hret,hacc⟩:=Pg.step (P:=mxPg m c) (h:=h) (p:=p) (r:=r) hdp hres
  have hg:=read_got hrw (0+x.y.k - 1)
  have hsim:=read_sim hrw (0+x.y.k - 1)
  obtain⟨g,hgg⟩:∃ g,g=taGot wd (0+x.y.k - 1):=⟨_,rfl⟩
  rw [<-hgg] at hg
  rw [hg] at ht1 hret hacc
  obtain⟨hs1,hs2⟩:=Pg.res_snoc h.got (mxPg m c) g hres hdp
  have hs3:=Pg.res_acc h.got (ltPg m c) g hlt
  have ht1f:t1.got=h.got++[g]/\t1.ticks=h.ticks++[(r.now:Int)]/\t1.halt=false/\t1.err=0/\t1.val=0/\t1.list=[]/\t1.inv=h.inv:=by rw [ht1];exact⟨rfl,rfl,rfl,rfl,rfl,rfl,rfl⟩
  obtain⟨x2,hx2⟩:∃ x2,x2=(wrGo 0 wd x).2:=⟨_,rfl⟩
  have hgo:wrGo 0 wd x=(taRead wd (0+x.y.k - 1),x2):=by
   rw [hx2]
   unfold wrGo
   rw [if_neg hu]
   split<;>rfl
  have key:wrTree x2 (h.got.length+1) (h.got.length+1)=(if g=1 then wrPgK x.y.turns (h.got.length+1) else dnPg 0 x.v wrPgK L (2*x.y.k) (x.y.turns++[(x.y.k,false)]) (h.got.length+1) (h.got.length+1))/\ltTree x2 (h.got.length+1) (h.got.length+1)=(if g=1 then ltK x.y.turns (h.got.length+1) else dnPg 0 x.v ltK L (2*x.y.k) (x.y.turns++[(x.y.k,false)]) (h.got.length+1) (h.got.length+1))/\x2.y.last=wd.now/\(x2.done=false->wrLive x2):=by
   rw [hx2]
   unfold wrGo
   rw [if_neg hu,<-hgg]
   by_cases hg1:g=1
   ·rw [if_pos hg1,if_pos hg1,if_pos hg1]
    obtain⟨f1,f2⟩:=fin_tree { x with y:=x.y.look wd } (h.got.length+1) (h.got.length+1)
    exact⟨f1,f2,rfl,fin_live _⟩
   ·rw [if_neg hg1,if_neg hg1,if_neg hg1]
    obtain⟨f1,f2⟩:=down_tree (x:={ x with y:=(x.y.look wd).turn false }) hu' (h.got.length+1) (h.got.length+1)
    have e:((x.y.look wd).turn false).left=L:=by show x.y.left - 1=L;omega
    refine⟨f1.trans ?_,f2.trans ?_,WrD.down_last _,down_live hu'⟩
    ·show dnPg 0 x.v wrPgK ((x.y.look wd).turn false).left _ _ _ _=_
     rw [e];rfl
    ·show dnPg 0 x.v ltK ((x.y.look wd).turn false).left _ _ _ _=_
     rw [e];rfl
  obtain⟨q1,q2,q3,q4⟩:=key
  rw [<-q1] at hret hacc hs1
  rw [<-q2] at hs3
  have hd2:dOk (h.got.length+1) { h with got:=h.got++[g],ticks:=h.ticks++[(r.now:Int)] } x2.y.last:=by rw [q3,hrw.now];exact dOk_new hn0 htl g
  cases hdn:x2.done with
  | true=>
   have hr:=hret (wrOut x2.y.turns (h.got.length+1)) (done_ret hdn _ _)
   refine wr_end_sim hgo hdn hsim hT rfl rfl (by omega) ?_ ⟨ht1f.2.2.1,ht1f.2.2.2.1,ht1f.2.2.2.2.1,ht1f.2.2.2.2.2.1⟩ (hrun.trans hr)
   exact dOk_last (h:={ h with got:=h.got++[g],ticks:=h.ticks++[(r.now:Int)] }) hd2 ht1f.2.1 (by rw [ht1f.2.2.2.2.2.2,hinv];rfl)
  | false=>
   obtain⟨kd',a',x',y',eff',k',hc'⟩:=live_acc (q4 hdn) (h.got.length+1) (h.got.length+1)
   obtain⟨o2,hr⟩:=hacc _ _ _ _ _ _ hc'
   exact wr_go_sim (g:=g) hgo hdn hsim rfl rfl (hrun.trans hr) ⟨ht1f.1,ht1f.2.1⟩ htl hs2 h0 h2 (q4 hdn) hd2 hs1 hs3
end
section

/- A max register in the reference's play: the key of one that has not responded. -/
open Go.RowKit
variable {B:RBase} {w w':World} {t:TapeP} {r:RWD}
def LatePost (B:RBase) (t:TapeP) (r:RWD) (l:List Int) (e:Ending) (w':World):Prop:=∃ v t',e=.returned v/\RAtL B w' t' r v l/\t'.thread=t.thread/\t'.inv=t.inv/\t'.got=t.got/\t'.ticks=t.ticks
set_option maxHeartbeats 8000000 in
theorem late_fn (m:Nat) (hm:m<=12) (sQ:Int) (c:CallD) (hc:CallOk c) (hd:RHand) (hinv:t.inv=hd.inv) (hgot:t.got=hd.got) (htk:t.ticks=hd.ticks) (h:RAt B w t r) :
  Calls Tryz.prog 71 #[.pointer (some ⟨B.I.tb,B.I.pre.length,none⟩),.int .i64 0,.agg #[.int .i64 4,.int .i64 (m:Int),.int .i64 sQ],.agg #[.int .i64 c.thread,.int .i64 0,.int .i64 c.kind,.int .u64 (c.a:Int),.int .u64 (c.b:Int),.int .u64 (c.c:Int)]] w λe u=>LatePost B t r (rmaxLate m c t.thread hd r) e u:=by
 obtain⟨wb,hwb,hg,hS,hC⟩:=do_boxes w 4 (m:Int) sQ c.thread c.kind c.a c.b c.c
 have hA:=h.grown hg
 have s1:wb.cell? ⟨w.heap.size,1,none⟩=some (.int .i64 (m:Int)):=by rw [cell_blk hS];rfl
 have y2:wb.cell? ⟨w.heap.size+1,2,none⟩=some (.int .i64 c.kind):=by rw [cell_blk hC];rfl
 have y3:wb.cell? ⟨w.heap.size+1,3,none⟩=some (.int .u64 (c.a:Int)):=by rw [cell_blk hC];rfl
 obtain⟨E,hE⟩:∃ E,E=rmaxLate m c t.thread hd r:=⟨_,rfl⟩
 rw [<-hE]
 obtain⟨th,ob,kd,xa,xb,xc⟩:=c
 simp only at *
 have Hwb:=Lib.hid hwb
 by_cases h0:kd=0
 ·obtain⟨t0,ht0⟩:∃ t0:TapeP,t0={ t with at_:=0,fresh:=false,halt:=false }:=⟨_,rfl⟩
  have p1:RAt B (wb.setCell ⟨B.I.tb,B.I.pre.length+5,none⟩ (.int .i64 0)) { t with at_:=0 } r:=hA.put (i:=5) (by omega) _ (λ_ _ _ _ _=>rfl) rfl rfl rfl rfl rfl (Nat.zero_le _) (λx y=>⟨x,y⟩)
  have p2:RAt B ((wb.setCell ⟨B.I.tb,B.I.pre.length+5,none⟩ (.int .i64 0)).setCell ⟨B.I.tb,B.I.pre.length+6,none⟩ (.bool false)) { t with at_:=0,fresh:=false } r:=p1.put (i:=6) (by omega) _ (λ_ _ _ _ _=>rfl) rfl rfl rfl rfl rfl (Nat.zero_le _) (λx y=>by cases x)
  have p3:RAt B (((wb.setCell ⟨B.I.tb,B.I.pre.length+5,none⟩ (.int .i64 0)).setCell ⟨B.I.tb,B.I.pre.length+6,none⟩ (.bool false)).setCell ⟨B.I.tb,B.I.pre.length+7,none⟩ (.bool false)) t0 r:=by rw [ht0];exact p2.put (i:=7) (by omega) _ (λ_ _ _ _ _=>rfl) rfl rfl rfl rfl rfl (Nat.zero_le _) (λx y=>by cases x)
  obtain⟨w3,hw3⟩:∃ w3,w3=(((wb.setCell ⟨B.I.tb,B.I.pre.length+5,none⟩ (.int .i64 0)).setCell ⟨B.I.tb,B.I.pre.length+6,none⟩ (.bool false)).setCell ⟨B.I.tb,B.I.pre.length+7,none⟩ (.bool false)):=⟨_,rfl⟩
  rw [<-hw3] at p3
  have DC:=down_w p3 0 (by omega) m hm xa hc.a
  have e0:t0=({ hd.tape t.thread with fresh:=false }:TapeP).out t.outs:=by
   rw [ht0]
   unfold TapeP.out TapeP.outs RHand.tape
   rw [<-hinv,<-hgot,<-htk]
  obtain⟨Z,hZ⟩:∃ Z,Z=dnRun 0 xa m 1 [] (t0.inv:Int) t0 r:=⟨_,rfl⟩
  rw [<-hZ] at DC
  have hi0:(t0.inv:Int)=(hd.inv:Int):=by rw [ht0,<-hinv]
  rw [hi0] at hZ
  obtain⟨o1,o2⟩:=dnRun_oldto 0 xa m 1 [] (hd.inv:Int) r (show t0.fresh=false by rw [ht0])
  rw [<-hZ] at o1 o2
  have hEZ:E=lateEnd 0 Z:=by
   rw [hE,hZ,e0,dnRun_out]
   unfold rmaxLate
   rw [if_neg (λx=>x h0)];rfl
  have hth:t0.thread=t.thread/\t0.inv=t.inv/\t0.got=t.got/\t0.ticks=t.ticks:=by rw [ht0];exact⟨rfl,rfl,rfl,rfl⟩
  have hq:Z.2.1.thread=t.thread/\Z.2.1.inv=t.inv/\Z.2.1.got=t.got/\Z.2.1.ticks=t.ticks:=⟨o1.thread.trans hth.1,o1.inv.trans hth.2.1,o1.got.trans hth.2.2.1,o1.ticks.trans hth.2.2.2⟩
  obtain⟨⟨ts,last⟩,t1,r1⟩:=Z
  obtain rfl:r1=r:=o2
  have HDC:=Lib.hid (show Calls Tryz.prog 96 #[.pointer (some ⟨B.I.tb,B.I.pre.length,none⟩),.int .i64 0,.int .i64 (m:Int),.int .u64 (xa:Int)] w3 λe w'=>DnPost B m ((ts,last),t1,r1) e w' from DC)
  have HE:=Lib.hid hEZ;have HQ:=Lib.hid hq
  have c5:=hA.cAt;have c6:=hA.cFresh;have c7:=hA.cHalt
  have f5:=hA.frozen (B.I.pre.length+5);have f6:=hA.frozen (B.I.pre.length+6);have f7:=hA.frozen (B.I.pre.length+7)
  have lS:=blk_lt hS;have lC:=blk_lt hC
  have ltb:=h.lt
  have n1:w.heap.size≠B.I.tb:=by omega
  have n2:w.heap.size+1≠B.I.tb:=by omega
  have hch:Chg (λq=>q=B.I.tb) wb w3:=by
   rw [hw3]
   exact Chg.setCell (S:=λq=>q=B.I.tb) (Chg.setCell (S:=λq=>q=B.I.tb) (Chg.setCell (S:=λq=>q=B.I.tb) (Chg.refl _ _) (.inl rfl) _) (.inl rfl) _) (.inl rfl) _
  have s13:=(hch.cell (p:=⟨w.heap.size,1,none⟩) lS n1).trans s1
  have y33:=(hch.cell (p:=⟨w.heap.size+1,3,none⟩) lC n2).trans y3
  have Hw3:=Lib.hid hw3
  subst h0
  clear hwb hg hS hC hA hE DC p1 p2 p3 hch hZ hi0 o1 hEZ hth hq e0 ht0 hinv hgot htk h hc hw3
  go_enter Tryz.func71,Tryz.ntmps71
  go_upto_region 1 with fail
  rw [<-Hwb.out]
  go_upto_region 6 with fail
  rw [<-Hw3.out]
  clear Hw3 Hwb c5 c6 c7 f5 f6 f7 s1 y2 y3
  go_upto_region 7 with(go_at_call 96;refine HDC.out.mono ?_;rintro e w4 ⟨tv,rfl,hO1,hrow1,hl1,hts1⟩;obtain⟨ta,tc,rfl⟩:=row_form hrow1;have HO1:=Lib.hid hO1;have Hrow1:=Lib.hid hrow1;have Hl1:=Lib.hid hl1;have Hts:=Lib.hid hts1;clear hO1 hrow1 hl1 hts1 HDC)
  obtain⟨tn,htn⟩:∃ tn,tn=ts.length:=⟨_,rfl⟩
  rw [<-htn]
  obtain⟨w5,hw5⟩:∃ w5,w5=w4.alloc (.cells #[.slice ta tn tc,.int .i64 last,.int .u64 0] 175):=⟨_,rfl⟩
  rw [<-hw5]
  obtain⟨bY,hbY⟩:∃ bY,bY=w4.heap.size:=⟨_,rfl⟩
  rw [<-hbY]
  have hY:w5.heap[bY]?=some (.cells #[.slice ta tn tc,.int .i64 last,.int .u64 ((0:Nat):Int)] 175 (0,0)):=by rw [hw5,hbY];exact heap_alloc_new _ _
  have hb12:Below w4.heap.size w4 w5:=by rw [hw5];exact Gr.new _ _
  have hrow2:=row_below Hrow1.out hb12
  have hlm:ts.length<=m:=Hl1.out
  have hts2:∀ x,x∈ts->1<=x.1/\x.1<=100000:=Hts.out
  have hW0:WyAt False w5 0 bY (.slice ta tn tc) ts last 0:=⟨λz=>z.elim,λz=>z.elim,hY,by rw [htn];exact hrow2⟩
  have hA5:RAt B w5 t1 r1:=(HO1.out.at).grown hb12
  have y0:w5.cell? ⟨bY,0,none⟩=some (.slice ta tn tc):=by rw [cell_blk hY];rfl
  have y1:w5.cell? ⟨bY,1,none⟩=some (.int .i64 last):=by rw [cell_blk hY];rfl
  have y2:w5.cell? ⟨bY,2,none⟩=some (.int .u64 0):=by rw [cell_blk hY];rfl
  have x7:=hA5.cHalt
  have htm:tn<=12:=by omega
  have Htn:=Lib.hid htn
  have hq:=HQ.out
  cases hh:t1.halt with
  | true=>
   rw [hh] at x7
   have Fin:=Lib.hid (show LatePost B t r1 E (.returned (.slice none 0 0)) w5 from⟨_,t1,rfl,by rw [HE.out];unfold lateEnd;rw [if_pos hh];exact hA5.nilL,hq⟩)
   clear hw5 hbY hY hb12 hrow2 hlm hts2 hW0 hA5 HO1 Hrow1 Hl1 hh hq htn
   go_wp2
   go_ret
   exact Fin.out
  | false=>
   rw [hh] at x7
   have hEl:E=if (ts.any λt=>t.2 && decide (rSet r1 0 t.1=0))=true then [] else mxKeyW (rSet r1 0) ts last:=by
    rw [HE.out];unfold lateEnd;rw [if_neg (by rw [hh];exact Bool.false_ne_true)]
   have SET:=Lib.hid (λ(k:Nat) (hk:1<=k) (hk2:k<=100000)=>(set_w hA5 0 k hk hk2 (by omega):Calls Tryz.prog 97 #[.pointer (some ⟨B.I.tb,B.I.pre.length,none⟩),.int .i64 0,.int .i64 (k:Int)] w5 λe w'=>e=.returned (.int .i64 (rSet r1 0 k))/\w5=w'))
   have NIL:=Lib.hid (λ(e:E=[])=>(⟨_,t1,rfl,by rw [e];exact hA5.nilL,hq⟩:LatePost B t r1 E (.returned (.slice none 0 0)) w5))
   have HEl:=Lib.hid hEl;have HW0:=Lib.hid hW0;have HA5:=Lib.hid hA5;have HQ:=Lib.hid hq;have Hts:=Lib.hid hts2;have Hrow2:=Lib.hid hrow2
   have hnI:(tn:Int)<=12:=by omega
   clear hw5 hbY hY hb12 hlm hts2 hW0 HO1 Hrow1 Hl1 hh hq htn hEl hA5 HE hrow2
   go_wp2
   go_loopw [37] (λi wr=>∃ j:Nat,j<=tn/\i=.int .i64 (j:Int)/\w5=wr/\∀ q,q<j->((ts.getD q (0,false)).2 && decide (rSet r1 0 (ts.getD q (0,false)).1=0))=false) (λi _=>tn - (intOf i).toNat)
   case atStart=>exact⟨0,Nat.zero_le _,rfl,rfl,λq hq=>absurd hq (Nat.not_lt_zero q)⟩
   case round=>
    obtain⟨j,hj,rfl,rfl,hno⟩:=hrel
    by_cases hlt:j<tn
    ·have l1:(j:Int)<(tn:Int):=by omega
     have l3:¬ (j:Int)<0:=by omega
     have l4:(0:Int)<=(j:Int):=by omega
     have wj:IntKind.i64.wrap ((j:Int)+1)=(j:Int)+1:=by rw [IntKind.wrap_i64];omega
     obtain⟨q,o,rfl,c0⟩:=wy_get HW0.out Htn.out (by omega) j hlt
     have tk:=Hts.out (ts.getD j (0,false)) (by
      have hn':j<ts.length:=by have:=Htn.out;omega
      rw [List.getD_eq_getElem?_getD,List.getElem?_eq_getElem hn'];exact List.getElem_mem _)
     have hany:((ts.getD j (0,false)).2 && decide (rSet r1 0 (ts.getD j (0,false)).1=0))=true->E=[]:=λh9=>by
      rw [HEl.out,if_pos (any_at (λt:Nat×Bool=>t.2 && decide (rSet r1 0 t.1=0)) ts (0,false) j (by have:=Htn.out;omega) h9)]
     have hnx:((ts.getD j (0,false)).2 && decide (rSet r1 0 (ts.getD j (0,false)).1=0))=false->∀ q,q<j+1->((ts.getD q (0,false)).2 && decide (rSet r1 0 (ts.getD q (0,false)).1=0))=false:=λh9 q hq=>by
      by_cases e:q=j
      ·rw [e];exact h9
      ·exact hno q (by omega)
     obtain⟨kr,hkr⟩:∃ kr,kr=ts.getD j (0,false):=⟨_,rfl⟩
     rw [<-hkr] at c0 tk hany hnx
     obtain⟨k,rt⟩:=kr
     simp only at c0 tk hany hnx
     obtain⟨tk1,tk2⟩:=tk
     have Hno:=Lib.hid hno
     clear hkr hno
     cases rt with
     | false=>
      rw [if_neg Bool.false_ne_true] at c0
      have k1:¬ (k:Int)<0:=by omega
      have Hnx:=Lib.hid (hnx rfl)
      clear hnx hany tk1 tk2
      go_wp2
      go_roundw
      case rel=>exact⟨j+1,by omega,by go_num,(by trivial),Hnx.out⟩
      case measure=>simp [intOf]<;>omega
     | true=>
      rw [if_pos rfl] at c0
      have k1:-(k:Int)<0:=by omega
      have k2:IntKind.i64.wrap (k:Int)=(k:Int):=by rw [IntKind.wrap_i64];omega
      have SV:=SET.out k tk1 tk2
      obtain⟨sv,hsv⟩:∃ sv,sv=rSet r1 0 k:=⟨_,rfl⟩
      rw [<-hsv] at SV hnx hany
      have HSV:=Lib.hid SV
      clear SV hsv tk1 tk2
      by_cases hs0:sv=0
      ·have Fin:=Lib.hid (NIL.out (hany (by rw [hs0];rfl)))
       have l6:(sv == 0)=true:=by rw [hs0];rfl
       clear hany hnx NIL
       go_wp2_with (go_at_call 97;refine HSV.out.mono ?_;rintro e w6 ⟨rfl,rfl⟩)
       go_ret
       exact Fin.out
      ·have Hnx:=Lib.hid (hnx (by simp [hs0]))
       have l6:(sv == 0)=false:=by simp [hs0]
       clear hany hnx NIL
       go_wp2_with (go_at_call 97;refine HSV.out.mono ?_;rintro e w6 ⟨rfl,rfl⟩)
       go_roundw
       case rel=>exact⟨j+1,by omega,by go_num,(by trivial),Hnx.out⟩
       case measure=>simp [intOf]<;>omega
    ·have l1:¬ (j:Int)<(tn:Int):=by omega
     obtain rfl:j=tn:=by omega
     have hEk:E=mxKeyW (rSet r1 0) ts last:=by
      rw [HEl.out,if_neg (by rw [any_none (λt:Nat×Bool=>t.2 && decide (rSet r1 0 t.1=0)) ts (0,false) (λq hq=>hno q (by have:=Htn.out;omega))];exact Bool.false_ne_true)]
     have hsl:=(row_sl Hrow2.out (by have:=Htn.out;unfold maxLen;omega) (g:=intG (tnI ts)) (λq hq=>by
      have hq':q<(tnI ts).length:=by rw [tnI,List.length_map];exact hq
      simp only [intG,List.getElem?_map,List.getD_eq_getElem?_getD,List.getElem?_eq_getElem hq'];rfl)).1
     have KC:=key_w HA5.out 0 (by omega) ts Hts.out (by have:=Htn.out;omega) last 0 ta tc (by rw [<-Htn.out] at hsl ⊢;exact hsl)
     rw [<-hEk,<-Htn.out] at KC
     have hkl:=mxKeyW_len (rSet r1 0) last ts
     rw [<-hEk] at hkl
     have HKC:=Lib.hid (show Calls Tryz.prog 98 #[.pointer (some ⟨B.I.tb,B.I.pre.length,none⟩),.int .i64 0,.agg #[.slice ta j tc,.int .i64 last,.int .u64 0]] w5 λe w'=>∃ g c,e=.returned (.slice (some ⟨g,0,none⟩) E.length c)/\SlAt w' (some ⟨g,0,none⟩) E.length 1 (intG E)/\w5.heap.size<=g/\Below w5.heap.size w5 w' from KC)
     have NEW:=Lib.hid (λ(g c:Nat) (w6:World) (hs:SlAt w6 (some ⟨g,0,none⟩) E.length 1 (intG E)) (hg:w5.heap.size<=g) (hb:Below w5.heap.size w5 w6)=>(⟨_,t1,rfl,HA5.out.newL hb (a:=some ⟨g,0,none⟩) (c:=c) (l:=E) hs (λe=>by rw [e] at hkl;exact absurd hkl.1 (by decide)) (λb' off e=>by cases e;exact hg),HQ.out⟩:LatePost B t r1 E (.returned (.slice (some ⟨g,0,none⟩) E.length c)) w6))
     clear hEk hsl KC hkl hno NIL SET
     go_wp2_with (go_at_call 98;refine HKC.out.mono ?_;rintro e w6 ⟨g,c,rfl,hs4,hg4,hb4⟩;have N4:=Lib.hid (NEW.out g c w6 hs4 hg4 hb4);clear hs4 hg4 hb4 NEW)
     go_ret
     exact N4.out
 ·have hE1:E=[]:=by rw [hE];unfold rmaxLate;rw [if_pos h0]
  have Fin:=Lib.hid (show LatePost B t r E (.returned (.slice none 0 0)) wb from⟨_,t,rfl,by rw [hE1];exact hA.nilL,rfl,rfl,rfl,rfl⟩)
  have l0:(kd == 0)=false:=by simp [h0]
  clear hwb hg hS hC h hA hE hE1 hc hinv hgot htk
  go_enter Tryz.func71,Tryz.ntmps71
  go_upto_region 1 with fail
  rw [<-Hwb.out]
  go_wp2
  go_ret
  exact Fin.out
end
end Go.Proofs.YteffgpcjfnjlkaaGreat
