/- Layer 27: what the walks of the reference's objects share. -/
import Derived.Test.YtifhldnmcdbpfaaU37
import Derived.Test.YtifhldnmcdbpfaaU17
import Derived.Test.YtifhldnmcdbpfaaU14
import Derived.Test.YtifhldnmcdbpfaaU18
import Derived.Test.YtifhldnmcdbpfaaU36
import Derived.Test.YtifhldnmcdbpfaaU35
set_option maxRecDepth 100000
set_option linter.unusedVariables false
set_option linter.unusedSimpArgs false
set_option linter.unnecessarySimpa false
namespace Go.Proofs.Ytifhldnmcdbpfaa
section
open Go.RowKit
theorem TE {w1:World} {b:Nat} {y0 y1 y2:Value} {T:TypeId} (h:w1.heap[b]?=some (.cells #[y0,y1,y2] T (0,0))) (x0 x1 x2:Value) :
  (((w1.setCell ⟨b,0,none⟩ x0).setCell ⟨b,1,none⟩ x1).setCell ⟨b,2,none⟩ x2).heap[b]?=some (.cells #[x0,x1,x2] T (0,0))/\Chg (λk=>k=b) w1 (((w1.setCell ⟨b,0,none⟩ x0).setCell ⟨b,1,none⟩ x1).setCell ⟨b,2,none⟩ x2)/\(((w1.setCell ⟨b,0,none⟩ x0).setCell ⟨b,1,none⟩ x1).setCell ⟨b,2,none⟩ x2).heap.size=w1.heap.size:=by
 refine⟨?_,(((Chg.refl (λk=>k=b) w1).setCell (p:=⟨b,0,none⟩) (.inl rfl) _).setCell (p:=⟨b,1,none⟩) (.inl rfl) _).setCell (p:=⟨b,2,none⟩) (.inl rfl) _,by simp [World.setCell]⟩
 rw [aG (aG (aG h _ _) _ _) _ _];rfl
end
section
open Go.RowKit
variable {n k:Nat} {calls:List aF}
structure VC (n k:Nat) (calls:List aF) (evs:List EvD):Prop where
 call:∀ i,i<evs.length->(aB evs i).call<calls.length
 steps:∀ i,i<evs.length->(aB evs i).steps<=n+k+1/\(kindOf calls (aB evs i)=1->(aB evs i).steps<=k+2)
 list:∀ i,i<evs.length->(aB evs i).resp≠0->bY calls (aB evs i)=0->kindOf calls (aB evs i)=1->(aB evs i).ans.list.length=k/\AO k calls (λa=>(aB evs i).ans.list.getD a 0)
end
section
open Go.RowKit
variable {n k:Nat} {calls:List aF}
theorem VW (a b:Int):bT [a] [b]=decide (a<b):=by
 unfold bT
 split
 ·rename_i h;subst h;unfold bT;simp
 ·rfl
end
section
open Go.RowKit
theorem jK {st:List Nat} {j:Nat} (h:j<st.length):(st.map cZ)[j]?=some (.int .u64 ((st.getD j 0:Nat):Int)):=by
 simp [List.getD_eq_getElem?_getD,h,cZ]
theorem JM {w:World} {B q n cp:Nat} {l:List Nat} (h:w.ownsRow B 40 1 (.slice (some ⟨q,0,none⟩) n cp) n (l.map cZ)) (hn:n=l.length) (hm:n<=1000000):aW w (some ⟨q,0,none⟩) l.length 1 (dY l):=by
 subst hn
 obtain⟨a,c,e,h1,_⟩:=nJ (g:=dY l) h (by unfold maxLen;omega) (λj hj=>jK hj)
 cases e
 exact h1
end
section
open Go.RowKit
variable {n k:Nat} {calls:List aF}
def wV (m most n:Nat) (st:List Nat) (c:aF) (a b:Nat):List Nat×lU:=
 if c.kind=1 then (st,⟨0,0,st.take m⟩) else if c.kind≠0 then (st,⟨9,0,[]⟩) else if m<=a then (st,⟨10,0,[]⟩) else if c.thread<0∨(n:Int)<=c.thread∨most<=st.getD (m+c.thread.toNat) 0 then (st,⟨6,0,[]⟩) else ((st.set a b).set (m+c.thread.toNat) (st.getD (m+c.thread.toNat) 0+1),⟨0,0,[]⟩)
theorem AF {m most n:Nat} {st:List Nat} {c:aF} {a b:Nat} (h:c.kind=1):wV m most n st c a b=(st,⟨0,0,st.take m⟩):=if_pos h
theorem BI {m most n:Nat} {st:List Nat} {c:aF} {a b:Nat} (h1:¬ c.kind=1) (h:c.kind≠0):wV m most n st c a b=(st,⟨9,0,[]⟩):=(if_neg h1).trans (if_pos h)
theorem xM {m most n:Nat} {st:List Nat} {c:aF} {a b:Nat} (h:c.kind=0) (ha:m<=a):wV m most n st c a b=(st,⟨10,0,[]⟩):=(if_neg (by rw [h];decide)).trans ((if_neg (λx=>x h)).trans (if_pos ha))
theorem CB {m most n:Nat} {st:List Nat} {c:aF} {a b:Nat} (h:c.kind=0) (ha:¬ m<=a) (ht:c.thread<0∨(n:Int)<=c.thread∨most<=st.getD (m+c.thread.toNat) 0):wV m most n st c a b=(st,⟨6,0,[]⟩):=(if_neg (by rw [h];decide)).trans ((if_neg (λx=>x h)).trans ((if_neg ha).trans (if_pos ht)))
theorem BG {m most n:Nat} {st:List Nat} {c:aF} {a b:Nat} (h:c.kind=0) (ha:¬ m<=a) (ht:¬ (c.thread<0∨(n:Int)<=c.thread∨most<=st.getD (m+c.thread.toNat) 0)):wV m most n st c a b=((st.set a b).set (m+c.thread.toNat) (st.getD (m+c.thread.toNat) 0+1),⟨0,0,[]⟩):=(if_neg (by rw [h];decide)).trans ((if_neg (λx=>x h)).trans ((if_neg ha).trans (if_neg ht)))
theorem zH (m most n:Nat) (st:List Nat) (c:aF) (a b:Nat):(wV m most n st c a b).1.length=st.length:=by
 unfold wV
 split
 ·rfl
 ·split
  ·rfl
  ·split
   ·rfl
   ·split
    ·rfl
    ·simp
theorem rP (ap:List Nat->aF->List Nat×lU) (calls:List aF) (evs:List EvD):∀(l:List Nat) (st:List Nat) (i:Nat),iT ap calls evs st (l++[i])=if (calls.getD (aB evs i).call d0).obj≠0 then iT ap calls evs st l else (ap (iT ap calls evs st l) (calls.getD (aB evs i).call d0)).1
 | [],_,_=>rfl
 | j::l,st,i=>rP ap calls evs l _ i
def TV (calls:List aF) (evs:List EvD) (l:List Nat) (t:Nat):Option Nat->Prop
 | none=>∀ j,j∈l->¬ (piW calls (aB evs j)/\yP (calls.getD (aB evs j).call d0)=t)
 | some j=>j∈l/\piW calls (aB evs j)/\yP (calls.getD (aB evs j).call d0)=t/\∀ j',j'∈l->piW calls (aB evs j')->yP (calls.getD (aB evs j').call d0)=t->(aB evs j').resp<=(aB evs j).resp
structure SnD (n:Nat) (calls:List aF) (evs:List EvD) (l:List Nat) (F:List Nat):Prop where
 len:F.length=2*n
 cntl:∀ t,t<n->F.getD (n+t) 0=(l.filter λj=>isU calls t (aB evs j)).length
 last:∀ t,t<n->∃ oj,TV calls evs l t oj/\F.getD t 0=valOf calls gV evs oj
theorem TC (a b c:Int):bT [a] [b,c]=decide (a<=b):=by
 unfold bT
 split
 ·rename_i h;subst h;unfold bT;simp
 ·rename_i h
  by_cases h2:a<b
  ·rw [decide_eq_true h2,decide_eq_true (by omega)]
  ·rw [decide_eq_false h2,decide_eq_false (by omega)]
end
section
open Go.RowKit
def fT (L q cp:Nat) (ar:List Nat×lU) (w1 w':World) (e:Ending):Prop:=
 ∃ la lc,e=.returned (.tuple #[.slice (some ⟨q,0,none⟩) L cp,gF ar.2.err ar.2.val (.slice la ar.2.list.length lc)])/\Chg (λb=>b=q) w1 w'/\aW w' la ar.2.list.length 1 (dY ar.2.list)/\aW w' (some ⟨q,0,none⟩) ar.1.length 1 (dY ar.1)/\(∀ b off,la=some ⟨b,off,none⟩->w1.heap.size<=b)
theorem NM {w:World} {B q n cp:Nat} {xs:List Value} {e:TypeId} (h:w.ownsRow B e 1 (.slice (some ⟨q,0,none⟩) n cp) n xs):n<=cp:=by
 rcases h.2 with⟨h1,_⟩|⟨g,cap,cur,h1,_,_,h2,_⟩
 ·cases h1
 ·cases h1;exact h2
set_option maxHeartbeats 8000000 in
theorem QT (m most n L:Nat) (hm1:1<=m) (hm:m<=16) (hmost:most<=64) (hn:n<=16) (hL:L=m+n) (w1:World) (B q cp:Nat) (st:List Nat) (hst:st.length=L) (x y:aF) (hok:iJ x) (hoky:iJ y) (hr:w1.ownsRow B 40 1 (.slice (some ⟨q,0,none⟩) L cp) L (st.map cZ)) (hql:q<w1.heap.size) :
  Calls Try.prog 73 #[.int .i64 (m:Int),.int .i64 (most:Int),.int .i64 (n:Int),.slice (some ⟨q,0,none⟩) L cp,.int .i64 x.thread,fG x,fG y] w1 λe w'=>fT L q cp (wV m most n st x y.a y.b) w1 w' e:=by
 obtain⟨th,ob,kd',ca,cb,cc⟩:=x
 obtain⟨thy,oby,kdy,cay,cby,ccy⟩:=y
 have hca:cay<18446744073709551616:=hoky.a
 have hcp:=NM hr
 unfold fG
 simp only
 obtain⟨wa,hwa⟩:∃ wa,wa=((w1.alloc (.cells #[.int .i64 th,.int .i64 ob,.int .i64 kd',.int .u64 (ca:Int),.int .u64 (cb:Int),.int .u64 (cc:Int)] 46)).alloc (.cells #[.int .i64 thy,.int .i64 oby,.int .i64 kdy,.int .u64 (cay:Int),.int .u64 (cby:Int),.int .u64 (ccy:Int)] 46)).alloc (.cells #[.int .i64 0,.int .u64 0,.slice none 0 0] 42):=⟨_,rfl⟩
 have hga:Below w1.heap.size w1 wa:=by rw [hwa];exact iG w1 [_,_,_]
 have hsz:wa.heap.size=w1.heap.size+3:=by rw [hwa];simp
 have s0:wa.heap[w1.heap.size]?=some (.cells #[.int .i64 th,.int .i64 ob,.int .i64 kd',.int .u64 (ca:Int),.int .u64 (cb:Int),.int .u64 (cc:Int)] 46 (0,0)):=by rw [hwa];exact dE [_,_,_] w1 0 _ rfl
 have s1:wa.heap[w1.heap.size+1]?=some (.cells #[.int .i64 thy,.int .i64 oby,.int .i64 kdy,.int .u64 (cay:Int),.int .u64 (cby:Int),.int .u64 (ccy:Int)] 46 (0,0)):=by rw [hwa];exact dE [_,_,_] w1 1 _ rfl
 have s2:wa.heap[w1.heap.size+2]?=some (.cells #[.int .i64 0,.int .u64 0,.slice none 0 0] 42 (0,0)):=by rw [hwa];exact dE [_,_,_] w1 2 _ rfl
 have hrow:wa.ownsRow B 40 1 (.slice (some ⟨q,0,none⟩) L cp) L (st.map cZ):=gK hr hga
 have c2:wa.cell? ⟨w1.heap.size,2,none⟩=some (.int .i64 kd'):=by rw [aA s0];rfl
 have y3:wa.cell? ⟨w1.heap.size+1,3,none⟩=some (.int .u64 (cay:Int)):=by rw [aA s1];rfl
 have y4:wa.cell? ⟨w1.heap.size+1,4,none⟩=some (.int .u64 (cby:Int)):=by rw [aA s1];rfl
 have a0:wa.cell? ⟨w1.heap.size+1+1,0,none⟩=some (.int .i64 0):=by rw [show w1.heap.size+1+1=w1.heap.size+2 from rfl,aA s2];rfl
 have a1:wa.cell? ⟨w1.heap.size+1+1,1,none⟩=some (.int .u64 0):=by rw [show w1.heap.size+1+1=w1.heap.size+2 from rfl,aA s2];rfl
 have a2:wa.cell? ⟨w1.heap.size+1+1,2,none⟩=some (.slice none 0 0):=by rw [show w1.heap.size+1+1=w1.heap.size+2 from rfl,aA s2];rfl
 have f0:wa.frozen? ⟨w1.heap.size+1+1,0,none⟩=false:=aC s2 0
 have f1:wa.frozen? ⟨w1.heap.size+1+1,1,none⟩=false:=aC s2 1
 have f2:wa.frozen? ⟨w1.heap.size+1+1,2,none⟩=false:=aC s2 2
 have hlt2:w1.heap.size+1+1<wa.heap.size:=aH s2
 have fin:∀(wb:World) (er:Int) (vl:Nat) (sl:Value) (l:List Nat),l.length=L->Chg (λb=>b=q) wa wb->wb.ownsRow B 40 1 (.slice (some ⟨q,0,none⟩) L cp) L (l.map cZ)->∀ w',w'=(((wb.setCell ⟨w1.heap.size+1+1,0,none⟩ (.int .i64 er)).setCell ⟨w1.heap.size+1+1,1,none⟩ (.int .u64 (vl:Int))).setCell ⟨w1.heap.size+1+1,2,none⟩ sl)->
   w'.cell? ⟨w1.heap.size+1+1,0,none⟩=some (.int .i64 er)/\w'.cell? ⟨w1.heap.size+1+1,1,none⟩=some (.int .u64 (vl:Int))/\w'.cell? ⟨w1.heap.size+1+1,2,none⟩=some sl/\Chg (λb=>b=q) w1 w'/\aW w' (some ⟨q,0,none⟩) l.length 1 (dY l)/\Chg (λb=>b=w1.heap.size+2) wb w':=by
  intro wb er vl sl l hl hc hrw w' hw'
  have t2:=(hc.block _ (aH s2) (by omega)).trans s2
  obtain⟨t1,t3,_⟩:=TE t2 (.int .i64 er) (.int .u64 (vl:Int)) sl
  have t1':w'.heap[w1.heap.size+1+1]?=some (.cells #[.int .i64 er,.int .u64 (vl:Int),sl] 42 (0,0)):=by rw [hw'];exact t1
  have t3':Chg (λb=>b=w1.heap.size+2) wb w':=by rw [hw'];exact t3
  refine⟨by rw [aA t1'];rfl,by rw [aA t1'];rfl,by rw [aA t1'];rfl,?_,(JM hrw hl.symm (by omega)).chg t3' (λb off e h=>by cases e;omega),t3'⟩
  have h9:Chg (λb=>b=q∨w1.heap.size<=b) w1 w':=((Chg.of_below hga).trans (hc.mono (λb _ h=>.inl h))).trans (t3'.mono (λb _ h=>.inr (by omega)))
  exact h9.mono (λb hb h=>h.elim id (λh=>by omega))
 have wm:IntKind.u64.wrap (m:Int)=(m:Int):=by rw [IntKind.wrap_u64];omega
 have wmo:IntKind.u64.wrap (most:Int)=(most:Int):=by rw [IntKind.wrap_u64];omega
 have Fin:=Lib.hid fin;have Hwa:=Lib.hid hwa;have Hrow:=Lib.hid hrow;have Hsz:=Lib.hid hsz;have Hst:=Lib.hid hst;have S2:=Lib.hid s2;have Hga:=Lib.hid hga;have HL:=Lib.hid hL;have Hql:=Lib.hid hql
 clear hr hga s0 s1 s2 hrow fin hwa hok hoky hsz hst hL
 by_cases h1:kd'=1
 ·subst h1
  rw [AF (c:=⟨th,ob,1,ca,cb,cc⟩) rfl]
  clear y3 y4 wm wmo
  obtain⟨i0,hi,hz0,hz1,hz2⟩:=info_parts jN
  obtain⟨wn,hwn⟩:∃ wn,wn=wa.alloc (.cells #[] 40):=⟨_,rfl⟩
  have hgn:Below wa.heap.size wa wn:=by rw [hwn];exact Gr.new _ _
  have hown:wn.ownsRow wa.heap.size 40 1 (.slice (some ⟨wa.heap.size,0,none⟩) 0 0) 0 []:=⟨rfl,.inr ⟨wa.heap.size,0,#[],rfl,Nat.le_refl _,by rw [hwn];exact heap_alloc_new _ _,Nat.le_refl _,Nat.zero_le _,rfl,rfl⟩⟩
  have hrn:=gK Hrow.out hgn
  obtain⟨xs,hxs⟩:∃ xs,xs=(st.take m).map cZ:=⟨_,rfl⟩
  have hnew:∀ j w',xs[j]?=some w'->wn.cell? ((⟨q,0,none⟩:Addr).add j)=some w':=by
   intro j w' h
   rw [hxs] at h
   have hj:j<(st.take m).length:=by
    rcases Nat.lt_or_ge j (st.take m).length with h9|h9
    ·exact h9
    ·rw [List.getElem?_eq_none (by simpa using h9)] at h;cases h
   have hj2:j<m:=by rw [List.length_take] at hj;omega
   have ZP:j<st.length:=by rw [List.length_take] at hj;omega
   have h8:=(lX hrn (jK ZP)).1
   rw [jK hj] at h
   cases h
   have e8:(⟨q,0,none⟩:Addr).add j=⟨q,j,none⟩:=by unfold Addr.add;split<;>simp_all
   rw [e8,h8]
   congr 2
   simp [List.getD_eq_getElem?_getD,hj2]
  have htl:(st.take m).length=m:=by rw [List.length_take,Hst.out,HL.out];omega
  have l1:(m:Int)<=(cp:Int):=by have:=HL.out;omega
  have l2:(0:Int)<=(m:Int):=by omega
  have Hnew:=Lib.hid hnew;have Hown:=Lib.hid hown;have Hwn:=Lib.hid hwn;have Hgn:=Lib.hid hgn;have Htl:=Lib.hid htl;have Hxs:=Lib.hid hxs;have Hrn:=Lib.hid hrn
  have hxl:xs.length=m*1:=by rw [hxs,List.length_map,htl,Nat.mul_one]
  have hxo:∀ v∈xs,v.oneCell'=true:=by rw [hxs];exact BJ
  have hnl:=hgn.size
  clear hnew hown hwn hgn hrn htl hxs
  go_enter Try.func73,Try.ntmps73
  go_upto_region 2 with fail
  rw [<-Hwa.out]
  clear c2
  go_wp2_with (at_builtin;rw [<-Hwn.out];refine wpList_append_own _ rfl (.tmp 20) (.tmp 23) 28 rfl wa.heap.size 40 i0 (.int .u64 0) 1 8 Try.underlying28 hi hz0 hz1 hz2 rfl (by decide) (.slice (some ⟨wa.heap.size,0,none⟩) 0 0) 0 [] rfl Hown.out ⟨q,0,none⟩ m cp xs rfl ?c1 Hnew.out ?c2 ?c3 ?c4 ?c5 ?_)
  case c1=>exact hxl
  case c2=>exact hxo
  case c3=>unfold maxLen;omega
  case c4=>omega
  case c5=>exact hnl
  intro o' w2 hown1 hgrow _
  have hrl:=hown1
  try simp only [Nat.zero_add,List.nil_append] at hrl
  obtain⟨la,lc,rfl⟩:∃ la lc,o'=.slice la m lc:=fO hrl
  have hc2:Chg noB wa w2:=(Chg.of_below Hgn.out).grown hgrow (λb hb=>.inr (by simp only [Value.ownBlock,Option.some.injEq] at hb;omega))
  have hr2:=fJ Hrow.out hc2 (λ_ _ h=>h.elim)
  rw [Hxs.out] at hrl
  have hls:=tQ (g:=dY (st.take m)) hrl (by unfold maxLen;omega) (λj hj=>jK (by rw [Htl.out];exact hj))
  have s2':=(hc2.block _ (aH S2.out) (λh=>h.elim)).trans S2.out
  have Hc2:=Lib.hid hc2;have Hr2:=Lib.hid hr2;have Hls:=Lib.hid hls
  have a0:w2.cell? ⟨w1.heap.size+1+1,0,none⟩=some (.int .i64 0):=by rw [show w1.heap.size+1+1=w1.heap.size+2 from rfl,aA s2'];rfl
  have a1:w2.cell? ⟨w1.heap.size+1+1,1,none⟩=some (.int .u64 0):=by rw [show w1.heap.size+1+1=w1.heap.size+2 from rfl,aA s2'];rfl
  have a2:w2.cell? ⟨w1.heap.size+1+1,2,none⟩=some (.slice none 0 0):=by rw [show w1.heap.size+1+1=w1.heap.size+2 from rfl,aA s2'];rfl
  have f0:w2.frozen? ⟨w1.heap.size+1+1,0,none⟩=false:=aC s2' 0
  have f1:w2.frozen? ⟨w1.heap.size+1+1,1,none⟩=false:=aC s2' 1
  have f2:w2.frozen? ⟨w1.heap.size+1+1,2,none⟩=false:=aC s2' 2
  have hlt3:w1.heap.size+1+1<w2.heap.size:=aH s2'
  clear hown1 hgrow hrl hc2 hr2 hls s2' hxl hxo hnl
  go_wp2
  obtain⟨w6,dR⟩:∃ w6,w6=(((w2.setCell ⟨w1.heap.size+1+1,0,none⟩ (.int .i64 0)).setCell ⟨w1.heap.size+1+1,1,none⟩ (.int .u64 0)).setCell ⟨w1.heap.size+1+1,2,none⟩ (.slice la m lc)):=⟨_,rfl⟩
  rw [<-dR]
  obtain⟨k0,k1,k2,g1,g2,g3⟩:=Fin.out (w2) 0 0 (.slice la m lc) (st) Hst.out (Hc2.out.mono (λ_ _ h=>h.elim)) Hr2.out w6 dR
  refine bodyPost_ret (v:=.tuple #[.slice (some ⟨q,0,none⟩) L cp,gF 0 0 (.slice la m lc)]) (by simp [results,Try.results73 ,go_sem,gF,k0,k1,k2]) rfl ?_
  unfold fT
  have hsz:=Hsz.out
  exact⟨la,lc,by rw [Htl.out],g1,(by show aW w6 la (st.take m).length 1 (dY (st.take m));rw [Htl.out];exact Hls.out.1.chg g3 (λb off e h=>by have:=Hls.out.2 b off e;omega)),g2,λb off e=>by have:=Hls.out.2 b off e;omega⟩
 have q1:(kd' == 1)=false:=by simpa using h1
 by_cases h0:kd'=0
 ·by_cases ha:m<=cay
  ·rw [xM (c:=⟨th,ob,kd',ca,cb,cc⟩) h0 ha]
   have l1:(m:Int)<=(cay:Int):=by omega
   subst h0
   clear h1 ha
   go_enter Try.func73,Try.ntmps73
   go_upto_region 1 with fail
   rw [<-Hwa.out]
   go_wp2
   obtain⟨w6,dR⟩:∃ w6,w6=(((wa.setCell ⟨w1.heap.size+1+1,0,none⟩ (.int .i64 10)).setCell ⟨w1.heap.size+1+1,1,none⟩ (.int .u64 0)).setCell ⟨w1.heap.size+1+1,2,none⟩ (.slice none 0 0)):=⟨_,rfl⟩
   rw [<-dR]
   obtain⟨k0,k1,k2,g1,g2,g3⟩:=Fin.out (wa) 10 0 (.slice none 0 0) (st) Hst.out (Chg.refl _ _) Hrow.out w6 dR
   refine bodyPost_ret (v:=.tuple #[.slice (some ⟨q,0,none⟩) L cp,gF 10 0 (.slice none 0 0)]) (by simp [results,Try.results73 ,go_sem,gF,k0,k1,k2]) rfl ?_
   unfold fT
   exact⟨none,0,rfl,g1,aW.nil _ _ _ _,g2,λb off e=>by cases e⟩
  ·have l1:¬ (m:Int)<=(cay:Int):=by omega
   by_cases ht:th<0∨(n:Int)<=th∨most<=st.getD (m+th.toNat) 0
   ·rw [CB (c:=⟨th,ob,kd',ca,cb,cc⟩) h0 ha ht]
    subst h0
    clear h1 ha
    by_cases t0:th<0
    ·clear ht
     go_enter Try.func73,Try.ntmps73
     go_upto_region 1 with fail
     rw [<-Hwa.out]
     go_wp2
     obtain⟨w6,dR⟩:∃ w6,w6=(((wa.setCell ⟨w1.heap.size+1+1,0,none⟩ (.int .i64 6)).setCell ⟨w1.heap.size+1+1,1,none⟩ (.int .u64 0)).setCell ⟨w1.heap.size+1+1,2,none⟩ (.slice none 0 0)):=⟨_,rfl⟩
     rw [<-dR]
     obtain⟨k0,k1,k2,g1,g2,g3⟩:=Fin.out (wa) 6 0 (.slice none 0 0) (st) Hst.out (Chg.refl _ _) Hrow.out w6 dR
     refine bodyPost_ret (v:=.tuple #[.slice (some ⟨q,0,none⟩) L cp,gF 6 0 (.slice none 0 0)]) (by simp [results,Try.results73 ,go_sem,gF,k0,k1,k2]) rfl ?_
     unfold fT
     exact⟨none,0,rfl,g1,aW.nil _ _ _ _,g2,λb off e=>by cases e⟩
    ·by_cases t1:(n:Int)<=th
     ·clear ht
      go_enter Try.func73,Try.ntmps73
      go_upto_region 1 with fail
      rw [<-Hwa.out]
      go_wp2
      obtain⟨w6,dR⟩:∃ w6,w6=(((wa.setCell ⟨w1.heap.size+1+1,0,none⟩ (.int .i64 6)).setCell ⟨w1.heap.size+1+1,1,none⟩ (.int .u64 0)).setCell ⟨w1.heap.size+1+1,2,none⟩ (.slice none 0 0)):=⟨_,rfl⟩
      rw [<-dR]
      obtain⟨k0,k1,k2,g1,g2,g3⟩:=Fin.out (wa) 6 0 (.slice none 0 0) (st) Hst.out (Chg.refl _ _) Hrow.out w6 dR
      refine bodyPost_ret (v:=.tuple #[.slice (some ⟨q,0,none⟩) L cp,gF 6 0 (.slice none 0 0)]) (by simp [results,Try.results73 ,go_sem,gF,k0,k1,k2]) rfl ?_
      unfold fT
      exact⟨none,0,rfl,g1,aW.nil _ _ _ _,g2,λb off e=>by cases e⟩
     ·obtain⟨t,rfl⟩:∃ t:Nat,th=(t:Int):=⟨th.toNat,by omega⟩
      have ht2:most<=st.getD (m+t) 0:=by
       rcases ht with h9|h9|h9
       ·exact absurd h9 t0
       ·exact absurd h9 t1
       ·simpa using h9
      obtain⟨z,hz⟩:∃ z,z=m+t:=⟨_,rfl⟩
      obtain⟨v,hv⟩:∃ v,v=st.getD z 0:=⟨_,rfl⟩
      rw [<-hz,<-hv] at ht2
      have hzL:z<L:=by have:=HL.out;omega
      have e4:=(lX Hrow.out (jK (st:=st) (j:=z) (by have:=Hst.out;omega))).1
      rw [<-hv] at e4
      have wz:IntKind.i64.wrap ((m:Int)+(t:Int))=(z:Int):=by rw [IntKind.wrap_i64];omega
      have lz:(z:Int)<(L:Int):=by omega
      have lz0:(0:Int)<=(z:Int):=by omega
      have lv:(most:Int)<=(v:Int):=by omega
      clear ht ht2 hz hv hzL
      go_enter Try.func73,Try.ntmps73
      go_upto_region 1 with fail
      rw [<-Hwa.out]
      go_wp2
      obtain⟨w6,dR⟩:∃ w6,w6=(((wa.setCell ⟨w1.heap.size+1+1,0,none⟩ (.int .i64 6)).setCell ⟨w1.heap.size+1+1,1,none⟩ (.int .u64 0)).setCell ⟨w1.heap.size+1+1,2,none⟩ (.slice none 0 0)):=⟨_,rfl⟩
      rw [<-dR]
      obtain⟨k0,k1,k2,g1,g2,g3⟩:=Fin.out (wa) 6 0 (.slice none 0 0) (st) Hst.out (Chg.refl _ _) Hrow.out w6 dR
      refine bodyPost_ret (v:=.tuple #[.slice (some ⟨q,0,none⟩) L cp,gF 6 0 (.slice none 0 0)]) (by simp [results,Try.results73 ,go_sem,gF,k0,k1,k2]) rfl ?_
      unfold fT
      exact⟨none,0,rfl,g1,aW.nil _ _ _ _,g2,λb off e=>by cases e⟩
   ·rw [BG (c:=⟨th,ob,kd',ca,cb,cc⟩) h0 ha ht]
    subst h0
    have t0:¬ th<0:=λx=>ht (.inl x)
    have t1:¬ (n:Int)<=th:=λx=>ht (.inr (.inl x))
    obtain⟨t,rfl⟩:∃ t:Nat,th=(t:Int):=⟨th.toNat,by omega⟩
    simp only [Int.toNat_natCast] at ht ⊢
    have ht2:¬ most<=st.getD (m+t) 0:=λx=>ht (.inr (.inr x))
    obtain⟨z,hz⟩:∃ z,z=m+t:=⟨_,rfl⟩
    obtain⟨v,hv⟩:∃ v,v=st.getD z 0:=⟨_,rfl⟩
    rw [<-hz] at ht2 ⊢
    rw [<-hv] at ht2 ⊢
    have hzL:z<L:=by have:=HL.out;omega
    have haL:cay<L:=by have:=HL.out;omega
    have hza:z≠cay:=by omega
    obtain⟨e3,f3⟩:=lX Hrow.out (jK (st:=st) (j:=cay) (by have:=Hst.out;omega))
    obtain⟨e4,f4⟩:=lX Hrow.out (jK (st:=st) (j:=z) (by have:=Hst.out;omega))
    rw [<-hv] at e4
    have hqa:q<wa.heap.size:=by have:=Hsz.out;have:=Hql.out;omega
    obtain⟨wb,hwb⟩:∃ wb,wb=wa.setCell ⟨q,cay,none⟩ (.int .u64 (cby:Int)):=⟨_,rfl⟩
    have hrb:wb.ownsRow B 40 1 (.slice (some ⟨q,0,none⟩) L cp) L ((st.set cay cby).map cZ):=by rw [hwb,List.map_set];exact pI Hrow.out cay _
    have hcb:Chg (λb=>b=q) wa wb:=by rw [hwb];exact(Chg.refl (λb=>b=q) wa).setCell (p:=⟨q,cay,none⟩) (.inl rfl) _
    have hsl:(st.set cay cby).length=L:=by rw [List.length_set];exact Hst.out
    obtain⟨e5,f5⟩:=lX hrb (jK (j:=z) (by omega))
    rw [show(st.set cay cby).getD z 0=v by rw [aO (Ne.symm hza),hv]] at e5
    obtain⟨wd,hwd⟩:∃ wd,wd=wb.setCell ⟨q,z,none⟩ (.int .u64 ((v:Int)+1)):=⟨_,rfl⟩
    have hrd:wd.ownsRow B 40 1 (.slice (some ⟨q,0,none⟩) L cp) L (((st.set cay cby).set z (v+1)).map cZ):=by
     rw [hwd,List.map_set]
     have:=pI hrb z (.int .u64 ((v:Int)+1))
     rw [show cZ (v+1)=.int .u64 ((v:Int)+1) by unfold cZ;rw [show((v+1:Nat):Int)=(v:Int)+1 by omega]]
     exact this
    have hcd:Chg (λb=>b=q) wa wd:=by rw [hwd];exact hcb.setCell (p:=⟨q,z,none⟩) (.inl rfl) _
    have hlb:q<wb.heap.size:=Nat.lt_of_lt_of_le hqa hcb.size
    have s2':=(hcd.block _ (aH S2.out) (by have:=Hql.out;omega)).trans S2.out
    have a0':wd.cell? ⟨w1.heap.size+1+1,0,none⟩=some (.int .i64 0):=by rw [show w1.heap.size+1+1=w1.heap.size+2 from rfl,aA s2'];rfl
    have a1':wd.cell? ⟨w1.heap.size+1+1,1,none⟩=some (.int .u64 0):=by rw [show w1.heap.size+1+1=w1.heap.size+2 from rfl,aA s2'];rfl
    have a2':wd.cell? ⟨w1.heap.size+1+1,2,none⟩=some (.slice none 0 0):=by rw [show w1.heap.size+1+1=w1.heap.size+2 from rfl,aA s2'];rfl
    have f0':wd.frozen? ⟨w1.heap.size+1+1,0,none⟩=false:=aC s2' 0
    have f1':wd.frozen? ⟨w1.heap.size+1+1,1,none⟩=false:=aC s2' 1
    have f2':wd.frozen? ⟨w1.heap.size+1+1,2,none⟩=false:=aC s2' 2
    have hlt3:w1.heap.size+1+1<wd.heap.size:=aH s2'
    have wz:IntKind.i64.wrap ((m:Int)+(t:Int))=(z:Int):=by rw [IntKind.wrap_i64];omega
    have wv:IntKind.u64.wrap ((v:Int)+1)=(v:Int)+1:=by rw [IntKind.wrap_u64];omega
    have XQ:IntKind.i64.wrap (cay:Int)=(cay:Int):=by rw [IntKind.wrap_i64];omega
    have lz:(z:Int)<(L:Int):=by omega
    have lz0:(0:Int)<=(z:Int):=by omega
    have la:(cay:Int)<(L:Int):=by omega
    have Br:(0:Int)<=(cay:Int):=by omega
    have lv:¬ (most:Int)<=(v:Int):=by omega
    have Hwb:=Lib.hid hwb;have Hwd:=Lib.hid hwd;have Hrd:=Lib.hid hrd;have Hcd:=Lib.hid hcd
    have hdl:((st.set cay cby).set z (v+1)).length=L:=by rw [List.length_set];exact hsl
    have Hdl:=Lib.hid hdl
    clear ht ht2 hz hv hzL haL hza h1 ha hrb hcb hsl hwb hwd hrd hcd hdl s2'
    go_enter Try.func73,Try.ntmps73
    go_upto_region 1 with fail
    rw [<-Hwa.out]
    go_upto_region 10 with fail
    rw [<-Hwb.out]
    clear e3 f3 e4 f4 y3 y4 c2
    go_upto_region 11 with fail
    rw [<-Hwd.out]
    clear e5 f5 a0 a1 a2 f0 f1 f2 hlt2
    go_wp2
    obtain⟨w6,dR⟩:∃ w6,w6=(((wd.setCell ⟨w1.heap.size+1+1,0,none⟩ (.int .i64 0)).setCell ⟨w1.heap.size+1+1,1,none⟩ (.int .u64 0)).setCell ⟨w1.heap.size+1+1,2,none⟩ (.slice none 0 0)):=⟨_,rfl⟩
    rw [<-dR]
    obtain⟨k0,k1,k2,g1,g2,g3⟩:=Fin.out (wd) 0 0 (.slice none 0 0) ((st.set cay cby).set z (v+1)) Hdl.out Hcd.out Hrd.out w6 dR
    refine bodyPost_ret (v:=.tuple #[.slice (some ⟨q,0,none⟩) L cp,gF 0 0 (.slice none 0 0)]) (by simp [results,Try.results73 ,go_sem,gF,k0,k1,k2]) rfl ?_
    unfold fT
    exact⟨none,0,rfl,g1,aW.nil _ _ _ _,g2,λb off e=>by cases e⟩
 ·rw [BI (c:=⟨th,ob,kd',ca,cb,cc⟩) h1 h0]
  have q2:(kd' != 0)=true:=by simpa using h0
  clear y3 y4
  go_enter Try.func73,Try.ntmps73
  go_upto_region 1 with fail
  rw [<-Hwa.out]
  go_wp2
  obtain⟨w6,dR⟩:∃ w6,w6=(((wa.setCell ⟨w1.heap.size+1+1,0,none⟩ (.int .i64 9)).setCell ⟨w1.heap.size+1+1,1,none⟩ (.int .u64 0)).setCell ⟨w1.heap.size+1+1,2,none⟩ (.slice none 0 0)):=⟨_,rfl⟩
  rw [<-dR]
  obtain⟨k0,k1,k2,g1,g2,g3⟩:=Fin.out (wa) 9 0 (.slice none 0 0) (st) Hst.out (Chg.refl _ _) Hrow.out w6 dR
  refine bodyPost_ret (v:=.tuple #[.slice (some ⟨q,0,none⟩) L cp,gF 9 0 (.slice none 0 0)]) (by simp [results,Try.results73 ,go_sem,gF,k0,k1,k2]) rfl ?_
  unfold fT
  exact⟨none,0,rfl,g1,aW.nil _ _ _ _,g2,λb off e=>by cases e⟩
end
end Go.Proofs.Ytifhldnmcdbpfaa
