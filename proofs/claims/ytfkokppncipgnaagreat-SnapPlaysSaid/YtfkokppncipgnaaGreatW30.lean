/- The reference's tape: its last tick, what it marks, and what it notes. -/
import Derived.Test.YtfkokppncipgnaaGreatW18
import Derived.Test.YtfkokppncipgnaaGreatW15
import Derived.BigQuiet
import Derived.Test.YtfkokppncipgnaaGreatW19
import Derived.Deep.AppendLies
set_option maxRecDepth 100000
set_option linter.unusedVariables false
set_option linter.unusedSimpArgs false
set_option linter.unnecessarySimpa false
namespace Go.Proofs.YtfkokppncipgnaaGreat
section
open Go.RowKit
variable {B:fD} {w w':World} {t:aJ} {r:RWD}
theorem iU.put {Mut:Nat->Prop} {b n p:Nat} {ls:List (List Int)} {v:Value} {l:List Int} (h:iU w Mut b n ls) (hM:Mut b) (hv:Lst w Mut v l):iU (w.setCell ⟨b,p,none⟩ v) Mut b n (ls.set p l):=by
 obtain⟨vs,hb,hn,hvs⟩:=h.blk
 have hc:Chg (λk=>k=b) w (w.setCell ⟨b,p,none⟩ v):=(Chg.refl (λk=>k=b) w).setCell (p:=⟨b,p,none⟩) (.inl rfl) _
 have hS:∀ k,k=b->Mut k:=λk e=>by rw [e];exact hM
 refine⟨by simpa using h.len,vs.set p v,by rw [aG hb];simp,by simpa using hn,λi hi=>?_⟩
 by_cases e:p=i
 ·subst e
  rw [aI (by omega),aI (by rw [h.len];exact hi)]
  exact hv.keep hc hS (aN.refl _ _)
 ·rw [aK e,aK e]
  exact(hvs i hi).keep hc hS (aN.refl _ _)
theorem wQ.putTrace {v:Value} {l:List Int} (h:wQ B w t r v l) (p:Nat):RAt B (w.setCell ⟨B.I.bT,p,none⟩ v) t { r with traces:=r.traces.set p l }:=by
 obtain⟨G,K,L,h1,h2,h9⟩:=h
 obtain⟨PV,LV,KV,ht,hpv,hl,hk⟩:=h1.tape
 obtain⟨bm,bt⟩:=h1.bm
 have hc:Chg (λk=>k=B.I.bT) w (w.setCell ⟨B.I.bT,p,none⟩ v):=(Chg.refl (λk=>k=B.I.bT) w).setCell (p:=⟨B.I.bT,p,none⟩) (.inl rfl) _
 have hS:∀ k,k=B.I.bT->eX B.I G K L k:=λk e=>.inl (.inr (.inr e))
 have rto:RTo w _ B.I G K L G K L:=⟨hc.mono (λ_ _ e=>.inr (.inr e)),dY.refl _ _,dY.refl _ _,dY.refl _ _⟩
 exact⟨G,K,L,⟨⟨PV,LV,KV,ht.chg hc (λk hk hs=>by rw [hs] at hk;exact bt hk),hpv.keep hc hS (aN.refl _ _),hl.keep hc hS (aN.refl _ _),hk.keep hc hS (aN.refl _ _)⟩,h1.marks.keep hc hS (aN.refl _ _) h1.sep.1,h1.traces.put (hS _ rfl) h9,h1.sep,h1.dis,λb hb=>Nat.lt_of_lt_of_le (h1.low b hb) hc.size,h1.at_le,h1.tl,h1.room⟩,h2.trans rto⟩
theorem RAt.world (h:RAt B w t r):(∃ bW,bW=B.I.bW/\w.cell? ⟨B.I.tb,B.I.pre.length,none⟩=some (.pointer (some ⟨bW,0,none⟩))/\w.cell? ⟨bW,7,none⟩=some (.slice (some ⟨B.I.bM,0,none⟩) r.marks.length r.marks.length)/\w.cell? ⟨bW,8,none⟩=some (.slice (some ⟨B.I.bT,0,none⟩) r.traces.length r.traces.length))/\
  (∀ p,p<r.marks.length->(∃ v,w.cell? ⟨B.I.bM,p,none⟩=some v/\wQ B w t r v (r.marks.getD p []))/\w.frozen? ⟨B.I.bM,p,none⟩=false)/\(∀ p,p<r.traces.length->(∃ v,w.cell? ⟨B.I.bT,p,none⟩=some v/\wQ B w t r v (r.traces.getD p []))/\w.frozen? ⟨B.I.bT,p,none⟩=false):=by
 obtain⟨G,K,L,h1,h2⟩:=h
 obtain⟨PV,LV,KV,ht,_⟩:=h1.tape
 obtain⟨ms,hM,hmn,hms⟩:=h1.marks.blk
 obtain⟨ts,hT,htn,hts⟩:=h1.traces.blk
 obtain⟨wa,cap,_,hW,_⟩:=ht.mem.blk
 have hW':w.heap[B.I.bW]?=_:=hW
 have e1:=h1.marks.len
 have e2:=h1.traces.len
 refine⟨⟨B.I.bW,rfl,ht.cell0,?_,?_⟩,λp hp=>⟨⟨ms.getD p undef,?_,G,K,L,h1,h2,hms p (by omega)⟩,aB hM _⟩,λp hp=>⟨⟨ts.getD p undef,?_,G,K,L,h1,h2,hts p (by omega)⟩,aB hT _⟩⟩
 ·rw [aA hW',e1];rfl
 ·rw [aA hW',e2];rfl
 ·rw [aA hM];simp [List.getD_eq_getElem?_getD,show p<ms.length by omega]
 ·rw [aA hT];simp [List.getD_eq_getElem?_getD,show p<ts.length by omega]
theorem RAt.lists (h:RAt B w t r):(∃ gc ga,w.cell? ⟨B.I.tb,B.I.pre.length+3,none⟩=some (.slice ga t.got.length gc))/\(∃ ka kc,w.cell? ⟨B.I.tb,B.I.pre.length+4,none⟩=some (.slice ka t.ticks.length kc)/\∀ i,i<t.ticks.length->∃ b o,ka=some ⟨b,o,none⟩/\w.cell? ⟨b,o+i,none⟩=some (.int .i64 (t.ticks.getD i 0)))/\t.at_<=t.got.length/\t.ticks.length=t.got.length/\t.got.length<=100000000:=by
 obtain⟨G,K,L,h1,h2⟩:=h
 obtain⟨PV,LV,KV,ht,_⟩:=h1.tape
 have hgl:t.got.length<=100000000:=ht.glen
 obtain⟨ga,gc,rfl⟩:=dX ht.got
 obtain⟨ka,kc,rfl⟩:=dX ht.ticks
 have htl:=h1.tl
 refine⟨⟨gc,ga,ht.cell (i:=3) (by omega)⟩,⟨ka,kc,ht.cell (i:=4) (by omega),λi hi=>?_⟩,h1.at_le,htl,hgl⟩
 have hkr:w.ownsRow 0 3 1 (.slice ka t.ticks.length kc) t.ticks.length (t.ticks.map Bv):=ht.ticks
 obtain⟨hsl,_⟩:=wR hkr (by unfold maxLen;omega) (g:=kJ t.ticks) (λj hj=>by simp [kJ,Bv,List.getD_eq_getElem?_getD,hj])
 obtain⟨b,o,rfl,_,hc⟩:=hsl.2 i hi
 have:=hc 0 (by omega)
 rw [Nat.mul_one,Nat.add_zero] at this
 exact⟨b,o,rfl,this⟩
theorem WY (h:RAt B w t r):Calls Tryz.prog 93 #[.pointer (some ⟨B.I.tb,B.I.pre.length,none⟩)] w λe w'=>e=.returned (.int .i64 (lI t))/\Below w.heap.size w w':=by
 have c5:=h.cAt
 have c2:=h.cInv
 obtain⟨_,⟨ka,kc,c4,hk⟩,h1,h2,h3⟩:=h.lists
 obtain⟨l,hl⟩:∃ l,l=lI t:=⟨_,rfl⟩
 rw [<-hl]
 by_cases h0:t.at_=0
 ·have hl':l=(t.inv:Int):=by rw [hl];unfold lI;rw [if_pos h0]
  subst hl'
  rw [h0] at c5
  clear hl hk c4 h1 h2 h3 h h0
  go_enter Tryz.func93,Tryz.ntmps93
  go_wp2
  go_ret
  exact⟨rfl,Gr.refl _⟩
 ·have hl':l=t.ticks.getD (t.at_ - 1) 0:=by rw [hl];unfold lI;rw [if_neg h0]
  obtain⟨b,o,rfl,hc⟩:=hk (t.at_ - 1) (by omega)
  rw [<-hl'] at hc
  obtain⟨n,hn⟩:∃ n,n=t.ticks.length:=⟨_,rfl⟩
  obtain⟨a,ha⟩:∃ a,a=t.at_ - 1:=⟨_,rfl⟩
  have ha1:t.at_=a+1:=by omega
  rw [<-hn] at c4
  rw [<-ha] at hc
  rw [ha1] at c5
  have c5':w.cell? ⟨B.I.tb,B.I.pre.length+5,none⟩=some (.int .i64 ((a:Int)+1)):=c5
  have l1:(a:Int)<(n:Int):=by omega
  have l2:¬ ((a:Int)+1)=0:=by omega
  have l3:(((a:Int)+1) == 0)=false:=by simp;omega
  have l4:IntKind.i64.wrap ((a:Int)+1 - 1)=(a:Int):=by rw [IntKind.wrap_i64];omega
  have l5:IntKind.i64.wrap (a:Int)=(a:Int):=by rw [IntKind.wrap_i64];omega
  have l6:¬ (a:Int)<0:=by omega
  have C5:=aT c5';have C4:=aT c4;have HC:=aT hc
  clear hl hl' hk c4 h1 h2 h3 h h0 c5 hc ha hn ha1 c2
  go_enter Tryz.func93,Tryz.ntmps93
  go_upto_region 3 with fail
  ((with_reducible refine bN (by kernel_rfl) (by kernel_rfl) ?_);(repeat ((with_reducible refine wpQuiet_step (λK hK=>?_));go_simp;((with_reducible refine hK _ ?_);clear hK K)));(with_reducible refine wpQuiet_nil ?_);intro _ hw';obtain⟨nq,hw''⟩:=hw';subst hw'')
  have hb:=nq.below
  go_wp2
  go_ret
  exact⟨rfl,hb⟩
end
section
open Go.RowKit
variable {B:fD} {w w':World} {t:aJ} {r:RWD}
theorem Gu (h:RAt B w t r):Calls Tryz.prog 117 #[.pointer (some ⟨B.I.tb,B.I.pre.length,none⟩)] w λe w'=>e=.returned (.bool (kD t))/\Below w.heap.size w w':=by
 have c5:=h.cAt
 have c6:=h.cFresh
 have c7:=h.cHalt
 obtain⟨⟨gc,ga,c3⟩,_,h1,h2,h3⟩:=h.lists
 obtain⟨b,hb⟩:∃ b,b=kD t:=⟨_,rfl⟩
 rw [<-hb]
 obtain⟨hh,hhe⟩:∃ hh,hh=t.halt:=⟨_,rfl⟩
 obtain⟨ff,hfe⟩:∃ ff,ff=t.fresh:=⟨_,rfl⟩
 obtain⟨a,hae⟩:∃ a,a=t.at_:=⟨_,rfl⟩
 obtain⟨n,hne⟩:∃ n,n=t.got.length:=⟨_,rfl⟩
 have hb2:b=(!hh && !ff && decide (a=n) && decide (0<a)):=by rw [hb,hhe,hfe,hae,hne];rfl
 rw [<-hhe] at c7;rw [<-hfe] at c6;rw [<-hae] at c5;rw [<-hne] at c3
 have C3:=aT c3;have C5:=aT c5;have C6:=aT c6;have C7:=aT c7
 clear hb hhe hfe hae hne c3 c5 c6 c7 h h1 h2 h3
 cases hh with
 | true=>
  obtain rfl:b=false:=hb2
  go_enter Tryz.func117,Tryz.ntmps117
  go_upto_region 1 with fail
  ((with_reducible refine bN (by kernel_rfl) (by kernel_rfl) ?_);(repeat (first|go_big_quiet_skip|(go_big_quiet_want;go_big_quiet_op;go_big_quiet_on)));(with_reducible refine wpQuiet_nil ?_);intro _ hw';obtain⟨nq,hw''⟩:=hw';subst hw'')
  have hb:=nq.below
  go_wp2
  go_ret
  exact⟨rfl,hb⟩
 | false=>
  cases ff with
  | true=>
   obtain rfl:b=false:=hb2
   go_enter Tryz.func117,Tryz.ntmps117
   go_upto_region 1 with fail
   ((with_reducible refine bN (by kernel_rfl) (by kernel_rfl) ?_);(repeat (first|go_big_quiet_skip|(go_big_quiet_want;go_big_quiet_op;go_big_quiet_on)));(with_reducible refine wpQuiet_nil ?_);intro _ hw';obtain⟨nq,hw''⟩:=hw';subst hw'')
   have hb:=nq.below
   go_wp2
   go_ret
   exact⟨rfl,hb⟩
  | false=>
   by_cases hn:a=n
   ·subst hn
    have le:((a:Int) ==(a:Int))=true:=by simp
    by_cases h0:0<a
    ·obtain rfl:b=true:=by rw [hb2];simp [h0]
     have l0:decide ((0:Int)<(a:Int))=true:=by simp;omega
     have l1:(0:Int)<(a:Int):=by omega
     clear hb2
     go_enter Tryz.func117,Tryz.ntmps117
     go_upto_region 1 with fail
     ((with_reducible refine bN (by kernel_rfl) (by kernel_rfl) ?_);(repeat ((go_big_quiet_want;go_big_quiet_op;go_big_quiet_on)));(with_reducible refine wpQuiet_nil ?_);intro _ hw';obtain⟨nq,hw''⟩:=hw';subst hw'')
     have hb:=nq.below
     go_wp2
     go_ret
     exact⟨rfl,hb⟩
    ·obtain rfl:a=0:=by omega
     obtain rfl:b=false:=by rw [hb2];simp
     clear hb2 h0
     go_enter Tryz.func117,Tryz.ntmps117
     go_upto_region 1 with fail
     ((with_reducible refine bN (by kernel_rfl) (by kernel_rfl) ?_);(repeat ((go_big_quiet_want;go_big_quiet_op;go_big_quiet_on)));(with_reducible refine wpQuiet_nil ?_);intro _ hw';obtain⟨nq,hw''⟩:=hw';subst hw'')
     have hb:=nq.below
     go_wp2
     go_ret
     exact⟨rfl,hb⟩
   ·obtain rfl:b=false:=by rw [hb2];simp [hn]
    have le:((a:Int) ==(n:Int))=false:=by simp;omega
    have le2:¬ (a:Int)=(n:Int):=by omega
    clear hb2 hn
    go_enter Tryz.func117,Tryz.ntmps117
    go_upto_region 1 with fail
    ((with_reducible refine bN (by kernel_rfl) (by kernel_rfl) ?_);(repeat (first|go_big_quiet_skip|(go_big_quiet_want;go_big_quiet_op;go_big_quiet_on)));(with_reducible refine wpQuiet_nil ?_);intro _ hw';obtain⟨nq,hw''⟩:=hw';subst hw'')
    have hb:=nq.below
    go_wp2
    go_ret
    exact⟨rfl,hb⟩
theorem Fx (p:Nat) (l:List Int) (hp:p<r.traces.length):zL (p:Int) l t r=if kD t=true then { r with traces:=r.traces.set p l } else r:=by
 unfold zL
 by_cases h:kD t=true
 ·rw [if_pos h,if_pos ⟨h,by omega,by omega⟩];rfl
 ·rw [if_neg h,if_neg (λx=>h x.1)]
end
section
open Go.RowKit
variable {B:fD} {w w':World} {t:aJ} {r:RWD}
theorem Mm (h:RAt B w t r) (p:Nat) (hp:p<r.traces.length) (hn:p<=1000000):Calls Tryz.prog 95 #[.pointer (some ⟨B.I.tb,B.I.pre.length,none⟩),.int .i64 (p:Int)] w λe w'=>∃ xa xc,e=.returned (.slice xa (gN (p:Int) r).length xc)/\w=w'/\cB w xa (gN (p:Int) r).length 1 (kJ (gN (p:Int) r)):=by
 have ht:gN (p:Int) r=r.traces.getD p []:=by unfold gN;rw [if_neg (by omega)];rfl
 rw [ht]
 obtain⟨⟨bW,hbW,g1,_,g2⟩,_,g3⟩:=h.world
 clear hbW
 obtain⟨⟨x,g4,g6⟩,g5⟩:=g3 p hp
 obtain⟨_,_,_,_,_,xa,xc,rfl,_,hsl,_⟩:=g6
 obtain⟨n,hne⟩:∃ n,n=r.traces.length:=⟨_,rfl⟩
 rw [<-hne] at g2
 have l1:(p:Int)<(n:Int):=by omega
 have l2:¬ (p:Int)<0:=by omega
 have l3:IntKind.i64.wrap (p:Int)=(p:Int):=by rw [IntKind.wrap_i64];omega
 have l5:¬ (n:Int)<=(p:Int):=by omega
 obtain⟨xn,hxn⟩:∃ xn,xn=(r.traces.getD p []).length:=⟨_,rfl⟩
 rw [<-hxn] at g4
 have HH:=Lib.hid hsl
 suffices main:Calls Tryz.prog 95 #[.pointer (some ⟨B.I.tb,B.I.pre.length,none⟩),.int .i64 (p:Int)] w λe w'=>e=.returned (.slice xa xn xc)/\w=w' by
  refine Calls.mono main ?_
  rintro e w' ⟨rfl,rfl⟩
  exact⟨xa,xc,by rw [hxn],rfl,HH.out⟩
 clear hne h g3 g5 hsl hp ht hn HH hxn
 go_enter Tryz.func95,Tryz.ntmps95
 go_wp2
 go_ret
 exact⟨rfl,rfl⟩
set_option maxHeartbeats 1000000 in
theorem Qo {v:Value} {l:List Int} (h:wQ B w t r v l) (p:Nat) (hp:p<r.traces.length) (hn:p<=1000000):Calls Tryz.prog 94 #[.pointer (some ⟨B.I.tb,B.I.pre.length,none⟩),.int .i64 (p:Int),v] w λe w'=>e=.returned (.tuple #[])/\RAt B w' t (zL (p:Int) l t r):=by
 rw [Fx p l hp]
 obtain⟨va,vc,rfl⟩:∃ a c,v=.slice a l.length c:=by obtain⟨_,_,_,_,_,a,c,e,_⟩:=h;exact⟨a,c,e⟩
 obtain⟨vn,hvn⟩:∃ vn,vn=l.length:=⟨_,rfl⟩
 rw [<-hvn] at h ⊢
 clear hvn
 have JC:=Gu h.at
 obtain⟨n,hne⟩:∃ n,n=r.traces.length:=⟨_,rfl⟩
 have hp0:=hp
 have hp':p<n:=by omega
 have l1:(p:Int)<(n:Int):=by omega
 have l2:¬ (p:Int)<0:=by omega
 have l3:IntKind.i64.wrap (p:Int)=(p:Int):=by rw [IntKind.wrap_i64];omega
 have l4:(0:Int)<=(p:Int):=by omega
 cases hj:kD t with
 | false=>
  rw [hj] at JC
  have HJ:=Lib.hid JC;have HH:=Lib.hid h
  rw [if_neg (by exact Bool.false_ne_true)]
  clear JC h hj hne hp hp0
  go_enter Tryz.func94,Tryz.ntmps94
  go_wp2_with (go_at_call 117;refine(HJ.out).mono ?_;rintro e w1 ⟨rfl,hb⟩)
  (go_end0)
  exact⟨rfl,HH.out.at.grown hb⟩
 | true=>
  rw [hj] at JC
  have keep:∀ u,Below w.heap.size w u->∃ bW x,u.cell? ⟨B.I.tb,B.I.pre.length,none⟩=some (.pointer (some ⟨bW,0,none⟩))/\u.cell? ⟨bW,8,none⟩=some (.slice (some ⟨B.I.bT,0,none⟩) n n)/\u.cell? ⟨B.I.bT,p,none⟩=some x/\u.frozen? ⟨B.I.bT,p,none⟩=false/\RAt B (u.setCell ⟨B.I.bT,p,none⟩ (.slice va vn vc)) t { r with traces:=r.traces.set p l }:=λu hu=>by
   have h9:=h.grown hu
   obtain⟨⟨bW,_,g1,_,g2⟩,_,g3⟩:=h9.at.world
   obtain⟨⟨x,g4,_⟩,g5⟩:=g3 p hp0
   exact⟨bW,x,g1,by rw [g2,hne],g4,g5,h9.putTrace p⟩
  have HJ:=Lib.hid JC;have HK:=Lib.hid keep
  rw [if_pos rfl]
  clear JC h hj hne keep hp hp0
  go_enter Tryz.func94,Tryz.ntmps94
  go_wp2_with (go_at_call 117;refine HJ.out.mono ?_;rintro e w1 ⟨rfl,hb⟩;obtain⟨bW,x,g1,g2,g4,g5,g6⟩:=HK.out w1 hb)
  (go_end0)
  exact⟨rfl,g6⟩
set_option maxHeartbeats 1000000 in
theorem XZ {v:Value} {l:List Int} (h:wQ B w t r v l) (p:Nat) (hn:p<=1000000):Calls Tryz.prog 94 #[.pointer (some ⟨B.I.tb,B.I.pre.length,none⟩),.int .i64 (p:Int),v] w λe w'=>e=.returned (.tuple #[])/\RAt B w' t (zL (p:Int) l t r):=by
 by_cases hp:p<r.traces.length
 ·exact Qo h p hp hn
 ·have ht:zL (p:Int) l t r=r:=by unfold zL;rw [if_neg (by omega)]
  rw [ht]
  obtain⟨va,vc,rfl⟩:∃ a c,v=.slice a l.length c:=by obtain⟨_,_,_,_,_,a,c,e,_⟩:=h;exact⟨a,c,e⟩
  obtain⟨vn,hvn⟩:∃ vn,vn=l.length:=⟨_,rfl⟩
  rw [<-hvn] at h ⊢
  have JC:=Gu h.at
  obtain⟨n,hne⟩:∃ n,n=r.traces.length:=⟨_,rfl⟩
  have l1:¬ (p:Int)<(n:Int):=by omega
  have l2:¬ (p:Int)<0:=by omega
  have l4:(0:Int)<=(p:Int):=by omega
  have keep:∀ u,Below w.heap.size w u->∃ bW,u.cell? ⟨B.I.tb,B.I.pre.length,none⟩=some (.pointer (some ⟨bW,0,none⟩))/\u.cell? ⟨bW,8,none⟩=some (.slice (some ⟨B.I.bT,0,none⟩) n n)/\RAt B u t r:=λu hu=>by
   have h9:=h.at.grown hu
   obtain⟨⟨bW,_,g1,_,g2⟩,_,_⟩:=h9.world
   exact⟨bW,g1,by rw [g2,hne],h9⟩
  have HJ:=Lib.hid JC;have HK:=Lib.hid keep
  clear JC h hne keep hp hvn ht
  cases hj:kD t with
  | false=>
   rw [hj] at HJ
   go_enter Tryz.func94,Tryz.ntmps94
   go_wp2_with (go_at_call 117;refine HJ.out.mono ?_;rintro e w1 ⟨rfl,hb⟩;obtain⟨bW,g1,g2,g6⟩:=HK.out w1 hb)
   (go_end0)
   exact⟨rfl,g6⟩
  | true=>
   rw [hj] at HJ
   go_enter Tryz.func94,Tryz.ntmps94
   go_wp2_with (go_at_call 117;refine HJ.out.mono ?_;rintro e w1 ⟨rfl,hb⟩;obtain⟨bW,g1,g2,g6⟩:=HK.out w1 hb)
   (go_end0)
   exact⟨rfl,g6⟩
end
section
open Go.RowKit
end
section
open Go.RowKit
variable {B:fD} {w w':World} {t t':aJ} {r r':RWD} {X X':Nat->Prop}
def wN.plus (I:wN) (X:Nat->Prop):wN:={ I with Mx:=λb=>I.Mx b∨X b }
theorem fI.re {I:wN} {G K L:Value} {S Mx':Nat->Prop} (h:fI w I G K L t r) (hc:Chg S w w') (hS:∀ b,S b->I.Mx b) (hX:∀ b,Mx' b->I.Mx b∨(w.heap.size<=b/\b<w'.heap.size)):fI w' { I with Mx:=Mx' } G K L t r:=by
 have hlow:=h.mutlow
 obtain⟨PV,LV,KV,ht,hp,hl,hk⟩:=h.tape
 have hn:∀ b,S b->¬ wP I G K L b:=λb hb=>h.dis b (hS b hb)
 have hM:∀ b,S b->eX I G K L b:=λb hb=>.inr (hS b hb)
 have hup:aN (eX I G K L) w (eX { I with Mx:=Mx' } G K L):=λb hb=>by
  rcases hb with hb|hb
  ·exact .inl (.inl hb)
  ·rcases hX b hb with h9|h9
   ·exact .inl (.inr h9)
   ·exact .inr h9.1
 refine⟨⟨PV,LV,KV,ht.chg hc (λk hk hs=>hn k hs (.inl hk)),hp.keep hc hM hup,hl.keep hc hM hup,hk.keep hc hM hup⟩,h.marks.keep hc hM hup (λhs=>hn _ hs (.inr (.inl rfl))),h.traces.keep hc hM hup (λhs=>hn _ hs (.inr (.inr rfl))),h.sep,λb hb hs=>?_,λb hb=>?_,h.at_le,h.tl,h.room⟩
 ·rcases hX b hb with h9|h9
  ·exact h.dis b h9 hs
  ·have:=hlow b (.inl hs);omega
 ·rcases hX b hb with h9|h9
  ·exact Nat.lt_of_lt_of_le (h.low b h9) hc.size
  ·exact h9.2
def wU (B:fD) (w:World) (t:aJ) (r:RWD) (X:Nat->Prop):Prop:=∃ G K L,fI w (B.I.plus X) G K L t r/\RTo B.w0 w B.I B.G B.K B.L G K L/\∀ b,X b->B.w0.heap.size<=b
theorem RAt.own (h:RAt B w t r) (hb:Below w.heap.size w w') (hX:∀ b,X b->w.heap.size<=b/\b<w'.heap.size):wU B w' t r X:=by
 obtain⟨G,K,L,h1,h2⟩:=h
 exact⟨G,K,L,h1.re (S:=noB) (Chg.of_below hb) (λ_ e=>e.elim) (λb hb=>hb.imp_right (hX b)),h2.trans (h1.grown hb).2,λb hb=>Nat.le_trans h2.chg.size (hX b hb).1⟩
theorem wU.at (h:wU B w t r X):RAt B w t r:=by
 obtain⟨G,K,L,h1,h2,_⟩:=h
 exact⟨G,K,L,h1.re (S:=noB) (Mx':=B.I.Mx) (Chg.refl _ _) (λ_ e=>e.elim) (λb hb=>.inl (.inl hb)),h2⟩
theorem wU.lt (h:wU B w t r X) (b:Nat) (hb:X b):b<w.heap.size:=by
 obtain⟨G,K,L,h1,_⟩:=h
 exact h1.low b (.inr hb)
theorem wU.turn (h:wU B w t r X) (hc:Chg X w w') (hX:∀ b,X' b->X b∨(w.heap.size<=b/\b<w'.heap.size)):wU B w' t r X':=by
 obtain⟨G,K,L,h1,h2,h3⟩:=h
 have hsz:=h2.chg.size
 refine⟨G,K,L,h1.re hc (λb hb=>.inr hb) (λb hb=>?_),⟨⟨hc.os.trans h2.chg.os,hc.tape.trans h2.chg.tape,hc.output.trans h2.chg.output,Nat.le_trans hsz hc.size,λk hk hs=>(hc.block k (Nat.lt_of_lt_of_le hk hsz) (λhx=>by have:=h3 k hx;omega)).trans (h2.chg.block k hk hs)⟩,h2.kg,h2.kk,h2.kl⟩,λb hb=>?_⟩
 ·rcases hb with hb|hb
  ·exact .inl (.inl hb)
  ·rcases hX b hb with h9|h9
   ·exact .inl (.inr h9)
   ·exact .inr h9
 ·rcases hX b hb with h9|h9
  ·exact h3 b h9
  ·omega
theorem wU.grown (h:wU B w t r X) (hb:Below w.heap.size w w'):wU B w' t r X:=h.turn (Chg.of_below hb) (λ_ hb=>.inl hb)
theorem wU.call {F:Nat} {args:Array Value} {R:Ending->World->Prop} (h:wU B w t r X) (C:∀ B':fD,B'.I.tb=B.I.tb->B'.I.pre=B.I.pre->RAt B' w t r->Calls Tryz.prog F args w (λe w'=>R e w'/\RAt B' w' t' r')) :
  Calls Tryz.prog F args w (λe w'=>R e w'/\wU B w' t' r' X/\w.heap.size<=w'.heap.size/\∀ b,X b->w'.heap[b]?=w.heap[b]?):=by
 obtain⟨G,K,L,h1,h2,h3⟩:=h
 refine(C ⟨w,B.I.plus X,G,K,L⟩ rfl rfl ⟨G,K,L,h1,RTo.refl _ _ _ _ _⟩).mono ?_
 rintro e w' ⟨hR,G',K',L',k1,k2⟩
 exact⟨hR,⟨G',K',L',k1,h2.trans (⟨k2.chg,k2.kg,k2.kk,k2.kl⟩:RTo w w' B.I G K L G' K' L'),h3⟩,k2.chg.size,λb hb=>k2.chg.block b (h1.low b (.inr hb)) (h1.dis b (.inr hb))⟩
theorem wU.callL {w0:World} {F:Nat} {args:Array Value} {R:Ending->World->Prop} {a:Option Addr} {c:Nat} {l:List Int} (h:wU B w0 t r X) (hb:Below w0.heap.size w0 w) (hs:cB w a l.length 1 (kJ l)) (hn:l=[]->a=none/\c=0) (hlo:∀ b off,a=some ⟨b,off,none⟩->w0.heap.size<=b) (C:∀ B':fD,B'.I.tb=B.I.tb->B'.I.pre=B.I.pre->wQ B' w t r (.slice a l.length c) l->Calls Tryz.prog F args w (λe w'=>R e w'/\RAt B' w' t' r')) :
  Calls Tryz.prog F args w (λe w'=>R e w'/\wU B w' t' r' X/\w.heap.size<=w'.heap.size/\∀ b,X b->w'.heap[b]?=w.heap[b]?):=by
 obtain⟨G,K,L,h1,h2,h3⟩:=h.grown hb
 obtain⟨G0,K0,L0,k1,k2,k3⟩:=h
 have h0:wQ ⟨w0,B.I.plus X,G0,K0,L0⟩ w t r (.slice a l.length c) l:=RAt.newL (B:=⟨w0,B.I.plus X,G0,K0,L0⟩) ⟨G0,K0,L0,k1,RTo.refl _ _ _ _ _⟩ hb hs hn hlo
 obtain⟨G,K,L,m1,m2,m3⟩:=h0
 refine(C ⟨w,B.I.plus X,G,K,L⟩ rfl rfl ⟨G,K,L,m1,RTo.refl _ _ _ _ _,m3⟩).mono ?_
 rintro e w' ⟨hR,G',K',L',q1,q2⟩
 exact⟨hR,⟨G',K',L',q1,(k2.trans (⟨m2.chg,m2.kg,m2.kk,m2.kl⟩:RTo w0 w B.I G0 K0 L0 G K L)).trans (⟨q2.chg,q2.kg,q2.kk,q2.kl⟩:RTo w w' B.I G K L G' K' L'),k3⟩,q2.chg.size,λb hb=>q2.chg.block b (m1.low b (.inr hb)) (m1.dis b (.inr hb))⟩
end
section
open Go.RowKit
variable {B:fD} {w w' w1:World} {t t':aJ} {r r':RWD} {LV LV':Value}
structure qA (w:World) (I:wN) (G K L LV:Value) (t:aJ) (r:RWD):Prop where
 tape:∃ PV KV,dE w I.tids G K L (t.raw PV LV KV) r.mem r.now/\fK w (eX I G K L) PV t.priv/\Lst w (eX I G K L) KV t.key
 row:w.ownsRow 0 46 1 LV t.list.length (t.list.map bI)
 mx:∀ b,LV.ownBlock=some b->I.Mx b
 nil:t.list=[]->LV=.slice none 0 0
 marks:iU w (eX I G K L) I.bM I.nM r.marks
 traces:iU w (eX I G K L) I.bT I.nT r.traces
 sep:I.bM≠I.bT/\I.T≠24/\∀ q,I.bw=some q->q≠I.bM/\q≠I.bT
 dis:∀ b,I.Mx b->¬ wP I G K L b
 low:∀ b,I.Mx b->b<w.heap.size
 at_le:t.at_<=t.got.length
 tl:t.ticks.length=t.got.length
 room:t.fresh=true->t.halt=false->r.mem.c.all+1<1000000000000/\t.got.length+1<=100000000
section q
variable {I:wN} {G K L G' K' L':Value}
theorem qA.bare (h:qA w I G K L LV t r):∃ PV KV,dE w I.tids G K L (t.raw PV LV KV) r.mem r.now/\fK w (eX I G K L) PV t.priv/\Lst w (eX I G K L) KV t.key/\¬ AO I.tids G K L I.bM/\¬ AO I.tids G K L I.bT:=by
 obtain⟨PV,KV,ht,hp,hk⟩:=h.tape
 obtain⟨ms,hm,_⟩:=h.marks.blk
 obtain⟨ts,htr,_⟩:=h.traces.blk
 obtain⟨s1,s2,s3⟩:=h.sep
 obtain⟨n,xs,_,hl⟩:=ht.log
 obtain⟨_,_,_,hW,_⟩:=ht.mem.blk
 have key:∀(b:Nat) (cs:Array Value),w.heap[b]?=some (.cells cs 24 (0,0))->(∀ q,I.bw=some q->q≠b)->¬ AO I.tids G K L b:=λb cs hb hq hs=>by
  rcases hs with e|e|e|e|e|e
  ·rw [e,ht.blk] at hb
   simp only [Option.some.injEq,Obj.cells.injEq] at hb
   exact s2 hb.2.1
  ·rw [e,hW] at hb
   simp only [Option.some.injEq,Obj.cells.injEq] at hb
   exact absurd hb.2.1 (by decide)
  ·exact hq b e rfl
  ·exact dJ ht.got hb (by decide) e
  ·exact dJ ht.ticks hb (by decide) e
  ·exact dJ hl hb (by decide) e
 exact⟨PV,KV,ht,hp,hk,key _ _ hm (λq e=>(s3 q e).1),key _ _ htr (λq e=>(s3 q e).2)⟩
theorem qA.lift (h:qA w I G K L LV t r):∃ PV KV,dE w I.tids G K L (t.raw PV LV KV) r.mem r.now/\∀ {w' G' K' L' t' r'},dE w' I.tids G' K' L' (aJ.raw t' PV LV KV) (RWD.mem r') (RWD.now r')->jF w w' I.tids G K L G' K' L'->t'.priv=t.priv->t'.list=t.list->t'.key=t.key->r'.marks=r.marks->r'.traces=r.traces->
  t'.at_<=t'.got.length->t'.ticks.length=t'.got.length->(t'.fresh=true->t'.halt=false->r'.mem.c.all+1<1000000000000/\t'.got.length+1<=100000000)->qA w' I G' K' L' LV t' r'/\RTo w w' I G K L G' K' L':=by
 obtain⟨PV,KV,ht,hp,hk,bm,bt⟩:=h.bare
 refine⟨PV,KV,ht,λ{w' G' K' L' t' r'} ht' tto e1 e2 e3 e4 e5 h1 h2 h3=>?_⟩
 have rto:RTo w w' I G K L G' K' L':=tto.rto
 have hS:∀ b,AO I.tids G K L b->eX I G K L b:=λb hb=>.inl (.inl hb)
 refine⟨⟨⟨PV,KV,ht',by rw [e1];exact hp.keep tto.chg hS rto.mut,by rw [e3];exact hk.keep tto.chg hS rto.mut⟩,by rw [e2];exact bB h.row tto.chg (λb hb hs=>h.dis b (h.mx b hb) (.inl hs)),h.mx,by rw [e2];exact h.nil,by rw [e4];exact h.marks.keep tto.chg hS rto.mut bm,by rw [e5];exact h.traces.keep tto.chg hS rto.mut bt,h.sep,λb hb hs=>?_,λb hb=>Nat.lt_of_lt_of_le (h.low b hb) tto.chg.size,h1,h2,h3⟩,rto⟩
 rcases rto.sub b hs with h9|h9
 ·exact h.dis b hb h9
 ·have:=h.low b hb;omega
theorem qA.grown (h:qA w I G K L LV t r) (hb:Below w.heap.size w w'):qA w' I G K L LV t r/\RTo w w' I G K L G K L:=by
 obtain⟨PV,KV,ht,hl⟩:=h.lift
 obtain⟨h1,h2⟩:=ht.grown hb
 exact hl h1 h2 rfl rfl rfl rfl rfl h.at_le h.tl h.room
theorem qA.push {Mx':Nat->Prop} (h:qA w I G K L LV t r) (hc:Chg (λb=>LV.ownBlock=some b) w w1) (l:List Nat) (hl:l≠[]) (hrow:w1.ownsRow 0 46 1 LV' l.length (l.map bI)) (hm:∀ b,LV'.ownBlock=some b->Mx' b) (hX:∀ b,Mx' b->I.Mx b∨(w.heap.size<=b/\b<w1.heap.size)) :
  qA (w1.setCell ⟨I.tb,I.pre.length+11,none⟩ LV') { I with Mx:=Mx' } G K L LV' { t with list:=l } r:=by
 obtain⟨PV,KV,ht,hp,hk,bm,bt⟩:=h.bare
 have hn:∀ b,LV.ownBlock=some b->¬ wP I G K L b:=λb hb=>h.dis b (h.mx b hb)
 have hM:∀ b,LV.ownBlock=some b->eX I G K L b:=λb hb=>.inr (h.mx b hb)
 have hTlow:∀ b,wP I G K L b->b<w.heap.size:=λb hb=>by
  obtain⟨ms,hm,_⟩:=h.marks.blk
  obtain⟨ts,htr,_⟩:=h.traces.blk
  obtain⟨n,xs,_,hl⟩:=ht.log
  have row:∀ {e:TypeId} {k n:Nat} {V:Value} {xs:List Value},w.ownsRow 0 e k V n xs->V.ownBlock=some b->b<w.heap.size:=λh1 e=>by
   obtain⟨cs,fz,h9⟩:=gG h1 e
   exact aC h9
  rcases hb with(e|e|e|e|e|e)|e|e
  ·rw [e];exact aC ht.blk
  ·rw [e];exact ht.mem.lt
  ·exact ht.mem.low b e
  ·exact row ht.got e
  ·exact row ht.ticks e
  ·exact row hl e
  ·rw [e];exact aC hm
  ·rw [e];exact aC htr
 have hdis:∀ b,Mx' b->¬ wP I G K L b:=λb hb hs=>by
  rcases hX b hb with h9|h9
  ·exact h.dis b h9 hs
  ·have:=hTlow b hs;omega
 have ht1:dE w1 I.tids G K L (t.raw PV LV KV) r.mem r.now:=ht.chg hc (λk hk hs=>hn k hs (.inl hk))
 obtain⟨h3,h4⟩:=ht1.put (i:=11) (by omega) LV' (t':=aJ.raw { t with list:=l } PV LV' KV) rfl rfl rfl
 have hS:∀ b,AO I.tids G K L b->eX I G K L b:=λb hb=>.inl (.inl hb)
 have hup:aN (eX I G K L) w (eX { I with Mx:=Mx' } G K L):=λb hb=>by
  rcases hb with hb|hb
  ·exact .inl (.inl hb)
  ·rcases hX b hb with h9|h9
   ·exact .inl (.inr h9)
   ·exact .inr h9.1
 have hS1:∀ b,AO I.tids G K L b->eX { I with Mx:=Mx' } G K L b:=λb hb=>.inl (.inl hb)
 have Ut:∀ b,Mx' b->b<w1.heap.size:=λb hb=>by
  rcases hX b hb with h9|h9
  ·exact Nat.lt_of_lt_of_le (h.low b h9) hc.size
  ·exact h9.2
 refine⟨⟨PV,KV,h3,(hp.keep hc hM hup).keep h4.chg hS1 (aN.refl _ _),(hk.keep hc hM hup).keep h4.chg hS1 (aN.refl _ _)⟩,bB hrow h4.chg (λb hb hs=>hdis b (hm b hb) (.inl hs)),hm,λe=>absurd e hl,(h.marks.keep hc hM hup (λhs=>hn _ hs (.inr (.inl rfl)))).keep h4.chg hS1 (aN.refl _ _) bm,(h.traces.keep hc hM hup (λhs=>hn _ hs (.inr (.inr rfl)))).keep h4.chg hS1 (aN.refl _ _) bt,h.sep,hdis,λb hb=>Nat.lt_of_lt_of_le (Ut b hb) h4.chg.size,h.at_le,h.tl,h.room⟩
end q
def DN (B:fD) (w:World) (t:aJ) (r:RWD) (LV:Value):Prop:=∃ G K L,qA w (B.I.plus (λb=>LV.ownBlock=some b)) G K L LV t r/\RTo B.w0 w B.I B.G B.K B.L G K L/\∀ b,LV.ownBlock=some b->B.w0.heap.size<=b/\¬ B.I.Mx b
theorem DN.fin (h:DN B w t r LV) (hN:t.list.length<=1000000):RAt B w t r:=by
 obtain⟨G,K,L,h1,h2,h3⟩:=h
 obtain⟨PV,KV,ht,hp,hk⟩:=h1.tape
 have up:aN (eX (B.I.plus (λb=>LV.ownBlock=some b)) G K L) w (eX B.I G K L):=λb hb=>.inl (by
  rcases hb with hb|hb
  ·exact .inl hb
  ·exact .inr (.inl hb))
 obtain⟨a,c,rfl⟩:=dX h1.row
 refine⟨G,K,L,⟨⟨PV,_,KV,ht,hp.keep (S:=noB) (Chg.refl _ _) (λ_ h=>h.elim) up,⟨⟨a,c,rfl,?_,λh0 b off e hm=>?_⟩,h1.nil⟩,hk.keep (S:=noB) (Chg.refl _ _) (λ_ h=>h.elim) up⟩,h1.marks.keep (S:=noB) (Chg.refl _ _) (λ_ h=>h.elim) up (λh=>h.elim),h1.traces.keep (S:=noB) (Chg.refl _ _) (λ_ h=>h.elim) up (λh=>h.elim),h1.sep,λb hb=>h1.dis b (.inl hb),λb hb=>h1.low b (.inl hb),h1.at_le,h1.tl,h1.room⟩,h2⟩
 ·exact(wR h1.row (by unfold maxLen;omega) (g:=fE t.list) (λj hj=>by simp [fE,bI,List.getD_eq_getElem?_getD,hj])).1
 ·have hob:(Value.slice a t.list.length c).ownBlock=some b:=by rw [e];rfl
  rcases hm with hm|hm
  ·exact h1.dis b (.inr hob) hm
  ·exact(h3 b hob).2 hm
theorem DN.cells (h:DN B w t r LV):w.cell? ⟨B.I.tb,B.I.pre.length+11,none⟩=some LV/\w.cell? ⟨B.I.tb,B.I.pre.length+7,none⟩=some (.bool t.halt)/\(∀ i,w.frozen? ⟨B.I.tb,i,none⟩=false)/\B.I.tb<w.heap.size/\w.ownsRow 0 46 1 LV t.list.length (t.list.map bI):=by
 obtain⟨G,K,L,h1,_⟩:=h
 obtain⟨PV,KV,ht,_⟩:=h1.tape
 exact⟨ht.cell (i:=11) (by omega),ht.cell (i:=7) (by omega),λi=>aB ht.blk i,aC ht.blk,h1.row⟩
theorem DN.blk (h:DN B w t r LV):∃ cs,w.heap[B.I.tb]?=some (.cells cs B.I.T (0,0)):=by
 obtain⟨G,K,L,h1,_⟩:=h
 obtain⟨PV,KV,ht,_⟩:=h1.tape
 exact⟨_,ht.blk⟩
theorem DN.sep (h:DN B w t r LV):∀ b,LV.ownBlock=some b->b≠B.I.tb/\b<w.heap.size:=by
 obtain⟨G,K,L,h1,_⟩:=h
 exact λb hb=>⟨λe=>h1.dis b (.inr hb) (by rw [e];exact .inl (.inl rfl)),h1.low b (.inr hb)⟩
theorem DN.grown (h:DN B w t r LV) (hb:Below w.heap.size w w'):DN B w' t r LV:=by
 obtain⟨G,K,L,h1,h2,h3⟩:=h
 obtain⟨h4,h5⟩:=h1.grown hb
 exact⟨G,K,L,h4,h2.trans ⟨h5.chg,h5.kg,h5.kk,h5.kl⟩,h3⟩
theorem DN.push (h:DN B w t r LV) (hc:Chg (λb=>LV.ownBlock=some b) w w1) (v:Nat) {g:Nat} (hg:LV'.ownBlock=some g) (hrow:w1.ownsRow 0 46 1 LV' (t.list++[v]).length ((t.list++[v]).map bI)) (hold:LV.ownBlock=some g∨w.heap.size<=g) (hlt:g<w1.heap.size) :
  DN B (w1.setCell ⟨B.I.tb,B.I.pre.length+11,none⟩ LV') { t with list:=t.list++[v] } r LV':=by
 obtain⟨G,K,L,h1,h2,h3⟩:=h
 have hX:∀ b,LV'.ownBlock=some b->LV.ownBlock=some b∨(w.heap.size<=b/\b<w1.heap.size):=λb hb=>by
  rw [hg] at hb;cases hb
  exact hold.imp_right (λh9=>⟨h9,hlt⟩)
 have hq:=h1.push (LV':=LV') (Mx':=λb=>B.I.Mx b∨LV'.ownBlock=some b) hc (t.list++[v]) (by simp) hrow (λb hb=>.inr hb) (λb hb=>by
  rcases hb with hb|hb
  ·exact .inl (.inl hb)
  ·rcases hX b hb with h9|h9
   ·exact .inl (.inr h9)
   ·exact .inr h9)
 have hsz:=h2.chg.size
 have hc2:Chg (λb=>LV.ownBlock=some b∨b=B.I.tb) w (w1.setCell ⟨B.I.tb,B.I.pre.length+11,none⟩ LV'):=(hc.mono (λ_ _ e=>.inl e)).setCell (p:=⟨B.I.tb,B.I.pre.length+11,none⟩) (.inl (.inr rfl)) _
 refine⟨G,K,L,hq,⟨⟨hc2.os.trans h2.chg.os,hc2.tape.trans h2.chg.tape,hc2.output.trans h2.chg.output,Nat.le_trans hsz hc2.size,λk hk hs=>(hc2.block k (Nat.lt_of_lt_of_le hk hsz) (λhx=>?_)).trans (h2.chg.block k hk hs)⟩,h2.kg,h2.kk,h2.kl⟩,λb hb=>?_⟩
 ·rcases hx with hx|hx
  ·have:=(h3 k hx).1;omega
  ·exact hs (by rw [hx];exact .inl (.inl rfl))
 ·rcases hX b hb with h9|h9
  ·exact h3 b h9
  ·exact⟨by omega,λhm=>by have:=h1.low b (.inl hm);omega⟩
section acc
set_option maxHeartbeats 1000000
end acc
end
section
open Go.RowKit
theorem jX {ops:Array Oper} {rest:List Oper} {o:Oper} {a:Act} {w:World} {Q:Exit->Act->World->Prop} (hgd:o.guard=none) (s x:Operand) (ho:o.op=.call { callee:=.builtin .append,args:=#[s,x],argTypes:=#[28,28] })
  (v:Value) (l:List Nat) (N:Nat) (hN:N=l.length) (hl:N<=1000000) (hs:a.eval s=v) (hown:w.ownsRow 0 46 1 v N (l.map bI)) (b:Nat) (k:Nat) (hx:a.eval x=.slice (some ⟨b,0,none⟩) 1 1) (hb:w.heap[b]?=some (.cells #[bI k] 46 (0,0)))
  (h:∀(g vc M:Nat) (w':World),M=N+1->w'.ownsRow 0 46 1 (.slice (some ⟨g,0,none⟩) M vc) M ((l++[k]).map bI)->Chg (λb=>v.ownBlock=some b) w w'->(v.ownBlock=some g∨g=w.heap.size)->g<w'.heap.size->wpList Tryz.prog ops Q rest (a.put o.dst (.slice (some ⟨g,0,none⟩) M vc)) w') :
  wpList Tryz.prog ops Q (o::rest) a w:=by
 obtain⟨j0,hj0,hy0,hy1,hy2⟩:=info_parts iR
 refine wpList_append_lies w hgd s x 28 ho 0 46 j0 (.int .u64 0) 1 8 Tryz.underlying28 hj0 hy0 hy1 hy2 rfl (by decide) v N (l.map bI) hs hown ⟨b,0,none⟩ 1 1 [bI k] hx rfl ?_ ?_ (by decide) ?_ ?_ (Nat.zero_le _) w.heap.size rfl ?_
 ·intro j u hu
  have e8:(⟨b,0,none⟩:Addr).add j=⟨b,j,none⟩:=EO b j
  rw [e8,aA hb]
  simpa [bI] using hu
 ·simp [Value.oneCell',bI]
 ·unfold maxLen;omega
 ·omega
 ·intro g cap w' hown' hgr hat hlt
  have hc:Chg (λb=>v.ownBlock=some b) w w':=(Chg.refl _ w).grown hgr (λk hk=>.inl hk)
  have e2:l.map bI++[bI k]=(l++[k]).map bI:=by simp
  rw [e2] at hown'
  exact h g cap (N+1) w' rfl hown' hc hat hlt
end
section
open Go.RowKit
variable {w w' w1:World} {V V':Value} {l:List Nat}
theorem Ag {w:World} {b:Nat} {o:Obj} (h:w.heap[b]?=some o):b<w.heap.size:=by
 rcases Nat.lt_or_ge b w.heap.size with h8|h8
 ·exact h8
 ·rw [Array.getElem?_eq_none h8] at h;cases h
theorem CU {z:Nat} {v:Value} {e:TypeId} {k n:Nat} {xs:List Value} (h:w.ownsRow z e k v n xs) (hS:∀ b,v.ownBlock=some b->w'.heap[b]?=w.heap[b]?):w'.ownsRow z e k v n xs:=by
 obtain⟨h1,h2⟩:=h
 refine⟨h1,?_⟩
 rcases h2 with h2|⟨g,cap,cur,hv,hg,hh,r⟩
 ·exact .inl h2
 ·exact .inr ⟨g,cap,cur,hv,hg,(hS g (by rw [hv];rfl)).trans hh,r⟩
def vT (w:World) (V:Value) (l:List Nat):Prop:=w.ownsRow 0 46 1 V l.length (l.map bI)
theorem vT.at (h:vT w V l) {i:Nat} (hi:i<l.length):∃ g c,V=.slice (some ⟨g,0,none⟩) l.length c/\w.cell? ⟨g,i,none⟩=some (.int .u64 ((l.getD i 0:Nat):Int))/\w.frozen? ⟨g,i,none⟩=false/\g<w.heap.size:=by
 have hc:=h
 obtain⟨h1,h2⟩:=h
 rcases h2 with⟨_,hn⟩|⟨g,cap,cur,hv,hg,hh,r1,r2,r3,r4⟩
 ·omega
 ·subst hv
  refine⟨g,cap,rfl,?_,aB hh i,aC hh⟩
  have:=hc.cellAt i (by omega)
  rw [this,List.getElem?_map,List.getElem?_eq_getElem hi,List.getD_eq_getElem?_getD,List.getElem?_eq_getElem hi]
  rfl
theorem vT.form (h:vT w V l):∃ a c,V=.slice a l.length c:=dX h
theorem vT.lt (h:vT w V l) (b:Nat) (hb:V.ownBlock=some b):b<w.heap.size:=by
 obtain⟨cs,fz,h9⟩:=gG h hb
 exact aC h9
theorem vT.chg {S:Nat->Prop} (h:vT w V l) (hc:Chg S w w') (hS:∀ b,V.ownBlock=some b->¬ S b):vT w' V l:=bB h hc hS
theorem vT.sl (h:vT w V l) (hl:l.length<=1000000):∃ a c,V=.slice a l.length c/\cB w a l.length 1 (fE l)/\∀ b off,a=some ⟨b,off,none⟩->V.ownBlock=some b:=by
 obtain⟨a,c,rfl⟩:=h.form
 exact⟨a,c,rfl,(wR h (by unfold maxLen;omega) (g:=fE l) (λj hj=>by simp [fE,bI,List.getD_eq_getElem?_getD,hj])).1,λb off e=>by rw [e];rfl⟩
theorem vT.nil (w:World):vT w (.slice none 0 0) []:=⟨by decide,.inl ⟨rfl,rfl⟩⟩
end
end Go.Proofs.YtfkokppncipgnaaGreat
