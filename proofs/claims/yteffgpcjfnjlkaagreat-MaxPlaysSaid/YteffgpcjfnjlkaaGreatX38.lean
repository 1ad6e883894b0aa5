/- The reference's tape: what it marks, and what it notes. -/
import Derived.Test.YteffgpcjfnjlkaaGreatX37
import Derived.Test.YteffgpcjfnjlkaaGreatX19
import Derived.Deep.AppendLies
import Derived.Test.YteffgpcjfnjlkaaGreatX34
import Derived.Test.YteffgpcjfnjlkaaGreatX30
set_option maxRecDepth 100000
set_option linter.unusedVariables false
set_option linter.unusedSimpArgs false
set_option linter.unnecessarySimpa false
namespace Go.Proofs.YteffgpcjfnjlkaaGreat
section
open Go.RowKit
variable {B:RBase} {w w':World} {t:TapeP} {r:RWD}
theorem just_r (h:RAt B w t r):Calls Tryz.prog 131 #[.pointer (some ⟨B.I.tb,B.I.pre.length,none⟩)] w λe w'=>e=.returned (.bool (justP t))/\Below w.heap.size w w':=by
 have c5:=h.cAt
 have c6:=h.cFresh
 have c7:=h.cHalt
 obtain⟨⟨gc,ga,c3⟩,_,h1,h2,h3⟩:=h.lists
 obtain⟨b,hb⟩:∃ b,b=justP t:=⟨_,rfl⟩
 rw [<-hb]
 obtain⟨hh,hhe⟩:∃ hh,hh=t.halt:=⟨_,rfl⟩
 obtain⟨ff,hfe⟩:∃ ff,ff=t.fresh:=⟨_,rfl⟩
 obtain⟨a,hae⟩:∃ a,a=t.at_:=⟨_,rfl⟩
 obtain⟨n,hne⟩:∃ n,n=t.got.length:=⟨_,rfl⟩
 have hb2:b=(!hh && !ff && decide (a=n) && decide (0<a)):=by rw [hb,hhe,hfe,hae,hne];rfl
 rw [<-hhe] at c7;rw [<-hfe] at c6;rw [<-hae] at c5;rw [<-hne] at c3
 have C3:=grown_cell c3;have C5:=grown_cell c5;have C6:=grown_cell c6;have C7:=grown_cell c7
 clear hb hhe hfe hae hne c3 c5 c6 c7 h h1 h2 h3
 cases hh with
 | true=>
  obtain rfl:b=false:=hb2
  go_enter Tryz.func131,Tryz.ntmps131
  go_upto_region 1 with fail
  ((with_reducible refine wp_region_grown_lit (by kernel_rfl) (by kernel_rfl) ?_);(repeat (first|go_big_quiet_skip|(go_big_quiet_want;go_big_quiet_op;go_big_quiet_on)));(with_reducible refine wpQuiet_nil ?_);intro _ hw';obtain⟨nq,hw''⟩:=hw';subst hw'')
  have hb:=nq.below
  go_wp2
  go_ret
  exact⟨rfl,hb⟩
 | false=>
  cases ff with
  | true=>
   obtain rfl:b=false:=hb2
   go_enter Tryz.func131,Tryz.ntmps131
   go_upto_region 1 with fail
   ((with_reducible refine wp_region_grown_lit (by kernel_rfl) (by kernel_rfl) ?_);(repeat (first|go_big_quiet_skip|(go_big_quiet_want;go_big_quiet_op;go_big_quiet_on)));(with_reducible refine wpQuiet_nil ?_);intro _ hw';obtain⟨nq,hw''⟩:=hw';subst hw'')
   have hb:=nq.below
   go_wp2
   go_ret
   exact⟨rfl,hb⟩
  | false=>
   by_cases hn:a=n
   ·subst hn
    have le:((a:Int) ==(a:Int))=true:=by simp
    by_cases h0:0<a
    ·obtain rfl:b=true:=by rw [hb2];simp [h0]
     have l0:decide ((0:Int)<(a:Int))=true:=by simp;omega
     have l1:(0:Int)<(a:Int):=by omega
     clear hb2
     go_enter Tryz.func131,Tryz.ntmps131
     go_upto_region 1 with fail
     ((with_reducible refine wp_region_grown_lit (by kernel_rfl) (by kernel_rfl) ?_);(repeat ((go_big_quiet_want;go_big_quiet_op;go_big_quiet_on)));(with_reducible refine wpQuiet_nil ?_);intro _ hw';obtain⟨nq,hw''⟩:=hw';subst hw'')
     have hb:=nq.below
     go_wp2
     go_ret
     exact⟨rfl,hb⟩
    ·obtain rfl:a=0:=by omega
     obtain rfl:b=false:=by rw [hb2];simp
     clear hb2 h0
     go_enter Tryz.func131,Tryz.ntmps131
     go_upto_region 1 with fail
     ((with_reducible refine wp_region_grown_lit (by kernel_rfl) (by kernel_rfl) ?_);(repeat ((go_big_quiet_want;go_big_quiet_op;go_big_quiet_on)));(with_reducible refine wpQuiet_nil ?_);intro _ hw';obtain⟨nq,hw''⟩:=hw';subst hw'')
     have hb:=nq.below
     go_wp2
     go_ret
     exact⟨rfl,hb⟩
   ·obtain rfl:b=false:=by rw [hb2];simp [hn]
    have le:((a:Int) ==(n:Int))=false:=by simp;omega
    have le2:¬ (a:Int)=(n:Int):=by omega
    clear hb2 hn
    go_enter Tryz.func131,Tryz.ntmps131
    go_upto_region 1 with fail
    ((with_reducible refine wp_region_grown_lit (by kernel_rfl) (by kernel_rfl) ?_);(repeat (first|go_big_quiet_skip|(go_big_quiet_want;go_big_quiet_op;go_big_quiet_on)));(with_reducible refine wpQuiet_nil ?_);intro _ hw';obtain⟨nq,hw''⟩:=hw';subst hw'')
    have hb:=nq.below
    go_wp2
    go_ret
    exact⟨rfl,hb⟩
theorem noteP_of (p:Nat) (l:List Int) (hp:p<r.traces.length):noteP (p:Int) l t r=if justP t=true then { r with traces:=r.traces.set p l } else r:=by
 unfold noteP
 by_cases h:justP t=true
 ·rw [if_pos h,if_pos ⟨h,by omega,by omega⟩];rfl
 ·rw [if_neg h,if_neg (λx=>h x.1)]
end
section

/- What was noted at an address, and what is noted there. -/
open Go.RowKit
variable {B:RBase} {w w':World} {t:TapeP} {r:RWD}
theorem trace_w (h:RAt B w t r) (p:Nat) (hp:p<r.traces.length) (hn:p<=1000000):Calls Tryz.prog 109 #[.pointer (some ⟨B.I.tb,B.I.pre.length,none⟩),.int .i64 (p:Int)] w λe w'=>∃ xa xc,e=.returned (.slice xa (traceP (p:Int) r).length xc)/\w=w'/\SlAt w xa (traceP (p:Int) r).length 1 (intG (traceP (p:Int) r)):=by
 have ht:traceP (p:Int) r=r.traces.getD p []:=by unfold traceP;rw [if_neg (by omega)];rfl
 rw [ht]
 obtain⟨⟨bW,hbW,g1,_,g2⟩,_,g3⟩:=h.world
 clear hbW
 obtain⟨⟨x,g4,g6⟩,g5⟩:=g3 p hp
 obtain⟨_,_,_,_,_,xa,xc,rfl,_,hsl,_⟩:=g6
 obtain⟨n,hne⟩:∃ n,n=r.traces.length:=⟨_,rfl⟩
 rw [<-hne] at g2
 have l1:(p:Int)<(n:Int):=by omega
 have l2:¬ (p:Int)<0:=by omega
 have l3:IntKind.i64.wrap (p:Int)=(p:Int):=by rw [IntKind.wrap_i64];omega
 have l5:¬ (n:Int)<=(p:Int):=by omega
 obtain⟨xn,hxn⟩:∃ xn,xn=(r.traces.getD p []).length:=⟨_,rfl⟩
 rw [<-hxn] at g4
 have HH:=Lib.hid hsl
 suffices main:Calls Tryz.prog 109 #[.pointer (some ⟨B.I.tb,B.I.pre.length,none⟩),.int .i64 (p:Int)] w λe w'=>e=.returned (.slice xa xn xc)/\w=w' by
  refine Calls.mono main ?_
  rintro e w' ⟨rfl,rfl⟩
  exact⟨xa,xc,by rw [hxn],rfl,HH.out⟩
 clear hne h g3 g5 hsl hp ht hn HH hxn
 go_enter Tryz.func109,Tryz.ntmps109
 go_wp2
 go_ret
 exact⟨rfl,rfl⟩
set_option maxHeartbeats 1000000 in
theorem note_w {v:Value} {l:List Int} (h:RAtL B w t r v l) (p:Nat) (hp:p<r.traces.length) (hn:p<=1000000):Calls Tryz.prog 108 #[.pointer (some ⟨B.I.tb,B.I.pre.length,none⟩),.int .i64 (p:Int),v] w λe w'=>e=.returned (.tuple #[])/\RAt B w' t (noteP (p:Int) l t r):=by
 rw [noteP_of p l hp]
 obtain⟨va,vc,rfl⟩:∃ a c,v=.slice a l.length c:=by obtain⟨_,_,_,_,_,a,c,e,_⟩:=h;exact⟨a,c,e⟩
 obtain⟨vn,hvn⟩:∃ vn,vn=l.length:=⟨_,rfl⟩
 rw [<-hvn] at h ⊢
 clear hvn
 have JC:=just_r h.at
 obtain⟨n,hne⟩:∃ n,n=r.traces.length:=⟨_,rfl⟩
 have hp0:=hp
 have hp':p<n:=by omega
 have l1:(p:Int)<(n:Int):=by omega
 have l2:¬ (p:Int)<0:=by omega
 have l3:IntKind.i64.wrap (p:Int)=(p:Int):=by rw [IntKind.wrap_i64];omega
 have l4:(0:Int)<=(p:Int):=by omega
 cases hj:justP t with
 | false=>
  rw [hj] at JC
  have HJ:=Lib.hid JC;have HH:=Lib.hid h
  rw [if_neg (by exact Bool.false_ne_true)]
  clear JC h hj hne hp hp0
  go_enter Tryz.func108,Tryz.ntmps108
  go_wp2_with (go_at_call 131;refine(HJ.out).mono ?_;rintro e w1 ⟨rfl,hb⟩)
  (go_end0)
  exact⟨rfl,HH.out.at.grown hb⟩
 | true=>
  rw [hj] at JC
  have keep:∀ u,Below w.heap.size w u->∃ bW x,u.cell? ⟨B.I.tb,B.I.pre.length,none⟩=some (.pointer (some ⟨bW,0,none⟩))/\u.cell? ⟨bW,8,none⟩=some (.slice (some ⟨B.I.bT,0,none⟩) n n)/\u.cell? ⟨B.I.bT,p,none⟩=some x/\u.frozen? ⟨B.I.bT,p,none⟩=false/\RAt B (u.setCell ⟨B.I.bT,p,none⟩ (.slice va vn vc)) t { r with traces:=r.traces.set p l }:=λu hu=>by
   have h9:=h.grown hu
   obtain⟨⟨bW,_,g1,_,g2⟩,_,g3⟩:=h9.at.world
   obtain⟨⟨x,g4,_⟩,g5⟩:=g3 p hp0
   exact⟨bW,x,g1,by rw [g2,hne],g4,g5,h9.putTrace p⟩
  have HJ:=Lib.hid JC;have HK:=Lib.hid keep
  rw [if_pos rfl]
  clear JC h hj hne keep hp hp0
  go_enter Tryz.func108,Tryz.ntmps108
  go_wp2_with (go_at_call 131;refine HJ.out.mono ?_;rintro e w1 ⟨rfl,hb⟩;obtain⟨bW,x,g1,g2,g4,g5,g6⟩:=HK.out w1 hb)
  (go_end0)
  exact⟨rfl,g6⟩
theorem trace_every (h:RAt B w t r) (p:Nat) (hn:p<=1000000):Calls Tryz.prog 109 #[.pointer (some ⟨B.I.tb,B.I.pre.length,none⟩),.int .i64 (p:Int)] w λe w'=>∃ xa xc,e=.returned (.slice xa (traceP (p:Int) r).length xc)/\w=w'/\SlAt w xa (traceP (p:Int) r).length 1 (intG (traceP (p:Int) r)):=by
 by_cases hp:p<r.traces.length
 ·exact trace_w h p hp hn
 ·have ht:traceP (p:Int) r=[]:=by unfold traceP;rw [if_pos (by omega)]
  rw [ht]
  obtain⟨⟨bW,hbW,g1,_,g2⟩,_,_⟩:=h.world
  clear hbW
  obtain⟨n,hne⟩:∃ n,n=r.traces.length:=⟨_,rfl⟩
  rw [<-hne] at g2 hp
  have l1:¬ (p:Int)<(n:Int):=by omega
  have l2:¬ (p:Int)<0:=by omega
  have l3:IntKind.i64.wrap (p:Int)=(p:Int):=by rw [IntKind.wrap_i64];omega
  have l5:(n:Int)<=(p:Int):=by omega
  suffices main:Calls Tryz.prog 109 #[.pointer (some ⟨B.I.tb,B.I.pre.length,none⟩),.int .i64 (p:Int)] w λe w'=>e=.returned (.slice none 0 0)/\w=w' by
   refine Calls.mono main ?_
   rintro e w' ⟨rfl,rfl⟩
   exact⟨none,0,rfl,rfl,by show 0<=maxLen;exact Nat.zero_le _,λj hj=>absurd hj (Nat.not_lt_zero j)⟩
  clear hne h hp ht hn
  go_enter Tryz.func109,Tryz.ntmps109
  go_wp2
  go_ret
  exact⟨rfl,rfl⟩
set_option maxHeartbeats 1000000 in
theorem note_every {v:Value} {l:List Int} (h:RAtL B w t r v l) (p:Nat) (hn:p<=1000000):Calls Tryz.prog 108 #[.pointer (some ⟨B.I.tb,B.I.pre.length,none⟩),.int .i64 (p:Int),v] w λe w'=>e=.returned (.tuple #[])/\RAt B w' t (noteP (p:Int) l t r):=by
 by_cases hp:p<r.traces.length
 ·exact note_w h p hp hn
 ·have ht:noteP (p:Int) l t r=r:=by unfold noteP;rw [if_neg (by omega)]
  rw [ht]
  obtain⟨va,vc,rfl⟩:∃ a c,v=.slice a l.length c:=by obtain⟨_,_,_,_,_,a,c,e,_⟩:=h;exact⟨a,c,e⟩
  obtain⟨vn,hvn⟩:∃ vn,vn=l.length:=⟨_,rfl⟩
  rw [<-hvn] at h ⊢
  have JC:=just_r h.at
  obtain⟨n,hne⟩:∃ n,n=r.traces.length:=⟨_,rfl⟩
  have l1:¬ (p:Int)<(n:Int):=by omega
  have l2:¬ (p:Int)<0:=by omega
  have l4:(0:Int)<=(p:Int):=by omega
  have keep:∀ u,Below w.heap.size w u->∃ bW,u.cell? ⟨B.I.tb,B.I.pre.length,none⟩=some (.pointer (some ⟨bW,0,none⟩))/\u.cell? ⟨bW,8,none⟩=some (.slice (some ⟨B.I.bT,0,none⟩) n n)/\RAt B u t r:=λu hu=>by
   have h9:=h.at.grown hu
   obtain⟨⟨bW,_,g1,_,g2⟩,_,_⟩:=h9.world
   exact⟨bW,g1,by rw [g2,hne],h9⟩
  have HJ:=Lib.hid JC;have HK:=Lib.hid keep
  clear JC h hne keep hp hvn ht
  cases hj:justP t with
  | false=>
   rw [hj] at HJ
   go_enter Tryz.func108,Tryz.ntmps108
   go_wp2_with (go_at_call 131;refine HJ.out.mono ?_;rintro e w1 ⟨rfl,hb⟩;obtain⟨bW,g1,g2,g6⟩:=HK.out w1 hb)
   (go_end0)
   exact⟨rfl,g6⟩
  | true=>
   rw [hj] at HJ
   go_enter Tryz.func108,Tryz.ntmps108
   go_wp2_with (go_at_call 131;refine HJ.out.mono ?_;rintro e w1 ⟨rfl,hb⟩;obtain⟨bW,g1,g2,g6⟩:=HK.out w1 hb)
   (go_end0)
   exact⟨rfl,g6⟩
end
section

/- A list of ints is copied into a slice of its own, at the list of a plain region. -/
open Go.RowKit
end
section

/- A max register's key, as the reference tells it. -/
open Go.RowKit
variable {B:RBase} {w w':World} {t:TapeP} {r:RWD}
theorem set_w (h:RAt B w t r) (b k:Nat) (hk:1<=k) (hk9:k<=100000) (hb:b<=500000):Calls Tryz.prog 97 #[.pointer (some ⟨B.I.tb,B.I.pre.length,none⟩),.int .i64 (b:Int),.int .i64 (k:Int)] w λe w'=>e=.returned (.int .i64 (rSet r b k))/\w=w':=by
 have TR:=trace_every h (b+k - 1) (by omega)
 obtain⟨l,hl⟩:∃ l,l=traceP ((b+k - 1:Nat):Int) r:=⟨_,rfl⟩
 have hs:rSet r b k=l.headD 0:=by rw [hl];rfl
 rw [<-hl] at TR
 rw [hs]
 have e1:((b+k - 1:Nat):Int)=(b:Int)+(k:Int) - 1:=by omega
 rw [e1] at TR
 have w1:IntKind.i64.wrap ((b:Int)+(k:Int))=(b:Int)+(k:Int):=by rw [IntKind.wrap_i64];omega
 have w2:IntKind.i64.wrap ((b:Int)+(k:Int) - 1)=(b:Int)+(k:Int) - 1:=by rw [IntKind.wrap_i64];omega
 have HT:=Lib.hid TR
 clear h hl hs e1 TR
 go_enter Tryz.func97,Tryz.ntmps97
 go_wp2_with fail
 refine HT.out.mono ?_
 rintro e w1 ⟨xa,xc,rfl,rfl,hsl⟩
 cases l with
 | nil=>
  clear hsl
  go_wp2
  go_ret
  exact⟨rfl,rfl⟩
 | cons a l=>
  obtain⟨b0,o0,rfl,_,hc⟩:=hsl.2 0 (Nat.succ_pos _)
  have c0:w.cell? ⟨b0,o0,none⟩=some (.int .i64 a):=by have:=hc 0 (by omega);simpa [intG] using this
  obtain⟨n,hn⟩:∃ n,n=(a::l).length:=⟨_,rfl⟩
  have l0:((n:Int) == 0)=false:=by simp [hn];omega
  have l1:¬ (n:Int)=0:=by rw [hn,List.length_cons];omega
  have l2:(0:Int)<(n:Int):=by rw [hn,List.length_cons];omega
  rw [<-hn]
  clear hsl hc hn
  go_wp2
  go_ret
  exact⟨rfl,rfl⟩
def tnI (ts:List (Nat×Bool)):List Int:=ts.map λt=>if t.2=true then -(t.1:Int) else (t.1:Int)
theorem tnI_snoc (ts:List (Nat×Bool)) (k:Nat) (d:Bool):tnI (ts++[(k,d)])=tnI ts++[if d=true then -(k:Int) else (k:Int)]:=by simp [tnI]
theorem tnI_get (ts:List (Nat×Bool)) (j:Nat) (hj:j<ts.length):(tnI ts).getD j 0=if (ts.getD j (0,false)).2=true then -((ts.getD j (0,false)).1:Int) else ((ts.getD j (0,false)).1:Int):=by
 simp [tnI,List.getD_eq_getElem?_getD,hj]
theorem mxKeyStepW_len (S:Nat->Int) (t:Nat×Bool) (key:List Int):key.length<=(mxKeyStepW S t key).length/\(mxKeyStepW S t key).length<=key.length+1:=by
 unfold mxKeyStepW
 split
 ·exact⟨Nat.le_succ _,Nat.le_refl _⟩
 ·split
  ·exact⟨Nat.le_succ _,Nat.le_refl _⟩
  ·exact⟨Nat.le_refl _,Nat.le_succ _⟩
theorem mxKeyW_len (S:Nat->Int) (last:Int):∀ ts:List (Nat×Bool),1<=(mxKeyW S ts last).length/\(mxKeyW S ts last).length<=ts.length+1
 | []=>⟨Nat.le_refl _,Nat.le_refl _⟩
 | t::ts=>by
  have h1:=mxKeyStepW_len S t (mxKeyW S ts last)
  have h2:=mxKeyW_len S last ts
  have e:mxKeyW S (t::ts) last=mxKeyStepW S t (mxKeyW S ts last):=rfl
  rw [e,List.length_cons]
  omega
set_option maxHeartbeats 8000000 in
theorem key_w (h:RAt B w t r) (b:Nat) (hb9:b<=500000) (ts:List (Nat×Bool)) (hts:∀ x,x∈ts->1<=x.1/\x.1<=100000) (hlen:ts.length<=100) (la:Int) (val:Nat) (ya:Option Addr) (yc:Nat) (hsl:SlAt w ya ts.length 1 (intG (tnI ts))) :
  Calls Tryz.prog 98 #[.pointer (some ⟨B.I.tb,B.I.pre.length,none⟩),.int .i64 (b:Int),.agg #[.slice ya ts.length yc,.int .i64 la,.int .u64 (val:Int)]] w λe w'=>∃ g c,e=.returned (.slice (some ⟨g,0,none⟩) (mxKeyW (rSet r b) ts la).length c)/\SlAt w' (some ⟨g,0,none⟩) (mxKeyW (rSet r b) ts la).length 1 (intG (mxKeyW (rSet r b) ts la))/\w.heap.size<=g/\Below w.heap.size w w':=by
 obtain⟨wb,hwb⟩:∃ wb,wb=w.alloc (.cells #[.slice ya ts.length yc,.int .i64 la,.int .u64 (val:Int)] 175):=⟨_,rfl⟩
 have hg:Below w.heap.size w wb:=by rw [hwb];exact Gr.new _ _
 have hC:wb.heap[w.heap.size]?=some (.cells #[.slice ya ts.length yc,.int .i64 la,.int .u64 (val:Int)] 175 (0,0)):=by rw [hwb];exact heap_alloc_new _ _
 have hA:=h.grown hg
 obtain⟨S,hS⟩:∃ S,S=rSet r b:=⟨_,rfl⟩
 have SET:=Lib.hid (λ(u:World) (hu:Below wb.heap.size wb u) (k:Nat) (hk:1<=k) (hk2:k<=100000)=>(by have h9:=set_w (hA.grown hu) b k hk hk2 hb9;rw [<-hS] at h9;exact h9:Calls Tryz.prog 97 #[.pointer (some ⟨B.I.tb,B.I.pre.length,none⟩),.int .i64 (b:Int),.int .i64 (k:Int)] u λe w'=>e=.returned (.int .i64 (S k))/\u=w'))
 rw [<-hS]
 obtain⟨n,hn⟩:∃ n,n=ts.length:=⟨_,rfl⟩
 rw [<-hn] at hlen hsl hC hwb ⊢
 have TU:=Lib.hid (λ(u:World) (hu:Below wb.heap.size wb u) (j:Nat) (hj:j<n)=>(by
  obtain⟨b0,o0,e0,_,hc0⟩:=hsl.2 j hj
  refine⟨b0,o0,e0,?_⟩
  have h9:=hc0 0 (by omega)
  rw [Nat.mul_one,Nat.add_zero] at h9
  have lb:=World.block_lt_of_cell? _ _ h9
  have h8:wb.cell? ⟨b0,o0+j,none⟩=_:=(hg.cell (p:=⟨b0,o0+j,none⟩) lb).trans h9
  have h7:=(hu.cell (p:=⟨b0,o0+j,none⟩) (Nat.lt_of_lt_of_le lb hg.size)).trans h8
  rw [show intG (tnI ts) j 0=some (Value.int .i64 ((tnI ts).getD j 0)) from rfl,tnI_get ts j (by omega)] at h7
  exact h7:∃ g o,ya=some ⟨g,o,none⟩/\u.cell? ⟨g,o+j,none⟩=some (.int .i64 (if (ts.getD j (0,false)).2=true then -((ts.getD j (0,false)).1:Int) else ((ts.getD j (0,false)).1:Int)))))
 have TK:=Lib.hid (λj (hj:j<n)=>(by
  have hj':j<ts.length:=by omega
  exact hts _ (by rw [List.getD_eq_getElem?_getD,List.getElem?_eq_getElem hj'];exact List.getElem_mem _):1<=(ts.getD j (0,false)).1/\(ts.getD j (0,false)).1<=100000))
 have y0:wb.cell? ⟨w.heap.size,0,none⟩=some (.slice ya n yc):=by rw [cell_blk hC];rfl
 have y1:wb.cell? ⟨w.heap.size,1,none⟩=some (.int .i64 la):=by rw [cell_blk hC];rfl
 have lwb:=blk_lt hC
 have Hn:=Lib.hid hn;have Hwb:=Lib.hid hwb;have Hg:=Lib.hid hg
 have KL:=Lib.hid (λj=>mxKeyW_len S la (ts.drop j))
 have wn:IntKind.i64.wrap ((n:Int) - 1)=(n:Int) - 1:=by rw [IntKind.wrap_i64];omega
 have hnI:(n:Int)<=100:=by omega
 obtain⟨la2,hla2⟩:∃ la2,IntKind.i64.wrap (2*la)=la2:=⟨_,rfl⟩
 have Hla2:=Lib.hid (show w64 (2*la)=la2 from hla2)
 clear h hS hwb hg hC hA hts hsl hn
 go_enter Tryz.func98,Tryz.ntmps98
 go_upto_region 1 with fail
 rw [<-Hwb.out]
 go_wp2
 go_loopw [7,8] (λkv i wr=>∃(j g c NN:Nat),j<=n/\i=.int .i64 ((j:Int) - 1)/\kv=.slice (some ⟨g,0,none⟩) NN c/\NN=(mxKeyW S (ts.drop j) la).length/\SlAt wr (some ⟨g,0,none⟩) NN 1 (intG (mxKeyW S (ts.drop j) la))/\wb.heap.size<=g/\Below wb.heap.size wb wr) (λ_ i _=>(intOf i+1).toNat)
 case atStart=>
  refine⟨n,wb.heap.size,1,1,Nat.le_refl _,rfl,rfl,?_,?_,Nat.le_refl _,Gr.new _ _⟩
  ·rw [List.drop_eq_nil_of_le (by rw [<-Hn.out];exact Nat.le_refl _)];rfl
  ·rw [List.drop_eq_nil_of_le (by rw [<-Hn.out];exact Nat.le_refl _)]
   refine⟨by unfold maxLen;omega,λj hj=>⟨wb.heap.size,0,rfl,by simp,λf hf=>?_⟩⟩
   obtain rfl:f=0:=by omega
   obtain rfl:j=0:=by omega
   rw [cell_new]
   show _=some (Value.int .i64 (w64 (2*la)))
   rw [Hla2.out];rfl
 case round=>
  obtain⟨j,g,c,NN,hj,rfl,rfl,hNN,hsl,hgg,hbw⟩:=hrel
  have hkl:=KL.out j
  cases j with
  | zero=>
   rw [List.drop_zero] at hsl hkl hNN
   have Fin:=Lib.hid (show Value.slice (some ⟨g,0,none⟩) NN c=.slice (some ⟨g,0,none⟩) (mxKeyW S ts la).length c/\SlAt wr (some ⟨g,0,none⟩) (mxKeyW S ts la).length 1 (intG (mxKeyW S ts la)) from⟨by rw [hNN],by rw [<-hNN];exact hsl⟩)
   have HB:=Lib.hid (Hg.out.trans (hbw.mono Hg.out.size))
   have lg:w.heap.size<=g:=Nat.le_trans Hg.out.size hgg
   clear hsl hkl hNN hbw
   rw [show(((0:Nat):Int) - 1)=-1 from rfl]
   go_wp2
   go_ret
   exact⟨g,c,by rw [Fin.out.1];rfl,Fin.out.2,lg,HB.out⟩
  | succ j=>
   have hjn:j<n:=by omega
   obtain⟨tk1,tk2⟩:=TK.out j hjn
   obtain⟨q,o,rfl,c0⟩:=TU.out wr hbw j hjn
   have hdr:=drop_cons ts j (by rw [<-Hn.out];exact hjn)
   obtain⟨kr,hkr⟩:∃ kr,kr=ts.getD j (0,false):=⟨_,rfl⟩
   rw [<-hkr] at c0 tk1 tk2 hdr
   obtain⟨k,rt⟩:=kr
   simp only at c0 tk1 tk2
   have y0r:=(hbw.cell (p:=⟨w.heap.size,0,none⟩) lwb).trans y0
   obtain⟨K,hK⟩:∃ K,K=mxKeyW S (ts.drop (j+1)) la:=⟨_,rfl⟩
   have hkey:mxKeyW S (ts.drop j) la=mxKeyStepW S (k,rt) K:=by rw [hdr,hK];rfl
   rw [<-hK] at hsl hNN hkl
   obtain⟨sv,hsv⟩:∃ sv,sv=S k:=⟨_,rfl⟩
   have hst9:mxKeyStepW S (k,rt) K=if rt=false/\0<sv/\w64 (2*sv)<K.headD 0 then w64 (w64 (2*sv) - 1)::K else if rt=true/\0<sv/\K.headD 0<=w64 (2*sv) then w64 (2*sv)::K else K:=by rw [hsv];rfl
   obtain⟨x0,hx0⟩:∃ x0,x0=K.headD 0:=⟨_,rfl⟩
   have cg:wr.cell? ⟨g,0,none⟩=some (.int .i64 x0):=by
    cases hKe:K with
    | nil=>rw [hKe] at hkl;exact absurd hkl.1 (by decide)
    | cons a l=>
     rw [hKe] at hx0 hsl hNN
     obtain rfl:x0=a:=hx0
     obtain⟨b9,o9,e9,_,hc9⟩:=hsl.2 0 (by rw [hNN];exact Nat.succ_pos _)
     cases e9
     exact hc9 0 (by omega)
   rw [<-hx0] at hst9
   have hpos:0<NN:=by omega
   have hposI:(0:Int)<(NN:Int):=by omega
   have hle:NN<=1000000:=by
    have h9:=hkl.2
    rw [List.length_drop] at h9
    have h8:=Hn.out
    omega
   have SV:=Lib.hid (show Calls Tryz.prog 97 #[.pointer (some ⟨B.I.tb,B.I.pre.length,none⟩),.int .i64 (b:Int),.int .i64 (k:Int)] wr (λe w'=>e=.returned (.int .i64 sv)/\wr=w') from by rw [hsv];exact SET.out _ hbw k tk1 tk2)
   have l1:(j:Int)<(n:Int):=by omega
   have l2:(0:Int)<=(j:Int):=by omega
   have l3:¬ (j:Int)<0:=by omega
   obtain⟨W2,hW2⟩:∃ W2,w64 (2*sv)=W2:=⟨_,rfl⟩
   obtain⟨W3,hW3⟩:∃ W3,w64 (W2 - 1)=W3:=⟨_,rfl⟩
   have w2s:IntKind.i64.wrap (2*sv)=W2:=hW2
   have w2s1:IntKind.i64.wrap (W2 - 1)=W3:=hW3
   rw [hW2,hW3] at hst9
   have wj:IntKind.i64.wrap ((j:Int) - 1)=(j:Int) - 1:=by rw [IntKind.wrap_i64];omega
   have ej:(((j+1:Nat):Int) - 1)=(j:Int):=by omega
   rw [ej]
   have HNN:=Lib.hid hNN;have Hst:=Lib.hid hst9;have Hkey:=Lib.hid hkey;have Hsl:=Lib.hid hsl;have Hb5:=Lib.hid hbw
   have Un:=Lib.hid (λ(e:mxKeyStepW S (k,rt) K=K)=>(⟨j,g,c,NN,by omega,rfl,rfl,by rw [Hkey.out,e];exact HNN.out,by rw [Hkey.out,e];exact Hsl.out,hgg,Hb5.out⟩:∃(j2 g2 c2 N2:Nat),j2<=n/\Value.int .i64 ((j:Int) - 1)=.int .i64 ((j2:Int) - 1)/\Value.slice (some ⟨g,0,none⟩) NN c=.slice (some ⟨g2,0,none⟩) N2 c2/\N2=(mxKeyW S (ts.drop j2) la).length/\SlAt wr (some ⟨g2,0,none⟩) N2 1 (intG (mxKeyW S (ts.drop j2) la))/\wb.heap.size<=g2/\Below wb.heap.size wb wr))
   have App:=Lib.hid (λ(g' M:Nat) (w6:World) (kk:Int) (c6:Nat) (hM:M=NN+1) (h6:SlAt w6 (some ⟨g',0,none⟩) M 1 (intG (kk::K))) (hg6:wr.heap.size<=g') (hb6:Below wr.heap.size (wr.alloc (.cells #[.int .i64 kk] 3)) w6) (e:mxKeyStepW S (k,rt) K=kk::K)=>(⟨j,g',c6,M,by omega,rfl,rfl,by rw [Hkey.out,e,hM,HNN.out];rfl,by rw [Hkey.out,e];exact h6,by have:=Hb5.out.size;omega,Hb5.out.trans (((Gr.new wr _).trans hb6).mono Hb5.out.size)⟩:∃(j2 g2 c2 N2:Nat),j2<=n/\Value.int .i64 ((j:Int) - 1)=.int .i64 ((j2:Int) - 1)/\Value.slice (some ⟨g',0,none⟩) M c6=.slice (some ⟨g2,0,none⟩) N2 c2/\N2=(mxKeyW S (ts.drop j2) la).length/\SlAt w6 (some ⟨g2,0,none⟩) N2 1 (intG (mxKeyW S (ts.drop j2) la))/\wb.heap.size<=g2/\Below wb.heap.size wb w6))
   have hstep:=Hst.out
   clear hdr hkr hK hkey hsv hst9 hx0 hkl hNN hsl hbw hW2 hW3 y0
   cases rt with
   | false=>
    have k1:(0:Int)<(k:Int):=by omega
    have c1:wr.cell? ⟨q,o+j,none⟩=some (.int .i64 (k:Int)):=by rw [c0,if_neg Bool.false_ne_true]
    clear c0 tk1 tk2
    by_cases hs0:0<sv
    ·by_cases hlt:W2<x0
     ·rw [if_pos ⟨rfl,hs0,hlt⟩] at hstep
      have hst:=hstep
      have Ap:=Lib.hid (λ(g' M:Nat) (w6:World) (hM:M=NN+1) (h6:SlAt w6 (some ⟨g',0,none⟩) M 1 (intG (W3::K))) (hg6:wr.heap.size<=g') (hb6:Below wr.heap.size (wr.alloc (.cells #[.int .i64 W3] 3)) w6) (c6:Nat)=>App.out g' M w6 W3 c6 hM h6 hg6 hb6 hst)
      clear App Un hst hstep Hst Hkey
      go_upto_region 8 with(go_at_call 97;refine SV.out.mono ?_;rintro e w5 ⟨rfl,rfl⟩)
      go_wp2_with (at_builtin;refine wpList_cons_ints rfl _ _ rfl wr.heap.size W3 rfl (heap_alloc_new _ _) g NN c K rfl HNN.out hpos hle (Hsl.out.grown (Gr.new wr _)) ?_;intro g' vc M w6 hM hsl6 hg6 hb6;have F6:=Lib.hid (Ap.out g' M w6 hM hsl6 hg6 hb6 vc);clear hM hsl6 hg6 hb6 Ap)
      go_roundw
      case rel=>exact F6.out
      case measure=>simp [intOf]<;>omega
     ·rw [if_neg (λh=>hlt h.2.2),if_neg (λh=>by cases h.1)] at hstep
      have Un:=Lib.hid (Un.out hstep)
      clear hstep Hst Hkey App
      go_upto_region 8 with(go_at_call 97;refine SV.out.mono ?_;rintro e w5 ⟨rfl,rfl⟩)
      go_wp2
      go_roundw
      case rel=>exact Un.out
      case measure=>simp [intOf]<;>omega
    ·rw [if_neg (λh=>hs0 h.2.1),if_neg (λh=>by cases h.1)] at hstep
     have Un:=Lib.hid (Un.out hstep)
     clear hstep Hst Hkey App
     go_upto_region 8 with(go_at_call 97;refine SV.out.mono ?_;rintro e w5 ⟨rfl,rfl⟩)
     go_wp2
     go_roundw
     case rel=>exact Un.out
     case measure=>simp [intOf]<;>omega
   | true=>
    have k1:¬ (0:Int) < -(k:Int):=by omega
    have k2:IntKind.i64.wrap (k:Int)=(k:Int):=by rw [IntKind.wrap_i64];omega
    have c1:wr.cell? ⟨q,o+j,none⟩=some (.int .i64 (-(k:Int))):=by rw [c0,if_pos rfl]
    clear c0 tk1 tk2
    by_cases hs0:0<sv
    ·by_cases hlt:x0<=W2
     ·rw [if_neg (λh=>by cases h.1),if_pos ⟨rfl,hs0,hlt⟩] at hstep
      have hst:=hstep
      have Ap:=Lib.hid (λ(g' M:Nat) (w6:World) (hM:M=NN+1) (h6:SlAt w6 (some ⟨g',0,none⟩) M 1 (intG (W2::K))) (hg6:wr.heap.size<=g') (hb6:Below wr.heap.size (wr.alloc (.cells #[.int .i64 W2] 3)) w6) (c6:Nat)=>App.out g' M w6 W2 c6 hM h6 hg6 hb6 hst)
      clear App Un hst hstep Hst Hkey
      go_upto_region 11 with(go_at_call 97;refine SV.out.mono ?_;rintro e w5 ⟨rfl,rfl⟩)
      go_wp2_with (at_builtin;refine wpList_cons_ints rfl _ _ rfl wr.heap.size W2 rfl (heap_alloc_new _ _) g NN c K rfl HNN.out hpos hle (Hsl.out.grown (Gr.new wr _)) ?_;intro g' vc M w6 hM hsl6 hg6 hb6;have F6:=Lib.hid (Ap.out g' M w6 hM hsl6 hg6 hb6 vc);clear hM hsl6 hg6 hb6 Ap)
      go_roundw
      case rel=>exact F6.out
      case measure=>simp [intOf]<;>omega
     ·rw [if_neg (λh=>by cases h.1),if_neg (λh=>hlt h.2.2)] at hstep
      have Un:=Lib.hid (Un.out hstep)
      clear hstep Hst Hkey App
      go_upto_region 11 with(go_at_call 97;refine SV.out.mono ?_;rintro e w5 ⟨rfl,rfl⟩)
      go_wp2
      go_roundw
      case rel=>exact Un.out
      case measure=>simp [intOf]<;>omega
    ·rw [if_neg (λh=>by cases h.1),if_neg (λh=>hs0 h.2.1)] at hstep
     have Un:=Lib.hid (Un.out hstep)
     clear hstep Hst Hkey App
     go_upto_region 11 with(go_at_call 97;refine SV.out.mono ?_;rintro e w5 ⟨rfl,rfl⟩)
     go_wp2
     go_roundw
     case rel=>exact Un.out
     case measure=>simp [intOf]<;>omega
end
section

/- A tape beside blocks that its caller has made, and writes to. -/
open Go.RowKit
variable {B:RBase} {w w':World} {t t':TapeP} {r r':RWD} {X X':Nat->Prop}
def RIds.plus (I:RIds) (X:Nat->Prop):RIds:={ I with Mx:=λb=>I.Mx b∨X b }
theorem RTapeAt.re {I:RIds} {G K L:Value} {S Mx':Nat->Prop} (h:RTapeAt w I G K L t r) (hc:Chg S w w') (hS:∀ b,S b->I.Mx b) (hX:∀ b,Mx' b->I.Mx b∨(w.heap.size<=b/\b<w'.heap.size)):RTapeAt w' { I with Mx:=Mx' } G K L t r:=by
 have hlow:=h.mutlow
 obtain⟨PV,LV,KV,ht,hp,hl,hk⟩:=h.tape
 have hn:∀ b,S b->¬ RSet I G K L b:=λb hb=>h.dis b (hS b hb)
 have hM:∀ b,S b->RMut I G K L b:=λb hb=>.inr (hS b hb)
 have hup:MutUp (RMut I G K L) w (RMut { I with Mx:=Mx' } G K L):=λb hb=>by
  rcases hb with hb|hb
  ·exact .inl (.inl hb)
  ·rcases hX b hb with h9|h9
   ·exact .inl (.inr h9)
   ·exact .inr h9.1
 refine⟨⟨PV,LV,KV,ht.chg hc (λk hk hs=>hn k hs (.inl hk)),hp.keep hc hM hup,hl.keep hc hM hup,hk.keep hc hM hup⟩,h.marks.keep hc hM hup (λhs=>hn _ hs (.inr (.inl rfl))),h.traces.keep hc hM hup (λhs=>hn _ hs (.inr (.inr rfl))),h.sep,λb hb hs=>?_,λb hb=>?_,h.at_le,h.tl,h.room⟩
 ·rcases hX b hb with h9|h9
  ·exact h.dis b h9 hs
  ·have:=hlow b (.inl hs);omega
 ·rcases hX b hb with h9|h9
  ·exact Nat.lt_of_lt_of_le (h.low b h9) hc.size
  ·exact h9.2
def RAtO (B:RBase) (w:World) (t:TapeP) (r:RWD) (X:Nat->Prop):Prop:=∃ G K L,RTapeAt w (B.I.plus X) G K L t r/\RTo B.w0 w B.I B.G B.K B.L G K L/\∀ b,X b->B.w0.heap.size<=b
theorem RAt.own (h:RAt B w t r) (hb:Below w.heap.size w w') (hX:∀ b,X b->w.heap.size<=b/\b<w'.heap.size):RAtO B w' t r X:=by
 obtain⟨G,K,L,h1,h2⟩:=h
 exact⟨G,K,L,h1.re (S:=noB) (Chg.of_below hb) (λ_ e=>e.elim) (λb hb=>hb.imp_right (hX b)),h2.trans (h1.grown hb).2,λb hb=>Nat.le_trans h2.chg.size (hX b hb).1⟩
theorem RAtO.at (h:RAtO B w t r X):RAt B w t r:=by
 obtain⟨G,K,L,h1,h2,_⟩:=h
 exact⟨G,K,L,h1.re (S:=noB) (Mx':=B.I.Mx) (Chg.refl _ _) (λ_ e=>e.elim) (λb hb=>.inl (.inl hb)),h2⟩
theorem RAtO.lt (h:RAtO B w t r X) (b:Nat) (hb:X b):b<w.heap.size:=by
 obtain⟨G,K,L,h1,_⟩:=h
 exact h1.low b (.inr hb)
theorem RAtO.turn (h:RAtO B w t r X) (hc:Chg X w w') (hX:∀ b,X' b->X b∨(w.heap.size<=b/\b<w'.heap.size)):RAtO B w' t r X':=by
 obtain⟨G,K,L,h1,h2,h3⟩:=h
 have hsz:=h2.chg.size
 refine⟨G,K,L,h1.re hc (λb hb=>.inr hb) (λb hb=>?_),⟨⟨hc.os.trans h2.chg.os,hc.tape.trans h2.chg.tape,hc.output.trans h2.chg.output,Nat.le_trans hsz hc.size,λk hk hs=>(hc.block k (Nat.lt_of_lt_of_le hk hsz) (λhx=>by have:=h3 k hx;omega)).trans (h2.chg.block k hk hs)⟩,h2.kg,h2.kk,h2.kl⟩,λb hb=>?_⟩
 ·rcases hb with hb|hb
  ·exact .inl (.inl hb)
  ·rcases hX b hb with h9|h9
   ·exact .inl (.inr h9)
   ·exact .inr h9
 ·rcases hX b hb with h9|h9
  ·exact h3 b h9
  ·omega
theorem RAtO.grown (h:RAtO B w t r X) (hb:Below w.heap.size w w'):RAtO B w' t r X:=h.turn (Chg.of_below hb) (λ_ hb=>.inl hb)
theorem RAtO.call {F:Nat} {args:Array Value} {R:Ending->World->Prop} (h:RAtO B w t r X) (C:∀ B':RBase,B'.I.tb=B.I.tb->B'.I.pre=B.I.pre->RAt B' w t r->Calls Tryz.prog F args w (λe w'=>R e w'/\RAt B' w' t' r')) :
  Calls Tryz.prog F args w (λe w'=>R e w'/\RAtO B w' t' r' X/\w.heap.size<=w'.heap.size/\∀ b,X b->w'.heap[b]?=w.heap[b]?):=by
 obtain⟨G,K,L,h1,h2,h3⟩:=h
 refine(C ⟨w,B.I.plus X,G,K,L⟩ rfl rfl ⟨G,K,L,h1,RTo.refl _ _ _ _ _⟩).mono ?_
 rintro e w' ⟨hR,G',K',L',k1,k2⟩
 exact⟨hR,⟨G',K',L',k1,h2.trans (⟨k2.chg,k2.kg,k2.kk,k2.kl⟩:RTo w w' B.I G K L G' K' L'),h3⟩,k2.chg.size,λb hb=>k2.chg.block b (h1.low b (.inr hb)) (h1.dis b (.inr hb))⟩
theorem RAtO.callL {w0:World} {F:Nat} {args:Array Value} {R:Ending->World->Prop} {a:Option Addr} {c:Nat} {l:List Int} (h:RAtO B w0 t r X) (hb:Below w0.heap.size w0 w) (hs:SlAt w a l.length 1 (intG l)) (hn:l=[]->a=none/\c=0) (hlo:∀ b off,a=some ⟨b,off,none⟩->w0.heap.size<=b) (C:∀ B':RBase,B'.I.tb=B.I.tb->B'.I.pre=B.I.pre->RAtL B' w t r (.slice a l.length c) l->Calls Tryz.prog F args w (λe w'=>R e w'/\RAt B' w' t' r')) :
  Calls Tryz.prog F args w (λe w'=>R e w'/\RAtO B w' t' r' X/\w.heap.size<=w'.heap.size/\∀ b,X b->w'.heap[b]?=w.heap[b]?):=by
 obtain⟨G,K,L,h1,h2,h3⟩:=h.grown hb
 obtain⟨G0,K0,L0,k1,k2,k3⟩:=h
 have h0:RAtL ⟨w0,B.I.plus X,G0,K0,L0⟩ w t r (.slice a l.length c) l:=RAt.newL (B:=⟨w0,B.I.plus X,G0,K0,L0⟩) ⟨G0,K0,L0,k1,RTo.refl _ _ _ _ _⟩ hb hs hn hlo
 obtain⟨G,K,L,m1,m2,m3⟩:=h0
 refine(C ⟨w,B.I.plus X,G,K,L⟩ rfl rfl ⟨G,K,L,m1,RTo.refl _ _ _ _ _,m3⟩).mono ?_
 rintro e w' ⟨hR,G',K',L',q1,q2⟩
 exact⟨hR,⟨G',K',L',q1,(k2.trans (⟨m2.chg,m2.kg,m2.kk,m2.kl⟩:RTo w0 w B.I G0 K0 L0 G K L)).trans (⟨q2.chg,q2.kg,q2.kk,q2.kl⟩:RTo w w' B.I G K L G' K' L'),k3⟩,q2.chg.size,λb hb=>q2.chg.block b (m1.low b (.inr hb)) (m1.dis b (.inr hb))⟩
theorem wpList_push_int {ops:Array Oper} {rest:List Oper} {o:Oper} {a:Act} {w:World} {Q:Exit->Act->World->Prop} (hgd:o.guard=none) (s x:Operand) (ho:o.op=.call { callee:=.builtin .append,args:=#[s,x],argTypes:=#[24,24] })
  (v:Value) (l:List Int) (N:Nat) (hN:N=l.length) (hl:N<=1000000) (hs:a.eval s=v) (hown:w.ownsRow 0 3 1 v N (l.map (Value.int .i64))) (b:Nat) (k:Int) (hx:a.eval x=.slice (some ⟨b,0,none⟩) 1 1) (hb:w.heap[b]?=some (.cells #[.int .i64 k] 3 (0,0)))
  (h:∀(g vc M:Nat) (w':World),M=N+1->w'.ownsRow 0 3 1 (.slice (some ⟨g,0,none⟩) M vc) M ((l++[k]).map (Value.int .i64))->Chg (λb=>v.ownBlock=some b) w w'->(v.ownBlock=some g∨g=w.heap.size)->g<w'.heap.size->wpList Tryz.prog ops Q rest (a.put o.dst (.slice (some ⟨g,0,none⟩) M vc)) w') :
  wpList Tryz.prog ops Q (o::rest) a w:=by
 obtain⟨j0,hj0,hy0,hy1,hy2⟩:=info_parts int_info0
 refine wpList_append_lies w hgd s x 24 ho 0 3 j0 (.int .i64 0) 1 8 Tryz.underlying24 hj0 hy0 hy1 hy2 rfl (by decide) v N (l.map (Value.int .i64)) hs hown ⟨b,0,none⟩ 1 1 [.int .i64 k] hx rfl ?_ ?_ (by decide) ?_ ?_ (Nat.zero_le _) w.heap.size rfl ?_
 ·intro j u hu
  have e8:(⟨b,0,none⟩:Addr).add j=⟨b,j,none⟩:=addr_add0 b j
  rw [e8,cell_blk hb]
  simpa using hu
 ·simp [Value.oneCell']
 ·unfold maxLen;omega
 ·omega
 ·intro g cap w' hown' hgr hat hlt
  have hc:Chg (λb=>v.ownBlock=some b) w w':=(Chg.refl _ w).grown hgr (λk hk=>.inl hk)
  have e2:l.map (Value.int .i64)++[.int .i64 k]=(l++[k]).map (Value.int .i64):=by simp
  rw [e2] at hown'
  exact h g cap (N+1) w' rfl hown' hc hat hlt
end
end Go.Proofs.YteffgpcjfnjlkaaGreat
