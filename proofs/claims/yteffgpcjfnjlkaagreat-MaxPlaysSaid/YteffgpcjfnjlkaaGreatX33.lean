/- Layer 10: machines are made, answer, and tell when they took effect. -/
import Derived.Test.YteffgpcjfnjlkaaGreatX32
import Derived.Test.YteffgpcjfnjlkaaGreatX04
import Derived.BigQuiet
import Derived.Stop.Asserts
set_option maxRecDepth 100000
set_option linter.unusedVariables false
set_option linter.unusedSimpArgs false
set_option linter.unnecessarySimpa false
namespace Go.Proofs.YteffgpcjfnjlkaaGreat
section
open Go.RowKit
variable {w w' w2:World} {Mut:Nat->Prop} {I:WIds} {N N' N2:Nat} {wd wd' wd2:WD} {bm:Nat} {rest rest' rest2:List Value} {T:TypeId} {b m p:Nat} {y y' y2:WayD} {tv tv' tv2 kv:Value}
theorem nil_turns (w:World):w.ownsRow 0 269 2 (.slice none 0 0) 0 []:=⟨by decide,.inl ⟨rfl,rfl⟩⟩
theorem wayB_nil {bm k:Nat} (h:WayB bm (.slice none 0 0) k):k=bm:=h.elim id (λh=>by cases h)
theorem new_reader (b m p:Nat) (w:World):Calls Tryz.prog 182 #[.agg #[.int .i64 (b:Int),.int .i64 (m:Int)],.int .i64 (p:Int)] w λe w'=>e=.returned (.pointer (some ⟨w.heap.size+1,0,none⟩))/\Below w.heap.size w w'/\WayAt w' (w.heap.size+1) (rdRest 0 (.slice none 0 0)) 263 b m p (way0 m) (.slice none 0 0):=by
 have hf:∀ u:World,u.heap.size=w.heap.size+1->(u.alloc (.cells (wayL b m p (way0 m) (.slice none 0 0)++rdRest 0 (.slice none 0 0)).toArray 263)).heap[w.heap.size+1]?=some (.cells (wayL b m p (way0 m) (.slice none 0 0)++rdRest 0 (.slice none 0 0)).toArray 263 (0,0)):=λu hu=>by
  rw [<-hu];exact heap_alloc_new _ _
 have Hf:=Lib.hid (hf (w.alloc (.cells #[.int .i64 (b:Int),.int .i64 (m:Int)] 74)) (by simp))
 clear hf
 go_enter Tryz.func182,Tryz.ntmps182
 go_wp2
 go_ret
 exact⟨rfl,Gr.alloc (Gr.new _ _) _,Hf.out,nil_turns _,by decide⟩
set_option maxHeartbeats 1000000 in
theorem new_writer (m v:Nat) (hw:WorldAt w Mut I N wd) (hv:v<2^m) (hm:m<=12) (b p:Nat) :
  Calls Tryz.prog 183 #[.agg #[.int .i64 (b:Int),.int .i64 (m:Int)],.int .i64 (p:Int),.int .u64 (v:Int)] w λe w'=>e=.returned (.pointer (some ⟨w.heap.size+1,0,none⟩))/\Below w.heap.size w w'/\∃ tv,WayAt w' (w.heap.size+1) (wrRest v (newWr m v).up (newWr m v).nx (.slice none 0 0)) 265 b m p (newWr m v).y tv/\∀ k,WayB (w.heap.size+1) tv k->w.heap.size<=k:=by
 obtain⟨w1,hw1⟩:∃ w1,w1=(w.alloc (.cells #[.int .i64 (b:Int),.int .i64 (m:Int)] 74)).alloc (.cells (wayL b m p (way0 m) (.slice none 0 0)++wrRest v false 1 (.slice none 0 0)).toArray 265):=⟨_,rfl⟩
 have hb1:Below w.heap.size w w1:=by rw [hw1];exact Gr.alloc (Gr.new _ _) _
 have hs1:w1.heap.size=w.heap.size+2:=by rw [hw1];simp
 have hk1:w1.heap[w.heap.size+1]?=some (.cells (wayL b m p (way0 m) (.slice none 0 0)++wrRest v false 1 (.slice none 0 0)).toArray 265 (0,0)):=by
  rw [hw1]
  have:=heap_alloc_new (w.alloc (.cells #[.int .i64 (b:Int),.int .i64 (m:Int)] 74)) (.cells (wayL b m p (way0 m) (.slice none 0 0)++wrRest v false 1 (.slice none 0 0)).toArray 265 (0,0))
  simp only [World.size_alloc] at this
  exact this
 have h1:WayAt w1 (w.heap.size+1) (wrRest v false 1 (.slice none 0 0)) 265 b m p (way0 m) (.slice none 0 0):=⟨hk1,nil_turns _,by decide⟩
 have hB:∀ k,WayB (w.heap.size+1) (.slice none 0 0) k->w.heap.size<=k:=λk hk=>by rw [wayB_nil hk];omega
 have hW1:WorldAt w1 (mutTo Mut noB (WayB (w.heap.size+1) (.slice none 0 0))) I N wd:=by
  refine hw.keep (S:=noB) (Chg.of_below hb1) (λ_ h=>h.elim) (λ_ h=>h.elim) ?_ ?_ (λk hk=>.inl ⟨hw.muts k hk,λh=>h.elim⟩)
  ·rintro k (⟨h9,_⟩|h9)
   ·exact .inl h9
   ·exact .inr (hB k h9)
  ·rintro k (⟨h9,_⟩|h9)
   ·have:=hw.low k h9;omega
   ·rw [wayB_nil h9];omega
 have hB1:∀ k,WayB (w.heap.size+1) (.slice none 0 0) k->mutTo Mut noB (WayB (w.heap.size+1) (.slice none 0 0)) k/\¬ WSet I k:=λk hk=>⟨.inr hk,λhS=>by have:=hw.low k (hw.muts k hS);have:=hB k hk;omega⟩
 have DN:=Lib.hid (wr_down ⟨way0 m,v,false,1,[]⟩ hW1 h1 hB1 ⟨WayOk.init m,by simp [way0],(λe=>by cases e),hv⟩ rfl hm)
 have fin:∀ w',(∃ tv',WayTo w1 w' (mutTo Mut noB (WayB (w.heap.size+1) (.slice none 0 0))) I N wd (w.heap.size+1) (wrRest (newWr m v).v (newWr m v).up (newWr m v).nx (.slice none 0 0)) 265 b m p (.slice none 0 0) (newWr m v).y tv'/\Chg (WayB (w.heap.size+1) (.slice none 0 0)) w1 w')->Below w.heap.size w w'/\∃ tv,WayAt w' (w.heap.size+1) (wrRest v (newWr m v).up (newWr m v).nx (.slice none 0 0)) 265 b m p (newWr m v).y tv/\∀ k,WayB (w.heap.size+1) tv k->w.heap.size<=k:=by
  rintro w' ⟨tv',h9,hc⟩
  have e1:(newWr m v).v=v:=by unfold newWr WrD.down;split<;>rfl
  rw [e1] at h9
  refine⟨hb1.trans (hc.below hB (by omega)),tv',h9.way,λk hk=>?_⟩
  rcases h9.sub k hk with h8|h8
  ·exact hB k h8
  ·omega
 have Fin:=Lib.hid fin;have Hw1:=Lib.hid hw1
 clear hw hv hm hw1 hb1 hs1 hk1 h1 hB hW1 hB1 fin
 go_enter Tryz.func183,Tryz.ntmps183
 go_upto_region 2 with fail
 have e9:(w.alloc (.cells #[.int .i64 (b:Int),.int .i64 (m:Int)] 74)).alloc (.cells #[.int .i64 (b:Int),.int .i64 (m:Int),.int .i64 (p:Int),.int .i64 1,.int .i64 (m:Int),.slice none 0 0,.int .i64 0,.int .u64 (v:Int),.bool false,.int .i64 0,.slice none 0 0] 265)=w1:=Hw1.out.symm
 have E9:=Lib.hid e9
 clear e9
 rw [E9.out]
 go_wp2_with (go_at_call 184;refine(DN.out).mono ?_;rintro e w3 ⟨rfl,h1⟩)
 go_ret
 exact⟨rfl,Fin.out w3 h1⟩
end
section

/- Layer 10: machines answer, and tell when they took effect. -/
open Go.RowKit
variable {w w' w2:World} {Mut:Nat->Prop} {I:WIds} {N N' N2:Nat} {wd wd' wd2:WD} {bm:Nat} {T:TypeId} {b m p:Nat} {y:WayD} {tv:Value}
theorem rd_answer (val:Nat) (ka:Option Addr) (kn kc:Nat) (h:WayAt w bm (rdRest val (.slice ka kn kc)) T b m p y tv) :
  Calls Tryz.prog 222 #[.pointer (some ⟨bm,0,none⟩)] w λe w'=>e=.returned (.tuple #[ansV 0 val (.slice none 0 0),.slice ka kn kc])/\Below w.heap.size w w':=by
 have hlt:=blk_lt h.blk
 have hb2:(w.alloc (.cells #[.int .i64 0,.int .u64 0,.slice none 0 0] 50)).heap[bm]?=_:=(Below.heap_alloc _ _ _ hlt).trans h.blk
 have c7:(w.alloc (.cells #[.int .i64 0,.int .u64 0,.slice none 0 0] 50)).cell? ⟨bm,7,none⟩=some (.int .u64 (val:Int)):=by rw [cell_blk hb2];rfl
 have c8:(w.alloc (.cells #[.int .i64 0,.int .u64 0,.slice none 0 0] 50)).cell? ⟨bm,8,none⟩=some (.slice ka kn kc):=by rw [cell_blk hb2];rfl
 have d7:w.cell? ⟨bm,7,none⟩=some (.int .u64 (val:Int)):=by rw [cell_blk h.blk];rfl
 have d8:w.cell? ⟨bm,8,none⟩=some (.slice ka kn kc):=by rw [cell_blk h.blk];rfl
 have hne:w.heap.size≠bm:=by omega
 have hne2:bm≠w.heap.size:=by omega
 clear h hb2
 unfold ansV
 go_enter Tryz.func222,Tryz.ntmps222
 go_wp2_with fail
 go_region_held3 (λu=>u.cell? ⟨bm,7,none⟩=some (.int .u64 (val:Int))/\u.cell? ⟨bm,8,none⟩=some (.slice ka kn kc)) (first|exact⟨c7,c8⟩|exact⟨(World.cell?_alloc_lt _ _ _ hlt).trans d7,(World.cell?_alloc_lt _ _ _ hlt).trans d8⟩) (fail)
 all_goals
  go_wp2
  exact bodyPost_ret (v:=.tuple #[.agg #[.int .i64 0,.int .u64 (val:Int),.slice none 0 0],.slice ka kn kc]) (by simp [results,Tryz.results222 ,go_sem]) rfl ⟨rfl,by exact(Gr.new _ _).drew⟩
theorem wr_answer (v nx:Nat) (up:Bool) (ka:Option Addr) (kn kc:Nat) (h:WayAt w bm (wrRest v up nx (.slice ka kn kc)) T b m p y tv) :
  Calls Tryz.prog 227 #[.pointer (some ⟨bm,0,none⟩)] w λe w'=>e=.returned (.tuple #[ansV 0 0 (.slice none 0 0),.slice ka kn kc])/\Below w.heap.size w w':=by
 have hlt:=blk_lt h.blk
 have hb2:(w.alloc (.cells #[.int .i64 0,.int .u64 0,.slice none 0 0] 50)).heap[bm]?=_:=(Below.heap_alloc _ _ _ hlt).trans h.blk
 have c8:(w.alloc (.cells #[.int .i64 0,.int .u64 0,.slice none 0 0] 50)).cell? ⟨bm,10,none⟩=some (.slice ka kn kc):=by rw [cell_blk hb2];rfl
 have d8:w.cell? ⟨bm,10,none⟩=some (.slice ka kn kc):=by rw [cell_blk h.blk];rfl
 have hne:w.heap.size≠bm:=by omega
 have hne2:bm≠w.heap.size:=by omega
 clear h hb2
 unfold ansV
 go_enter Tryz.func227,Tryz.ntmps227
 go_wp2_with fail
 go_region_held3 (λu=>u.cell? ⟨bm,10,none⟩=some (.slice ka kn kc)) (exact c8) (fail)
 all_goals
  go_wp2
  exact bodyPost_ret (v:=.tuple #[.agg #[.int .i64 0,.int .u64 ((0:Nat):Int),.slice none 0 0],.slice ka kn kc]) (by simp [results,Tryz.results227 ,go_sem]) rfl ⟨rfl,by exact(Gr.new _ _).drew⟩
def lateBad (S:Nat->Int) (t:Nat×Bool):Bool:=t.2 && decide (S t.1=0)
theorem any_take_succ (f:Nat×Bool->Bool) (ts:List (Nat×Bool)) (j:Nat) (hj:j<ts.length):(ts.take (j+1)).any f=((ts.take j).any f || f (ts.getD j (0,false))):=by
 rw [List.take_add_one,List.getElem?_eq_getElem hj,List.any_append,List.getD_eq_getElem?_getD,List.getElem?_eq_getElem hj]
 simp
set_option maxHeartbeats 4000000 in
theorem wr_late (x:WrD) {kv:Value} (hw:WorldAt w Mut I N wd) (h:WayAt w bm (wrRest x.v x.up x.nx kv) T b m p x.y tv) (hp:p<16) (hok:WrOk m x) (hm:m<=12) (hb9:b+2^m<=1000000) (hT:TrOk wd) (hl9:x.y.last<=1000000) :
  Calls Tryz.prog 228 #[.pointer (some ⟨bm,0,none⟩),.pointer (some ⟨I.bW,0,none⟩)] w λe w'=>(∃ va vn vc,e=.returned (.slice va vn vc)/\Lst w' Mut (.slice va vn vc) (wrLate b p wd x))/\Below w.heap.size w w':=by
 have hb:=h.blk
 have lbm:=blk_lt hb
 obtain⟨R,hR⟩:∃ R,R=wrLate b p wd x:=⟨_,rfl⟩
 rw [<-hR]
 have NIL:=Lib.hid (λ(u:World) (e:R=[])=>(by rw [e];exact Lst.nil _ _:Lst u Mut (.slice none 0 0) R))
 cases hu:x.up with
 | false=>
  have c8:w.cell? ⟨bm,8,none⟩=some (.bool false):=by rw [cell_blk hb,hu];rfl
  have e:R=[]:=by rw [hR];unfold wrLate;rw [if_pos hu]
  have E:=Lib.hid e
  clear hw h hok hm hb9 hT hl9 hb hR hu e
  go_enter Tryz.func228,Tryz.ntmps228
  go_wp2
  go_ret
  exact⟨⟨_,_,_,rfl,NIL.out _ E.out⟩,Gr.refl _⟩
 | true=>
  have c8:w.cell? ⟨bm,8,none⟩=some (.bool true):=by rw [cell_blk hb,hu];rfl
  obtain⟨S,hS⟩:∃ S,S=mxSet wd.traces b:=⟨_,rfl⟩
  obtain⟨ts,hts⟩:∃ ts,ts=x.y.turns:=⟨_,rfl⟩
  have hlen:ts.length<=12:=by have:=hok.way.len;rw [hts];omega
  have hR2:R=if ts.any (lateBad S)=true then [] else wayKey b p wd x.y:=by rw [hR,hts,hS];unfold wrLate;rw [if_neg (by rw [hu];exact Bool.noConfusion)];rfl
  have SET:=Lib.hid (λ(u:World) (hu:Below w.heap.size w u) (k:Nat) (hk:1<=k) (hk2:k<2^m)=>(by have h9:=way_set (world_gr hw hu) (h.grown hu) k hk (by omega);rw [<-hS] at h9;exact h9:Calls Tryz.prog 226 #[.pointer (some ⟨bm,0,none⟩),.pointer (some ⟨I.bW,0,none⟩),.int .i64 (k:Int)] u λe w'=>e=.returned (.int .i64 (S k))/\Below u.heap.size u w'))
  have KEY:=Lib.hid (λ(u:World) (hu:Below w.heap.size w u)=>way_key (world_gr hw hu) (h.grown hu) hp hok.way hm hb9 hT hl9)
  obtain⟨ta,tc,rfl,_⟩:=h.turn_at (by rw [<-hts];omega)
  have TU:=Lib.hid (λ(u:World) (hu:Below w.heap.size w u) (i:Nat) (hi:i<ts.length)=>(by
   obtain⟨ta9,tc9,e9,h9⟩:=(h.grown hu).turn_at (by rw [<-hts];omega)
   cases e9
   rw [hts] at hi ⊢
   exact h9 i hi:∃ g o,ta=some ⟨g,o,none⟩/\g<u.heap.size/\u.cell? ⟨g,o+i*2,none⟩=some (.int .i64 ((ts.getD i (0,false)).1:Int))/\u.cell? ⟨g,o+i*2+1,none⟩=some (.bool (ts.getD i (0,false)).2)))
  have TK:=Lib.hid (λi (hi:i<ts.length)=>(by
   have hi':i<x.y.turns.length:=by rw [<-hts];exact hi
   have h9:=hok.way.tk (x.y.turns.getD i (0,false)) (by rw [List.getD_eq_getElem?_getD,List.getElem?_eq_getElem hi'];exact List.getElem_mem _)
   rw [hts];exact h9:1<=(ts.getD i (0,false)).1/\(ts.getD i (0,false)).1<2^m))
  have ANY:=Lib.hid (any_take_succ (lateBad S) ts)
  obtain⟨n,hn⟩:∃ n,n=ts.length:=⟨_,rfl⟩
  have c5:w.cell? ⟨bm,5,none⟩=some (.slice ta n tc):=by rw [cell_blk hb,hn,hts];rfl
  rw [<-hn] at TU TK ANY hlen
  have AT0:=Lib.hid (show(ts.take 0).any (lateBad S)=false from rfl)
  have ATN:=Lib.hid (show ts.take n=ts from by rw [hn];exact List.take_length)
  have HR:=Lib.hid hR2
  have ANM:=Lib.hid (λj (hb2:(ts.take j).any (lateBad S)=true)=>(by
   rw [List.any_eq_true] at hb2 ⊢
   obtain⟨t,ht,hbt⟩:=hb2
   exact⟨t,List.mem_of_mem_take ht,hbt⟩:ts.any (lateBad S)=true))
  have hni:(n:Int)<=12:=by omega
  have hl12:=hlen
  clear hw h hok hm hb9 hT hl9 hb hR hu hS hts hR2 hn hlen
  go_enter Tryz.func228,Tryz.ntmps228
  go_wp2
  go_loopw [18] (λi wr=>∃ j:Nat,j<=n/\i=.int .i64 (j:Int)/\(ts.take j).any (lateBad S)=false/\Below w.heap.size w wr) (λi _=>n - (intOf i).toNat)
  case atStart=>exact⟨0,Nat.zero_le _,rfl,AT0.out,Gr.refl _⟩
  case round=>
   obtain⟨j,hj,rfl,hany,hbw⟩:=hrel
   by_cases hlt:j<n
   ·have l1:(j:Int)<(n:Int):=by omega
    have l3:¬ (j:Int)<0:=by omega
    have wj:IntKind.i64.wrap ((j:Int)+1)=(j:Int)+1:=by rw [IntKind.wrap_i64];omega
    obtain⟨q,o,rfl,hq,c0,c1⟩:=TU.out wr hbw j hlt
    obtain⟨tk1,tk2⟩:=TK.out j hlt
    have hst:=ANY.out j hlt
    rw [hany,Bool.false_or] at hst
    obtain⟨kr,hkr⟩:∃ kr,kr=ts.getD j (0,false):=⟨_,rfl⟩
    rw [<-hkr] at c0 c1 tk1 tk2 hst
    obtain⟨k,rt⟩:=kr
    simp only at c0 c1 tk1 tk2
    obtain⟨w4,hw4⟩:∃ w4,w4=wr.alloc (.cells #[.int .i64 (k:Int),.bool rt] 269):=⟨_,rfl⟩
    have hb4:Below wr.heap.size wr w4:=by rw [hw4];exact Gr.new _ _
    have d0:w4.cell? ⟨wr.heap.size,0,none⟩=some (.int .i64 (k:Int)):=by rw [hw4,cell_new];rfl
    have d1:w4.cell? ⟨wr.heap.size,1,none⟩=some (.bool rt):=by rw [hw4,cell_new];rfl
    have SE:=Lib.hid (λ(g:GrownOf w4)=>SET.out g.u (Gr.trans hbw (Gr.trans hb4 g.below)) k tk1 tk2)
    have D0:=grown_cell d0;have D1:=grown_cell d1
    obtain⟨sv,hsv⟩:∃ sv,sv=S k:=⟨_,rfl⟩
    rw [<-hsv] at SE
    have Hst:=Lib.hid (show(ts.take (j+1)).any (lateBad S)=(rt && decide (sv=0)) from by rw [hst,hsv];rfl)
    have Hbw:=Lib.hid (Gr.trans hbw hb4);have Hw4:=Lib.hid hw4
    clear hst hsv hkr hany hbw tk1 tk2 hb4 hw4 hq
    go_upto_region 6 with fail
    rw [<-Hw4.out]
    clear c0 c1
    cases rt with
    | false=>
     ((with_reducible refine wp_region_grown_lit (by kernel_rfl) (by kernel_rfl) ?_);(repeat (first|go_big_quiet_skip|(go_big_quiet_want;go_big_quiet_op;go_big_quiet_on)));(with_reducible refine wpQuiet_nil ?_);intro _ hw';obtain⟨nq,hw''⟩:=hw';subst hw'')
     have hgb:=nq.below
     go_wp2
     go_roundw
     case rel=>exact⟨j+1,by omega,by go_num,by rw [Hst.out];rfl,Gr.trans Hbw.out hgb⟩
     case measure=>simp [intOf]<;>omega
    | true=>
     by_cases hs0:sv=0
     ·subst hs0
      have NL:=Lib.hid (show R=[] from by rw [HR.out,if_pos (ANM.out (j+1) (by rw [Hst.out];rfl))])
      ((with_reducible refine wp_region_grown_lit (by kernel_rfl) (by kernel_rfl) ?_);(repeat ((go_big_quiet_want;go_big_quiet_op;first|go_big_quiet_on|((with_reducible apply Exists.intro);(with_reducible refine⟨λ_=>?_,?_⟩);((go_at_call 226;exact quietG (SE.out _)));go_big_quiet_on))));(with_reducible refine wpQuiet_nil ?_);intro _ hw';obtain⟨nq,hw''⟩:=hw';subst hw'')
      have hgb:=nq.below
      go_wp2
      go_ret
      exact⟨⟨_,_,_,rfl,NIL.out _ NL.out⟩,Gr.trans Hbw.out hgb⟩
     ·have l4:(sv == 0)=false:=by simp [hs0]
      ((with_reducible refine wp_region_grown_lit (by kernel_rfl) (by kernel_rfl) ?_);(repeat ((go_big_quiet_want;go_big_quiet_op;first|go_big_quiet_on|((with_reducible apply Exists.intro);(with_reducible refine⟨λ_=>?_,?_⟩);((go_at_call 226;exact quietG (SE.out _)));go_big_quiet_on))));(with_reducible refine wpQuiet_nil ?_);intro _ hw';obtain⟨nq,hw''⟩:=hw';subst hw'')
      have hgb:=nq.below
      go_wp2
      go_roundw
      case rel=>exact⟨j+1,by omega,by go_num,by rw [Hst.out];simp [hs0],Gr.trans Hbw.out hgb⟩
      case measure=>simp [intOf]<;>omega
   ·have l1:¬ (j:Int)<(n:Int):=by omega
    obtain rfl:n=j:=by omega
    rw [ATN.out] at hany
    have HR2:=Lib.hid (show R=wayKey b p wd x.y from by rw [HR.out,if_neg (by rw [hany];exact Bool.noConfusion)])
    have K:=Lib.hid (KEY.out wr hbw)
    have Hbw:=Lib.hid hbw
    clear hany hbw
    go_wp2_with (go_at_call 225;refine K.out.mono ?_;rintro e w4 ⟨⟨va,vn,vc,rfl,hlv⟩,hb4⟩;have HL:=Lib.hid hlv;clear hlv)
    go_ret
    exact⟨⟨_,_,_,rfl,by rw [HR2.out];exact HL.out⟩,Gr.trans Hbw.out hb4⟩
end
section

/- Layer 10: the max register as the loom's object. -/
open Go.RowKit
theorem rd_step_m (a : Addr) : Meth 255 (.pointer (some a)) "Step" 223 (.pointer (some a)) := ⟨fun _ _ => by kernel_rfl, fun _ _ => by kernel_rfl, fun _ _ => by kernel_rfl⟩
theorem rd_answer_m (a : Addr) : Meth 255 (.pointer (some a)) "Answer" 222 (.pointer (some a)) := ⟨fun _ _ => by kernel_rfl, fun _ _ => by kernel_rfl, fun _ _ => by kernel_rfl⟩
theorem wr_step_m (a : Addr) : Meth 257 (.pointer (some a)) "Step" 229 (.pointer (some a)) := ⟨fun _ _ => by kernel_rfl, fun _ _ => by kernel_rfl, fun _ _ => by kernel_rfl⟩
theorem wr_answer_m (a : Addr) : Meth 257 (.pointer (some a)) "Answer" 227 (.pointer (some a)) := ⟨fun _ _ => by kernel_rfl, fun _ _ => by kernel_rfl, fun _ _ => by kernel_rfl⟩
theorem wr_late_m (a : Addr) : Meth 257 (.pointer (some a)) "Late" 228 (.pointer (some a)) := ⟨fun _ _ => by kernel_rfl, fun _ _ => by kernel_rfl, fun _ _ => by kernel_rfl⟩
def maxV (m:Nat):Value:=.agg #[.int .i64 0,.int .i64 (m:Int)]
theorem max_start_m (m : Nat) : Meth 74 (maxV m) "Start" 180 (maxV m) := ⟨fun _ _ => by kernel_rfl, fun _ _ => by kernel_rfl, fun _ _ => by kernel_rfl⟩
theorem rd_kind (v:Value) (u:World):(Instr.typeAssert (.iface 255 v) 138 167 true).run Tryz.prog u=.ok (.tuple #[.nilIface,.bool false]) u:=run_typeAssert_lacksB Tryz.underlying167 (by kernel_rfl) (by kernel_rfl) v _ u
theorem wr_kind (v:Value) (u:World):(Instr.typeAssert (.iface 257 v) 138 167 true).run Tryz.prog u=.ok (.tuple #[.iface 257 v,.bool true]) u:=by kernel_rfl
def mxRep (b m:Nat) (w:World) (Mut B:Nat->Prop) (T:TypeId) (x:Value) (p:Nat):MxS->Prop
 | .rd z=>T=255/\∃ bm tv kv,x=.pointer (some ⟨bm,0,none⟩)/\WayAt w bm (rdRest z.val kv) 263 b m p z.y tv/\Lst w Mut kv z.ky/\RdOk m z/\B=WayB bm tv
 | .wr z=>T=257/\∃ bm tv kv,x=.pointer (some ⟨bm,0,none⟩)/\WayAt w bm (wrRest z.v z.up z.nx kv) 265 b m p z.y tv/\Lst w Mut kv z.ky/\WrOk m z/\B=WayB bm tv
def mxLive (wd:WD):MxS->Prop
 | .rd z=>0<z.y.left/\TrOk wd/\wd.now<=1000000
 | .wr z=>(if z.up=true then 1<=z.nx else 0<z.y.left)/\TrOk wd/\wd.now<=1000000/\z.y.last<=1000000
def maxR (m:Nat):Real (maxS m) where
 T:=74
 x:=maxV m
 OB:=noB
 ORep:=λ_ _ _=>True
 MRep:=mxRep 0 m
 inv:=λ_ _=>True
 dN:=1
 live:=λ_ wd _ s=>mxLive wd s
theorem max_blks (w:World) (m th ob kd ca cb cc:Int):∃ wa,wa=(w.alloc (.cells #[.int .i64 0,.int .i64 m] 74)).alloc (.cells #[.int .i64 th,.int .i64 ob,.int .i64 kd,.int .u64 ca,.int .u64 cb,.int .u64 cc] 48)/\Below w.heap.size w wa/\wa.heap.size=w.heap.size+2/\
  wa.heap[w.heap.size]?=some (.cells #[.int .i64 0,.int .i64 m] 74 (0,0))/\wa.heap[w.heap.size+1]?=some (.cells #[.int .i64 th,.int .i64 ob,.int .i64 kd,.int .u64 ca,.int .u64 cb,.int .u64 cc] 48 (0,0)):=by
 refine⟨_,rfl,Gr.alloc (Gr.new _ _) _,by simp,?_,?_⟩
 ·rw [Below.heap_alloc _ _ _ (by simp)];exact heap_alloc_new _ _
 ·have:=heap_alloc_new (w.alloc (.cells #[.int .i64 0,.int .i64 m] 74)) (.cells #[.int .i64 th,.int .i64 ob,.int .i64 kd,.int .u64 ca,.int .u64 cb,.int .u64 cc] 48 (0,0))
  simp only [World.size_alloc] at this
  exact this
set_option maxHeartbeats 4000000 in
theorem max_start (m:Nat) (hm:m<=12) (w:World) (Mut:Nat->Prop) (I:WIds) (N:Nat) (wd:WD) (p:Nat) (c:CallD) (hw:WorldAt w Mut I N wd) (hp:p<16) (hc:CallOk c) :
  Calls Tryz.prog 180 #[maxV m,.pointer (some ⟨I.bW,0,none⟩),.int .i64 (p:Int),callAgg c] w (StartPost (maxR m) w Mut I wd () p c):=by
 have hca:=hc.a
 obtain⟨th,ob,kd,ca,cb,cc⟩:=c
 have hlow:=hw.low
 unfold callAgg maxV
 simp only at hca ⊢
 have Hlow:=Lib.hid hlow
 have nm:∀(d k:Nat),w.heap.size<=k->k≠d->¬ (mutTo Mut noB (λb=>b=d) k):=λd k hk hkd=>by
  rintro(⟨hx,_⟩|hx)
  ·have:=Hlow.out _ hx;omega
  ·exact hkd hx
 have Nm:=Lib.hid nm
 obtain⟨wa,hwa,hga,hsz,ha0,ha1⟩:=max_blks w (m:Int) th ob kd (ca:Int) (cb:Int) (cc:Int)
 have d0:wa.cell? ⟨w.heap.size,0,none⟩=some (.int .i64 0):=by rw [cell_blk ha0];rfl
 have d1:wa.cell? ⟨w.heap.size,1,none⟩=some (.int .i64 (m:Int)):=by rw [cell_blk ha0];rfl
 have f2:wa.cell? ⟨w.heap.size+1,2,none⟩=some (.int .i64 kd):=by rw [cell_blk ha1];rfl
 have f3:wa.cell? ⟨w.heap.size+1,3,none⟩=some (.int .u64 (ca:Int)):=by rw [cell_blk ha1];rfl
 have hwA:=world_gr hw hga
 have STh:=Lib.hid (show(maxS m).start () wd p ⟨th,ob,kd,ca,cb,cc⟩=(if kd=1 then Mc.run (MxS.rd ⟨way0 m,0,[]⟩) else if kd≠0 then .refuse 9 else if ca / 2^m≠0 then .refuse 10 else .run (.wr (newWr m ca))) from rfl)
 have HwA:=Lib.hid hwA;have Hwa:=Lib.hid hwa;have Hga:=Lib.hid hga;have Hsz:=Lib.hid hsz
 clear hc hlow nm hw hwA hwa hga hsz ha0 ha1
 by_cases h1:kd=1
 ·have Hst:=Lib.hid (show(maxS m).start () wd p ⟨th,ob,kd,ca,cb,cc⟩=.run (.rd ⟨way0 m,0,[]⟩) by rw [STh.out,if_pos h1];rfl)
  have NR:=Lib.hid (new_reader 0 m p wa)
  subst h1
  go_enter Tryz.func180,Tryz.ntmps180
  go_upto_region 1 with fail
  rw [<-Hwa.out]
  go_wp2_with (go_at_call 182;refine(NR.out).mono ?_;rintro e w1 ⟨rfl,hb1,hway⟩)
  go_ret
  refine⟨_,_,WayB (wa.heap.size+1) (.slice none 0 0),rfl,Gr.trans Hga.out hb1,λb hb=>?_,?_⟩
  ·rw [wayB_nil hb];have h9:=Hsz.out;have h8:=blk_lt hway.blk;exact⟨by omega,h8⟩
  ·rw [Hst.out]
   exact⟨rfl,wa.heap.size+1,.slice none 0 0,.slice none 0 0,rfl,hway,Lst.nil _ _,RdOk.init m,rfl⟩
 by_cases h0:kd=0
 ·by_cases hr:ca / 2^m=0
  ·have Hst:=Lib.hid (show(maxS m).start () wd p ⟨th,ob,kd,ca,cb,cc⟩=.run (.wr (newWr m ca)) by rw [STh.out,if_neg h1,if_neg (by simpa using h0),if_neg (by simpa using hr)];rfl)
   have hlt:ca<2^m:=by
    rcases Nat.lt_or_ge ca (2^m) with h9|h9
    ·exact h9
    ·have:=Nat.div_pos h9 (Nat.two_pow_pos m);omega
   have NW:=Lib.hid (new_writer m ca HwA.out hlt hm 0 p)
   have e1:(newWr m ca).v=ca:=by unfold newWr WrD.down;split<;>rfl
   have E1:=Lib.hid e1;have Hlt:=Lib.hid hlt
   have t1:(ca:Int) / 2^m=0:=by
    have h9:(((ca / 2^m:Nat)):Int)=(ca:Int) / 2^m:=by simp
    rw [<-h9,hr];rfl
   have t2:((ca:Int) / 2^m != 0)=false:=by rw [t1];rfl
   subst h0
   clear h1 hr hlt e1
   go_enter Tryz.func180,Tryz.ntmps180
   go_upto_region 1 with fail
   rw [<-Hwa.out]
   go_wp2_with (go_at_call 183;refine(NW.out).mono ?_;rintro e w1 ⟨rfl,hb1,tv,hway,hge⟩)
   go_ret
   refine⟨_,_,WayB (wa.heap.size+1) tv,rfl,Gr.trans Hga.out hb1,λb hb=>?_,?_⟩
   ·have h9:=hge b hb;have h8:=hway.lt b hb;have h7:=Hsz.out;exact⟨by omega,h8⟩
   ·rw [Hst.out]
    exact⟨rfl,wa.heap.size+1,tv,.slice none 0 0,rfl,by rw [E1.out];exact hway,(by
     have e9:(newWr m ca).ky=[]:=by unfold newWr WrD.down;split<;>rfl
     rw [e9];exact Lst.nil _ _),WrOk.init Hlt.out,rfl⟩
  ·have Hst:=Lib.hid (show(maxS m).start () wd p ⟨th,ob,kd,ca,cb,cc⟩=.refuse 10 by rw [STh.out,if_neg h1,if_neg (by simpa using h0),if_pos (by simpa using hr)];rfl)
   have Rf:=Lib.hid (refuse_any 10)
   have t2:((ca:Int) / 2^m != 0)=true:=by
    have h9:(((ca / 2^m:Nat)):Int)=(ca:Int) / 2^m:=by simp
    rw [<-h9]
    exact bne_iff_ne.2 (λe=>hr (by exact_mod_cast e))
   subst h0
   clear h1 hr
   go_enter Tryz.func180,Tryz.ntmps180
   go_upto_region 1 with fail
   rw [<-Hwa.out]
   go_wp2_with (go_at_call 99;refine(Rf.out _).mono ?_;rintro e w' ⟨rfl,hrf,hbr⟩)
   go_ret
   have hsw:=Hsz.out
   refine⟨_,_,λb=>b=wa.heap.size+1,rfl,Gr.trans Hga.out hbr,λb hb=>by subst hb;exact⟨by omega,blk_lt hrf.1⟩,?_⟩
   rw [Hst.out]
   exact⟨rfl,wa.heap.size+1,wa.heap.size,rfl,hrf,rfl,Nm.out _ _ (by omega) (by omega)⟩
 ·have Hst:=Lib.hid (show(maxS m).start () wd p ⟨th,ob,kd,ca,cb,cc⟩=.refuse 9 by rw [STh.out,if_neg h1,if_pos h0];rfl)
  have Rf:=Lib.hid (refuse_any 9)
  have q1:(kd == 1)=false:=by simp [h1]
  have q0:(kd != 0)=true:=by simp [h0]
  go_enter Tryz.func180,Tryz.ntmps180
  go_upto_region 1 with fail
  rw [<-Hwa.out]
  go_wp2_with (go_at_call 99;refine(Rf.out _).mono ?_;rintro e w' ⟨rfl,hrf,hbr⟩)
  go_ret
  have hsw:=Hsz.out
  refine⟨_,_,λb=>b=wa.heap.size+1,rfl,Gr.trans Hga.out hbr,λb hb=>by subst hb;exact⟨by omega,blk_lt hrf.1⟩,?_⟩
  rw [Hst.out]
  exact⟨rfl,wa.heap.size+1,wa.heap.size,rfl,hrf,rfl,Nm.out _ _ (by omega) (by omega)⟩
theorem max_now (m:Nat):∀(o:(maxS m).ω) (wd:WD) (p:Nat) (s:(maxS m).σ),((maxS m).step o wd p s).2.1.now=wd.now:=by
 intro o wd p s
 match s with
 | .rd x=>show(rdStep 0 p wd x).1.now=_;unfold rdStep;split<;>rfl
 | .wr x=>
  have h:(wrGo 0 wd x).1.now=wd.now:=by
   unfold wrGo
   split
   ·rfl
   ·split<;>rfl
  show(wrStep 0 p wd x).1.now=_
  unfold wrStep
  split<;>exact h
theorem rdStep_mem (b p:Nat) (wd:WD) (x:RdD):(rdStep b p wd x).1=taRead wd (b+x.y.k - 1):=by unfold rdStep;split<;>rfl
theorem wrStep_fst (b p:Nat) (wd:WD) (x:WrD):(wrStep b p wd x).1=(wrGo b wd x).1:=by unfold wrStep;split<;>rfl
theorem max_ok (m:Nat) (hm:m<=12):RealOk (maxR m) where
 keepM:=by
  intro w w' Q Mut Mut' B T x p s h hc hQ hB hup
  match s with
  | .rd z=>
   obtain⟨h1,bm,tv,kv,h2,h3,h4,h5,rfl⟩:=h
   exact⟨h1,bm,tv,kv,h2,h3.chg hc hB,h4.keep hc hQ hup,h5,rfl⟩
  | .wr z=>
   obtain⟨h1,bm,tv,kv,h2,h3,h4,h5,rfl⟩:=h
   exact⟨h1,bm,tv,kv,h2,h3.chg hc hB,h4.keep hc hQ hup,h5,rfl⟩
 keepO:=λ_ _ _ _ _ _ _ _ _ _ _=>trivial
 lowO:=λ_ _ _ _ b hb=>hb.elim
 start:=⟨_,_,max_start_m m,λw Mut I N wd o p c hw _ _ hp hc=>max_start m hm w Mut I N wd p c hw hp hc⟩
 step:=by
  intro w Mut B I N wd o T' x' p s hw _ hmr _ hp hN hc hB hl
  have hB2:∀ b,B b->Mut b/\¬ WSet I b:=λb hb=>⟨(hB b hb).1,(hB b hb).2.1⟩
  have hN2:N+1<1000000000:=hN
  have hp12:0+2^m<=1000000:=by have:=Nat.pow_le_pow_right (n:=2) (by decide) hm;omega
  match s with
  | .rd z=>
   obtain⟨rfl,bm,tv,kv,rfl,h3,h4,h5,rfl⟩:=hmr
   obtain⟨l1,l2,l3⟩:=hl
   refine⟨_,_,rd_step_m _,(rd_step z hw h3 h4 hB2 h5 l1 hm hp12 l2 l3 hp hc).mono ?_⟩
   rintro e w' ⟨rfl,tv',kv',h6,h7⟩
   exact⟨rfl,h6.chg.mono (λb _ hb=>hb.elim .inl (λh=>.inr (.inr h))),WayB bm tv',h6.sub,h6.way.lt,h6.world.more (Nat.le_succ _) hN2,trivial,rfl,bm,tv',kv',rfl,h6.way,h7,h5.step 0 p wd l1,rfl⟩
  | .wr z=>
   obtain⟨rfl,bm,tv,kv,rfl,h3,h4,h5,rfl⟩:=hmr
   obtain⟨l1,l2,l3,l4⟩:=hl
   refine⟨_,_,wr_step_m _,(wr_step z hw h3 h4 hB2 h5 hm hp12 l2 l3 l4 hp hc hN2 l1).mono ?_⟩
   rintro e w' ⟨rfl,tv',kv',h6,h7⟩
   exact⟨rfl,h6.chg.mono (λb _ hb=>hb.elim .inl (λh=>.inr (.inr h))),WayB bm tv',h6.sub,h6.way.lt,h6.world,trivial,rfl,bm,tv',kv',rfl,h6.way,h7,h5.step 0 p wd (λhu=>by rw [hu,if_neg Bool.false_ne_true] at l1;exact l1),rfl⟩
 answer:=by
  intro w Mut B T' x' p s hmr
  match s with
  | .rd z=>
   obtain⟨rfl,bm,tv,kv,rfl,h3,h4,h5,rfl⟩:=hmr
   obtain⟨ka,kc,rfl⟩:∃ a c,kv=.slice a z.ky.length c:=by obtain⟨a,c,e,_⟩:=h4;exact⟨a,c,e⟩
   refine⟨_,_,rd_answer_m _,(rd_answer z.val ka z.ky.length kc h3).mono ?_⟩
   rintro e' w' ⟨rfl,hb⟩
   exact⟨none,0,_,rfl,LstU.nil _ _,h4.keep (S:=noB) (Chg.of_below hb) (λ_ h=>h.elim) (MutUp.refl _ _),hb⟩
  | .wr z=>
   obtain⟨rfl,bm,tv,kv,rfl,h3,h4,h5,rfl⟩:=hmr
   obtain⟨ka,kc,rfl⟩:∃ a c,kv=.slice a z.ky.length c:=by obtain⟨a,c,e,_⟩:=h4;exact⟨a,c,e⟩
   refine⟨_,_,wr_answer_m _,(wr_answer z.v z.nx z.up ka z.ky.length kc h3).mono ?_⟩
   rintro e' w' ⟨rfl,hb⟩
   exact⟨none,0,_,rfl,LstU.nil _ _,h4.keep (S:=noB) (Chg.of_below hb) (λ_ h=>h.elim) (MutUp.refl _ _),hb⟩
 now:=max_now m
 cnt:=by
  intro o wd p s
  match s with
  | .rd z=>show(rdStep 0 p wd z).1.mem.c.all<=_;rw [rdStep_mem];exact memRead_cnt _ _
  | .wr z=>
   show(wrStep 0 p wd z).1.mem.c.all<=_
   rw [wrStep_fst]
   unfold wrGo
   split
   ·exact memWrite_cnt _ _ _
   ·split<;>exact memRead_cnt _ _
 invStep:=λ_ _ _ _ _=>trivial
 invTick:=λ_ _ _=>trivial
 invBegin:=λ_ _ _ _=>trivial
end
end Go.Proofs.YteffgpcjfnjlkaaGreat
