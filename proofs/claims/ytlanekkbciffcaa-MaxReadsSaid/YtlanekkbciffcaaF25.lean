/- Layer 10: machines are made, answer, and tell when they took effect. -/
import Derived.Test.YtlanekkbciffcaaF23
import Derived.Test.YtlanekkbciffcaaF24
import Derived.Test.YtlanekkbciffcaaF02
import Derived.Deep.QuietTactic
import Derived.BigQuiet
set_option maxRecDepth 100000
set_option linter.unusedVariables false
set_option linter.unusedSimpArgs false
set_option linter.unnecessarySimpa false
namespace Go.Proofs.Ytlanekkbciffcaa
section
open Go.RowKit
variable {w w' w2:World} {Mut:Nat->Prop} {I:WIds} {N N' N2:Nat} {wd wd' wd2:WD} {bm:Nat} {rest rest' rest2:List Value} {T:TypeId} {b m p:Nat} {y y' y2:WayD} {tv tv' tv2 kv:Value}
theorem nil_turns (w:World):w.ownsRow 0 210 2 (.slice none 0 0) 0 []:=⟨by decide,.inl ⟨rfl,rfl⟩⟩
theorem wayB_nil {bm k:Nat} (h:WayB bm (.slice none 0 0) k):k=bm:=h.elim id (λh=>by cases h)
theorem new_reader (b m p:Nat) (w:World):Calls Try.prog 123 #[.agg #[.int .i64 (b:Int),.int .i64 (m:Int)],.int .i64 (p:Int)] w λe w'=>e=.returned (.pointer (some ⟨w.heap.size+1,0,none⟩))/\Below w.heap.size w w'/\WayAt w' (w.heap.size+1) (rdRest 0 (.slice none 0 0)) 204 b m p (way0 m) (.slice none 0 0):=by
 have hf:∀ u:World,u.heap.size=w.heap.size+1->(u.alloc (.cells (wayL b m p (way0 m) (.slice none 0 0)++rdRest 0 (.slice none 0 0)).toArray 204)).heap[w.heap.size+1]?=some (.cells (wayL b m p (way0 m) (.slice none 0 0)++rdRest 0 (.slice none 0 0)).toArray 204 (0,0)):=λu hu=>by
  rw [<-hu];exact heap_alloc_new _ _
 have Hf:=Lib.hid (hf (w.alloc (.cells #[.int .i64 (b:Int),.int .i64 (m:Int)] 62)) (by simp))
 clear hf
 go_enter Try.func123,Try.ntmps123
 go_wp2
 go_ret
 exact⟨rfl,Gr.alloc (Gr.new _ _) _,Hf.out,nil_turns _,by decide⟩
set_option maxHeartbeats 1000000 in
theorem new_writer (m v:Nat) (hw:WorldAt w Mut I N wd) (hv:v<2^m) (hm:m<=12) (b p:Nat) :
  Calls Try.prog 124 #[.agg #[.int .i64 (b:Int),.int .i64 (m:Int)],.int .i64 (p:Int),.int .u64 (v:Int)] w λe w'=>e=.returned (.pointer (some ⟨w.heap.size+1,0,none⟩))/\Below w.heap.size w w'/\∃ tv,WayAt w' (w.heap.size+1) (wrRest v (newWr m v).up (newWr m v).nx (.slice none 0 0)) 206 b m p (newWr m v).y tv/\∀ k,WayB (w.heap.size+1) tv k->w.heap.size<=k:=by
 obtain⟨w1,hw1⟩:∃ w1,w1=(w.alloc (.cells #[.int .i64 (b:Int),.int .i64 (m:Int)] 62)).alloc (.cells (wayL b m p (way0 m) (.slice none 0 0)++wrRest v false 1 (.slice none 0 0)).toArray 206):=⟨_,rfl⟩
 have hb1:Below w.heap.size w w1:=by rw [hw1];exact Gr.alloc (Gr.new _ _) _
 have hs1:w1.heap.size=w.heap.size+2:=by rw [hw1];simp
 have hk1:w1.heap[w.heap.size+1]?=some (.cells (wayL b m p (way0 m) (.slice none 0 0)++wrRest v false 1 (.slice none 0 0)).toArray 206 (0,0)):=by
  rw [hw1]
  have:=heap_alloc_new (w.alloc (.cells #[.int .i64 (b:Int),.int .i64 (m:Int)] 62)) (.cells (wayL b m p (way0 m) (.slice none 0 0)++wrRest v false 1 (.slice none 0 0)).toArray 206 (0,0))
  simp only [World.size_alloc] at this
  exact this
 have h1:WayAt w1 (w.heap.size+1) (wrRest v false 1 (.slice none 0 0)) 206 b m p (way0 m) (.slice none 0 0):=⟨hk1,nil_turns _,by decide⟩
 have hB:∀ k,WayB (w.heap.size+1) (.slice none 0 0) k->w.heap.size<=k:=λk hk=>by rw [wayB_nil hk];omega
 have hW1:WorldAt w1 (mutTo Mut noB (WayB (w.heap.size+1) (.slice none 0 0))) I N wd:=by
  refine hw.keep (S:=noB) (Chg.of_below hb1) (λ_ h=>h.elim) (λ_ h=>h.elim) ?_ ?_ (λk hk=>.inl ⟨hw.muts k hk,λh=>h.elim⟩)
  ·rintro k (⟨h9,_⟩|h9)
   ·exact .inl h9
   ·exact .inr (hB k h9)
  ·rintro k (⟨h9,_⟩|h9)
   ·have:=hw.low k h9;omega
   ·rw [wayB_nil h9];omega
 have hB1:∀ k,WayB (w.heap.size+1) (.slice none 0 0) k->mutTo Mut noB (WayB (w.heap.size+1) (.slice none 0 0)) k/\¬ WSet I k:=λk hk=>⟨.inr hk,λhS=>by have:=hw.low k (hw.muts k hS);have:=hB k hk;omega⟩
 have DN:=Lib.hid (wr_down ⟨way0 m,v,false,1,[]⟩ hW1 h1 hB1 ⟨WayOk.init m,by simp [way0],(λe=>by cases e),hv⟩ rfl hm)
 have fin:∀ w',(∃ tv',WayTo w1 w' (mutTo Mut noB (WayB (w.heap.size+1) (.slice none 0 0))) I N wd (w.heap.size+1) (wrRest (newWr m v).v (newWr m v).up (newWr m v).nx (.slice none 0 0)) 206 b m p (.slice none 0 0) (newWr m v).y tv'/\Chg (WayB (w.heap.size+1) (.slice none 0 0)) w1 w')->Below w.heap.size w w'/\∃ tv,WayAt w' (w.heap.size+1) (wrRest v (newWr m v).up (newWr m v).nx (.slice none 0 0)) 206 b m p (newWr m v).y tv/\∀ k,WayB (w.heap.size+1) tv k->w.heap.size<=k:=by
  rintro w' ⟨tv',h9,hc⟩
  have e1:(newWr m v).v=v:=by unfold newWr WrD.down;split<;>rfl
  rw [e1] at h9
  refine⟨hb1.trans (hc.below hB (by omega)),tv',h9.way,λk hk=>?_⟩
  rcases h9.sub k hk with h8|h8
  ·exact hB k h8
  ·omega
 have Fin:=Lib.hid fin;have Hw1:=Lib.hid hw1
 clear hw hv hm hw1 hb1 hs1 hk1 h1 hB hW1 hB1 fin
 go_enter Try.func124,Try.ntmps124
 go_upto_region 2 with fail
 have e9:(w.alloc (.cells #[.int .i64 (b:Int),.int .i64 (m:Int)] 62)).alloc (.cells #[.int .i64 (b:Int),.int .i64 (m:Int),.int .i64 (p:Int),.int .i64 1,.int .i64 (m:Int),.slice none 0 0,.int .i64 0,.int .u64 (v:Int),.bool false,.int .i64 0,.slice none 0 0] 206)=w1:=Hw1.out.symm
 have E9:=Lib.hid e9
 clear e9
 rw [E9.out]
 go_wp2_with (go_at_call 125;refine(DN.out).mono ?_;rintro e w3 ⟨rfl,h1⟩)
 go_ret
 exact⟨rfl,Fin.out w3 h1⟩
end
section

/- Regions that draw their order, whose operations only read, and whose calls leave what was there: one walk in the order of the text serves every order. -/
open Go.RowKit
structure GrownOf (w:World) where
 u:World
 below:Below w.heap.size w u
instance grownOf_nonempty (w:World):Nonempty (GrownOf w):=⟨⟨w,Below.refl _ _⟩⟩
theorem wp_region_grown_lit {P:Program} {id:Nat} {Q:Exit->Act->World->Prop} {a:Act} {w:World} {l:List Oper} (hm:P.follows .mixedOrders=true) (hB:Region.lexB .any l.toArray=true)
  (h:wpQuiet P l.toArray (λw'=>∃ n:GrownOf w,w'=n.u) (λa'=>∀ w',(∃ n:GrownOf w,w'=n.u)->Q .normal a' w') l a):(Code.region id l.toArray true).wp P Q a w:=
 wp_region_quiet (C:=λw'=>∃ n:GrownOf w,w'=n.u) hm hB ⟨⟨_,(Below.refl w.heap.size w).drew⟩,rfl⟩ (by simpa using h)
theorem grown_cell {w:World} {p:Addr} {v:Value} (h:w.cell? p=some v):∀ n:GrownOf w,n.u.cell? p=some v:=λn=>(n.below.cell (World.block_lt_of_cell? _ _ h)).trans h
theorem quietG {P:Program} {f:FuncId} {args:Array Value} {w:World} {n:GrownOf w} {v:Value}
  (h:Calls P f args n.u λe w'=>e=.returned v/\Below n.u.heap.size n.u w'):Calls P f args n.u λe w''=>e=.returned v/\∃ m:GrownOf w,w''=m.u:=
 h.mono λ_ w' ⟨he,hb⟩=>⟨he,⟨w',Gr.trans n.below hb⟩,rfl⟩
theorem quietGS {P:Program} {f:FuncId} {args:Array Value} {w:World} {n:GrownOf w} {v:Value}
  (h:Calls P f args n.u λe w'=>e=.returned v/\n.u=w'):Calls P f args n.u λe w''=>e=.returned v/\∃ m:GrownOf w,w''=m.u:=
 h.mono λ_ w' ⟨he,hb⟩=>⟨he,n,hb.symm⟩
theorem allocs_below (w:World):∀ l:List Obj,Below w.heap.size w (l.foldl World.alloc w):=by
 have:∀(l:List Obj) (u:World),Below w.heap.size w u->Below w.heap.size w (l.foldl World.alloc u):=by
  intro l
  induction l with
  | nil=>intro u h;exact h
  | cons o l ih=>intro u h;exact ih _ (Gr.alloc h o)
 exact λl=>this l w (Gr.refl w)
theorem allocs_get:∀(l:List Obj) (w:World) (k:Nat) (o:Obj),l[k]?=some o->(l.foldl World.alloc w).heap[w.heap.size+k]?=some o
 | [],_,k,_,h=>by simp at h
 | x::l,w,0,o,h=>by
  rw [List.foldl_cons,(allocs_below (w.alloc x) l).block _ (by simp)]
  simp only [List.getElem?_cons_zero,Option.some.injEq] at h
  subst h
  exact heap_alloc_new _ _
 | x::l,w,k+1,o,h=>by
  rw [List.foldl_cons]
  have:=allocs_get l (w.alloc x) k o (by simpa using h)
  rw [World.size_alloc] at this
  rw [show w.heap.size+(k+1)=w.heap.size+1+k by omega]
  exact this
end
section

/- Layer 10: machines answer, and tell when they took effect. -/
open Go.RowKit
variable {w w' w2:World} {Mut:Nat->Prop} {I:WIds} {N N' N2:Nat} {wd wd' wd2:WD} {bm:Nat} {T:TypeId} {b m p:Nat} {y:WayD} {tv:Value}
theorem rd_answer (val:Nat) (ka:Option Addr) (kn kc:Nat) (h:WayAt w bm (rdRest val (.slice ka kn kc)) T b m p y tv) :
  Calls Try.prog 184 #[.pointer (some ⟨bm,0,none⟩)] w λe w'=>e=.returned (.tuple #[ansV 0 val (.slice none 0 0),.slice ka kn kc])/\Below w.heap.size w w':=by
 have hlt:=blk_lt h.blk
 have hb2:(w.alloc (.cells #[.int .i64 0,.int .u64 0,.slice none 0 0] 39)).heap[bm]?=_:=(Below.heap_alloc _ _ _ hlt).trans h.blk
 have c7:(w.alloc (.cells #[.int .i64 0,.int .u64 0,.slice none 0 0] 39)).cell? ⟨bm,7,none⟩=some (.int .u64 (val:Int)):=by rw [cell_blk hb2];rfl
 have c8:(w.alloc (.cells #[.int .i64 0,.int .u64 0,.slice none 0 0] 39)).cell? ⟨bm,8,none⟩=some (.slice ka kn kc):=by rw [cell_blk hb2];rfl
 have d7:w.cell? ⟨bm,7,none⟩=some (.int .u64 (val:Int)):=by rw [cell_blk h.blk];rfl
 have d8:w.cell? ⟨bm,8,none⟩=some (.slice ka kn kc):=by rw [cell_blk h.blk];rfl
 have hne:w.heap.size≠bm:=by omega
 have hne2:bm≠w.heap.size:=by omega
 clear h hb2
 unfold ansV
 go_enter Try.func184,Try.ntmps184
 go_wp2_with fail
 go_region_held3 (λu=>u.cell? ⟨bm,7,none⟩=some (.int .u64 (val:Int))/\u.cell? ⟨bm,8,none⟩=some (.slice ka kn kc)) (first|exact⟨c7,c8⟩|exact⟨(World.cell?_alloc_lt _ _ _ hlt).trans d7,(World.cell?_alloc_lt _ _ _ hlt).trans d8⟩) (fail)
 all_goals
  go_wp2
  exact bodyPost_ret (v:=.tuple #[.agg #[.int .i64 0,.int .u64 (val:Int),.slice none 0 0],.slice ka kn kc]) (by simp [results,Try.results184 ,go_sem]) rfl ⟨rfl,by exact(Gr.new _ _).drew⟩
theorem wr_answer (v nx:Nat) (up:Bool) (ka:Option Addr) (kn kc:Nat) (h:WayAt w bm (wrRest v up nx (.slice ka kn kc)) T b m p y tv) :
  Calls Try.prog 190 #[.pointer (some ⟨bm,0,none⟩)] w λe w'=>e=.returned (.tuple #[ansV 0 0 (.slice none 0 0),.slice ka kn kc])/\Below w.heap.size w w':=by
 have hlt:=blk_lt h.blk
 have hb2:(w.alloc (.cells #[.int .i64 0,.int .u64 0,.slice none 0 0] 39)).heap[bm]?=_:=(Below.heap_alloc _ _ _ hlt).trans h.blk
 have c8:(w.alloc (.cells #[.int .i64 0,.int .u64 0,.slice none 0 0] 39)).cell? ⟨bm,10,none⟩=some (.slice ka kn kc):=by rw [cell_blk hb2];rfl
 have d8:w.cell? ⟨bm,10,none⟩=some (.slice ka kn kc):=by rw [cell_blk h.blk];rfl
 have hne:w.heap.size≠bm:=by omega
 have hne2:bm≠w.heap.size:=by omega
 clear h hb2
 unfold ansV
 go_enter Try.func190,Try.ntmps190
 go_wp2_with fail
 go_region_held3 (λu=>u.cell? ⟨bm,10,none⟩=some (.slice ka kn kc)) (exact c8) (fail)
 all_goals
  go_wp2
  exact bodyPost_ret (v:=.tuple #[.agg #[.int .i64 0,.int .u64 ((0:Nat):Int),.slice none 0 0],.slice ka kn kc]) (by simp [results,Try.results190 ,go_sem]) rfl ⟨rfl,by exact(Gr.new _ _).drew⟩
def lateBad (S:Nat->Int) (t:Nat×Bool):Bool:=t.2 && decide (S t.1=0)
theorem any_take_succ (f:Nat×Bool->Bool) (ts:List (Nat×Bool)) (j:Nat) (hj:j<ts.length):(ts.take (j+1)).any f=((ts.take j).any f || f (ts.getD j (0,false))):=by
 rw [List.take_add_one,List.getElem?_eq_getElem hj,List.any_append,List.getD_eq_getElem?_getD,List.getElem?_eq_getElem hj]
 simp
set_option maxHeartbeats 4000000 in
theorem wr_late (x:WrD) {kv:Value} (hw:WorldAt w Mut I N wd) (h:WayAt w bm (wrRest x.v x.up x.nx kv) T b m p x.y tv) (hp:p<16) (hok:WrOk m x) (hm:m<=12) (hb9:b+2^m<=1000000) (hT:TrOk wd) (hl9:x.y.last<=1000000) :
  Calls Try.prog 191 #[.pointer (some ⟨bm,0,none⟩),.pointer (some ⟨I.bW,0,none⟩)] w λe w'=>(∃ va vn vc,e=.returned (.slice va vn vc)/\Lst w' Mut (.slice va vn vc) (wrLate b p wd x))/\Below w.heap.size w w':=by
 have hb:=h.blk
 have lbm:=blk_lt hb
 obtain⟨R,hR⟩:∃ R,R=wrLate b p wd x:=⟨_,rfl⟩
 rw [<-hR]
 have NIL:=Lib.hid (λ(u:World) (e:R=[])=>(by rw [e];exact Lst.nil _ _:Lst u Mut (.slice none 0 0) R))
 cases hu:x.up with
 | false=>
  have c8:w.cell? ⟨bm,8,none⟩=some (.bool false):=by rw [cell_blk hb,hu];rfl
  have e:R=[]:=by rw [hR];unfold wrLate;rw [if_pos hu]
  have E:=Lib.hid e
  clear hw h hok hm hb9 hT hl9 hb hR hu e
  go_enter Try.func191,Try.ntmps191
  go_wp2
  go_ret
  exact⟨⟨_,_,_,rfl,NIL.out _ E.out⟩,Gr.refl _⟩
 | true=>
  have c8:w.cell? ⟨bm,8,none⟩=some (.bool true):=by rw [cell_blk hb,hu];rfl
  obtain⟨S,hS⟩:∃ S,S=mxSet wd.traces b:=⟨_,rfl⟩
  obtain⟨ts,hts⟩:∃ ts,ts=x.y.turns:=⟨_,rfl⟩
  have hlen:ts.length<=12:=by have:=hok.way.len;rw [hts];omega
  have hR2:R=if ts.any (lateBad S)=true then [] else wayKey b p wd x.y:=by rw [hR,hts,hS];unfold wrLate;rw [if_neg (by rw [hu];exact Bool.noConfusion)];rfl
  have SET:=Lib.hid (λ(u:World) (hu:Below w.heap.size w u) (k:Nat) (hk:1<=k) (hk2:k<2^m)=>(by have h9:=way_set (world_gr hw hu) (h.grown hu) k hk (by omega);rw [<-hS] at h9;exact h9:Calls Try.prog 188 #[.pointer (some ⟨bm,0,none⟩),.pointer (some ⟨I.bW,0,none⟩),.int .i64 (k:Int)] u λe w'=>e=.returned (.int .i64 (S k))/\Below u.heap.size u w'))
  have KEY:=Lib.hid (λ(u:World) (hu:Below w.heap.size w u)=>way_key (world_gr hw hu) (h.grown hu) hp hok.way hm hb9 hT hl9)
  obtain⟨ta,tc,rfl,_⟩:=h.turn_at (by rw [<-hts];omega)
  have TU:=Lib.hid (λ(u:World) (hu:Below w.heap.size w u) (i:Nat) (hi:i<ts.length)=>(by
   obtain⟨ta9,tc9,e9,h9⟩:=(h.grown hu).turn_at (by rw [<-hts];omega)
   cases e9
   rw [hts] at hi ⊢
   exact h9 i hi:∃ g o,ta=some ⟨g,o,none⟩/\g<u.heap.size/\u.cell? ⟨g,o+i*2,none⟩=some (.int .i64 ((ts.getD i (0,false)).1:Int))/\u.cell? ⟨g,o+i*2+1,none⟩=some (.bool (ts.getD i (0,false)).2)))
  have TK:=Lib.hid (λi (hi:i<ts.length)=>(by
   have hi':i<x.y.turns.length:=by rw [<-hts];exact hi
   have h9:=hok.way.tk (x.y.turns.getD i (0,false)) (by rw [List.getD_eq_getElem?_getD,List.getElem?_eq_getElem hi'];exact List.getElem_mem _)
   rw [hts];exact h9:1<=(ts.getD i (0,false)).1/\(ts.getD i (0,false)).1<2^m))
  have ANY:=Lib.hid (any_take_succ (lateBad S) ts)
  obtain⟨n,hn⟩:∃ n,n=ts.length:=⟨_,rfl⟩
  have c5:w.cell? ⟨bm,5,none⟩=some (.slice ta n tc):=by rw [cell_blk hb,hn,hts];rfl
  rw [<-hn] at TU TK ANY hlen
  have AT0:=Lib.hid (show(ts.take 0).any (lateBad S)=false from rfl)
  have ATN:=Lib.hid (show ts.take n=ts from by rw [hn];exact List.take_length)
  have HR:=Lib.hid hR2
  have ANM:=Lib.hid (λj (hb2:(ts.take j).any (lateBad S)=true)=>(by
   rw [List.any_eq_true] at hb2 ⊢
   obtain⟨t,ht,hbt⟩:=hb2
   exact⟨t,List.mem_of_mem_take ht,hbt⟩:ts.any (lateBad S)=true))
  have hni:(n:Int)<=12:=by omega
  have hl12:=hlen
  clear hw h hok hm hb9 hT hl9 hb hR hu hS hts hR2 hn hlen
  go_enter Try.func191,Try.ntmps191
  go_wp2
  go_loopw [18] (λi wr=>∃ j:Nat,j<=n/\i=.int .i64 (j:Int)/\(ts.take j).any (lateBad S)=false/\Below w.heap.size w wr) (λi _=>n - (intOf i).toNat)
  case atStart=>exact⟨0,Nat.zero_le _,rfl,AT0.out,Gr.refl _⟩
  case round=>
   obtain⟨j,hj,rfl,hany,hbw⟩:=hrel
   by_cases hlt:j<n
   ·have l1:(j:Int)<(n:Int):=by omega
    have l3:¬ (j:Int)<0:=by omega
    have wj:IntKind.i64.wrap ((j:Int)+1)=(j:Int)+1:=by rw [IntKind.wrap_i64];omega
    obtain⟨q,o,rfl,hq,c0,c1⟩:=TU.out wr hbw j hlt
    obtain⟨tk1,tk2⟩:=TK.out j hlt
    have hst:=ANY.out j hlt
    rw [hany,Bool.false_or] at hst
    obtain⟨kr,hkr⟩:∃ kr,kr=ts.getD j (0,false):=⟨_,rfl⟩
    rw [<-hkr] at c0 c1 tk1 tk2 hst
    obtain⟨k,rt⟩:=kr
    simp only at c0 c1 tk1 tk2
    obtain⟨w4,hw4⟩:∃ w4,w4=wr.alloc (.cells #[.int .i64 (k:Int),.bool rt] 210):=⟨_,rfl⟩
    have hb4:Below wr.heap.size wr w4:=by rw [hw4];exact Gr.new _ _
    have d0:w4.cell? ⟨wr.heap.size,0,none⟩=some (.int .i64 (k:Int)):=by rw [hw4,cell_new];rfl
    have d1:w4.cell? ⟨wr.heap.size,1,none⟩=some (.bool rt):=by rw [hw4,cell_new];rfl
    have SE:=Lib.hid (λ(g:GrownOf w4)=>SET.out g.u (Gr.trans hbw (Gr.trans hb4 g.below)) k tk1 tk2)
    have D0:=grown_cell d0;have D1:=grown_cell d1
    obtain⟨sv,hsv⟩:∃ sv,sv=S k:=⟨_,rfl⟩
    rw [<-hsv] at SE
    have Hst:=Lib.hid (show(ts.take (j+1)).any (lateBad S)=(rt && decide (sv=0)) from by rw [hst,hsv];rfl)
    have Hbw:=Lib.hid (Gr.trans hbw hb4);have Hw4:=Lib.hid hw4
    clear hst hsv hkr hany hbw tk1 tk2 hb4 hw4 hq
    go_upto_region 6 with fail
    rw [<-Hw4.out]
    clear c0 c1
    cases rt with
    | false=>
     ((with_reducible refine wp_region_grown_lit (by kernel_rfl) (by kernel_rfl) ?_);(repeat (first|go_big_quiet_skip|(go_big_quiet_want;go_big_quiet_op;go_big_quiet_on)));(with_reducible refine wpQuiet_nil ?_);intro _ hw';obtain⟨nq,hw''⟩:=hw';subst hw'')
     have hgb:=nq.below
     go_wp2
     go_roundw
     case rel=>exact⟨j+1,by omega,by go_num,by rw [Hst.out];rfl,Gr.trans Hbw.out hgb⟩
     case measure=>simp [intOf]<;>omega
    | true=>
     by_cases hs0:sv=0
     ·subst hs0
      have NL:=Lib.hid (show R=[] from by rw [HR.out,if_pos (ANM.out (j+1) (by rw [Hst.out];rfl))])
      ((with_reducible refine wp_region_grown_lit (by kernel_rfl) (by kernel_rfl) ?_);(repeat ((go_big_quiet_want;go_big_quiet_op;first|go_big_quiet_on|((with_reducible apply Exists.intro);(with_reducible refine⟨λ_=>?_,?_⟩);((go_at_call 188;exact quietG (SE.out _)));go_big_quiet_on))));(with_reducible refine wpQuiet_nil ?_);intro _ hw';obtain⟨nq,hw''⟩:=hw';subst hw'')
      have hgb:=nq.below
      go_wp2
      go_ret
      exact⟨⟨_,_,_,rfl,NIL.out _ NL.out⟩,Gr.trans Hbw.out hgb⟩
     ·have l4:(sv == 0)=false:=by simp [hs0]
      ((with_reducible refine wp_region_grown_lit (by kernel_rfl) (by kernel_rfl) ?_);(repeat ((go_big_quiet_want;go_big_quiet_op;first|go_big_quiet_on|((with_reducible apply Exists.intro);(with_reducible refine⟨λ_=>?_,?_⟩);((go_at_call 188;exact quietG (SE.out _)));go_big_quiet_on))));(with_reducible refine wpQuiet_nil ?_);intro _ hw';obtain⟨nq,hw''⟩:=hw';subst hw'')
      have hgb:=nq.below
      go_wp2
      go_roundw
      case rel=>exact⟨j+1,by omega,by go_num,by rw [Hst.out];simp [hs0],Gr.trans Hbw.out hgb⟩
      case measure=>simp [intOf]<;>omega
   ·have l1:¬ (j:Int)<(n:Int):=by omega
    obtain rfl:n=j:=by omega
    rw [ATN.out] at hany
    have HR2:=Lib.hid (show R=wayKey b p wd x.y from by rw [HR.out,if_neg (by rw [hany];exact Bool.noConfusion)])
    have K:=Lib.hid (KEY.out wr hbw)
    have Hbw:=Lib.hid hbw
    clear hany hbw
    go_wp2_with (go_at_call 187;refine K.out.mono ?_;rintro e w4 ⟨⟨va,vn,vc,rfl,hlv⟩,hb4⟩;have HL:=Lib.hid hlv;clear hlv)
    go_ret
    exact⟨⟨_,_,_,rfl,by rw [HR2.out];exact HL.out⟩,Gr.trans Hbw.out hb4⟩
end
end Go.Proofs.Ytlanekkbciffcaa
