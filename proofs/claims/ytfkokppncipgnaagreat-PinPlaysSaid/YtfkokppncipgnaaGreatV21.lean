/- The reference's play: why calls are not played, how many words an object has, where it begins. -/
import Derived.Test.YtfkokppncipgnaaGreatV20
import Derived.Test.YtfkokppncipgnaaGreatV14
import Derived.Test.YtfkokppncipgnaaGreatV05
import Derived.Deep.AppendLies
import Derived.Deep.Cut
import Derived.Test.YtfkokppncipgnaaGreatV16
import Derived.Test.YtfkokppncipgnaaGreatV01
set_option maxRecDepth 100000
set_option linter.unusedVariables false
set_option linter.unusedSimpArgs false
set_option linter.unnecessarySimpa false
namespace Go.Proofs.YtfkokppncipgnaaGreat
section
open Go.RowKit
theorem rcheck_any (n:Int) (calls:List CallD) (np:Nat) (ca pa:Option Addr) (cc pc:Nat) (w:World) (hs:SlAt w ca calls.length 6 (callG calls)) (hp:np<=maxLen) :
  Calls Tryz.prog 36 #[.int .i64 n,.slice ca calls.length cc,.slice pa np pc] w λe w'=>e=.returned (.int .i64 (checkN n calls np))/\Below w.heap.size w w':=by
 have W:=Lib.hid (rwrong_any n calls ca cc w hs)
 have hm:=hs.1
 unfold maxLen at hm hp
 clear hs
 obtain⟨R,hR⟩:∃ R,R=checkN n calls np:=⟨_,rfl⟩
 rw [<-hR]
 by_cases h1:n<1
 ·have hr:R=1:=by rw [hR];unfold checkN;rw [if_pos (.inl h1)]
  subst hr
  clear hR
  go_enter Tryz.func36,Tryz.ntmps36
  go_wp2
  go_ret
  exact⟨rfl,Gr.refl _⟩
 by_cases h2:16<n
 ·have hr:R=1:=by rw [hR];unfold checkN;rw [if_pos (.inr h2)]
  subst hr
  clear hR
  go_enter Tryz.func36,Tryz.ntmps36
  go_wp2
  go_ret
  exact⟨rfl,Gr.refl _⟩
 by_cases h3:1000<calls.length
 ·have hr:R=3:=by rw [hR];unfold checkN;rw [if_neg (by omega),if_pos (.inl h3)]
  subst hr
  have h4:(1000:Int)<calls.length:=by omega
  clear hR
  go_enter Tryz.func36,Tryz.ntmps36
  go_wp2
  go_ret
  exact⟨rfl,Gr.refl _⟩
 by_cases h5:65536<np
 ·have hr:R=3:=by rw [hR];unfold checkN;rw [if_neg (by omega),if_pos (.inr h5)]
  subst hr
  have h4:¬ (1000:Int)<calls.length:=by omega
  have h6:(65536:Int)<np:=by omega
  clear hR
  go_enter Tryz.func36,Tryz.ntmps36
  go_wp2
  go_ret
  exact⟨rfl,Gr.refl _⟩
 ·have hr:R=wrongN n calls:=by rw [hR];unfold checkN;rw [if_neg (by omega),if_neg (by omega)]
  rw [<-hr] at W
  have h4:¬ (1000:Int)<calls.length:=by omega
  have h6:¬ (65536:Int)<np:=by omega
  clear hR hr
  go_enter Tryz.func36,Tryz.ntmps36
  go_wp2_with (go_at_call 54;refine(W.out).mono ?_;rintro e w' ⟨rfl,hb⟩)
  go_ret
  exact⟨rfl,hb⟩
theorem make_size3 (size:Nat) (v:Int) (hv:v=(size:Int)) (h64:size<=1000000) (u:World):(Instr.makeSlice 28 (.int .i64 v) (.int .i64 v)).run Tryz.prog u=.ok (.slice (some ⟨u.heap.size,0,none⟩) size size) (u.alloc (.cells (madeCells #[.int .u64 0] size) 46)):=by
 subst hv
 obtain⟨i0,hi,hz0,hz1,hz2⟩:=info_parts u64_info'
 have h:=run_make (P:=Tryz.prog) u 28 46 i0 (.int .u64 0) Tryz.underlying28 hi hz0 .i64 .i64 (size:Int) (size:Int) (by omega) (Int.le_refl _) (by rw [hz2];omega) (by omega)
 simpa [hz1,Value.cells] using h
theorem zeros_sl3 {u:World} {b size:Nat} (h:u.heap[b]?=some (.cells (madeCells #[.int .u64 0] size) 46 (0,0))) (h64:size<=1000000):SlAt u (some ⟨b,0,none⟩) (List.replicate size 0).length 1 (u64G (List.replicate size 0)):=by
 refine⟨by rw [List.length_replicate];unfold maxLen;omega,λj hj=>⟨b,0,rfl,blk_lt h,λf hf=>?_⟩⟩
 obtain rfl:f=0:=by omega
 rw [List.length_replicate] at hj
 rw [cell_blk h,madeCells_one]
 simp [u64G,u64V,List.getD_eq_getElem?_getD,List.getElem?_replicate,hj]
structure SpecAt (w:World) (bS:Nat) (kd P Q:Int):Prop where
 blk:w.heap[bS]?=some (.cells #[.int .i64 kd,.int .i64 P,.int .i64 Q] 39 (0,0))
theorem SpecAt.grown {w w':World} {bS:Nat} {kd P Q:Int} (h:SpecAt w bS kd P Q) (hb:Below w.heap.size w w'):SpecAt w' bS kd P Q:=⟨(hb.block _ (blk_lt h.blk)).trans h.blk⟩
set_option maxHeartbeats 4000000 in
theorem bases_bad (n kd P Q:Int) (bS:Nat) (w:World) (hS:SpecAt w bS kd P Q) (SC:∀ u:World,Calls Tryz.prog 55 #[.int .i64 n,.agg #[.int .i64 kd,.int .i64 P,.int .i64 Q]] u λe w'=>e=.returned (.int .i64 (-1))/\Below u.heap.size u w') :
  Calls Tryz.prog 37 #[.int .i64 n,.slice (some ⟨bS,0,none⟩) 1 1] w λe w'=>e=.returned (.tuple #[.slice none 0 0,.int .i64 0,.int .i64 10])/\Below w.heap.size w w':=by
 have SC':=Lib.hid SC
 have s0:w.cell? ⟨bS,0,none⟩=some (.int .i64 kd):=by rw [cell_blk hS.blk];rfl
 have s1:w.cell? ⟨bS,1,none⟩=some (.int .i64 P):=by rw [cell_blk hS.blk];rfl
 have s2:w.cell? ⟨bS,2,none⟩=some (.int .i64 Q):=by rw [cell_blk hS.blk];rfl
 clear SC hS
 go_enter Tryz.func37,Tryz.ntmps37
 go_wp2
 go_loopw [7,8,9,14] (λo e l i wr=>o=.slice none 0 0/\e=.int .i64 0/\l=.bool false/\i=.int .i64 0/\wr=w) (λ_ _ _ _ _=>0)
 case atStart=>exact⟨rfl,rfl,rfl,rfl,rfl⟩
 case round=>
  obtain⟨rfl,rfl,rfl,rfl,rfl⟩:=hrel
  go_wp2_with (go_at_call 55;refine(SC'.out _).mono ?_;rintro e w' ⟨rfl,hb⟩)
  go_ret3
  exact⟨rfl,hb⟩
set_option maxHeartbeats 4000000 in
theorem bases_one (n kd P Q:Int) (sz:Nat) (hsz:sz<=65536) (bS:Nat) (w:World) (hS:SpecAt w bS kd P Q) (SC:∀ u:World,Calls Tryz.prog 55 #[.int .i64 n,.agg #[.int .i64 kd,.int .i64 P,.int .i64 Q]] u λe w'=>e=.returned (.int .i64 (sz:Int))/\Below u.heap.size u w') :
  Calls Tryz.prog 37 #[.int .i64 n,.slice (some ⟨bS,0,none⟩) 1 1] w λe w'=>∃ g c,e=.returned (.tuple #[.slice (some ⟨g,0,none⟩) 1 c,.int .i64 (sz:Int),.int .i64 0])/\w'.cell? ⟨g,0,none⟩=some (.int .i64 0)/\w.heap.size<=g/\Below w.heap.size w w':=by
 obtain⟨k0,hk0,hu0,hu1,hu2⟩:=info_parts int_info0
 have SC':=Lib.hid SC
 have HS:=Lib.hid hS
 clear SC hS
 go_enter Tryz.func37,Tryz.ntmps37
 go_wp2
 go_loopw [7,8,9,14] (λo e l i wr=>l=.bool false/\Below w.heap.size w wr/\((o=.slice none 0 0/\e=.int .i64 0/\i=.int .i64 0)∨(∃ g c,o=.slice (some ⟨g,0,none⟩) 1 c/\e=.int .i64 (sz:Int)/\i=.int .i64 1/\wr.cell? ⟨g,0,none⟩=some (.int .i64 0)/\w.heap.size<=g))) (λ_ _ _ i _=>1 - (intOf i).toNat)
 case atStart=>exact⟨rfl,Gr.refl _,.inl ⟨rfl,rfl,rfl⟩⟩
 case round=>
  obtain⟨rfl,hb,⟨rfl,rfl,rfl⟩|⟨g,c,rfl,rfl,rfl,hc,hg⟩⟩:=hrel
  ·have hS:=HS.out.grown hb
   have s0:wr.cell? ⟨bS,0,none⟩=some (.int .i64 kd):=by rw [cell_blk hS.blk];rfl
   have s1:wr.cell? ⟨bS,1,none⟩=some (.int .i64 P):=by rw [cell_blk hS.blk];rfl
   have s2:wr.cell? ⟨bS,2,none⟩=some (.int .i64 Q):=by rw [cell_blk hS.blk];rfl
   have Hb:=Lib.hid hb
   clear hS hb
   go_wp2_with fail
   refine(SC'.out _).mono ?_
   rintro e w1 ⟨rfl,hb1⟩
   have Hb1:=Lib.hid hb1
   clear s0 s1 s2 hb1
   have l1:¬ (sz:Int)<0:=by omega
   have l2:¬ (65536:Int)<(sz:Int):=by omega
   have l3:IntKind.i64.wrap (sz:Int)=(sz:Int):=by rw [IntKind.wrap_i64];omega
   have hnil:w1.ownsRow 0 3 1 (.slice none 0 0) 0 []:=⟨rfl,.inl ⟨rfl,rfl⟩⟩
   have Hnil:=Lib.hid hnil
   clear hnil
   go_wp2_with (at_builtin;refine wpList_append_lies _ rfl _ _ 24 rfl 0 3 k0 (.int .i64 0) 1 8 Tryz.underlying24 hk0 hu0 hu1 hu2 rfl (by decide) _ _ _ rfl (row_below Hnil.out (Gr.new _ _)) ⟨w1.heap.size,0,none⟩ 1 1 [.int .i64 0] rfl rfl ?c1 ?c2 (by decide) ?c3 ?c4 ?c5 (w1.heap.size+1) ?c6 ?_)
   case c1=>exact cell_one_new _ _ _
   case c2=>simp [Value.oneCell']
   case c3=>decide
   case c4=>decide
   case c5=>exact Nat.zero_le _
   case c6=>simp
   intro g c w2 hown hgrow hat hlt
   have hb2:Below w1.heap.size w1 w2:=((Chg.refl noB w1).alloc _ |>.grown hgrow (λq hq=>by cases hq)).below (λk h=>h.elim) (Nat.le_refl _)
   have hg:w.heap.size<=g:=by
    rcases hat with h9|h9
    ·cases h9
    ·have:=Hb.out.size;have:=Hb1.out.size;omega
   have hc0:w2.cell? ⟨g,0,none⟩=some (.int .i64 0):=(row_at hown (j:=0) rfl).1
   have Hb2:=Lib.hid (Gr.trans Hb.out (Gr.trans Hb1.out hb2))
   clear hown hgrow hat hlt hb2
   go_wp2
   go_roundw
   case rel=>exact⟨rfl,Hb2.out,.inr ⟨g,c,rfl,by go_num,rfl,hc0,hg⟩⟩
   case measure=>simp [intOf]
  ·have Hb:=Lib.hid hb
   clear hb
   go_wp2
   go_ret3
   exact⟨g,c,rfl,hc,hg,Hb.out⟩
set_option maxHeartbeats 4000000 in
theorem words_one (n kd P Q:Int) (sz g c:Nat) (hk:¬ kd=8) (hsz:sz<=1000000) (bS:Nat) (w:World) (hS:SpecAt w bS kd P Q) :
  Calls Tryz.prog 39 #[.int .i64 n,.slice (some ⟨bS,0,none⟩) 1 1,.slice (some ⟨g,0,none⟩) 1 c,.int .i64 (sz:Int)] w λe w'=>e=.returned (.slice (some ⟨w.heap.size,0,none⟩) sz sz)/\w'=w.alloc (.cells (madeCells #[.int .u64 0] sz) 46):=by
 have hmk:=make_size3 sz (sz:Int) rfl hsz
 obtain⟨w1,hw1⟩:∃ w1,w1=w.alloc (.cells (madeCells #[.int .u64 0] sz) 46):=⟨_,rfl⟩
 have s0:w1.cell? ⟨bS,0,none⟩=some (.int .i64 kd):=by
  have:=(hS.grown (w':=w1) (by rw [hw1];exact Gr.new _ _)).blk
  rw [cell_blk this];rfl
 have hkd:(kd == 8)=false:=by simpa using hk
 have Hw1:=Lib.hid hw1
 clear hS
 rw [<-hw1]
 clear hw1
 go_enter Tryz.func39,Tryz.ntmps39
 go_upto_region 2 with fail
 rw [<-Hw1.out]
 go_wp2
 go_loopw [15] (λi wr=>wr=w1/\(i=.int .i64 0∨i=.int .i64 1)) (λi _=>1 - (intOf i).toNat)
 case atStart=>exact⟨rfl,.inl rfl⟩
 case round=>
  obtain⟨rfl,rfl|rfl⟩:=hrel
  ·go_wp2
   go_roundw
   case rel=>exact⟨by trivial,.inr (by trivial)⟩
   case measure=>simp [intOf]
  ·go_wp2
   go_ret
   exact⟨rfl,rfl⟩
end
section

/- The reference's play: an event that has responded: roundelayplain.done. -/
open Go.RowKit
theorem event_info9:(Tryz.prog.info? 52).map (λi=>(i.zero,i.size,i.bytes))=some (some (.agg #[.int .i64 0,.int .i64 0,.int .i64 0,.int .i64 0,.int .i64 0,.int .u64 0,.slice none 0 0,.slice none 0 0]),8,96):=by kernel_rfl
theorem event_load (w:World) (b:Nat) (cs:Array Value) (h:w.heap[b]?=some (.cells cs 52 (0,0))) (hc:cs.size=8):(loadVar 52 ⟨b,0,none⟩).run Tryz.prog w=.ok (.agg cs) w:=by
 obtain⟨i0,hi,hz0,hz1,hz2⟩:=info_parts event_info9
 have:=run_loadVar_mid (P:=Tryz.prog) w b 0 52 cs.toList _ (λj v hv=>by rw [Nat.zero_add,cell_blk h];simpa using hv) Tryz.underlying52 rfl (by rw [hi];simp [hc,hz1])
 simpa using this
end
section

/- An empty list of words is copied. -/
open Go.RowKit
theorem run_append_zero (w:World) (ty:TypeId) (b:Nat) (oa:Option Addr) (oc:Nat):(Builtin.append_ #[28,28] ty #[.slice (some ⟨b,0,none⟩) 0 0,.slice oa 0 oc]).run Tryz.prog w=.ok (.slice (some ⟨b,0,none⟩) 0 0) w:=by
 obtain⟨j0,hj0,hy0,hy1,hy2⟩:=info_parts uint64_info0
 cases oa<;>simp [Builtin.append_,run_underlying (P:=Tryz.prog) Tryz.underlying28,sizeOf,typeInfo,hj0,Builtin.lenOf,Builtin.firstCells,storeCells,loadCells,loadCellsFrom]
theorem step_append_zero {ops:Array Oper} {o:Oper} {a:Act} {w:World} {K:Act->World->Prop} {Q:Exit->Act->World->Prop} {E:Prop} (hgd:o.guard=none) (s x:Operand) (ho:o.op=.call { callee:=.builtin .append,args:=#[s,x],argTypes:=#[28,28] })
  (b:Nat) (oa:Option Addr) (oc:Nat) (hs:a.eval s=.slice (some ⟨b,0,none⟩) 0 0) (hx:a.eval x=.slice oa 0 oc) (h:K (a.put o.dst (.slice (some ⟨b,0,none⟩) 0 0)) w) :
  if Region.wanted o (yielded ops a.tmps)=true then Oper.wp Tryz.prog o a w K Q else E:=by
 have hw:Region.wanted o (yielded ops a.tmps)=true:=by simp [Region.wanted,hgd]
 rw [if_pos hw]
 have hrun:=run_append_zero w o.type b oa oc
 unfold Oper.wp
 simp [execOp,ho,resolve,invoke,builtin,hs,hx,hrun,Result.andThen]
 exact h
end
end Go.Proofs.YtfkokppncipgnaaGreat
