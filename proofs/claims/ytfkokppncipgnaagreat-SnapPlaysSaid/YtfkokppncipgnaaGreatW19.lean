/- The reference's play: why calls are not played, how many words an object has, where it begins. -/
import Derived.Test.YtfkokppncipgnaaGreatW18
import Derived.Test.YtfkokppncipgnaaGreatW12
import Derived.Test.YtfkokppncipgnaaGreatW04
import Derived.Deep.AppendLies
import Derived.Deep.Cut
import Derived.Test.YtfkokppncipgnaaGreatW15
import Derived.Test.YtfkokppncipgnaaGreatW01
import Derived.Test.YtfkokppncipgnaaGreatW17
set_option maxRecDepth 100000
set_option linter.unusedVariables false
set_option linter.unusedSimpArgs false
set_option linter.unnecessarySimpa false
namespace Go.Proofs.YtfkokppncipgnaaGreat
open List renaming getElem_toArray → zq1, getElem_cons_zero → zq2, getElem_cons_succ → zq3, setIfInBounds_toArray → zq4, set_cons_zero → zq5, set_cons_succ → zq6
section
open Go.RowKit
theorem BI (n:Int) (calls:List aD) (np:Nat) (ca pa:Option Addr) (cc pc:Nat) (w:World) (hs:cB w ca calls.length 6 (iX calls)) (hp:np<=maxLen) :
  Calls Tryz.prog 36 #[.int .i64 n,.slice ca calls.length cc,.slice pa np pc] w λe w'=>e=.returned (.int .i64 (checkN n calls np))/\Below w.heap.size w w':=by
 have W:=Lib.hid (YE n calls ca cc w hs)
 have hm:=hs.1
 unfold maxLen at hm hp
 clear hs
 obtain⟨R,hR⟩:∃ R,R=checkN n calls np:=⟨_,rfl⟩
 rw [<-hR]
 by_cases h1:n<1
 ·have hr:R=1:=by rw [hR];unfold checkN;rw [if_pos (.inl h1)]
  subst hr
  clear hR
  go_enter Tryz.func36,Tryz.ntmps36
  go_wp2
  go_ret
  exact⟨rfl,Gr.refl _⟩
 by_cases h2:16<n
 ·have hr:R=1:=by rw [hR];unfold checkN;rw [if_pos (.inr h2)]
  subst hr
  clear hR
  go_enter Tryz.func36,Tryz.ntmps36
  go_wp2
  go_ret
  exact⟨rfl,Gr.refl _⟩
 by_cases h3:1000<calls.length
 ·have hr:R=3:=by rw [hR];unfold checkN;rw [if_neg (by omega),if_pos (.inl h3)]
  subst hr
  have h4:(1000:Int)<calls.length:=by omega
  clear hR
  go_enter Tryz.func36,Tryz.ntmps36
  go_wp2
  go_ret
  exact⟨rfl,Gr.refl _⟩
 by_cases h5:65536<np
 ·have hr:R=3:=by rw [hR];unfold checkN;rw [if_neg (by omega),if_pos (.inr h5)]
  subst hr
  have h4:¬ (1000:Int)<calls.length:=by omega
  have h6:(65536:Int)<np:=by omega
  clear hR
  go_enter Tryz.func36,Tryz.ntmps36
  go_wp2
  go_ret
  exact⟨rfl,Gr.refl _⟩
 ·have hr:R=gK n calls:=by rw [hR];unfold checkN;rw [if_neg (by omega),if_neg (by omega)]
  rw [<-hr] at W
  have h4:¬ (1000:Int)<calls.length:=by omega
  have h6:¬ (65536:Int)<np:=by omega
  clear hR hr
  go_enter Tryz.func36,Tryz.ntmps36
  go_wp2_with (go_at_call 54;refine(W.out).mono ?_;rintro e w' ⟨rfl,hb⟩)
  go_ret
  exact⟨rfl,hb⟩
theorem XC (size:Nat) (v:Int) (hv:v=(size:Int)) (h64:size<=1000000) (u:World):(Instr.makeSlice 28 (.int .i64 v) (.int .i64 v)).run Tryz.prog u=.ok (.slice (some ⟨u.heap.size,0,none⟩) size size) (u.alloc (.cells (madeCells #[.int .u64 0] size) 46)):=by
 subst hv
 obtain⟨i0,hi,hz0,hz1,hz2⟩:=info_parts xG
 have h:=run_make (P:=Tryz.prog) u 28 46 i0 (.int .u64 0) Tryz.underlying28 hi hz0 .i64 .i64 (size:Int) (size:Int) (by omega) (Int.le_refl _) (by rw [hz2];omega) (by omega)
 simpa [hz1,Value.cells] using h
theorem Cv {u:World} {b size:Nat} (h:u.heap[b]?=some (.cells (madeCells #[.int .u64 0] size) 46 (0,0))) (h64:size<=1000000):cB u (some ⟨b,0,none⟩) (List.replicate size 0).length 1 (fE (List.replicate size 0)):=by
 refine⟨by rw [List.length_replicate];unfold maxLen;omega,λj hj=>⟨b,0,rfl,aC h,λf hf=>?_⟩⟩
 obtain rfl:f=0:=by omega
 rw [List.length_replicate] at hj
 rw [aA h,jT]
 simp [fE,bI,List.getD_eq_getElem?_getD,List.getElem?_replicate,hj]
structure kM (w:World) (bS:Nat) (kd P Q:Int):Prop where
 blk:w.heap[bS]?=some (.cells #[.int .i64 kd,.int .i64 P,.int .i64 Q] 39 (0,0))
theorem kM.grown {w w':World} {bS:Nat} {kd P Q:Int} (h:kM w bS kd P Q) (hb:Below w.heap.size w w'):kM w' bS kd P Q:=⟨(hb.block _ (aC h.blk)).trans h.blk⟩
set_option maxHeartbeats 4000000 in
theorem Bz (n kd P Q:Int) (bS:Nat) (w:World) (hS:kM w bS kd P Q) (SC:∀ u:World,Calls Tryz.prog 55 #[.int .i64 n,.agg #[.int .i64 kd,.int .i64 P,.int .i64 Q]] u λe w'=>e=.returned (.int .i64 (-1))/\Below u.heap.size u w') :
  Calls Tryz.prog 37 #[.int .i64 n,.slice (some ⟨bS,0,none⟩) 1 1] w λe w'=>e=.returned (.tuple #[.slice none 0 0,.int .i64 0,.int .i64 10])/\Below w.heap.size w w':=by
 have SC':=Lib.hid SC
 have s0:w.cell? ⟨bS,0,none⟩=some (.int .i64 kd):=by rw [aA hS.blk];rfl
 have s1:w.cell? ⟨bS,1,none⟩=some (.int .i64 P):=by rw [aA hS.blk];rfl
 have s2:w.cell? ⟨bS,2,none⟩=some (.int .i64 Q):=by rw [aA hS.blk];rfl
 clear SC hS
 go_enter Tryz.func37,Tryz.ntmps37
 go_wp2
 go_loopw [7,8,9,14] (λo e l i wr=>o=.slice none 0 0/\e=.int .i64 0/\l=.bool false/\i=.int .i64 0/\wr=w) (λ_ _ _ _ _=>0)
 case atStart=>exact⟨rfl,rfl,rfl,rfl,rfl⟩
 case round=>
  obtain⟨rfl,rfl,rfl,rfl,rfl⟩:=hrel
  go_wp2_with (go_at_call 55;refine(SC'.out _).mono ?_;rintro e w' ⟨rfl,hb⟩)
  go_ret3
  exact⟨rfl,hb⟩
set_option maxHeartbeats 4000000 in
theorem Cg (n kd P Q:Int) (sz:Nat) (hsz:sz<=65536) (bS:Nat) (w:World) (hS:kM w bS kd P Q) (SC:∀ u:World,Calls Tryz.prog 55 #[.int .i64 n,.agg #[.int .i64 kd,.int .i64 P,.int .i64 Q]] u λe w'=>e=.returned (.int .i64 (sz:Int))/\Below u.heap.size u w') :
  Calls Tryz.prog 37 #[.int .i64 n,.slice (some ⟨bS,0,none⟩) 1 1] w λe w'=>∃ g c,e=.returned (.tuple #[.slice (some ⟨g,0,none⟩) 1 c,.int .i64 (sz:Int),.int .i64 0])/\w'.cell? ⟨g,0,none⟩=some (.int .i64 0)/\w.heap.size<=g/\Below w.heap.size w w':=by
 obtain⟨k0,hk0,hu0,hu1,hu2⟩:=info_parts EW
 have SC':=Lib.hid SC
 have HS:=Lib.hid hS
 clear SC hS
 go_enter Tryz.func37,Tryz.ntmps37
 go_wp2
 go_loopw [7,8,9,14] (λo e l i wr=>l=.bool false/\Below w.heap.size w wr/\((o=.slice none 0 0/\e=.int .i64 0/\i=.int .i64 0)∨(∃ g c,o=.slice (some ⟨g,0,none⟩) 1 c/\e=.int .i64 (sz:Int)/\i=.int .i64 1/\wr.cell? ⟨g,0,none⟩=some (.int .i64 0)/\w.heap.size<=g))) (λ_ _ _ i _=>1 - (intOf i).toNat)
 case atStart=>exact⟨rfl,Gr.refl _,.inl ⟨rfl,rfl,rfl⟩⟩
 case round=>
  obtain⟨rfl,hb,⟨rfl,rfl,rfl⟩|⟨g,c,rfl,rfl,rfl,hc,hg⟩⟩:=hrel
  ·have hS:=HS.out.grown hb
   have s0:wr.cell? ⟨bS,0,none⟩=some (.int .i64 kd):=by rw [aA hS.blk];rfl
   have s1:wr.cell? ⟨bS,1,none⟩=some (.int .i64 P):=by rw [aA hS.blk];rfl
   have s2:wr.cell? ⟨bS,2,none⟩=some (.int .i64 Q):=by rw [aA hS.blk];rfl
   have Hb:=Lib.hid hb
   clear hS hb
   go_wp2_with fail
   refine(SC'.out _).mono ?_
   rintro e w1 ⟨rfl,hb1⟩
   have Hb1:=Lib.hid hb1
   clear s0 s1 s2 hb1
   have l1:¬ (sz:Int)<0:=by omega
   have l2:¬ (65536:Int)<(sz:Int):=by omega
   have l3:IntKind.i64.wrap (sz:Int)=(sz:Int):=by rw [IntKind.wrap_i64];omega
   have hnil:w1.ownsRow 0 3 1 (.slice none 0 0) 0 []:=⟨rfl,.inl ⟨rfl,rfl⟩⟩
   have Hnil:=Lib.hid hnil
   clear hnil
   go_wp2_with (at_builtin;refine wpList_append_lies _ rfl _ _ 24 rfl 0 3 k0 (.int .i64 0) 1 8 Tryz.underlying24 hk0 hu0 hu1 hu2 rfl (by decide) _ _ _ rfl (dV Hnil.out (Gr.new _ _)) ⟨w1.heap.size,0,none⟩ 1 1 [.int .i64 0] rfl rfl ?c1 ?c2 (by decide) ?c3 ?c4 ?c5 (w1.heap.size+1) ?c6 ?_)
   case c1=>exact cell_one_new _ _ _
   case c2=>simp [Value.oneCell']
   case c3=>decide
   case c4=>decide
   case c5=>exact Nat.zero_le _
   case c6=>simp
   intro g c w2 hown hgrow hat hlt
   have hb2:Below w1.heap.size w1 w2:=((Chg.refl noB w1).alloc _ |>.grown hgrow (λq hq=>by cases hq)).below (λk h=>h.elim) (Nat.le_refl _)
   have hg:w.heap.size<=g:=by
    rcases hat with h9|h9
    ·cases h9
    ·have:=Hb.out.size;have:=Hb1.out.size;omega
   have hc0:w2.cell? ⟨g,0,none⟩=some (.int .i64 0):=(Rz hown (j:=0) rfl).1
   have Hb2:=Lib.hid (Gr.trans Hb.out (Gr.trans Hb1.out hb2))
   clear hown hgrow hat hlt hb2
   go_wp2
   go_roundw
   case rel=>exact⟨rfl,Hb2.out,.inr ⟨g,c,rfl,by go_num,rfl,hc0,hg⟩⟩
   case measure=>simp [intOf]
  ·have Hb:=Lib.hid hb
   clear hb
   go_wp2
   go_ret3
   exact⟨g,c,rfl,hc,hg,Hb.out⟩
set_option maxHeartbeats 4000000 in
theorem Dq (n kd P Q:Int) (sz g c:Nat) (hk:¬ kd=8) (hsz:sz<=1000000) (bS:Nat) (w:World) (hS:kM w bS kd P Q) :
  Calls Tryz.prog 39 #[.int .i64 n,.slice (some ⟨bS,0,none⟩) 1 1,.slice (some ⟨g,0,none⟩) 1 c,.int .i64 (sz:Int)] w λe w'=>e=.returned (.slice (some ⟨w.heap.size,0,none⟩) sz sz)/\w'=w.alloc (.cells (madeCells #[.int .u64 0] sz) 46):=by
 have hmk:=XC sz (sz:Int) rfl hsz
 obtain⟨w1,hw1⟩:∃ w1,w1=w.alloc (.cells (madeCells #[.int .u64 0] sz) 46):=⟨_,rfl⟩
 have s0:w1.cell? ⟨bS,0,none⟩=some (.int .i64 kd):=by
  have:=(hS.grown (w':=w1) (by rw [hw1];exact Gr.new _ _)).blk
  rw [aA this];rfl
 have hkd:(kd == 8)=false:=by simpa using hk
 have Hw1:=Lib.hid hw1
 clear hS
 rw [<-hw1]
 clear hw1
 go_enter Tryz.func39,Tryz.ntmps39
 go_upto_region 2 with fail
 rw [<-Hw1.out]
 go_wp2
 go_loopw [15] (λi wr=>wr=w1/\(i=.int .i64 0∨i=.int .i64 1)) (λi _=>1 - (intOf i).toNat)
 case atStart=>exact⟨rfl,.inl rfl⟩
 case round=>
  obtain⟨rfl,rfl|rfl⟩:=hrel
  ·go_wp2
   go_roundw
   case rel=>exact⟨by trivial,.inr (by trivial)⟩
   case measure=>simp [intOf]
  ·go_wp2
   go_ret
   exact⟨rfl,rfl⟩
end
section
open Go.RowKit
theorem GI:(Tryz.prog.info? 52).map (λi=>(i.zero,i.size,i.bytes))=some (some (.agg #[.int .i64 0,.int .i64 0,.int .i64 0,.int .i64 0,.int .i64 0,.int .u64 0,.slice none 0 0,.slice none 0 0]),8,96):=by kernel_rfl
theorem BK (w:World) (b:Nat) (cs:Array Value) (h:w.heap[b]?=some (.cells cs 52 (0,0))) (hc:cs.size=8):(loadVar 52 ⟨b,0,none⟩).run Tryz.prog w=.ok (.agg cs) w:=by
 obtain⟨i0,hi,hz0,hz1,hz2⟩:=info_parts GI
 have:=run_loadVar_mid (P:=Tryz.prog) w b 0 52 cs.toList _ (λj v hv=>by rw [Nat.zero_add,aA h];simpa using hv) Tryz.underlying52 rfl (by rw [hi];simp [hc,hz1])
 simpa using this
end
section
open Go.RowKit
theorem KH (w:World) (ty:TypeId) (b:Nat) (oa:Option Addr) (oc:Nat):(Builtin.append_ #[28,28] ty #[.slice (some ⟨b,0,none⟩) 0 0,.slice oa 0 oc]).run Tryz.prog w=.ok (.slice (some ⟨b,0,none⟩) 0 0) w:=by
 obtain⟨j0,hj0,hy0,hy1,hy2⟩:=info_parts iR
 cases oa<;>simp [Builtin.append_,run_underlying (P:=Tryz.prog) Tryz.underlying28,sizeOf,typeInfo,hj0,Builtin.lenOf,Builtin.firstCells,storeCells,loadCells,loadCellsFrom]
theorem EZ {ops:Array Oper} {o:Oper} {a:Act} {w:World} {K:Act->World->Prop} {Q:Exit->Act->World->Prop} {E:Prop} (hgd:o.guard=none) (s x:Operand) (ho:o.op=.call { callee:=.builtin .append,args:=#[s,x],argTypes:=#[28,28] })
  (b:Nat) (oa:Option Addr) (oc:Nat) (hs:a.eval s=.slice (some ⟨b,0,none⟩) 0 0) (hx:a.eval x=.slice oa 0 oc) (h:K (a.put o.dst (.slice (some ⟨b,0,none⟩) 0 0)) w) :
  if Region.wanted o (yielded ops a.tmps)=true then Oper.wp Tryz.prog o a w K Q else E:=by
 have hw:Region.wanted o (yielded ops a.tmps)=true:=by simp [Region.wanted,hgd]
 rw [if_pos hw]
 have hrun:=KH w o.type b oa oc
 unfold Oper.wp
 simp [execOp,ho,resolve,invoke,builtin,hs,hx,hrun,Result.andThen]
 exact h
end
section
open Go.RowKit
theorem JX {ops:Array Oper} {o:Oper} {a:Act} {w:World} {K:Act->World->Prop} {Q:Exit->Act->World->Prop} {E:Prop} (hgd:o.guard=none) (s x:Operand) (ho:o.op=.call { callee:=.builtin .append,args:=#[s,x],argTypes:=#[28,28] })
  (z:Nat) (hz:w.heap[z]?=some (.cells #[] 46 (0,0))) (oa:Option Addr) (oc:Nat) (l:List Nat) (hl:l.length<=1000000) (hs:a.eval s=.slice (some ⟨z,0,none⟩) 0 0) (hx:a.eval x=.slice oa l.length oc) (hsl:cB w oa l.length 1 (fE l))
  (h:∀(va:Option Addr) (vc:Nat) (w':World),cB w' va l.length 1 (fE l)->(0<l.length->∀ b off,va=some ⟨b,off,none⟩->z<=b)->Chg (λb=>b=z) w w'->K (a.put o.dst (.slice va l.length vc)) w') :
  if Region.wanted o (yielded ops a.tmps)=true then Oper.wp Tryz.prog o a w K Q else E:=by
 rcases Nat.eq_zero_or_pos l.length with h0|h0
 ·rw [h0] at hx
  refine EZ hgd s x ho z oa oc hs hx ?_
  have h9:=h (some ⟨z,0,none⟩) 0 w (by rw [h0];exact cB.nil _ _ _ _) (λh9=>by omega) (Chg.refl _ _)
  rw [h0] at h9
  exact h9
 ·obtain⟨j0,hj0,hy0,hy1,hy2⟩:=info_parts iR
  obtain⟨b0,KU,e0,hb0⟩:=hsl.lt h0
  refine step_append_lies w hgd s x 28 ho z 46 j0 (.int .u64 0) 1 8 Tryz.underlying28 hj0 hy0 hy1 hy2 rfl (by decide) _ 0 [] hs ⟨by decide,.inr ⟨z,0,#[],rfl,Nat.le_refl _,hz,by simp⟩⟩ ⟨b0,KU,none⟩ l.length oc (l.map bI) (by rw [<-e0];exact hx) (by simp) ?_ ?_ h0 ?_ ?_ (Nat.le_of_lt (aC hz)) w.heap.size rfl ?_
  ·intro j u hu
   have hj:j<l.length:=by
    rcases Nat.lt_or_ge j l.length with h9|h9
    ·exact h9
    ·rw [List.getElem?_eq_none (by simpa using h9)] at hu;cases hu
   obtain⟨b9,aAX,e9,_,Rl⟩:=hsl.2 j hj
   rw [e0] at e9;cases e9
   have:=Rl 0 (by omega)
   rw [Nat.mul_one,Nat.add_zero] at this
   have e8:(⟨b0,KU,none⟩:Addr).add j=⟨b0,KU+j,none⟩:=by unfold Addr.add;split<;>simp_all
   rw [e8,this]
   simpa [fE,bI,List.getD_eq_getElem?_getD,hj] using hu
  ·simp [Value.oneCell',bI]
  ·unfold maxLen;omega
  ·omega
  ·intro g cap w' hown hgr hat _
   simp only [Nat.zero_add,List.nil_append] at hown
   have hrs:=wR hown (by unfold maxLen;omega) (g:=fE l) (λj hj=>by simp [fE,bI,List.getD_eq_getElem?_getD,hj])
   have:=h (some ⟨g,0,none⟩) cap w' hrs.1 (λ_ b off e=>hrs.2 b off e) ((Chg.refl _ w).grown hgr (λk hk=>.inl (by cases hk;rfl)))
   simp only [Nat.zero_add]
   exact this
theorem gV.after {w0 w w3:World} {J:RJ} {s:dS} {hl:List Value} {vs:List HV} {G K L:Value} {ea:Option Addr} {ec:Nat} {ers:List (Value×Value)} {p:Nat} {t t':aJ} {r r':RWD} (h:gV w0 w J p s hl vs G K L ea ec ers t r) (hA:RAt ⟨w,eZ J p hl vs (.slice ea s.evs.length ec),G,K,L⟩ w3 t' r') (ht:t'.thread=t.thread) (hi:t'.inv=t.inv) (hws:0<r'.mem.ws.length) :
  Chg (wP (eZ J p hl vs (.slice ea s.evs.length ec)) G K L) w w3/\∃ G' K' L',gV w0 w3 J p s hl vs G' K' L' ea ec ers t' r':=by
 obtain⟨G',K',L',h1,h2⟩:=hA
 refine⟨h2.chg,G',K',L',h1,h.rest.keep h2.chg (λb _ hb=>.inl hb) h2.mut h.ge (λb hb=>?_) (λb hb e=>?_),h.hp,h.opn,ht.trans h.thr,hi.trans h.inv,λb hb=>?_⟩
 ·have hd:=λhx=>h.tape.dis b hx hb
  refine⟨λe=>hd (.inl e),λe=>hd (.inr (.inl (.inl e))),λe=>hd (.inr (.inr (.inl e))),λq hq=>⟨λe=>hd (.inr (.inr (.inr ⟨q,hq,.inl e⟩))),λhP=>⟨λe=>hd (.inr (.inr (.inr ⟨q,hq,.inr ⟨hP,.inl e⟩⟩))),λe=>hd (.inr (.inr (.inr ⟨q,hq,.inr ⟨hP,.inr e⟩⟩)))⟩⟩⟩
 ·obtain⟨PV,LV,KV,ht3,_⟩:=h1.tape
  obtain⟨_,_,_,_,hq⟩:=ht3.mem.blk
  obtain⟨q,rest,e1,_,e2⟩:=hq hws
  have e3:J.bw=some q:=e1
  rw [e] at e3;cases e3
  exact⟨_,_,e2⟩
 ·rcases h2.sub b hb with h9|h9
  ·exact h.ge b h9
  ·exact Nat.le_trans h.rest.below.size h9
structure vM (c:aD) (t t' u:aJ):Prop where
 thread:t'.thread=t.thread
 inv:t'.inv=t.inv
 halt:t'.halt=u.halt
 got:t'.got=u.got
 ticks:t'.ticks=u.ticks
 ans:u.halt=false->t'.err=u.err/\t'.val=u.val/\t'.list=u.list/\t'.key=u.key/\(c.obj=0->t'.priv=u.priv)
set_option maxHeartbeats 8000000 in
theorem Sc {w0 w:World} {J:RJ} {s:dS} {hl:List Value} {vs:List HV} {L:Value} {ea:Option Addr} {ec:Nat} {ers:List (Value×Value)} {p:Nat} (dO:aD->aJ->RWD->aJ×RWD) (h:fM w0 w J s hl vs L ea ec ers) (hp:p<J.nt) (hopn:(s.hands.getD p aY).opn=true) (hN:(s.hands.getD p aY).got.length<=1000000) (hcnt:s.rw.mem.c.all<=1000000) (hown:(s.hands.getD p aY).own.length<=1000000) (hws:0<s.rw.mem.ws.length) (hdws:∀ c t r,(dO c t r).2.mem.ws.length=r.mem.ws.length)
  (A:Nat) (hA:A=16*p) (kn sP sQ:Int) (bS g n gc:Nat) (th ob kd:Int) (xa xb xc:Nat) (hcok:lF ⟨th,ob,kd,xa,xb,xc⟩) (hS0:kM w0 bS kn sP sQ) (hg0:w0.cell? ⟨g,0,none⟩=some (.int .i64 0))
  (DC:ob=0->∀(B:fD) (u:World),B.I.pre.length=A+2->B.I.tb=J.bH->RAt B u ((s.hands.getD p aY).tape p) s.rw->Calls Tryz.prog 56 #[.pointer (some ⟨J.bH,A+2,none⟩),.int .i64 (n:Int),.int .i64 0,.agg #[.int .i64 kn,.int .i64 sP,.int .i64 sQ],.agg #[.int .i64 th,.int .i64 0,.int .i64 kd,.int .u64 (xa:Int),.int .u64 (xb:Int),.int .u64 (xc:Int)]] u λe u'=>e=.returned (.tuple #[])/\
   ∃ t',RAt B u' t' (dO ⟨th,0,kd,xa,xb,xc⟩ ((s.hands.getD p aY).tape p) s.rw).2/\vM ⟨th,0,kd,xa,xb,xc⟩ ((s.hands.getD p aY).tape p) t' (dO ⟨th,0,kd,xa,xb,xc⟩ ((s.hands.getD p aY).tape p) s.rw).1) :
  Calls Tryz.prog 42 #[.pointer (some ⟨J.bH,A,none⟩),.int .i64 (n:Int),.slice (some ⟨bS,0,none⟩) 1 1,.slice (some ⟨g,0,none⟩) 1 gc,.agg #[.int .i64 th,.int .i64 ob,.int .i64 kd,.int .u64 (xa:Int),.int .u64 (xb:Int),.int .u64 (xc:Int)]] w λe w'=>e=.returned (.tuple #[])/\Chg (iB J vs L (.slice ea s.evs.length ec)) w w'/\
   ∃ G K L' t',gV w0 w' J p s hl vs G K L' ea ec ers t' (rdo dO ⟨th,ob,kd,xa,xb,xc⟩ ((s.hands.getD p aY).tape p) s.rw).2/\vM ⟨th,ob,kd,xa,xb,xc⟩ ((s.hands.getD p aY).tape p) t' (rdo dO ⟨th,ob,kd,xa,xb,xc⟩ ((s.hands.getD p aY).tape p) s.rw).1:=by
 obtain⟨a0,f0,ha0,PV,er,vl,LV,KV,pl,ll,kl,hT,hPV,_,_,_⟩:=h.tapeAt hp hopn hN
 obtain⟨H,hH⟩:∃ H,H=s.hands.getD p aY:=⟨_,rfl⟩
 obtain⟨R,hR⟩:∃ R,R=rdo dO ⟨th,ob,kd,xa,xb,xc⟩ (H.tape p) s.rw:=⟨_,rfl⟩
 rw [<-hH] at hN hown hT DC ⊢
 rw [<-hR]
 have hlen:=h.rest.lens.1
 obtain⟨I,hI⟩:∃ I,I=(eZ J p hl vs (.slice ea s.evs.length ec)).tids:=⟨_,rfl⟩
 have hpre:I.pre.length=A+2:=by rw [hI,hA];show(hl.take (16*p+2)).length=_;simp;omega
 have htb:I.tb=J.bH:=by rw [hI];rfl
 obtain⟨OV,hO,hOl⟩:=h.rest.own p hp
 rw [<-hH] at hOl
 obtain⟨oa,oc,rfl,hOs,hOm⟩:=hOl
 have hE15:w.cell? ⟨J.bH,A+15,none⟩=some (.slice (some ⟨(vs.getD p hv0).2.2,0,none⟩) 1 1):=by rw [aA h.hb,hA];simpa using h.rest.c15 p hp
 obtain⟨bO,hbO⟩:∃ bO,bO=(vs.getD p hv0).2.2:=⟨_,rfl⟩
 rw [<-hbO] at hO hE15
 obtain⟨_,hHb⟩:=h.ty.H
 have hOH:bO≠J.bH:=dB hO hHb (by decide)
 obtain⟨G,hG⟩:∃ G,G=(vs.getD p hv0).1:=⟨_,rfl⟩
 obtain⟨K,hK⟩:∃ K,K=(vs.getD p hv0).2.1:=⟨_,rfl⟩
 have hmid:=λ(w2:World) (t:aJ) (PV LV KV:Value)=>h.mid hp hopn (w2:=w2) (t:=t) (PV:=PV) (LV:=LV) (KV:=KV)
 rw [<-hG,<-hK,<-hI] at hT hmid
 have hsub:∀ b,wP (eZ J p hl vs (.slice ea s.evs.length ec)) G K L b->iB J vs L (.slice ea s.evs.length ec) b:=λb hb=>by rw [hG,hK] at hb;exact TS hp (.inl hb)
 have hMutH:iB J vs L (.slice ea s.evs.length ec) J.bH:=.inr (.inr (.inr (.inr (.inl rfl))))
 have hMlow:∀ b,iB J vs L (.slice ea s.evs.length ec) b->b<w.heap.size:=λb hb=>by
  have ty:=h.ty
  rcases hb with e|e|e|e|e|e|e|e|e|⟨q,hq,e|e|e⟩
  ·obtain⟨_,h9⟩:=ty.W;rw [e];exact aC h9
  ·obtain⟨_,h9⟩:=ty.M;rw [e];exact aC h9
  ·obtain⟨_,h9⟩:=ty.T;rw [e];exact aC h9
  ·obtain⟨_,h9⟩:=ty.F;rw [e];exact aC h9
  ·obtain⟨_,h9⟩:=ty.H;rw [e];exact aC h9
  ·rcases e with e|e
   ·obtain⟨_,h9⟩:=ty.O;rw [e];exact aC h9
   ·exact Nat.lt_of_lt_of_le (h.rest.res b e) h.rest.below.size
  ·obtain⟨_,_,h9⟩:=ty.U b e;exact aC h9
  ·obtain⟨_,_,h9⟩:=ty.L b e;exact aC h9
  ·obtain⟨_,_,h9⟩:=ty.E b e;exact aC h9
  ·obtain⟨_,h9⟩:=ty.o q hq;rw [<-e];exact aC h9
  ·obtain⟨_,_,h9⟩:=ty.G q hq trivial b e;exact aC h9
  ·obtain⟨_,_,h9⟩:=ty.K q hq trivial b e;exact aC h9
 have hbel:=h.rest.below
 have hHge:=h.rest.ge.2.2.1
 have hOge:w0.heap.size<=bO:=by rw [hbO];exact(h.rest.ge.2.2.2.2.2.2.2 p hp).1
 have hrw:s.rw.mem.c.all+1<1000000000000/\H.got.length+1<=100000000:=⟨by omega,by omega⟩
 obtain⟨hTl,hTk⟩:H.ticks.length=H.got.length/\True:=by obtain⟨_,_,_,h4⟩:=(h.rest.hand p hp trivial).opn hopn;rw [hH];exact⟨h4,trivial⟩
 obtain⟨w9,TA⟩:∃ w9,w9=w.alloc (.cells #[.int .i64 th,.int .i64 ob,.int .i64 kd,.int .u64 (xa:Int),.int .u64 (xb:Int),.int .u64 (xc:Int)] 48):=⟨_,rfl⟩
 have g9:Below w.heap.size w w9:=by rw [TA];exact Gr.new _ _
 have hC9:w9.heap[w.heap.size]?=some (.cells #[.int .i64 th,.int .i64 ob,.int .i64 kd,.int .u64 (xa:Int),.int .u64 (xb:Int),.int .u64 (xc:Int)] 48 (0,0)):=by rw [TA];exact heap_alloc_new _ _
 obtain⟨h9,to9⟩:=hT.grown g9
 have ho:∀ i,I.pre.length+i=A+(2+i):=λi=>by rw [hpre];omega
 have hcl:∀ i,i<13->∀ v,(iH I.bW G K ⟨(p:Int),(H.inv:Int),H.got,H.ticks,a0,f0,ha0,PV,er,vl,LV,KV⟩)[i]?=some v->w9.cell? ⟨J.bH,A+(2+i),none⟩=some v:=λi hi v hv=>by rw [<-ho i,<-htb,h9.cell hi];exact hv
 have hfz:∀ i,w9.frozen? ⟨J.bH,i,none⟩=false:=λi=>by rw [<-htb];exact aB h9.blk _
 have c5:=hcl 5 (by omega) _ rfl;have cf5:=hfz (A+7)
 have c6:=hcl 6 (by omega) _ rfl;have cf6:=hfz (A+8)
 have c7:=hcl 7 (by omega) _ rfl;have cf7:=hfz (A+9)
 have c9:=hcl 9 (by omega) _ rfl;have cf9:=hfz (A+11)
 have c10:=hcl 10 (by omega) _ rfl;have Qt:=hfz (A+12)
 have c11:=hcl 11 (by omega) _ rfl;have Sb:=hfz (A+13)
 have c12:=hcl 12 (by omega) _ rfl;have Rh:=hfz (A+14)
 simp only [Nat.reduceAdd] at c5 c6 c7 c9 c10 c11 c12
 have k1:w9.cell? ⟨w.heap.size,1,none⟩=some (.int .i64 ob):=by rw [aA hC9];rfl
 obtain⟨h6x,to6x⟩:=h9.put (i:=5) (by omega) (.int .i64 0) (t':=⟨(p:Int),(H.inv:Int),H.got,H.ticks,0,f0,ha0,PV,er,vl,LV,KV⟩) rfl rfl rfl
 obtain⟨h7x,to7x⟩:=h6x.put (i:=6) (by omega) (.bool true) (t':=⟨(p:Int),(H.inv:Int),H.got,H.ticks,0,true,ha0,PV,er,vl,LV,KV⟩) rfl rfl rfl
 obtain⟨h8x,to8x⟩:=h7x.put (i:=7) (by omega) (.bool false) (t':=⟨(p:Int),(H.inv:Int),H.got,H.ticks,0,true,false,PV,er,vl,LV,KV⟩) rfl rfl rfl
 obtain⟨h10x,to10x⟩:=h8x.put (i:=9) (by omega) (.int .i64 0) (t':=⟨(p:Int),(H.inv:Int),H.got,H.ticks,0,true,false,PV,0,vl,LV,KV⟩) rfl rfl rfl
 obtain⟨h11x,to11x⟩:=h10x.put (i:=10) (by omega) (.int .u64 0) (t':=⟨(p:Int),(H.inv:Int),H.got,H.ticks,0,true,false,PV,0,0,LV,KV⟩) rfl rfl rfl
 obtain⟨h12x,to12x⟩:=h11x.put (i:=11) (by omega) (.slice none 0 0) (t':=⟨(p:Int),(H.inv:Int),H.got,H.ticks,0,true,false,PV,0,0,.slice none 0 0,KV⟩) rfl rfl rfl
 obtain⟨h13x,to13x⟩:=h12x.put (i:=12) (by omega) (.slice none 0 0) (t':=⟨(p:Int),(H.inv:Int),H.got,H.ticks,0,true,false,PV,0,0,.slice none 0 0,.slice none 0 0⟩) rfl rfl rfl
 obtain⟨w1,hw1⟩:∃ w1,w1=((((((w9.setCell ⟨J.bH,A+7,none⟩ (.int .i64 0)).setCell ⟨J.bH,A+8,none⟩ (.bool true)).setCell ⟨J.bH,A+9,none⟩ (.bool false)).setCell ⟨J.bH,A+11,none⟩ (.int .i64 0)).setCell ⟨J.bH,A+12,none⟩ (.int .u64 0)).setCell ⟨J.bH,A+13,none⟩ (.slice none 0 0)).setCell ⟨J.bH,A+14,none⟩ (.slice none 0 0):=⟨_,rfl⟩
 have Vl:w1=((((((w9.setCell ⟨I.tb,I.pre.length+5,none⟩ (.int .i64 0)).setCell ⟨I.tb,I.pre.length+6,none⟩ (.bool true)).setCell ⟨I.tb,I.pre.length+7,none⟩ (.bool false)).setCell ⟨I.tb,I.pre.length+9,none⟩ (.int .i64 0)).setCell ⟨I.tb,I.pre.length+10,none⟩ (.int .u64 0)).setCell ⟨I.tb,I.pre.length+11,none⟩ (.slice none 0 0)).setCell ⟨I.tb,I.pre.length+12,none⟩ (.slice none 0 0):=by rw [hw1];simp only [ho 5,ho 6,ho 7,ho 9,ho 10,ho 11,ho 12,htb]
 have T1:dE w1 I G K L ⟨(p:Int),(H.inv:Int),H.got,H.ticks,0,true,false,PV,0,0,.slice none 0 0,.slice none 0 0⟩ s.rw.mem s.rw.now:=by rw [Vl];exact h13x
 have g1:Chg (λb=>b=J.bH) w9 w1:=by rw [hw1];exact((((((((Chg.refl (λb=>b=J.bH) w9).setCell (p:=⟨J.bH,A+7,none⟩) (by exact .inl rfl) _).setCell (p:=⟨J.bH,A+8,none⟩) (by exact .inl rfl) _).setCell (p:=⟨J.bH,A+9,none⟩) (by exact .inl rfl) _).setCell (p:=⟨J.bH,A+11,none⟩) (by exact .inl rfl) _).setCell (p:=⟨J.bH,A+12,none⟩) (by exact .inl rfl) _).setCell (p:=⟨J.bH,A+13,none⟩) (by exact .inl rfl) _).setCell (p:=⟨J.bH,A+14,none⟩) (by exact .inl rfl) _)
 have lH:J.bH<w.heap.size:=hMlow _ hMutH
 have hCne:w.heap.size≠J.bH:=λe=>by omega
 have hC1:=(g1.block _ (aC hC9) hCne).trans hC9
 have cw1:Chg (λb=>b=J.bH) w w1:=(Chg.of_below g9).trans g1
 have hO1:=(cw1.block _ (aC hO) hOH).trans hO
 have lOw:=aC hO
 have Ub:w1.cell? ⟨J.bH,A+15,none⟩=some (.slice (some ⟨bO,0,none⟩) 1 1):=by
  have h8:=(g9.cell (p:=⟨J.bH,A+15,none⟩) lH).trans hE15
  rw [hw1]
  repeat rw [World.cell?_setCell_other _ _ _ _ (by simp)]
  exact h8
 have far:∀(u:World),Chg (λb=>b=J.bH) w u->u.cell? ⟨g,0,none⟩=some (.int .i64 0)/\u.cell? ⟨bS,0,none⟩=some (.int .i64 kn)/\u.cell? ⟨bS,1,none⟩=some (.int .i64 sP)/\u.cell? ⟨bS,2,none⟩=some (.int .i64 sQ):=λu hu=>by
  have hb:Below w0.heap.size w0 u:=hbel.trans (hu.below (λb e=>by rw [e];exact hHge) hbel.size)
  have hS:=hS0.grown hb
  exact⟨(hb.cell (World.block_lt_of_cell? _ _ hg0)).trans hg0,by rw [aA hS.blk];rfl,by rw [aA hS.blk];rfl,by rw [aA hS.blk];rfl⟩
 have Hw9:=Lib.hid TA;have Hw1:=Lib.hid hw1;have HT1:=Lib.hid T1;have HC1:=Lib.hid hC1;have HO1:=Lib.hid hO1;have Own1:=Lib.hid Ub;have HR:=Lib.hid hR;have HDC:=Lib.hid DC;have Ho:=Lib.hid ho;have Htb:=Lib.hid htb;have HI:=Lib.hid hI;have Far:=Lib.hid far;have Cw1:=Lib.hid cw1;have Hmid:=Lib.hid hmid;have HOs:=Lib.hid hOs;have HOm:=Lib.hid hOm;have HPV:=Lib.hid hPV;have HMlow:=Lib.hid hMlow;have HHo:=Lib.hid hown;have Hrw:=Lib.hid hrw;have HTl:=Lib.hid hTl;have HH:=Lib.hid hH;have Hpre:=Lib.hid hpre;have HMH:=Lib.hid hMutH;have HOH:=Lib.hid hOH;have Hsub:=Lib.hid hsub
 have hCl:=aC hC1
 have hOl:=aC hO1
 have hHl:J.bH<w1.heap.size:=Nat.lt_of_lt_of_le lH cw1.size
 clear hsub TA g9 hC9 h9 to9 hw1 Vl T1 g1 hC1 hO1 Ub hT hS0 hg0 hO hR DC ho htb hI far cw1 hmid hOs hOm hPV hMlow hown hrw hTl hTk hH hpre hMutH hOH h6x to6x h7x to7x h8x to8x h10x to10x h11x to11x h12x to12x h13x to13x hcl hfz hbel hHge hOge hHb hlen hE15 lOw h hA hcnt hN hopn hbO hG hK
 go_enter Tryz.func42,Tryz.ntmps42
 go_upto_region 1 with fail
 rw [<-Hw9.out]
 go_upto_region 9 with fail
 rw [<-Hw1.out]
 clear c5 cf5 c6 cf6 c7 cf7 c9 cf9 c10 Qt c11 Sb c12 Rh k1
 have k1:w1.cell? ⟨w.heap.size,1,none⟩=some (.int .i64 ob):=by rw [aA HC1.out];rfl
 by_cases hob:ob=0
 ·subst hob
  have hr:R=dO ⟨th,0,kd,xa,xb,xc⟩ (H.tape p) s.rw:=by rw [HR.out];unfold rdo;rw [if_neg (by simp)]
  have xM:=Own1.out
  have o0:w1.cell? ⟨bO,0,none⟩=some (.slice oa H.own.length oc):=by rw [aA HO1.out];rfl
  have e10:w1.cell? ⟨J.bH,A+10,none⟩=some PV:=by have h9:=HT1.out.cell (i:=8) (by omega);rw [Ho.out 8,Htb.out] at h9;exact h9
  have f10:w1.frozen? ⟨J.bH,A+10,none⟩=false:=by rw [<-Htb.out];exact aB HT1.out.blk _
  clear hcok
  have sl1:∀ u,Chg (λb=>b=J.bH) w u->cB u oa H.own.length 1 (fE H.own):=λu hu=>by
   rcases Nat.eq_zero_or_pos H.own.length with h0|h0
   ·rw [h0];exact cB.nil _ _ _ _
   ·exact HOs.out.chg hu (λb off e e9=>HOm.out h0 b off e (by rw [e9];exact HMH.out))
  have Sl1:=Lib.hid sl1
  clear sl1
  have hHo:=HHo.out
  go_upto_region 11 with fail
  refine bU ((λu=>u.cell? ⟨J.bH,A+15,none⟩=some (.slice (some ⟨bO,0,none⟩) 1 1)/\u.cell? ⟨w.heap.size,1,none⟩=some (.int .i64 0)/\u.cell? ⟨bO,0,none⟩=some (.slice oa H.own.length oc))) 13 (by kernel_rfl) ?hS0L1 ?_
  case hS0L1=>
   (exact⟨xM,k1,o0⟩)
  intro hS hcl
  refine wL (i:=0) 14 rfl hcl hS ?_
  clear hcl;intro hcl
  (simp only [Act.put,zs])
  refine wL (i:=2) 14 rfl hcl hS ?_
  clear hcl;intro hcl
  (simp only [Act.put,zs])
  refine wL (i:=3) 14 rfl hcl hS ?_
  clear hcl;intro hcl
  (simp only [Act.put,zs])
  refine wL (i:=4) 14 rfl hcl hS ?_
  clear hcl;intro hcl
  (simp only [Act.put,zs])
  refine wL (i:=5) 14 rfl hcl hS ?_
  clear hcl;intro hcl
  (simp only [Act.put,zs])
  refine wL (i:=6) 14 rfl hcl hS ?_
  clear hcl;intro hcl
  (simp only [Act.put,zs])
  refine wL (i:=7) 14 rfl hcl hS ?_
  clear hcl;intro hcl
  (simp only [Act.put,zs])
  refine wL (i:=8) 14 rfl hcl hS ?_
  clear hcl;intro hcl
  (simp only [Act.put,zs])
  refine wL (i:=9) 14 rfl hcl hS ?_
  clear hcl;intro hcl
  (simp only [Act.put,zs])
  refine aL (i:=1) (by kernel_rfl) rfl hcl (λK' hK=>?_)
  have HK:=Lib.hid hK;clear hK
  ((rw [if_pos (by kernel_rfl)]);(simp only [zq1,zq2,zq3]);go_big_op)
  refine HK.out _ _ ?hS1L1 (λhcl=>?_)
  case hS1L1=>
   intro _
   (exact⟨((Gr.new w1 _).drew.cell hHl).trans xM,((Gr.new w1 _).drew.cell hCl).trans k1,((Gr.new w1 _).drew.cell hOl).trans o0⟩)
  clear HK
  refine aL (i:=10) (by kernel_rfl) rfl hcl (λK' hK=>?_)
  have HK:=Lib.hid hK;clear hK
  (refine JX (by rfl) _ _ (by rfl) w1.heap.size (by exact heap_alloc_new _ _) oa oc H.own hHo (by rfl) (by rfl) (Sl1.out _ (by exact(Cw1.out.alloc _).drew)) ?_;intro va vc w5 hs5 Re OX;have q10:=(OX.cell (p:=⟨J.bH,A+10,none⟩) (Nat.lt_of_lt_of_le hHl (Gr.new w1 _).size) (Nat.ne_of_lt hHl)).trans (((Gr.new w1 (.cells #[] 46)).cell (p:=⟨J.bH,A+10,none⟩) hHl).trans e10);have qf:w5.frozen? ⟨J.bH,A+10,none⟩=false:=(by(obtain⟨cz,hz9⟩:∃ cz,w5.heap[J.bH]?=some (.cells cz 100 (0,0)):=⟨_,(OX.block J.bH (Nat.lt_of_lt_of_le hHl (Gr.new w1 _).size) (Nat.ne_of_lt hHl)).trans (((Gr.new w1 (.cells #[] 46)).block _ hHl).trans (by have h8:=HT1.out.blk;rw [Htb.out,show I.T=100 by(rw [HI.out];rfl)] at h8;exact h8))⟩;exact aB hz9 _));have y15:=(OX.cell (p:=⟨J.bH,A+15,none⟩) (Nat.lt_of_lt_of_le hHl (Gr.new w1 _).size) (Nat.ne_of_lt hHl)).trans (((Gr.new w1 (.cells #[] 46)).cell (p:=⟨J.bH,A+15,none⟩) hHl).trans xM);have yk1:=(OX.cell (p:=⟨w.heap.size,1,none⟩) (Nat.lt_of_lt_of_le hCl (Gr.new w1 _).size) (Nat.ne_of_lt hCl)).trans (((Gr.new w1 (.cells #[] 46)).cell (p:=⟨w.heap.size,1,none⟩) hCl).trans k1);have Zx:=(OX.cell (p:=⟨bO,0,none⟩) (Nat.lt_of_lt_of_le hOl (Gr.new w1 _).size) (Nat.ne_of_lt hOl)).trans (((Gr.new w1 (.cells #[] 46)).cell (p:=⟨bO,0,none⟩) hOl).trans o0))
  refine HK.out _ _ ?hS10L1 (λhcl=>?_)
  case hS10L1=>
   intro _
   (exact⟨y15,yk1,Zx⟩)
  clear HK
  (simp only [Act.put,zs])
  refine aL (i:=11) (by kernel_rfl) rfl hcl (λK' hK=>?_)
  have HK:=Lib.hid hK;clear hK
  ((rw [if_pos (by kernel_rfl)]);(simp only [zq1,zq2,zq3]);go_big_op)
  refine HK.out _ _ ?hS11L1 (λhcl=>?_)
  case hS11L1=>
   intro _
   (exact⟨y15,yk1,Zx⟩)
  clear HK
  refine aL (i:=12) (by kernel_rfl) rfl hcl (λK' hK=>?_)
  have HK:=Lib.hid hK;clear hK
  ((rw [if_pos (by kernel_rfl)]);(simp only [zq1,zq2,zq3]);go_big_op)
  refine HK.out _ _ ?hS12L1 (λhcl=>?_)
  case hS12L1=>
   intro _
   (exact⟨y15,yk1,Zx⟩)
  clear HK
  refine aL (i:=13) (by kernel_rfl) rfl hcl (λK' hK=>?_)
  have HK:=Lib.hid hK;clear hK
  ((rw [if_pos (by kernel_rfl)]);(simp only [zq1,zq2,zq3]);go_big_op)
  refine HK.out _ _ (λh=>by cases h.symm.trans (by kernel_rfl:_=true)) (λ_=>bV (by kernel_rfl) ?_ _)
  clear HK
  (clear hS)
  have hb5:Below w1.heap.size w1 w5:=(Gr.new w1 (.cells #[] 46)).drew.trans (OX.below (B:=w1.heap.size) (λb e=>by rw [e];exact Nat.le_refl _) (Gr.new w1 (.cells #[] 46)).size)
  obtain⟨h5,_⟩:=HT1.out.grown hb5
  obtain⟨hx,_⟩:=h5.put (i:=8) (by omega) (.slice va H.own.length vc) (t':=⟨(p:Int),(H.inv:Int),H.got,H.ticks,0,true,false,.slice va H.own.length vc,0,0,.slice none 0 0,.slice none 0 0⟩) rfl rfl rfl
  obtain⟨w2,hw2⟩:∃ w2,w2=w5.setCell ⟨J.bH,A+2+8,none⟩ (.slice va H.own.length vc):=⟨_,rfl⟩
  have Vq:w2=w5.setCell ⟨I.tb,I.pre.length+8,none⟩ (.slice va H.own.length vc):=by rw [hw2,Ho.out 8,Htb.out]
  rw [<-Vq] at hx
  rw [<-hw2]
  have c25:Chg (λb=>b=J.bH) w5 w2:=by rw [hw2];exact(Chg.refl (λb=>b=J.bH) w5).setCell (p:=⟨J.bH,A+2+8,none⟩) (.inl rfl) _
  have c12:Chg (λb=>b=J.bH) w w2:=((Cw1.out.trans (Chg.of_below hb5)).trans c25)
  have hsl2:cB w2 va H.own.length 1 (fE H.own):=by
   rcases Nat.eq_zero_or_pos H.own.length with h0|h0
   ·rw [h0];exact cB.nil _ _ _ _
   ·exact hs5.chg c25 (λb off e e9=>by have:=Re h0 b off e;omega)
  have hMl:=Hmid.out w2 (H.tape p) (.slice va H.own.length vc) (.slice none 0 0) (.slice none 0 0) hx c12 ⟨va,vc,rfl,hsl2,λh0 b off e hm=>by have:=Re h0 b off e;have:=HMlow.out b hm;have:=Cw1.out.size;omega⟩ (KR.nil _ _) (Lst.nil _ _) (Nat.zero_le _) HTl.out Hrw.out rfl (by show H.inv=_;rw [<-HH.out])
  obtain⟨g0,s0,s1,s2⟩:=Far.out w2 c12
  have lC2:w.heap.size<w2.heap.size:=Nat.lt_of_lt_of_le hCl (Nat.le_trans hb5.size c25.size)
  have hC2:w2.heap[w.heap.size]?=some (.cells #[.int .i64 th,.int .i64 0,.int .i64 kd,.int .u64 (xa:Int),.int .u64 (xb:Int),.int .u64 (xc:Int)] 48 (0,0)):=(c25.block _ (Nat.lt_of_lt_of_le hCl hb5.size) hCne).trans ((hb5.block _ hCl).trans HC1.out)
  have y0:w2.cell? ⟨w.heap.size,0,none⟩=some (.int .i64 th):=by rw [aA hC2];rfl
  have y1:w2.cell? ⟨w.heap.size,1,none⟩=some (.int .i64 0):=by rw [aA hC2];rfl
  have y2:w2.cell? ⟨w.heap.size,2,none⟩=some (.int .i64 kd):=by rw [aA hC2];rfl
  have y3:w2.cell? ⟨w.heap.size,3,none⟩=some (.int .u64 (xa:Int)):=by rw [aA hC2];rfl
  have y4:w2.cell? ⟨w.heap.size,4,none⟩=some (.int .u64 (xb:Int)):=by rw [aA hC2];rfl
  have y5:w2.cell? ⟨w.heap.size,5,none⟩=some (.int .u64 (xc:Int)):=by rw [aA hC2];rfl
  have hpB:(⟨w2,eZ J p hl vs (.slice ea s.evs.length ec),G,K,L⟩:fD).I.pre.length=A+2:=by rw [<-Hpre.out,HI.out];rfl
  have hra:RAt ⟨w2,eZ J p hl vs (.slice ea s.evs.length ec),G,K,L⟩ w2 (H.tape p) s.rw:=⟨G,K,L,hMl.tape,RTo.refl _ _ _ _ _⟩
  have HD2:=Lib.hid (HDC.out rfl ⟨w2,eZ J p hl vs (.slice ea s.evs.length ec),G,K,L⟩ w2.drew hpB rfl (hra.grown (Gr.refl _).drew))
  have HMl:=Lib.hid hMl;have C12:=Lib.hid c12
  have Hdl:=Lib.hid (show 0<(dO ⟨th,0,kd,xa,xb,xc⟩ (H.tape p) s.rw).2.mem.ws.length by rw [hdws];exact hws)
  rw [<-hr] at HD2 Hdl
  clear hx h5 hw2 Vq c25 c12 hsl2 hMl hC2 hpB hra hs5 Re OX q10 qf y15 yk1 Zx e10 f10 xM o0 k1 HDC Sl1 HR hr hb5 hws hdws
  go_upto_region 12 with fail
  refine bU ((λu=>u.cell? ⟨g,0,none⟩=some (.int .i64 0)/\u.cell? ⟨bS,0,none⟩=some (.int .i64 kn)/\u.cell? ⟨bS,1,none⟩=some (.int .i64 sP)/\u.cell? ⟨bS,2,none⟩=some (.int .i64 sQ)/\u.cell? ⟨w.heap.size,0,none⟩=some (.int .i64 th)/\u.cell? ⟨w.heap.size,1,none⟩=some (.int .i64 0)/\u.cell? ⟨w.heap.size,2,none⟩=some (.int .i64 kd)/\u.cell? ⟨w.heap.size,3,none⟩=some (.int .u64 (xa:Int))/\u.cell? ⟨w.heap.size,4,none⟩=some (.int .u64 (xb:Int))/\u.cell? ⟨w.heap.size,5,none⟩=some (.int .u64 (xc:Int)))) 13 (by kernel_rfl) ?hS0L2 ?_
  case hS0L2=>
   exact⟨g0,s0,s1,s2,y0,y1,y2,y3,y4,y5⟩
  intro hS hcl
  refine wL (i:=0) 14 rfl hcl hS ?_
  clear hcl;intro hcl
  (simp only [Act.put,zs])
  refine wL (i:=1) 14 rfl hcl hS ?_
  clear hcl;intro hcl
  (simp only [Act.put,zs])
  refine wL (i:=2) 14 rfl hcl hS ?_
  clear hcl;intro hcl
  (simp only [Act.put,zs])
  refine wL (i:=3) 14 rfl hcl hS ?_
  clear hcl;intro hcl
  (simp only [Act.put,zs])
  refine wL (i:=4) 14 rfl hcl hS ?_
  clear hcl;intro hcl
  (simp only [Act.put,zs])
  refine wL (i:=5) 14 rfl hcl hS ?_
  clear hcl;intro hcl
  (simp only [Act.put,zs])
  refine wL (i:=6) 14 rfl hcl hS ?_
  clear hcl;intro hcl
  (simp only [Act.put,zs])
  refine wL (i:=7) 14 rfl hcl hS ?_
  clear hcl;intro hcl
  (simp only [Act.put,zs])
  refine wL (i:=8) 14 rfl hcl hS ?_
  clear hcl;intro hcl
  (simp only [Act.put,zs])
  refine wL (i:=9) 14 rfl hcl hS ?_
  clear hcl;intro hcl
  (simp only [Act.put,zs])
  refine wL (i:=10) 14 rfl hcl hS ?_
  clear hcl;intro hcl
  (simp only [Act.put,zs])
  refine wL (i:=11) 14 rfl hcl hS ?_
  clear hcl;intro hcl
  (simp only [Act.put,zs])
  refine wL (i:=12) 14 rfl hcl hS ?_
  clear hcl;intro hcl
  (simp only [Act.put,zs])
  refine aL (i:=13) (by kernel_rfl) rfl hcl (λK' hK=>?_)
  have HK:=Lib.hid hK;clear hK
  ((rw [if_pos (by kernel_rfl)]);(simp only [zq1,zq2,zq3]);go_big_op)
  (go_at_call 56;refine HD2.out.mono ?_;rintro e w3 ⟨rfl,t',ht,hd⟩)
  refine HK.out _ _ (λh=>by cases h.symm.trans (by kernel_rfl:_=true)) (λ_=>bV (by kernel_rfl) ?_ _)
  clear HK
  (clear hS)
  obtain⟨hc3,G',K',L',hfin⟩:=HMl.out.after ht hd.thread hd.inv Hdl.out
  have Hc3:=Lib.hid (xZ (S:=iB J vs L (.slice ea s.evs.length ec)) (C12.out.mono (λb _ e=>by rw [e];exact HMH.out)) hc3 (λb _ hb=>Hsub.out b hb))
  have Hfin:=Lib.hid hfin;have Hd:=Lib.hid hd
  clear ht hd hfin hc3 g0 s0 s1 s2 y0 y1 y2 y3 y4 y5
  go_wp2
  (go_end0)
  exact⟨rfl,Hc3.out,G',K',L',t',Hfin.out,Hd.out⟩
 ·have hr:R=({ H.tape p with err:=12 },s.rw):=by rw [HR.out];unfold rdo;rw [if_pos hob]
  have e11:w1.cell? ⟨J.bH,A+11,none⟩=some (.int .i64 0):=by have h9:=HT1.out.cell (i:=9) (by omega);rw [Ho.out 9,Htb.out] at h9;exact h9
  have f11:w1.frozen? ⟨J.bH,A+11,none⟩=false:=by rw [<-Htb.out];exact aB HT1.out.blk _
  obtain⟨hx,_⟩:=HT1.out.put (i:=9) (by omega) (.int .i64 12) (t':=⟨(p:Int),(H.inv:Int),H.got,H.ticks,0,true,false,PV,12,0,.slice none 0 0,.slice none 0 0⟩) rfl rfl rfl
  simp only [Ho.out 9,Htb.out] at hx
  have c12:Chg (λb=>b=J.bH) w (w1.setCell ⟨J.bH,A+11,none⟩ (.int .i64 12)):=Cw1.out.setCell (p:=⟨J.bH,A+11,none⟩) (.inl rfl) _
  have hMl:=Hmid.out (w1.setCell ⟨J.bH,A+11,none⟩ (.int .i64 12)) { H.tape p with err:=12,priv:=pl } PV (.slice none 0 0) (.slice none 0 0) hx c12 (HPV.out.keep c12 (λb e=>by rw [e];exact HMH.out) (aN.refl _ _)) (KR.nil _ _) (Lst.nil _ _) (Nat.zero_le _) HTl.out Hrw.out rfl (by show H.inv=_;rw [<-HH.out])
  have fin:∃ G K L' t',gV w0 (w1.setCell ⟨J.bH,A+11,none⟩ (.int .i64 12)) J p s hl vs G K L' ea ec ers t' R.2/\vM ⟨th,ob,kd,xa,xb,xc⟩ (H.tape p) t' R.1:=by
   rw [hr]
   exact⟨_,_,_,_,hMl,⟨rfl,rfl,rfl,rfl,rfl,λ_=>⟨rfl,rfl,rfl,rfl,λe=>absurd e hob⟩⟩⟩
  have Fin:=Lib.hid fin;have C12:=Lib.hid (c12.mono (S':=iB J vs L (.slice ea s.evs.length ec)) (λb _ e=>by rw [e];exact HMH.out))
  clear fin hx hMl c12 HDC HR Hmid hr
  by_cases h0:ob<0
  ·go_wp2
   ((refine bodyPost_ret (results_none rfl _ _ _) rfl ?_))
   exact⟨rfl,C12.out,Fin.out⟩
  ·have h1:(1:Int)<=ob:=by omega
   go_wp2
   ((refine bodyPost_ret (results_none rfl _ _ _) rfl ?_))
   exact⟨rfl,C12.out,Fin.out⟩
end
end Go.Proofs.YtfkokppncipgnaaGreat
