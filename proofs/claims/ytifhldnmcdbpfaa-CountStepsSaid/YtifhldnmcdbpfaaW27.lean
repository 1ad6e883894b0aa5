/- Layer 10: machines are made, answer, and tell when they took effect. -/
import Derived.Test.YtifhldnmcdbpfaaW26
import Derived.Test.YtifhldnmcdbpfaaW02
import Derived.Deep.QuietTactic
import Derived.BigQuiet
import Derived.Stop.Asserts
import Derived.Test.YtifhldnmcdbpfaaW20
import Derived.Test.YtifhldnmcdbpfaaW18
set_option maxRecDepth 100000
set_option linter.unusedVariables false
set_option linter.unusedSimpArgs false
set_option linter.unnecessarySimpa false
namespace Go.Proofs.Ytifhldnmcdbpfaa
section
open Go.RowKit
variable {w w' w2:World} {Mut:Nat->Prop} {I:dG} {N N' N2:Nat} {wd wd' wd2:WD} {bm:Nat} {rest rest' mH:List Value} {T:TypeId} {b m p:Nat} {y y' y2:dQ} {tv tv' kI kv:Value}
theorem uY (w:World):w.ownsRow 0 250 2 (.slice none 0 0) 0 []:=⟨by decide,.inl ⟨rfl,rfl⟩⟩
theorem rQ {bm k:Nat} (h:bC bm (.slice none 0 0) k):k=bm:=h.elim id (λh=>by cases h)
theorem zH (b m p:Nat) (w:World):Calls Try.prog 124 #[.agg #[.int .i64 (b:Int),.int .i64 (m:Int)],.int .i64 (p:Int)] w λe w'=>e=.returned (.pointer (some ⟨w.heap.size+1,0,none⟩))/\Below w.heap.size w w'/\bV w' (w.heap.size+1) (gX 0 (.slice none 0 0)) 217 b m p (eP m) (.slice none 0 0):=by
 have hf:∀ u:World,u.heap.size=w.heap.size+1->(u.alloc (.cells (jM b m p (eP m) (.slice none 0 0)++gX 0 (.slice none 0 0)).toArray 217)).heap[w.heap.size+1]?=some (.cells (jM b m p (eP m) (.slice none 0 0)++gX 0 (.slice none 0 0)).toArray 217 (0,0)):=λu hu=>by
  rw [<-hu];exact heap_alloc_new _ _
 have Hf:=Lib.hid (hf (w.alloc (.cells #[.int .i64 (b:Int),.int .i64 (m:Int)] 209)) (by simp))
 clear hf
 go_enter Try.func124,Try.ntmps124
 go_wp2
 go_ret
 exact⟨rfl,Gr.alloc (Gr.new _ _) _,Hf.out,uY _,by decide⟩
set_option maxHeartbeats 1000000 in
theorem zW (m v:Nat) (hw:aM w Mut I N wd) (hv:v<2^m) (hm:m<=12) (b p:Nat) :
  Calls Try.prog 156 #[.agg #[.int .i64 (b:Int),.int .i64 (m:Int)],.int .i64 (p:Int),.int .u64 (v:Int)] w λe w'=>e=.returned (.pointer (some ⟨w.heap.size+1,0,none⟩))/\Below w.heap.size w w'/\∃ tv,bV w' (w.heap.size+1) (bA v (dB m v).up (dB m v).nx (.slice none 0 0)) 246 b m p (dB m v).y tv/\∀ k,bC (w.heap.size+1) tv k->w.heap.size<=k:=by
 obtain⟨w1,hw1⟩:∃ w1,w1=(w.alloc (.cells #[.int .i64 (b:Int),.int .i64 (m:Int)] 209)).alloc (.cells (jM b m p (eP m) (.slice none 0 0)++bA v false 1 (.slice none 0 0)).toArray 246):=⟨_,rfl⟩
 have hb1:Below w.heap.size w w1:=by rw [hw1];exact Gr.alloc (Gr.new _ _) _
 have hs1:w1.heap.size=w.heap.size+2:=by rw [hw1];simp
 have hk1:w1.heap[w.heap.size+1]?=some (.cells (jM b m p (eP m) (.slice none 0 0)++bA v false 1 (.slice none 0 0)).toArray 246 (0,0)):=by
  rw [hw1]
  have:=heap_alloc_new (w.alloc (.cells #[.int .i64 (b:Int),.int .i64 (m:Int)] 209)) (.cells (jM b m p (eP m) (.slice none 0 0)++bA v false 1 (.slice none 0 0)).toArray 246 (0,0))
  simp only [World.size_alloc] at this
  exact this
 have h1:bV w1 (w.heap.size+1) (bA v false 1 (.slice none 0 0)) 246 b m p (eP m) (.slice none 0 0):=⟨hk1,uY _,by decide⟩
 have hB:∀ k,bC (w.heap.size+1) (.slice none 0 0) k->w.heap.size<=k:=λk hk=>by rw [rQ hk];omega
 have hW1:aM w1 (aT Mut noB (bC (w.heap.size+1) (.slice none 0 0))) I N wd:=by
  refine hw.keep (S:=noB) (Chg.of_below hb1) (λ_ h=>h.elim) (λ_ h=>h.elim) ?_ ?_ (λk hk=>.inl ⟨hw.muts k hk,λh=>h.elim⟩)
  ·rintro k (⟨h9,_⟩|h9)
   ·exact .inl h9
   ·exact .inr (hB k h9)
  ·rintro k (⟨h9,_⟩|h9)
   ·have:=hw.low k h9;omega
   ·rw [rQ h9];omega
 have hB1:∀ k,bC (w.heap.size+1) (.slice none 0 0) k->aT Mut noB (bC (w.heap.size+1) (.slice none 0 0)) k/\¬ aW I k:=λk hk=>⟨.inr hk,λhS=>by have:=hw.low k (hw.muts k hS);have:=hB k hk;omega⟩
 have DN:=Lib.hid (CW ⟨eP m,v,false,1,[]⟩ hW1 h1 hB1 ⟨fB.init m,by simp [eP],(λe=>by cases e),hv⟩ rfl hm)
 have fin:∀ w',(∃ tv',aU w1 w' (aT Mut noB (bC (w.heap.size+1) (.slice none 0 0))) I N wd (w.heap.size+1) (bA (dB m v).v (dB m v).up (dB m v).nx (.slice none 0 0)) 246 b m p (.slice none 0 0) (dB m v).y tv'/\Chg (bC (w.heap.size+1) (.slice none 0 0)) w1 w')->Below w.heap.size w w'/\∃ tv,bV w' (w.heap.size+1) (bA v (dB m v).up (dB m v).nx (.slice none 0 0)) 246 b m p (dB m v).y tv/\∀ k,bC (w.heap.size+1) tv k->w.heap.size<=k:=by
  rintro w' ⟨tv',h9,hc⟩
  have e1:(dB m v).v=v:=by unfold dB WrD.down;split<;>rfl
  rw [e1] at h9
  refine⟨hb1.trans (hc.below hB (by omega)),tv',h9.way,λk hk=>?_⟩
  rcases h9.sub k hk with h8|h8
  ·exact hB k h8
  ·omega
 have Fin:=Lib.hid fin;have Hw1:=Lib.hid hw1
 clear hw hv hm hw1 hb1 hs1 hk1 h1 hB hW1 hB1 fin
 go_enter Try.func156,Try.ntmps156
 go_upto_region 2 with fail
 have e9:(w.alloc (.cells #[.int .i64 (b:Int),.int .i64 (m:Int)] 209)).alloc (.cells #[.int .i64 (b:Int),.int .i64 (m:Int),.int .i64 (p:Int),.int .i64 1,.int .i64 (m:Int),.slice none 0 0,.int .i64 0,.int .u64 (v:Int),.bool false,.int .i64 0,.slice none 0 0] 246)=w1:=Hw1.out.symm
 have E9:=Lib.hid e9
 clear e9
 rw [E9.out]
 go_wp2_with (go_at_call 157;refine(DN.out).mono ?_;rintro e w3 ⟨rfl,h1⟩)
 go_ret
 exact⟨rfl,Fin.out w3 h1⟩
end
section
open Go.RowKit
structure gY (w:World) where
 u:World
 below:Below w.heap.size w u
instance DR (w:World):Nonempty (gY w):=⟨⟨w,Below.refl _ _⟩⟩
theorem fU {P:Program} {id:Nat} {Q:Exit->Act->World->Prop} {a:Act} {w:World} {l:List Oper} (hm:P.follows .mixedOrders=true) (hB:Region.lexB .any l.toArray=true)
  (h:wpQuiet P l.toArray (λw'=>∃ n:gY w,w'=n.u) (λa'=>∀ w',(∃ n:gY w,w'=n.u)->Q .normal a' w') l a):(Code.region id l.toArray true).wp P Q a w:=
 wp_region_quiet (C:=λw'=>∃ n:gY w,w'=n.u) hm hB ⟨⟨_,(Below.refl w.heap.size w).drew⟩,rfl⟩ (by simpa using h)
theorem dY {w:World} {p:Addr} {v:Value} (h:w.cell? p=some v):∀ n:gY w,n.u.cell? p=some v:=λn=>(n.below.cell (World.block_lt_of_cell? _ _ h)).trans h
theorem zU {P:Program} {f:FuncId} {args:Array Value} {w:World} {n:gY w} {v:Value}
  (h:Calls P f args n.u λe w'=>e=.returned v/\Below n.u.heap.size n.u w'):Calls P f args n.u λe w''=>e=.returned v/\∃ m:gY w,w''=m.u:=
 h.mono λ_ w' ⟨he,hb⟩=>⟨he,⟨w',Gr.trans n.below hb⟩,rfl⟩
theorem vS {P:Program} {f:FuncId} {args:Array Value} {w:World} {n:gY w} {v:Value}
  (h:Calls P f args n.u λe w'=>e=.returned v/\n.u=w'):Calls P f args n.u λe w''=>e=.returned v/\∃ m:gY w,w''=m.u:=
 h.mono λ_ w' ⟨he,hb⟩=>⟨he,n,hb.symm⟩
end
section
open Go.RowKit
variable {w w' w2:World} {Mut:Nat->Prop} {I:dG} {N N' N2:Nat} {wd wd' wd2:WD} {bm:Nat} {T:TypeId} {b m p:Nat} {y:dQ} {tv:Value}
theorem EZ (val:Nat) (ka:Option Addr) (kn kc:Nat) (h:bV w bm (gX val (.slice ka kn kc)) T b m p y tv) :
  Calls Try.prog 161 #[.pointer (some ⟨bm,0,none⟩)] w λe w'=>e=.returned (.tuple #[mD 0 val (.slice none 0 0),.slice ka kn kc])/\Below w.heap.size w w':=by
 have hlt:=aC h.blk
 have hb2:(w.alloc (.cells #[.int .i64 0,.int .u64 0,.slice none 0 0] 42)).heap[bm]?=_:=(Below.heap_alloc _ _ _ hlt).trans h.blk
 have c7:(w.alloc (.cells #[.int .i64 0,.int .u64 0,.slice none 0 0] 42)).cell? ⟨bm,7,none⟩=some (.int .u64 (val:Int)):=by rw [aA hb2];rfl
 have c8:(w.alloc (.cells #[.int .i64 0,.int .u64 0,.slice none 0 0] 42)).cell? ⟨bm,8,none⟩=some (.slice ka kn kc):=by rw [aA hb2];rfl
 have d7:w.cell? ⟨bm,7,none⟩=some (.int .u64 (val:Int)):=by rw [aA h.blk];rfl
 have d8:w.cell? ⟨bm,8,none⟩=some (.slice ka kn kc):=by rw [aA h.blk];rfl
 have hne:w.heap.size≠bm:=by omega
 have hne2:bm≠w.heap.size:=by omega
 clear h hb2
 unfold mD
 go_enter Try.func161,Try.ntmps161
 go_wp2_with fail
 go_region_held3 (λu=>u.cell? ⟨bm,7,none⟩=some (.int .u64 (val:Int))/\u.cell? ⟨bm,8,none⟩=some (.slice ka kn kc)) (first|exact⟨c7,c8⟩|exact⟨(World.cell?_alloc_lt _ _ _ hlt).trans d7,(World.cell?_alloc_lt _ _ _ hlt).trans d8⟩) (fail)
 all_goals
  go_wp2
  exact bodyPost_ret (v:=.tuple #[.agg #[.int .i64 0,.int .u64 (val:Int),.slice none 0 0],.slice ka kn kc]) (by simp [results,Try.results161 ,go_sem]) rfl ⟨rfl,by exact(Gr.new _ _).drew⟩
end
section
open Go.RowKit
theorem EO (a : Addr) : lK 206 (.pointer (some a)) "Step" 163 (.pointer (some a)) := ⟨fun _ _ => by kernel_rfl, fun _ _ => by kernel_rfl, fun _ _ => by kernel_rfl⟩
theorem yK (a : Addr) : lK 206 (.pointer (some a)) "Answer" 161 (.pointer (some a)) := ⟨fun _ _ => by kernel_rfl, fun _ _ => by kernel_rfl, fun _ _ => by kernel_rfl⟩
theorem EL (a : Addr) : lK 243 (.pointer (some a)) "Step" 196 (.pointer (some a)) := ⟨fun _ _ => by kernel_rfl, fun _ _ => by kernel_rfl, fun _ _ => by kernel_rfl⟩
theorem gI (b p:Nat) (wd:WD) (x:RdD):(rdStep b p wd x).1=dJ wd (b+x.y.k - 1):=by unfold rdStep;split<;>rfl
theorem kE (b p:Nat) (wd:WD) (x:WrD):(aO b p wd x).1=(dE b wd x).1:=by unfold aO;split<;>rfl
end
section
open Go.RowKit
theorem lJ (v:Nat):∀(n:Nat) (y:dQ),∃ l,(downN v n y).turns=y.turns++l/\(∀ t,t∈l->t.2=true)/\l.length+(downN v n y).left=y.left+(l.length - y.left)
 | 0,y=>⟨[],by simp [downN],(λt h=>by cases h),by simp [downN]⟩
 | n+1,y=>by
  unfold downN
  split
  ·obtain⟨l,h1,h2,h3⟩:=lJ v n (y.turn true)
   refine⟨(y.k,true)::l,?_,λt ht=>?_,?_⟩
   ·rw [h1];show(y.turns++[(y.k,true)])++l=_;simp
   ·rcases List.mem_cons.1 ht with rfl|ht
    ·rfl
    ·exact h2 t ht
   ·have e:(y.turn true).left=y.left - 1:=rfl
    rw [e] at h3
    rw [List.length_cons]
    omega
  ·exact⟨[],by simp,(λt h=>by cases h),by simp⟩
theorem wW (ts:List (Nat×Bool)) (hl:0<ts.length) (h:(ts.getD (ts.length - 1) (0,false)).2=true):bN ts ts.length=ts.length:=by
 obtain⟨n,hn⟩:∃ n,ts.length=n+1:=⟨ts.length - 1,by omega⟩
 rw [hn] at h ⊢
 unfold bN
 rw [Nat.add_sub_cancel] at h
 rw [if_pos h]
theorem zV {m v:Nat} (hm:0<m):if (dB m v).up=true then 1<=(dB m v).nx else 0<(dB m v).y.left:=by
 obtain⟨l,h1,h2,h3⟩:=lJ v m (eP m)
 have e1:dB m v=if (downN v m (eP m)).left=0 then (⟨downN v m (eP m),v,false,1,[]⟩:WrD).fin else ⟨downN v m (eP m),v,false,1,[]⟩:=rfl
 rw [e1]
 have e2:(eP m).left=m:=rfl
 have e3:(eP m).turns=[]:=rfl
 rw [e3,List.nil_append] at h1
 rw [e2] at h3
 have hw:=(fB.downN v m (fB.init m) rfl).len
 by_cases h0:(downN v m (eP m)).left=0
 ·rw [if_pos h0]
  have hl:(downN v m (eP m)).turns.length=m:=by omega
  show if true=true then 1<=bN (downN v m (eP m)).turns (downN v m (eP m)).turns.length else _
  rw [if_pos rfl,wW _ (by omega) ?_]
  ·omega
  ·have hlt:(downN v m (eP m)).turns.length - 1<(downN v m (eP m)).turns.length:=by omega
   rw [List.getD_eq_getElem?_getD,List.getElem?_eq_getElem hlt]
   have h9:∀ t,t∈(downN v m (eP m)).turns->t.2=true:=λt ht=>h2 t (by rw [h1] at ht;exact ht)
   exact h9 _ (List.getElem_mem hlt)
 ·rw [if_neg h0]
  show if false=true then _ else 0<(downN v m (eP m)).left
  rw [if_neg Bool.false_ne_true];omega
def wE (m now:Nat):MxS->Prop
 | .rd x=>0<x.y.left/\nZ m x/\x.y.last<=now
 | .wr x=>(if x.up=true then 1<=x.nx else 0<x.y.left)/\fZ m x/\x.y.last<=now
theorem wE.mono {m n1 n2:Nat} (h:n1<=n2) {s:MxS} (hs:wE m n1 s):wE m n2 s:=by
 match s,hs with
 | .rd x,⟨a,b,c⟩=>exact⟨a,b,Nat.le_trans c h⟩
 | .wr x,⟨a,b,c⟩=>exact⟨a,b,Nat.le_trans c h⟩
structure TM (m:Nat) (st:aQ (maxS m)):Prop where
 tr:∀ a x,x∈st.wd.traces a->0<=x/\x<=(st.wd.now:Int)
 inv:∀ p,st.wd.inv.getD p 0<=st.wd.now
 hand:∀ p s k,st.hands.getD p (none,0)=(some s,k)->wE m st.wd.now s
theorem mR (v:Nat):∀(n:Nat) (y:dQ),(downN v n y).last=y.last
 | 0,y=>rfl
 | n+1,y=>by
  unfold downN
  split
  ·exact mR v n (y.turn true)
  ·rfl
theorem WrD.down_last (x:WrD):x.down.y.last=x.y.last:=by
 unfold WrD.down
 split
 ·exact mR _ _ _
 ·exact mR _ _ _
theorem WrD.down_left (x:WrD) (h:x.up=false):x.down.up=false->0<x.down.y.left:=by
 unfold WrD.down
 split
 ·exact λe=>by cases e
 ·rename_i h1;exact λ_=>Nat.pos_of_ne_zero h1
theorem From.invs {S:Sys} {calls:List aF} {st:aQ S} {q i k:Nat} {s:S.σ} {bJ:List EvD} {dK:WD} (h:From calls st q i k s bJ dK) (hi:∀ p,st.wd.inv.getD p 0<=st.wd.now):∀ p,dK.inv.getD p 0<=dK.now:=by
 cases h with
 | old=>exact λp=>Nat.le_succ_of_le (hi p)
 | new s hh hs=>
  intro p
  show(st.wd.inv.set q (st.wd.now+1)).getD p 0<=st.wd.now+1
  by_cases hpq:q=p
  ·subst hpq
   by_cases hl:q<st.wd.inv.length
   ·rw [aL hl];exact Nat.le_refl _
   ·rw [List.set_eq_of_length_le (by omega)];exact Nat.le_succ_of_le (hi q)
  ·rw [aR hpq];exact Nat.le_succ_of_le (hi p)
theorem GZ {b k:Nat} {wd:WD} (h:∀ a x,x∈wd.traces a->0<=x/\x<=(wd.now:Int)):∀ a x,x∈(qG b k wd).traces a->0<=x/\x<=(wd.now:Int):=by
 intro a x hx
 have hx':x∈(if jW wd.traces b k=0 then tV wd.traces ((b+k - 1:Nat):Int) [(wd.now:Int)] else wd.traces) a:=hx
 split at hx'
 ·unfold tV at hx'
  split at hx'
  ·rw [List.mem_singleton.1 hx'];omega
  ·exact h a x hx'
 ·exact h a x hx'
theorem KT {b:Nat} {wd:WD} {x:WrD} (h:∀ a z,z∈wd.traces a->0<=z/\z<=(wd.now:Int)):(∀ a z,z∈(dE b wd x).1.traces a->0<=z/\z<=(wd.now:Int))/\(dE b wd x).1.inv=wd.inv/\(dE b wd x).1.now=wd.now/\(dE b wd x).1.marks=wd.marks:=by
 unfold dE
 split
 ·exact⟨GZ h,rfl,rfl,rfl⟩
 ·split<;>exact⟨h,rfl,rfl,rfl⟩
theorem FB {b:Nat} {wd:WD} {x:WrD} (hl:x.y.last<=wd.now):(dE b wd x).2.y.last<=wd.now:=by
 unfold dE
 split
 ·exact hl
 ·split
  ·exact Nat.le_refl _
  ·rw [WrD.down_last];exact Nat.le_refl _
theorem DD {b:Nat} {wd:WD} {x:WrD} (hd:(dE b wd x).2.done=false) (hl:x.up=false->0<x.y.left):if (dE b wd x).2.up=true then 1<=(dE b wd x).2.nx else 0<(dE b wd x).2.y.left:=by
 cases hu:(dE b wd x).2.up with
 | true=>
  rw [if_pos rfl]
  unfold WrD.done at hd
  rw [hu] at hd
  simp at hd
  omega
 | false=>
  rw [if_neg Bool.false_ne_true]
  unfold dE at hu ⊢
  split at hu
  ·rename_i h1;exact absurd (hu.symm.trans h1) Bool.false_ne_true
  ·rename_i h1
   rw [if_neg h1]
   split at hu
   ·cases hu
   ·rename_i h2
    rw [if_neg h2]
    exact WrD.down_left _ (by simpa using h1) hu
end
section
open Go.RowKit
def iB (l:List (Nat×Bool)):Nat:=(l.filter (·.2)).length
theorem iK (a b:List (Nat×Bool)):iB (a++b)=iB a+iB b:=by simp [iB]
theorem pR (ts:List (Nat×Bool)):∀ n,iB (ts.take (bN ts n))=iB (ts.take n)
 | 0=>rfl
 | n+1=>by
  unfold bN
  split
  ·rfl
  ·rename_i h
   rw [pR ts n]
   cases hx:ts[n]? with
   | none=>rw [List.take_add_one,hx];simp
   | some t=>
    have e:ts.getD n (0,false)=t:=by rw [List.getD_eq_getElem?_getD,hx];rfl
    rw [e] at h
    rw [List.take_add_one,hx,iK]
    simp [iB,h]
theorem zG {ts:List (Nat×Bool)} {n:Nat} (h1:1<=n) (h2:n<=ts.length) (h:(ts.getD (n - 1) (0,false)).2=true):iB (ts.take n)=iB (ts.take (n - 1))+1:=by
 obtain⟨k,rfl⟩:∃ k,n=k+1:=⟨n - 1,by omega⟩
 rw [Nat.add_sub_cancel] at h ⊢
 have hx:ts[k]?=some ts[k]:=List.getElem?_eq_getElem (by omega)
 have e:ts.getD k (0,false)=ts[k]:=by rw [List.getD_eq_getElem?_getD,hx];rfl
 rw [e] at h
 rw [List.take_add_one,hx,iK]
 simp [iB,h]
def gL:MxS->Nat
 | .rd x=>x.y.left
 | .wr x=>if x.up=true then iB (x.y.turns.take x.nx) else x.y.left+iB x.y.turns
theorem xD {l:List (Nat×Bool)} (h:∀ t,t∈l->t.2=true):iB l=l.length:=by
 unfold iB
 rw [List.filter_eq_self.2 h]
theorem BH (x:WrD):gL (.wr x.fin)<=iB x.y.turns:=by
 have e:gL (.wr x.fin)=iB (x.y.turns.take (bN x.y.turns x.y.turns.length)):=rfl
 rw [e,pR,List.take_length]
 exact Nat.le_refl _
theorem rP (v:Nat):∀(n:Nat) (y:dQ),y.left=n->(downN v n y).left<=n/\(downN v n y).turns.length+(downN v n y).left=y.turns.length+y.left
 | 0,y,h=>by subst_vars;exact⟨by show y.left<=0;omega,rfl⟩
 | n+1,y,h=>by
  unfold downN
  split
  ·have e1:(y.turn true).left=y.left - 1:=rfl
   have e2:(y.turn true).turns.length=y.turns.length+1:=by simp [dQ.turn]
   obtain⟨a,b⟩:=rP v n (y.turn true) (by omega)
   exact⟨by omega,by omega⟩
  ·exact⟨by omega,rfl⟩
theorem yT (x:WrD) (hu:x.up=false):gL (.wr x.down)<=x.y.left+iB x.y.turns:=by
 obtain⟨l,h1,h2,h3⟩:=lJ x.v x.y.left x.y
 have hl:l.length+(downN x.v x.y.left x.y).left=x.y.left:=by
  have h4:=(rP x.v x.y.left x.y rfl).2
  rw [h1,List.length_append] at h4
  omega
 unfold WrD.down
 split
 ·refine Nat.le_trans (BH _) ?_
  show iB (downN x.v x.y.left x.y).turns<=_
  rw [h1,iK,xD h2];omega
 ·show(if x.up=true then _ else (downN x.v x.y.left x.y).left+iB (downN x.v x.y.left x.y).turns)<=_
  rw [hu,if_neg Bool.false_ne_true,h1,iK,xD h2];omega
structure VR (m:Nat) (st:aQ (maxS m)):Prop where
 wl:st.wd.mem.ws.length=2^m - 1
 word:∀ x,x∈st.wd.mem.ws->x<=1
 hand:∀ p s k,st.hands.getD p (none,0)=(some s,k)->(aD st.evs k).steps+gL s<=m
 done:∀ j,j<st.evs.length->(aD st.evs j).resp≠0->(aD st.evs j).steps<=m
theorem FE {m v:Nat}:gL (.wr (dB m v))<=m:=by
 have h:=yT (⟨eP m,v,false,1,[]⟩:WrD) rfl
 have e:(⟨eP m,v,false,1,[]⟩:WrD).y.left+iB (⟨eP m,v,false,1,[]⟩:WrD).y.turns=m:=rfl
 rw [e] at h;exact h
theorem OZ {b p:Nat} {wd:WD} {x:RdD} (hl:0<x.y.left):gL (.rd (rdStep b p wd x).2.1)+1<=gL (.rd x):=by
 unfold rdStep
 split
 ·show x.y.left - 1+1<=x.y.left;omega
 ·show x.y.left - 1+1<=x.y.left;omega
theorem JG {b:Nat} {wd:WD} {x:WrD} (hl:if x.up=true then 1<=x.nx else 0<x.y.left) (hr:x.up=true->(x.y.turns.getD (x.nx - 1) (0,false)).2=true) (hn:x.up=true->x.nx<=x.y.turns.length):gL (.wr (dE b wd x).2)+1<=gL (.wr x):=by
 unfold dE
 split
 ·rename_i hu
  rw [if_pos hu] at hl
  show(if x.up=true then iB (x.y.turns.take (bN x.y.turns (x.nx - 1))) else _)+1<=(if x.up=true then _ else _)
  rw [if_pos hu,if_pos hu,pR,zG hl (hn hu) (hr hu)]
  exact Nat.le_refl _
 ·rename_i hu
  have hu':x.up=false:=by simpa using hu
  rw [if_neg hu] at hl
  have e0:gL (.wr x)=x.y.left+iB x.y.turns:=if_neg hu
  rw [e0]
  split
  ·have h1:=BH ({ x with y:=x.y.look wd }:WrD)
   have e:iB ({ x with y:=x.y.look wd }:WrD).y.turns=iB x.y.turns:=rfl
   show gL (.wr ({ x with y:=x.y.look wd }:WrD).fin)+1<=_
   omega
  ·have h1:=yT ({ x with y:=(x.y.look wd).turn false }:WrD) hu'
   have e:({ x with y:=(x.y.look wd).turn false }:WrD).y.left+iB ({ x with y:=(x.y.look wd).turn false }:WrD).y.turns=x.y.left - 1+iB x.y.turns:=by
    show x.y.left - 1+iB (x.y.turns++[(x.y.k,false)])=_
    rw [iK];simp [iB]
   show gL (.wr ({ x with y:=(x.y.look wd).turn false }:WrD).down)+1<=_
   omega
theorem AA (b p:Nat) (wd:WD) (x:WrD):gL (.wr (aO b p wd x).2.1)=gL (.wr (dE b wd x).2):=by
 unfold aO
 split<;>rfl
def SI:MxS->Prop
 | .rd _=>True
 | .wr x=>x.up=true->1<=x.nx->(x.y.turns.getD (x.nx - 1) (0,false)).2=true
structure WF (m:Nat) (st:aQ (maxS m)):Prop where
 hand:∀ p s k,st.hands.getD p (none,0)=(some s,k)->SI s
end
end Go.Proofs.Ytifhldnmcdbpfaa
