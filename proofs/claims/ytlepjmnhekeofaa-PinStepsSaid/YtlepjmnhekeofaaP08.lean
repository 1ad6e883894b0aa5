/- Layer 6: where a play's world lies in memory; the methods of loom.World. -/
import Derived.Test.YtlepjmnhekeofaaP07
import Derived.Laws.EntriesVeiled
import Derived.Test.YtlepjmnhekeofaaP05
import Derived.Deep.RegionHeld3
set_option maxRecDepth 100000
set_option linter.unusedVariables false
set_option linter.unusedSimpArgs false
set_option linter.unnecessarySimpa false
namespace Go.Proofs.Ytlepjmnhekeofaa
section
open Go.RowKit
def Lst (w:World) (Mut:Nat->Prop) (v:Value) (l:List Int):Prop:=
 ∃ a c,v=.slice a l.length c/\(l=[]->v=.slice none 0 0)/\SlAt w a l.length 1 (intG l)/\(∀ b off,a=some ⟨b,off,none⟩->¬ Mut b)
def LstU (w:World) (Mut:Nat->Prop) (v:Value) (l:List Nat):Prop:=
 ∃ a c,v=.slice a l.length c/\SlAt w a l.length 1 (u64G l)/\(0<l.length->∀ b off,a=some ⟨b,off,none⟩->¬ Mut b)
def MutUp (Mut:Nat->Prop) (w:World) (Mut':Nat->Prop):Prop:=∀ b,Mut' b->Mut b∨w.heap.size<=b
theorem MutUp.refl (Mut:Nat->Prop) (w:World):MutUp Mut w Mut:=λ_ h=>.inl h
theorem MutUp.trans {Mut Mut' Mut'':Nat->Prop} {w w':World} (h:MutUp Mut w Mut') (h':MutUp Mut' w' Mut'') (hs:w.heap.size<=w'.heap.size):MutUp Mut w Mut'':=
 λb x=>by rcases h' b x with y|y;exact h b y;exact .inr (Nat.le_trans hs y)
theorem SlAt.lt {w:World} {a:Option Addr} {n k:Nat} {g:Nat->Nat->Value} (h:SlAt w a n k g) (hn:0<n):∃ b off,a=some ⟨b,off,none⟩/\b<w.heap.size:=by
 obtain⟨b,off,h1,h2,_⟩:=h.2 0 hn
 exact⟨b,off,h1,h2⟩
theorem Lst.nil (w:World) (Mut:Nat->Prop):Lst w Mut (.slice none 0 0) []:=⟨none,0,rfl,λ_=>rfl,SlAt.nil _ _ _ _,λ_ _ h=>by cases h⟩
theorem Lst.keep {w w':World} {S Mut Mut':Nat->Prop} {v:Value} {l:List Int} (h:Lst w Mut v l) (hc:Chg S w w') (hS:∀ b,S b->Mut b) (hm:MutUp Mut w Mut'):Lst w' Mut' v l:=by
 obtain⟨a,c,h1,h2,h3,h4⟩:=h
 rcases Nat.eq_zero_or_pos l.length with h0|h0
 ·have:=h2 (List.eq_nil_of_length_eq_zero h0)
  obtain rfl:=List.eq_nil_of_length_eq_zero h0
  rw [this];exact Lst.nil _ _
 ·obtain⟨b0,off0,e0,hb0⟩:=h3.lt h0
  refine⟨a,c,h1,h2,h3.chg hc (λb off e hs=>h4 b off e (hS b hs)),λb off e hs=>?_⟩
  rw [e0] at e;cases e
  rcases hm b0 hs with h|h
  ·exact h4 b0 off0 e0 h
  ·omega
theorem LstU.nil (w:World) (Mut:Nat->Prop):LstU w Mut (.slice none 0 0) []:=⟨none,0,rfl,SlAt.nil _ _ _ _,λ_ _ _ h=>by cases h⟩
theorem LstU.keep {w w':World} {S Mut Mut':Nat->Prop} {v:Value} {l:List Nat} (h:LstU w Mut v l) (hc:Chg S w w') (hS:∀ b,S b->Mut b) (hm:MutUp Mut w Mut'):LstU w' Mut' v l:=by
 obtain⟨a,c,h1,h3,h4⟩:=h
 rcases Nat.eq_zero_or_pos l.length with h0|h0
 ·exact⟨a,c,h1,by rw [h0];exact SlAt.nil _ _ _ _,λh=>by omega⟩
 ·obtain⟨b0,off0,e0,hb0⟩:=h3.lt h0
  refine⟨a,c,h1,h3.chg hc (λb off e hs=>h4 h0 b off e (hS b hs)),λ_ b off e hs=>?_⟩
  rw [e0] at e;cases e
  rcases hm b0 hs with h|h
  ·exact h4 h0 b0 off0 e0 h
  ·omega
def worldL (bm now:Nat) (inv:List Nat) (mks:List Value) (bt:Nat):List Value:=.pointer (some ⟨bm,0,none⟩)::.int .i64 (now:Int)::(inv.map natV++(mks++[.map (some bt)]))
def worldCells (bm now:Nat) (inv:List Nat) (mks:List Value) (bt:Nat):Array Value:=(worldL bm now inv mks bt).toArray
structure WIds where
 bW:Nat
 bm:Nat
 bt:Nat
 bw:Option Nat
def WSet (I:WIds) (b:Nat):Prop:=b=I.bW∨b=I.bm∨b=I.bt∨some b=I.bw
structure WorldAt (w:World) (Mut:Nat->Prop) (I:WIds) (N:Nat) (wd:WD):Prop where
 blk:∃ mks:List Value,w.heap[I.bW]?=some (.cells (worldCells I.bm wd.now wd.inv mks I.bt) 113 (0,0))/\mks.length=16/\∀ p,p<16->Lst w Mut (mks.getD p undef) (wd.marks.getD p [])
 inv16:wd.inv.length=16
 mk16:wd.marks.length=16
 mem:MemAt w I.bm I.bw wd.mem
 tr:∃ n M,MapAt w I.bt n M/\n<=N/\∀ key,Lst w Mut (M key) (wd.traces key)
 sep:I.bW≠I.bm/\I.bW≠I.bt/\I.bm≠I.bt/\I.bw≠some I.bW/\I.bw≠some I.bt
 muts:∀ b,WSet I b->Mut b
 low:∀ b,Mut b->b<w.heap.size
 nowlt:wd.now<1000000000
 nlt:N<1000000000
theorem WorldAt.wlt {w:World} {Mut:Nat->Prop} {I:WIds} {N:Nat} {wd:WD} (h:WorldAt w Mut I N wd):I.bW<w.heap.size:=by obtain⟨_,h1,_⟩:=h.blk;exact blk_lt h1
theorem WorldAt.keep {w w':World} {S Mut Mut':Nat->Prop} {I:WIds} {N:Nat} {wd:WD} (h:WorldAt w Mut I N wd) (hc:Chg S w w') (hS:∀ b,S b->Mut b) (hW:∀ b,S b->¬ WSet I b) (hm:MutUp Mut w Mut') (hl:∀ b,Mut' b->b<w'.heap.size) (hWm:∀ b,WSet I b->Mut' b):WorldAt w' Mut' I N wd:=by
 obtain⟨⟨mks,h1,h2,h3⟩,h4,h5,h6,⟨n,M,h7,h8,h9⟩,h10,h11,h12,h13,h14⟩:=h
 have nS:∀ b,WSet I b->¬ S b:=λb hb hs=>hW b hs hb
 exact⟨⟨mks,(hc.block _ (blk_lt h1) (nS _ (.inl rfl))).trans h1,h2,λp hp=>(h3 p hp).keep hc hS hm⟩,h4,h5,h6.chg hc (nS _ (.inr (.inl rfl))) (λq e=>nS _ (.inr (.inr (.inr e.symm)))),⟨n,M,h7.block (hc.block _ h7.lt (nS _ (.inr (.inr (.inl rfl))))),h8,λk=>(h9 k).keep hc hS hm⟩,h10,hWm,hl,h13,h14⟩
theorem world_now {bm now:Nat} {inv:List Nat} {mks:List Value} {bt:Nat}:(worldCells bm now inv mks bt)[1]?=some (.int .i64 (now:Int)):=rfl
theorem world_mem {bm now:Nat} {inv:List Nat} {mks:List Value} {bt:Nat}:(worldCells bm now inv mks bt)[0]?=some (.pointer (some ⟨bm,0,none⟩)):=rfl
theorem world_inv {bm now:Nat} {inv:List Nat} {mks:List Value} {bt p:Nat} (hi:inv.length=16) (hp:p<16):(worldCells bm now inv mks bt)[2+p]?=some (.int .i64 ((inv.getD p 0:Nat):Int)):=by
 have hp':p<inv.length:=by omega
 simp [worldCells,worldL,Nat.add_comm 2 p,natV,List.getD_eq_getElem?_getD,List.getElem?_append,hp']
theorem world_mark {bm now:Nat} {inv:List Nat} {mks:List Value} {bt p:Nat} (hi:inv.length=16) (hm:mks.length=16) (hp:p<16):(worldCells bm now inv mks bt)[18+p]?=some (mks.getD p undef):=by
 have hp':p<mks.length:=by omega
 simp [worldCells,worldL,show 18+p=(p+16)+1+1 by omega,List.getD_eq_getElem?_getD,List.getElem?_append,hi,hp']
theorem world_set_now {bm now now':Nat} {inv:List Nat} {mks:List Value} {bt:Nat}:(worldCells bm now inv mks bt).setIfInBounds 1 (.int .i64 (now':Int))=worldCells bm now' inv mks bt:=by
 simp [worldCells,worldL]
theorem world_set_inv {bm now v:Nat} {inv:List Nat} {mks:List Value} {bt p:Nat} (hi:inv.length=16) (hp:p<16):(worldCells bm now inv mks bt).setIfInBounds (2+p) (.int .i64 (v:Int))=worldCells bm now (inv.set p v) mks bt:=by
 have hp':p<inv.length:=by omega
 simp [worldCells,worldL,Nat.add_comm 2 p,natV,hp',List.map_set]
theorem world_set_mark {bm now:Nat} {v:Value} {inv:List Nat} {mks:List Value} {bt p:Nat} (hi:inv.length=16) (hm:mks.length=16) (hp:p<16):(worldCells bm now inv mks bt).setIfInBounds (18+p) v=worldCells bm now inv (mks.set p v) bt:=by
 have hp':p<mks.length:=by omega
 simp [worldCells,worldL,show 18+p=(p+16)+1+1 by omega,hi,hp']
theorem tick_any (w:World) (Mut:Nat->Prop) (I:WIds) (N:Nat) (wd:WD) (h:WorldAt w Mut I N wd) :
  Calls Try.prog 80 #[.pointer (some ⟨I.bW,0,none⟩)] w λe w'=>e=.returned (.slice (some ⟨w.heap.size,0,none⟩) 1 1)/\Lst w' Mut (.slice (some ⟨w.heap.size,0,none⟩) 1 1) (tickKey wd)/\Below w.heap.size w w':=by
 obtain⟨mks,hb,hm,_⟩:=h.blk
 obtain⟨x,hx⟩:∃ x:Nat,x=wd.now:=⟨_,rfl⟩
 have c0:w.cell? ⟨I.bW,1,none⟩=some (.int .i64 (x:Int)):=by rw [cell_blk hb,world_now,hx]
 have hl:=h.nowlt
 rw [<-hx] at hl
 have hk:tickKey wd=[2*(x:Int)]:=by unfold tickKey;rw [hx]
 have hlst:Lst (w.alloc (.cells #[.int .i64 (2*(x:Int))] 3)) Mut (.slice (some ⟨w.heap.size,0,none⟩) 1 1) (tickKey wd):=by
  rw [hk]
  refine⟨_,_,rfl,(λh=>by cases h),⟨by unfold maxLen;simp,λj hj=>⟨_,_,rfl,by simp,λf hf=>?_⟩⟩,λb off e hs=>?_⟩
  ·obtain rfl:f=0:=by omega
   obtain rfl:j=0:=by simpa using hj
   rw [cell_new];rfl
  ·cases e;have:=h.low _ hs;omega
 have Hl:=Lib.hid hlst
 clear h hb hx hk hlst
 go_enter Try.func80,Try.ntmps80
 go_wp2
 go_ret
 exact⟨rfl,Hl.out,Gr.new _ _⟩
def updT (t:Int->List Int) (a:Int) (l:List Int):Int->List Int:=λx=>if x=a then l else t x
end
section

/- Layer 6: machines of one step; operations that are refused; calls through interfaces. -/
open Go.RowKit
structure Meth (T:TypeId) (x:Value) (name:String) (K:FuncId) (recv:Value):Prop where
 ahead:∀(F:Nat) (w:World),(nilAhead (F+1) T x name).run Try.prog w=.ok (some false) w
 meth:∀(F:Nat) (w:World),(method (F+1) T x name).run Try.prog w=.ok (K,recv) w
 enter:∀(args:Array Value) (w:World),(callFunc K args).run Try.prog w=.ok (.enter K args) w
theorem once_step_m (a : Addr) : Meth 164 (.pointer (some a)) "Step" 139 (.pointer (some a)) := ⟨fun _ _ => by kernel_rfl, fun _ _ => by kernel_rfl, fun _ _ => by kernel_rfl⟩
theorem once_answer_m (a : Addr) : Meth 164 (.pointer (some a)) "Answer" 138 (.pointer (some a)) := ⟨fun _ _ => by kernel_rfl, fun _ _ => by kernel_rfl, fun _ _ => by kernel_rfl⟩
def ansV (er:Int) (vl:Nat) (lv:Value):Value:=.agg #[.int .i64 er,.int .u64 (vl:Int),lv]
def onceCells (K:FuncId) (cap:Array Value) (er:Int) (vl:Nat):Array Value:=#[.func (.func K) #[] cap,.int .i64 er,.int .u64 (vl:Int),.slice none 0 0]
def OncePost (b K:Nat) (cap:Array Value) (Q:Int->Nat->World->Prop) (e:Ending) (w':World):Prop:=
 e=.returned (.bool true)/\∃ er vl w1,Q er vl w1/\w'.heap[b]?=some (.cells (onceCells K cap er vl) 166 (0,0))/\Chg (λk=>k=b) w1 w'
def OnceIn (b:Nat) (w:World) (Q:Int->Nat->World->Prop) (e:Ending) (w1:World):Prop:=∃(er:Int) (vl:Nat),e=.returned (ansV er vl (.slice none 0 0))/\w1.heap[b]?=w.heap[b]?/\Q er vl w1
theorem once_step (b K:Nat) (cap:Array Value) (pw:Value) (w:World) (Q:Int->Nat->World->Prop) {er0:Int} {vl0:Nat} (h:w.heap[b]?=some (.cells (onceCells K cap er0 vl0) 166 (0,0)))
  (hK:∀(args:Array Value) (u:World),(callFunc K args).run Try.prog u=.ok (.enter K args) u) (hC:Calls Try.prog K (#[pw]++cap) w (OnceIn b w Q)) :
  Calls Try.prog 139 #[.pointer (some ⟨b,0,none⟩),pw] w (OncePost b K cap Q):=by
 have c0:w.cell? ⟨b,0,none⟩=some (.func (.func K) #[] cap):=by rw [cell_blk h];rfl
 have HC:=Lib.hid hC;have Hh:=Lib.hid h
 clear hC h
 go_enter Try.func139,Try.ntmps139
 go_wp2_with fail
 refine HC.out.mono ?_
 rintro e w1 ⟨er,vl,rfl,hb,hq⟩
 have hb1:=hb.trans Hh.out
 have c1:w1.cell? ⟨b,1,none⟩=some (.int .i64 er0):=by rw [cell_blk hb1];rfl
 have c2:w1.cell? ⟨b,2,none⟩=some (.int .u64 (vl0:Int)):=by rw [cell_blk hb1];rfl
 have c3:w1.cell? ⟨b,3,none⟩=some (.slice none 0 0):=by rw [cell_blk hb1];rfl
 have f1:w1.frozen? ⟨b,1,none⟩=false:=frozen_blk hb1 1
 have f2:w1.frozen? ⟨b,2,none⟩=false:=frozen_blk hb1 2
 have f3:w1.frozen? ⟨b,3,none⟩=false:=frozen_blk hb1 3
 have Hq:=Lib.hid hq;have Hb1:=Lib.hid hb1
 unfold ansV
 clear hb hq hb1
 go_wp2
 go_ret
 refine⟨rfl,er,vl,w1,Hq.out,?_,?_⟩
 ·rw [blk_set (blk_set (blk_set Hb1.out _ _) _ _)]
  rfl
 ·exact(((Chg.refl (λk=>k=b) w1).setCell (p:=⟨b,1,none⟩) (.inl rfl) _).setCell (p:=⟨b,2,none⟩) (.inl rfl) _).setCell (p:=⟨b,3,none⟩) (.inl rfl) _
theorem once_answer (b K:Nat) (cap:Array Value) (er:Int) (vl:Nat) (w:World) (h:w.heap[b]?=some (.cells (onceCells K cap er vl) 166 (0,0))) :
  Calls Try.prog 138 #[.pointer (some ⟨b,0,none⟩)] w λe w'=>e=.returned (.tuple #[ansV er vl (.slice none 0 0),.slice none 0 0])/\Below w.heap.size w w':=by
 have hlt:=blk_lt h
 have hb2:(w.alloc (.cells #[.int .i64 0,.int .u64 0,.slice none 0 0] 42)).heap[b]?=some (.cells (onceCells K cap er vl) 166 (0,0)):=by rw [Below.heap_alloc _ _ _ hlt];exact h
 have c1:(w.alloc (.cells #[.int .i64 0,.int .u64 0,.slice none 0 0] 42)).cell? ⟨b,1,none⟩=some (.int .i64 er):=by rw [cell_blk hb2];rfl
 have c2:(w.alloc (.cells #[.int .i64 0,.int .u64 0,.slice none 0 0] 42)).cell? ⟨b,2,none⟩=some (.int .u64 (vl:Int)):=by rw [cell_blk hb2];rfl
 have c3:(w.alloc (.cells #[.int .i64 0,.int .u64 0,.slice none 0 0] 42)).cell? ⟨b,3,none⟩=some (.slice none 0 0):=by rw [cell_blk hb2];rfl
 clear h hb2
 unfold ansV
 go_enter Try.func138,Try.ntmps138
 go_wp2
 exact bodyPost_ret (v:=.tuple #[.agg #[.int .i64 er,.int .u64 (vl:Int),.slice none 0 0],.slice none 0 0]) (by simp [results,Try.results138 ,go_sem]) rfl ⟨rfl,Gr.new _ _⟩
theorem enter_refuse (args:Array Value) (u:World):(callFunc 89 args).run Try.prog u=.ok (.enter 89 args) u:=by kernel_rfl
def RefuseAt (w:World) (b be:Nat) (e:Int):Prop:=
 w.heap[b]?=some (.cells (onceCells 89 #[.pointer (some ⟨be,0,none⟩)] 0 0) 166 (0,0))/\w.cell? ⟨be,0,none⟩=some (.int .i64 e)/\be≠b
theorem refuse_any (er:Int) (w:World) :
  Calls Try.prog 85 #[.int .i64 er] w λe w'=>e=.returned (.iface 164 (.pointer (some ⟨w.heap.size+1,0,none⟩)))/\RefuseAt w' (w.heap.size+1) w.heap.size er/\Below w.heap.size w w':=by
 go_enter Try.func85,Try.ntmps85
 go_wp2
 go_ret
 refine⟨rfl,⟨?_,?_,by omega⟩,Gr.alloc (Gr.new _ _) _⟩
 ·have:=heap_alloc_new (w.alloc (.cells #[.int .i64 er] 33)) (.cells (onceCells 89 #[.pointer (some ⟨w.heap.size,0,none⟩)] 0 0) 166 (0,0))
  rw [World.size_alloc] at this
  exact this
 ·rw [World.cell?_alloc_lt _ _ _ (by simp),cell_new];rfl
theorem refuse_in (b be:Nat) (er:Int) (pw:Value) (w:World) (h:RefuseAt w b be er) :
  Calls Try.prog 89 (#[pw]++#[.pointer (some ⟨be,0,none⟩)]) w (OnceIn b w λe v w1=>e=er/\v=0/\Below w.heap.size w w1):=by
 obtain⟨h1,h2,h3⟩:=h
 have hlt:=blk_lt h1
 have hlt2:=World.block_lt_of_cell? _ _ h2
 show Calls Try.prog 89 #[pw,.pointer (some ⟨be,0,none⟩)] w _
 have c2:(w.alloc (.cells #[.int .i64 0,.int .u64 0,.slice none 0 0] 42)).cell? ⟨be,0,none⟩=some (.int .i64 er):=by rw [World.cell?_alloc_lt _ _ _ hlt2];exact h2
 clear h1 h2 h3
 go_enter Try.func89,Try.ntmps89
 go_wp2
 exact bodyPost_ret (v:=ansV er 0 (.slice none 0 0)) (by simp [results,Try.results89 ,go_sem,ansV]) rfl ⟨er,0,rfl,Below.heap_alloc _ _ _ hlt,rfl,rfl,Gr.new _ _⟩
end
end Go.Proofs.Ytlepjmnhekeofaa
