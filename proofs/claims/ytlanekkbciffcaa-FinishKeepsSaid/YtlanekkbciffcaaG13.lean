/- Layer 21: finish.alone, Tail, Head. -/
import Derived.Test.YtlanekkbciffcaaG12
set_option maxRecDepth 100000
set_option linter.unusedVariables false
set_option linter.unusedSimpArgs false
set_option linter.unnecessarySimpa false
namespace Go.Proofs.Ytlanekkbciffcaa
open Go.RowKit
structure Meth0 (T:TypeId) (x:Value) (name:String) (K:FuncId) (recv:Value):Prop where
 ahead:∀(F:Nat) (w:World),(nilAhead (F+1) T x name).run Try.prog w=.ok (some false) w
 meth:∀(F:Nat) (w:World),(method (F+1) T x name).run Try.prog w=.ok (K,recv) w
 enter:∀(args:Array Value) (w:World),(callFunc K args).run Try.prog w=.ok (.enter K args) w
def FinPost (w:World) (Z:List Nat->Nat->Prop) (e:Ending) (w':World):Prop:=
 ∃ va vc ws' j,e=.returned (.tuple #[.slice va (ws':List Nat).length vc,.int .i64 ((j:Nat):Int),.int .i64 0])/\SlAt w' va ws'.length 1 (u64G ws')/\Z ws' j/\(∀ x∈ws',x<18446744073709551616)/\Below w.heap.size w w'
theorem new_tail (n k:Nat) (u:World):Calls Try.prog 53 #[queueV n k] u λe w'=>∃ bT,e=.returned (.pointer (some ⟨bT,0,none⟩))/\w'.heap[bT]?=some (.cells (tlCells n k ⟨0,0,0,0,0,0⟩) 127 (0,0))/\Below u.heap.size u w'/\u.heap.size<=bT:=by
 unfold queueV
 go_enter Try.func53,Try.ntmps53
 go_wp2
 go_ret
 refine⟨u.heap.size+1,rfl,?_,Gr.alloc (Gr.new _ _) _,Nat.le_succ _⟩
 have:=heap_alloc_new (u.alloc (.cells #[.int .i64 0,.int .i64 (n:Int),.int .i64 (k:Int)] 80)) (.cells (tlCells n k ⟨0,0,0,0,0,0⟩) 127 (0,0))
 simp only [World.size_alloc] at this
 exact this
theorem begin_tail (n k:Nat) (u:World):Calls Try.prog 52 #[queueV n k] u λe w'=>∃ bT,e=.returned (.iface 83 (.pointer (some ⟨bT,0,none⟩)))/\w'.heap[bT]?=some (.cells (tlCells n k ⟨0,0,0,0,0,0⟩) 127 (0,0))/\Below u.heap.size u w'/\u.heap.size<=bT:=by
 have N:=Lib.hid (λu=>new_tail n k u)
 unfold queueV at N ⊢
 go_enter Try.func52,Try.ntmps52
 go_wp2_with (go_at_call 53;refine(N.out _).mono ?_;rintro e w1 ⟨bT,rfl,h1,hb,hl⟩)
 go_ret
 exact⟨bT,rfl,h1,Gr.trans (Gr.new _ _) hb,by simp at hl;omega⟩
theorem tail_m (a : Addr) : Meth0 83 (.pointer (some a)) "Step" 153 (.pointer (some a)) := ⟨fun _ _ => by kernel_rfl, fun _ _ => by kernel_rfl, fun _ _ => by kernel_rfl⟩
set_option maxHeartbeats 4000000 in
theorem alone_tail (n k:Nat) (J:FinD->MemD->Nat->Prop) (Z:List Nat->Nat->Prop) (hJ:∀(w:World) (bT bW bm:Nat) (bw:Option Nat) (s:FinD) (m:MemD) (j:Nat),FinAt (tlCells n k) 127 w bT bW bm bw s m->J s m j->Calls Try.prog 153 #[.pointer (some ⟨bT,0,none⟩),.pointer (some ⟨bW,0,none⟩)] w (StepTo (tlCells n k) 127 w bT bW bm bw J Z j)) (hJ1:∀ s m j,J s m j->j<=10) (hr:rightB (n:Int) (k:Int)=true) (ws:List Nat) (hJ0:J ⟨0,0,0,0,0,0⟩ ⟨ws,c0⟩ 0) (hlen:(ws.length:Int)=2+(n:Int)+4*(1+(n:Int)*(k:Int))) (a:Option Addr) (c:Nat) (w:World) (hs:SlAt w a ws.length 1 (u64G ws)) (hcap:a=none->c=0) (hv:∀ x∈ws,x<18446744073709551616) :
  Calls Try.prog 51 #[.int .i64 (n:Int),.int .i64 (k:Int),.slice a ws.length c,.func (.func 52) #[] #[]] w (FinPost w Z):=by
 obtain⟨h1,h2,h3,h4⟩:=rightB_pos hr
 obtain⟨h5,h6⟩:=nk_bound hr
 have SZ:=λu=>size_yes (n:Int) (k:Int) u hr
 rw [<-hlen] at SZ
 have SZ:=Lib.hid SZ
 have hl0:((ws.length:Int) == 0)=false:=beq_eq_false_iff_ne.2 (by omega)
 have NM:=Lib.hid (new_mem a c ws w hs (by omega) hcap hv)
 have BG:=Lib.hid (λu=>begin_tail n k u)
 unfold queueV at BG
 have hn16:n<=16:=by omega
 have HJx:=Lib.hid hJ;have HJ1:=Lib.hid hJ1
 clear hJ hJ1 hr hlen hs hcap hv h1 h2 h3 h4 h5 h6
 go_enter Try.func51,Try.ntmps51
 go_wp2_with (first|(go_at_call 70;refine(SZ.out _).mono ?_;rintro e w1 ⟨rfl,rfl⟩)|(go_at_call 71;refine NM.out.mono ?_;rintro e w1 ⟨bm,bw,rfl,hm,hb1,hlm,hlb⟩)|(go_at_call 52;refine(BG.out _).mono ?_;rintro e w2 ⟨bT,rfl,hT,hb2,hlT⟩))
 obtain⟨w3,hw3⟩:∃ w3,w3=w2.alloc (.cells #[.pointer (some ⟨bm,0,none⟩),.int .i64 0,.int .i64 0,.int .i64 0,.int .i64 0,.int .i64 0,.int .i64 0,.int .i64 0,.int .i64 0,.int .i64 0,.int .i64 0,.int .i64 0,.int .i64 0,.int .i64 0,.int .i64 0,.int .i64 0,.int .i64 0,.int .i64 0,.slice none 0 0,.slice none 0 0,.slice none 0 0,.slice none 0 0,.slice none 0 0,.slice none 0 0,.slice none 0 0,.slice none 0 0,.slice none 0 0,.slice none 0 0,.slice none 0 0,.slice none 0 0,.slice none 0 0,.slice none 0 0,.slice none 0 0,.slice none 0 0,.map none] 123):=⟨_,rfl⟩
 rw [<-hw3]
 have hb3:Below w2.heap.size w2 w3:=by rw [hw3];exact Gr.new _ _
 have hT3:=(hb3.block bT (blk_lt hT)).trans hT
 have hx3:w3.cell? ⟨w2.heap.size,0,none⟩=some (.pointer (some ⟨bm,0,none⟩)):=by rw [hw3,cell_new];rfl
 have hb13:=Gr.trans hb2 hb3
 have hmw:=hm.lt
 have FA:FinAt (tlCells n k) 127 w3 bT w2.heap.size bm bw ⟨0,0,0,0,0,0⟩ ⟨ws,c0⟩:=by
  have hTl:=blk_lt hT
  refine⟨hT3,hx3,hm.gr hb13,λx=>?_,λx=>?_,λx=>by omega,⟨by unfold U64;simp,by unfold U64;simp,by unfold U64;simp,by unfold U64;simp,by simp⟩⟩
  ·rcases x with x|x
   ·omega
   ·have:=hm.low bT x.symm;omega
  ·have:=hb2.size
   rcases x with x|x
   ·omega
   ·have:=hm.low _ x.symm;omega
 have FI:=hJ0
 obtain⟨bW,hbW⟩:∃ bW,bW=w2.heap.size:=⟨_,rfl⟩
 rw [<-hbW] at FA ⊢
 have hall:=Gr.trans hb1 hb13
 have hS:∀ b,FinS bT bm bw b->w.heap.size<=b:=λb hb=>by
  have:=hb1.size
  rcases hb with(hb|hb)|hb
  ·omega
  ·exact hlb b hb.symm
  ·omega
 have HS:=Lib.hid hS;have Hall:=Lib.hid hall;have FA:=Lib.hid FA;have FI:=Lib.hid FI
 clear hJ0 hw3 hb3 hT3 hx3 hb13 hmw hm hb1 hlm hlb hT hb2 hlT hbW hall hS
 go_loopw [16] (λi wr=>∃(j:Nat) (s:FinD) (m:MemD),j<=11/\i=.int .i64 ((j+1:Nat):Int)/\FinAt (tlCells n k) 127 wr bT bW bm bw s m/\J s m j/\Chg (FinS bT bm bw) w3 wr) (λi _=>30 - (intOf i).toNat)
 case atStart=>exact⟨0,_,_,by omega,rfl,FA.out,FI.out,Chg.refl _ _⟩
 case round=>
  obtain⟨j,s,m,hj,rfl,ha,hi,hc⟩:=hrel
  obtain⟨wo,rfl⟩:∃ wo,wo=wr:=⟨_,rfl⟩
  have ST:=Lib.hid (HJx.out _ _ _ _ _ _ _ _ ha hi)
  have hM:=tail_m ⟨bT,0,none⟩
  have m1:=hM.ahead;have m2:=hM.meth;have m3:=hM.enter
  have hjb:j<=10:=HJ1.out _ _ _ hi
  have Hc:=Lib.hid hc
  clear ha hi hc hM
  go_wp2_with fail
  refine ST.out.mono ?_
  rintro e w4 ⟨s',m',b,rfl,ha4,hc4,hJ,hZ⟩
  have Ha4:=Lib.hid ha4;have Hc4:=Lib.hid (Hc.out.trans hc4);have HJ:=Lib.hid hJ;have HZ:=Lib.hid hZ
  clear ha4 hc4 hJ hZ m1 m2 m3
  cases b with
  | false=>
   have wj:IntKind.i64.wrap (((j+1:Nat):Int)+1)=((j+1+1:Nat):Int):=by rw [IntKind.wrap_i64];omega
   go_wp2
   go_roundw
   case rel=>exact⟨j+1,s',m',by omega,by first|rfl|(congr 1;omega),Ha4.out,HJ.out (by trivial),Hc4.out⟩
   case measure=>simp [intOf]<;>omega
  | true=>
   have WD:=Lib.hid (words_any bm bw m' w4 Ha4.out.mem)
   have hml:=Ha4.out.mem.len
   go_wp2_with (go_at_call 72;refine WD.out.mono ?_;rintro e w5 ⟨v,rfl,ho,hb5⟩;obtain⟨va,vc,rfl⟩:=row_form ho)
   refine bodyPost_ret (v:=.tuple #[.slice va m'.ws.length vc,.int .i64 ((j+1:Nat):Int),.int .i64 0]) (by simp [results,Try.results51 ,go_sem]) rfl ?_
   refine⟨va,vc,m'.ws,j+1,rfl,?_,HZ.out (by trivial),Ha4.out.mem.val,?_⟩
   ·exact(row_sl (g:=u64G m'.ws) ho (by unfold maxLen;omega) (λi hi=>by simp [u64G,u64V,List.getD_eq_getElem?_getD,hi])).1
   ·exact(Hall.out.trans (Hc4.out.below HS.out Hall.out.size)).trans (hb5.mono (by have:=Hall.out.size;have:=Hc4.out.size;omega))
set_option maxHeartbeats 4000000 in
theorem fin_tail (n k:Nat) (J:FinD->MemD->Nat->Prop) (Z:List Nat->Nat->Prop) (hJ:∀(w:World) (bT bW bm:Nat) (bw:Option Nat) (s:FinD) (m:MemD) (j:Nat),FinAt (tlCells n k) 127 w bT bW bm bw s m->J s m j->Calls Try.prog 153 #[.pointer (some ⟨bT,0,none⟩),.pointer (some ⟨bW,0,none⟩)] w (StepTo (tlCells n k) 127 w bT bW bm bw J Z j)) (hJ1:∀ s m j,J s m j->j<=10) (hr:rightB (n:Int) (k:Int)=true) (ws:List Nat) (hJ0:J ⟨0,0,0,0,0,0⟩ ⟨ws,c0⟩ 0) (hlen:(ws.length:Int)=2+(n:Int)+4*(1+(n:Int)*(k:Int))) (a:Option Addr) (c:Nat) (w:World) (hs:SlAt w a ws.length 1 (u64G ws)) (hcap:a=none->c=0) (hv:∀ x∈ws,x<18446744073709551616) :
  Calls Try.prog 32 #[.int .i64 (n:Int),.int .i64 (k:Int),.slice a ws.length c] w (FinPost w Z):=by
 have A:=Lib.hid (alone_tail n k J Z hJ hJ1 hr ws hJ0 hlen a c w hs hcap hv)
 clear hr hlen hs hcap hv hJ hJ1 hJ0
 go_enter Try.func32,Try.ntmps32
 go_wp2_with fail
 refine A.out.mono ?_
 rintro e w1 ⟨va,vc,ws',j,rfl,h1,h2,h4,h3⟩
 go_wp2
 refine bodyPost_ret (v:=.tuple #[.slice va ws'.length vc,.int .i64 (j:Int),.int .i64 0]) (by simp [results,Try.results32 ,go_sem]) rfl ?_
 exact⟨va,vc,ws',j,rfl,h1,h2,h4,h3⟩
theorem new_head (n k:Nat) (u:World):Calls Try.prog 55 #[queueV n k] u λe w'=>∃ bT,e=.returned (.pointer (some ⟨bT,0,none⟩))/\w'.heap[bT]?=some (.cells (hdCells n k ⟨0,0,0,0,0,0⟩) 129 (0,0))/\Below u.heap.size u w'/\u.heap.size<=bT:=by
 unfold queueV
 go_enter Try.func55,Try.ntmps55
 go_wp2
 go_ret
 refine⟨u.heap.size+1,rfl,?_,Gr.alloc (Gr.new _ _) _,Nat.le_succ _⟩
 have:=heap_alloc_new (u.alloc (.cells #[.int .i64 0,.int .i64 (n:Int),.int .i64 (k:Int)] 80)) (.cells (hdCells n k ⟨0,0,0,0,0,0⟩) 129 (0,0))
 simp only [World.size_alloc] at this
 exact this
theorem begin_head (n k:Nat) (u:World):Calls Try.prog 54 #[queueV n k] u λe w'=>∃ bT,e=.returned (.iface 86 (.pointer (some ⟨bT,0,none⟩)))/\w'.heap[bT]?=some (.cells (hdCells n k ⟨0,0,0,0,0,0⟩) 129 (0,0))/\Below u.heap.size u w'/\u.heap.size<=bT:=by
 have N:=Lib.hid (λu=>new_head n k u)
 unfold queueV at N ⊢
 go_enter Try.func54,Try.ntmps54
 go_wp2_with (go_at_call 55;refine(N.out _).mono ?_;rintro e w1 ⟨bT,rfl,h1,hb,hl⟩)
 go_ret
 exact⟨bT,rfl,h1,Gr.trans (Gr.new _ _) hb,by simp at hl;omega⟩
theorem head_m (a : Addr) : Meth0 86 (.pointer (some a)) "Step" 173 (.pointer (some a)) := ⟨fun _ _ => by kernel_rfl, fun _ _ => by kernel_rfl, fun _ _ => by kernel_rfl⟩
set_option maxHeartbeats 4000000 in
theorem alone_head (n k:Nat) (J:FinD->MemD->Nat->Prop) (Z:List Nat->Nat->Prop) (hJ:∀(w:World) (bT bW bm:Nat) (bw:Option Nat) (s:FinD) (m:MemD) (j:Nat),FinAt (hdCells n k) 129 w bT bW bm bw s m->J s m j->Calls Try.prog 173 #[.pointer (some ⟨bT,0,none⟩),.pointer (some ⟨bW,0,none⟩)] w (StepTo (hdCells n k) 129 w bT bW bm bw J Z j)) (hJ1:∀ s m j,J s m j->j<=10) (hr:rightB (n:Int) (k:Int)=true) (ws:List Nat) (hJ0:J ⟨0,0,0,0,0,0⟩ ⟨ws,c0⟩ 0) (hlen:(ws.length:Int)=2+(n:Int)+4*(1+(n:Int)*(k:Int))) (a:Option Addr) (c:Nat) (w:World) (hs:SlAt w a ws.length 1 (u64G ws)) (hcap:a=none->c=0) (hv:∀ x∈ws,x<18446744073709551616) :
  Calls Try.prog 51 #[.int .i64 (n:Int),.int .i64 (k:Int),.slice a ws.length c,.func (.func 54) #[] #[]] w (FinPost w Z):=by
 obtain⟨h1,h2,h3,h4⟩:=rightB_pos hr
 obtain⟨h5,h6⟩:=nk_bound hr
 have SZ:=λu=>size_yes (n:Int) (k:Int) u hr
 rw [<-hlen] at SZ
 have SZ:=Lib.hid SZ
 have hl0:((ws.length:Int) == 0)=false:=beq_eq_false_iff_ne.2 (by omega)
 have NM:=Lib.hid (new_mem a c ws w hs (by omega) hcap hv)
 have BG:=Lib.hid (λu=>begin_head n k u)
 unfold queueV at BG
 have hn16:n<=16:=by omega
 have HJx:=Lib.hid hJ;have HJ1:=Lib.hid hJ1
 clear hJ hJ1 hr hlen hs hcap hv h1 h2 h3 h4 h5 h6
 go_enter Try.func51,Try.ntmps51
 go_wp2_with (first|(go_at_call 70;refine(SZ.out _).mono ?_;rintro e w1 ⟨rfl,rfl⟩)|(go_at_call 71;refine NM.out.mono ?_;rintro e w1 ⟨bm,bw,rfl,hm,hb1,hlm,hlb⟩)|(go_at_call 54;refine(BG.out _).mono ?_;rintro e w2 ⟨bT,rfl,hT,hb2,hlT⟩))
 obtain⟨w3,hw3⟩:∃ w3,w3=w2.alloc (.cells #[.pointer (some ⟨bm,0,none⟩),.int .i64 0,.int .i64 0,.int .i64 0,.int .i64 0,.int .i64 0,.int .i64 0,.int .i64 0,.int .i64 0,.int .i64 0,.int .i64 0,.int .i64 0,.int .i64 0,.int .i64 0,.int .i64 0,.int .i64 0,.int .i64 0,.int .i64 0,.slice none 0 0,.slice none 0 0,.slice none 0 0,.slice none 0 0,.slice none 0 0,.slice none 0 0,.slice none 0 0,.slice none 0 0,.slice none 0 0,.slice none 0 0,.slice none 0 0,.slice none 0 0,.slice none 0 0,.slice none 0 0,.slice none 0 0,.slice none 0 0,.map none] 123):=⟨_,rfl⟩
 rw [<-hw3]
 have hb3:Below w2.heap.size w2 w3:=by rw [hw3];exact Gr.new _ _
 have hT3:=(hb3.block bT (blk_lt hT)).trans hT
 have hx3:w3.cell? ⟨w2.heap.size,0,none⟩=some (.pointer (some ⟨bm,0,none⟩)):=by rw [hw3,cell_new];rfl
 have hb13:=Gr.trans hb2 hb3
 have hmw:=hm.lt
 have FA:FinAt (hdCells n k) 129 w3 bT w2.heap.size bm bw ⟨0,0,0,0,0,0⟩ ⟨ws,c0⟩:=by
  have hTl:=blk_lt hT
  refine⟨hT3,hx3,hm.gr hb13,λx=>?_,λx=>?_,λx=>by omega,⟨by unfold U64;simp,by unfold U64;simp,by unfold U64;simp,by unfold U64;simp,by simp⟩⟩
  ·rcases x with x|x
   ·omega
   ·have:=hm.low bT x.symm;omega
  ·have:=hb2.size
   rcases x with x|x
   ·omega
   ·have:=hm.low _ x.symm;omega
 have FI:=hJ0
 obtain⟨bW,hbW⟩:∃ bW,bW=w2.heap.size:=⟨_,rfl⟩
 rw [<-hbW] at FA ⊢
 have hall:=Gr.trans hb1 hb13
 have hS:∀ b,FinS bT bm bw b->w.heap.size<=b:=λb hb=>by
  have:=hb1.size
  rcases hb with(hb|hb)|hb
  ·omega
  ·exact hlb b hb.symm
  ·omega
 have HS:=Lib.hid hS;have Hall:=Lib.hid hall;have FA:=Lib.hid FA;have FI:=Lib.hid FI
 clear hJ0 hw3 hb3 hT3 hx3 hb13 hmw hm hb1 hlm hlb hT hb2 hlT hbW hall hS
 go_loopw [16] (λi wr=>∃(j:Nat) (s:FinD) (m:MemD),j<=11/\i=.int .i64 ((j+1:Nat):Int)/\FinAt (hdCells n k) 129 wr bT bW bm bw s m/\J s m j/\Chg (FinS bT bm bw) w3 wr) (λi _=>30 - (intOf i).toNat)
 case atStart=>exact⟨0,_,_,by omega,rfl,FA.out,FI.out,Chg.refl _ _⟩
 case round=>
  obtain⟨j,s,m,hj,rfl,ha,hi,hc⟩:=hrel
  obtain⟨wo,rfl⟩:∃ wo,wo=wr:=⟨_,rfl⟩
  have ST:=Lib.hid (HJx.out _ _ _ _ _ _ _ _ ha hi)
  have hM:=head_m ⟨bT,0,none⟩
  have m1:=hM.ahead;have m2:=hM.meth;have m3:=hM.enter
  have hjb:j<=10:=HJ1.out _ _ _ hi
  have Hc:=Lib.hid hc
  clear ha hi hc hM
  go_wp2_with fail
  refine ST.out.mono ?_
  rintro e w4 ⟨s',m',b,rfl,ha4,hc4,hJ,hZ⟩
  have Ha4:=Lib.hid ha4;have Hc4:=Lib.hid (Hc.out.trans hc4);have HJ:=Lib.hid hJ;have HZ:=Lib.hid hZ
  clear ha4 hc4 hJ hZ m1 m2 m3
  cases b with
  | false=>
   have wj:IntKind.i64.wrap (((j+1:Nat):Int)+1)=((j+1+1:Nat):Int):=by rw [IntKind.wrap_i64];omega
   go_wp2
   go_roundw
   case rel=>exact⟨j+1,s',m',by omega,by first|rfl|(congr 1;omega),Ha4.out,HJ.out (by trivial),Hc4.out⟩
   case measure=>simp [intOf]<;>omega
  | true=>
   have WD:=Lib.hid (words_any bm bw m' w4 Ha4.out.mem)
   have hml:=Ha4.out.mem.len
   go_wp2_with (go_at_call 72;refine WD.out.mono ?_;rintro e w5 ⟨v,rfl,ho,hb5⟩;obtain⟨va,vc,rfl⟩:=row_form ho)
   refine bodyPost_ret (v:=.tuple #[.slice va m'.ws.length vc,.int .i64 ((j+1:Nat):Int),.int .i64 0]) (by simp [results,Try.results51 ,go_sem]) rfl ?_
   refine⟨va,vc,m'.ws,j+1,rfl,?_,HZ.out (by trivial),Ha4.out.mem.val,?_⟩
   ·exact(row_sl (g:=u64G m'.ws) ho (by unfold maxLen;omega) (λi hi=>by simp [u64G,u64V,List.getD_eq_getElem?_getD,hi])).1
   ·exact(Hall.out.trans (Hc4.out.below HS.out Hall.out.size)).trans (hb5.mono (by have:=Hall.out.size;have:=Hc4.out.size;omega))
set_option maxHeartbeats 4000000 in
theorem fin_head (n k:Nat) (J:FinD->MemD->Nat->Prop) (Z:List Nat->Nat->Prop) (hJ:∀(w:World) (bT bW bm:Nat) (bw:Option Nat) (s:FinD) (m:MemD) (j:Nat),FinAt (hdCells n k) 129 w bT bW bm bw s m->J s m j->Calls Try.prog 173 #[.pointer (some ⟨bT,0,none⟩),.pointer (some ⟨bW,0,none⟩)] w (StepTo (hdCells n k) 129 w bT bW bm bw J Z j)) (hJ1:∀ s m j,J s m j->j<=10) (hr:rightB (n:Int) (k:Int)=true) (ws:List Nat) (hJ0:J ⟨0,0,0,0,0,0⟩ ⟨ws,c0⟩ 0) (hlen:(ws.length:Int)=2+(n:Int)+4*(1+(n:Int)*(k:Int))) (a:Option Addr) (c:Nat) (w:World) (hs:SlAt w a ws.length 1 (u64G ws)) (hcap:a=none->c=0) (hv:∀ x∈ws,x<18446744073709551616) :
  Calls Try.prog 33 #[.int .i64 (n:Int),.int .i64 (k:Int),.slice a ws.length c] w (FinPost w Z):=by
 have A:=Lib.hid (alone_head n k J Z hJ hJ1 hr ws hJ0 hlen a c w hs hcap hv)
 clear hr hlen hs hcap hv hJ hJ1 hJ0
 go_enter Try.func33,Try.ntmps33
 go_wp2_with fail
 refine A.out.mono ?_
 rintro e w1 ⟨va,vc,ws',j,rfl,h1,h2,h4,h3⟩
 go_wp2
 refine bodyPost_ret (v:=.tuple #[.slice va ws'.length vc,.int .i64 (j:Int),.int .i64 0]) (by simp [results,Try.results33 ,go_sem]) rfl ?_
 exact⟨va,vc,ws',j,rfl,h1,h2,h4,h3⟩
end Go.Proofs.Ytlanekkbciffcaa
