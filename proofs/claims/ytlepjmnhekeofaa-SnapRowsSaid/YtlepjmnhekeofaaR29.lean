/- Layer 15: a scan as it lies: a block of 56 cells; arrays that are alike. -/
import Derived.Test.YtlepjmnhekeofaaR22
import Derived.Test.YtlepjmnhekeofaaR23
import Derived.ChangeKeysEq
import Derived.Deep.MidRow
set_option maxRecDepth 100000
set_option linter.unusedVariables false
set_option linter.unusedSimpArgs false
set_option linter.unnecessarySimpa false
namespace Go.Proofs.Ytlepjmnhekeofaa
open List renaming getElem_toArray → zq1, getElem_cons_zero → zq2, getElem_cons_succ → zq3, setIfInBounds_toArray → zq4, set_cons_zero → zq5, set_cons_succ → zq6
open Go.RowKit
def scanL (bP:Nat) (s:ScD) (lv:Value):List Value:=
 .pointer (some ⟨bP,0,none⟩)::.int .i64 (s.pc:Int)::.int .i64 (s.at_:Int)::.int .i64 (s.rounds:Int)::(s.old.map u64V++(s.now.map u64V++(.int .i64 (s.last:Int)::(s.diff.map Value.bool++[.int .u64 (s.from_:Int),lv,.int .i64 s.moment]))))
theorem app16_get {X Y:List Value} (h:X.length=16) (j:Nat):(X++Y)[16+j]?=Y[j]?:=by
 rw [List.getElem?_append_right (by omega)]
 congr 1;omega
theorem app16_set {X Y:List Value} (h:X.length=16) (j:Nat) (v:Value):(X++Y).set (16+j) v=X++Y.set j v:=by
 rw [List.set_append_right _ _ (by omega)]
 congr 2;omega
structure ScBlk (w:World) (b bP:Nat) (s:ScD) (lv:Value):Prop where
 blk:w.heap[b]?=some (.cells (scanL bP s lv).toArray 229 (0,0))
 l1:s.old.length=16
 l2:s.now.length=16
 l3:s.diff.length=16
section
variable {w w':World} {b bP:Nat} {s:ScD} {lv:Value}
theorem ScBlk.chg {S:Nat->Prop} (h:ScBlk w b bP s lv) (hc:Chg S w w') (hn:¬ S b):ScBlk w' b bP s lv:=⟨(hc.block _ (blk_lt h.blk) hn).trans h.blk,h.l1,h.l2,h.l3⟩
theorem ScBlk.get (h:ScBlk w b bP s lv) (i:Nat):w.cell? ⟨b,i,none⟩=(scanL bP s lv)[i]?:=by rw [cell_blk h.blk];simp
theorem ScBlk.lt (h:ScBlk w b bP s lv):b<w.heap.size:=blk_lt h.blk
theorem ScBlk.frozen (h:ScBlk w b bP s lv) (i:Nat):w.frozen? ⟨b,i,none⟩=false:=frozen_blk h.blk i
theorem ScBlk.ptr (h:ScBlk w b bP s lv):w.cell? ⟨b,0,none⟩=some (.pointer (some ⟨bP,0,none⟩)):=h.get 0
theorem ScBlk.pc (h:ScBlk w b bP s lv):w.cell? ⟨b,1,none⟩=some (.int .i64 (s.pc:Int)):=h.get 1
theorem ScBlk.at_ (h:ScBlk w b bP s lv):w.cell? ⟨b,2,none⟩=some (.int .i64 (s.at_:Int)):=h.get 2
theorem ScBlk.rounds (h:ScBlk w b bP s lv):w.cell? ⟨b,3,none⟩=some (.int .i64 (s.rounds:Int)):=h.get 3
theorem scan_old (h1:s.old.length=16) {t:Nat} (ht:t<16):(scanL bP s lv)[4+t]?=some (.int .u64 ((s.old.getD t 0:Nat):Int)):=by
 rw [show 4+t=t+1+1+1+1 by omega]
 show(s.old.map u64V++_)[t]?=_
 rw [List.getElem?_append_left (by simpa [h1] using ht)]
 simp [u64V,List.getD_eq_getElem?_getD,show t<s.old.length by omega]
theorem scan_now (h1:s.old.length=16) (h2:s.now.length=16) {t:Nat} (ht:t<16):(scanL bP s lv)[20+t]?=some (.int .u64 ((s.now.getD t 0:Nat):Int)):=by
 rw [show 20+t=(16+t)+1+1+1+1 by omega]
 show(s.old.map u64V++_)[16+t]?=_
 rw [app16_get (by simpa using h1),List.getElem?_append_left (by simpa [h2] using ht)]
 simp [u64V,List.getD_eq_getElem?_getD,show t<s.now.length by omega]
theorem scan_tail (h1:s.old.length=16) (h2:s.now.length=16) (j:Nat):(scanL bP s lv)[36+j]?=(Value.int .i64 (s.last:Int)::(s.diff.map Value.bool++[.int .u64 (s.from_:Int),lv,.int .i64 s.moment]))[j]?:=by
 rw [show 36+j=(16+(16+j))+1+1+1+1 by omega]
 show(s.old.map u64V++_)[16+(16+j)]?=_
 rw [app16_get (by simpa using h1),app16_get (by simpa using h2)]
theorem ScBlk.old (h:ScBlk w b bP s lv) {t:Nat} (ht:t<16):w.cell? ⟨b,4+t,none⟩=some (.int .u64 ((s.old.getD t 0:Nat):Int)):=(h.get _).trans (scan_old h.l1 ht)
theorem ScBlk.now (h:ScBlk w b bP s lv) {t:Nat} (ht:t<16):w.cell? ⟨b,20+t,none⟩=some (.int .u64 ((s.now.getD t 0:Nat):Int)):=(h.get _).trans (scan_now h.l1 h.l2 ht)
theorem ScBlk.last (h:ScBlk w b bP s lv):w.cell? ⟨b,36,none⟩=some (.int .i64 (s.last:Int)):=(h.get 36).trans (scan_tail h.l1 h.l2 0)
theorem ScBlk.diff (h:ScBlk w b bP s lv) {t:Nat} (ht:t<16):w.cell? ⟨b,37+t,none⟩=some (.bool (s.diff.getD t false)):=by
 rw [show 37+t=36+(t+1) by omega]
 refine(h.get _).trans ((scan_tail h.l1 h.l2 (t+1)).trans ?_)
 show(s.diff.map Value.bool++_)[t]?=_
 have h3:=h.l3
 rw [List.getElem?_append_left (by simpa [h3] using ht)]
 simp [List.getD_eq_getElem?_getD,show t<s.diff.length by omega]
theorem scan_end (h1:s.old.length=16) (h2:s.now.length=16) (h3:s.diff.length=16) (j:Nat):(scanL bP s lv)[53+j]?=[Value.int .u64 (s.from_:Int),lv,.int .i64 s.moment][j]?:=by
 rw [show 53+j=36+((16+j)+1) by omega,scan_tail h1 h2]
 show(s.diff.map Value.bool++_)[16+j]?=_
 rw [app16_get (by simpa using h3)]
theorem ScBlk.from_ (h:ScBlk w b bP s lv):w.cell? ⟨b,53,none⟩=some (.int .u64 (s.from_:Int)):=(h.get 53).trans (scan_end h.l1 h.l2 h.l3 0)
theorem ScBlk.list (h:ScBlk w b bP s lv):w.cell? ⟨b,54,none⟩=some lv:=(h.get 54).trans (scan_end h.l1 h.l2 h.l3 1)
theorem ScBlk.mom (h:ScBlk w b bP s lv):w.cell? ⟨b,55,none⟩=some (.int .i64 s.moment):=(h.get 55).trans (scan_end h.l1 h.l2 h.l3 2)
theorem ScBlk.rOld (h:ScBlk w b bP s lv):w.rangeAt b 4 (s.old.map u64V):=λj v hv=>by
 have hj:j<s.old.length:=by
  rcases Nat.lt_or_ge j s.old.length with h9|h9
  ·exact h9
  ·rw [List.getElem?_eq_none (by simpa using h9)] at hv;cases hv
 rw [h.old (by have:=h.l1;omega),<-hv]
 simp [u64V,List.getD_eq_getElem?_getD,hj]
theorem ScBlk.rNow (h:ScBlk w b bP s lv):w.rangeAt b 20 (s.now.map u64V):=λj v hv=>by
 have hj:j<s.now.length:=by
  rcases Nat.lt_or_ge j s.now.length with h9|h9
  ·exact h9
  ·rw [List.getElem?_eq_none (by simpa using h9)] at hv;cases hv
 rw [h.now (by have:=h.l2;omega),<-hv]
 simp [u64V,List.getD_eq_getElem?_getD,hj]
theorem ScBlk.put (h:ScBlk w b bP s lv) (i:Nat) (v:Value) {s':ScD} {lv':Value} (e:(scanL bP s lv).set i v=scanL bP s' lv') (h1:s'.old.length=16) (h2:s'.now.length=16) (h3:s'.diff.length=16):ScBlk (w.setCell ⟨b,i,none⟩ v) b bP s' lv':=by
 refine⟨?_,h1,h2,h3⟩
 rw [blk_set h.blk,<-e];simp
theorem ScBlk.setPc (h:ScBlk w b bP s lv) (x:Nat):ScBlk (w.setCell ⟨b,1,none⟩ (.int .i64 (x:Int))) b bP { s with pc:=x } lv:=h.put 1 _ rfl h.l1 h.l2 h.l3
theorem ScBlk.setAt (h:ScBlk w b bP s lv) (x:Nat):ScBlk (w.setCell ⟨b,2,none⟩ (.int .i64 (x:Int))) b bP { s with at_:=x } lv:=h.put 2 _ rfl h.l1 h.l2 h.l3
theorem ScBlk.setRounds (h:ScBlk w b bP s lv) (x:Nat):ScBlk (w.setCell ⟨b,3,none⟩ (.int .i64 (x:Int))) b bP { s with rounds:=x } lv:=h.put 3 _ rfl h.l1 h.l2 h.l3
theorem ScBlk.setNow (h:ScBlk w b bP s lv) {t:Nat} (ht:t<16) (x:Nat):ScBlk (w.setCell ⟨b,20+t,none⟩ (.int .u64 (x:Int))) b bP { s with now:=s.now.set t x } lv:=by
 refine h.put (20+t) _ ?_ h.l1 (by simpa using h.l2) h.l3
 rw [show 20+t=(16+t)+1+1+1+1 by omega]
 unfold scanL
 simp only [zq6]
 rw [app16_set (by simpa using h.l1),List.set_append_left _ _ (by simpa [h.l2] using ht),List.map_set];rfl
theorem ScBlk.setTail (h:ScBlk w b bP s lv) (j:Nat) (v:Value):(scanL bP s lv).set (36+j) v=.pointer (some ⟨bP,0,none⟩)::.int .i64 (s.pc:Int)::.int .i64 (s.at_:Int)::.int .i64 (s.rounds:Int)::(s.old.map u64V++(s.now.map u64V++((Value.int .i64 (s.last:Int)::(s.diff.map Value.bool++[.int .u64 (s.from_:Int),lv,.int .i64 s.moment])).set j v))):=by
 rw [show 36+j=(16+(16+j))+1+1+1+1 by omega]
 unfold scanL
 simp only [zq6]
 rw [app16_set (by simpa using h.l1),app16_set (by simpa using h.l2)]
theorem ScBlk.setLast (h:ScBlk w b bP s lv) (x:Nat):ScBlk (w.setCell ⟨b,36,none⟩ (.int .i64 (x:Int))) b bP { s with last:=x } lv:=h.put 36 _ (h.setTail 0 _) h.l1 h.l2 h.l3
theorem ScBlk.setDiff (h:ScBlk w b bP s lv) {t:Nat} (ht:t<16) (x:Bool):ScBlk (w.setCell ⟨b,37+t,none⟩ (.bool x)) b bP { s with diff:=s.diff.set t x } lv:=by
 refine h.put (37+t) _ ?_ h.l1 h.l2 (by simpa using h.l3)
 rw [show 37+t=36+(t+1) by omega,h.setTail,zq6,List.set_append_left _ _ (by simpa [h.l3] using ht)]
 unfold scanL
 rw [List.map_set]
theorem ScBlk.setEnd (h:ScBlk w b bP s lv) (j:Nat) (v:Value):(scanL bP s lv).set (53+j) v=.pointer (some ⟨bP,0,none⟩)::.int .i64 (s.pc:Int)::.int .i64 (s.at_:Int)::.int .i64 (s.rounds:Int)::(s.old.map u64V++(s.now.map u64V++(Value.int .i64 (s.last:Int)::(s.diff.map Value.bool++[.int .u64 (s.from_:Int),lv,.int .i64 s.moment].set j v)))):=by
 rw [show 53+j=36+((16+j)+1) by omega,h.setTail,zq6,app16_set (by simpa using h.l3)]
theorem ScBlk.setFrom (h:ScBlk w b bP s lv) (x:Nat):ScBlk (w.setCell ⟨b,53,none⟩ (.int .u64 (x:Int))) b bP { s with from_:=x } lv:=h.put 53 _ (h.setEnd 0 _) h.l1 h.l2 h.l3
theorem ScBlk.setList (h:ScBlk w b bP s lv) (l:List Nat) (v:Value):ScBlk (w.setCell ⟨b,54,none⟩ v) b bP { s with list:=l } v:=h.put 54 _ (h.setEnd 1 _) h.l1 h.l2 h.l3
theorem ScBlk.setMom (h:ScBlk w b bP s lv) (x:Int):ScBlk (w.setCell ⟨b,55,none⟩ (.int .i64 x)) b bP { s with moment:=x } lv:=h.put 55 _ (h.setEnd 2 _) h.l1 h.l2 h.l3
theorem blk_setCells {b:Nat} {T:TypeId}:∀(vs O P Y:List Value) (w:World),w.heap[b]?=some (.cells (P++(O++Y)).toArray T (0,0))->O.length=vs.length->(w.setCells b P.length vs).heap[b]?=some (.cells (P++(vs++Y)).toArray T (0,0))/\Chg (λk=>k=b) w (w.setCells b P.length vs)
 | [],O,P,Y,w,h,hl=>by
  obtain rfl:O=[]:=List.length_eq_zero_iff.1 hl
  exact⟨h,Chg.refl _ _⟩
 | v::vs,[],P,Y,w,h,hl=>by simp at hl
 | v::vs,o::O,P,Y,w,h,hl=>by
  have h1:(w.setCell ⟨b,P.length,none⟩ v).heap[b]?=some (.cells ((P++[v])++(O++Y)).toArray T (0,0)):=by
   rw [blk_set h]
   simp [List.set_append_right]
  obtain⟨h2,h3⟩:=blk_setCells vs O (P++[v]) Y _ h1 (by simpa using hl)
  have e:(P++[v]).length=P.length+1:=by simp
  rw [e] at h2 h3
  refine⟨?_,((Chg.refl (λk=>k=b) w).setCell (p:=⟨b,P.length,none⟩) (.inl rfl) v).trans h3⟩
  have e2:P++[v]++(vs++Y)=P++(v::vs++Y):=by simp
  rw [<-e2];exact h2
theorem ScBlk.setOld (h:ScBlk w b bP s lv) (l:List Nat) (hl:l.length=16):ScBlk (w.setCells b 4 (l.map u64V)) b bP { s with old:=l } lv/\Chg (λk=>k=b) w (w.setCells b 4 (l.map u64V)):=by
 obtain⟨h1,h2⟩:=blk_setCells (l.map u64V) (s.old.map u64V) [.pointer (some ⟨bP,0,none⟩),.int .i64 (s.pc:Int),.int .i64 (s.at_:Int),.int .i64 (s.rounds:Int)] _ w h.blk (by simp [h.l1,hl])
 exact⟨⟨h1,hl,h.l2,h.l3⟩,h2⟩
theorem ScBlk.thereOld (h:ScBlk w b bP s lv):w.there b 4 16:=λj hj=>⟨by rw [h.old hj];rfl,h.frozen _⟩
end
theorem eqItems_u64 (w:World) (d:Nat) {l m:List Nat} (hl:l.length=16) (hm:m.length=16):∀ is:List Nat,(∀ i,i∈is->i<16)->(Op.eqItems (d+1) 40 1 (l.map u64V).toArray (m.map u64V).toArray is).run Try.prog w=.ok (is.all λi=>decide (l.getD i 0=m.getD i 0)) w
 | [],_=>rfl
 | i::is,h=>by
  have hi:=h i (List.mem_cons_self ..)
  have e1:(l.map u64V).toArray[i]?=some (.int .u64 ((l.getD i 0:Nat):Int)):=by
   simp [u64V,List.getD_eq_getElem?_getD,show i<l.length by omega]
  have e2:(m.map u64V).toArray[i]?=some (.int .u64 ((m.getD i 0:Nat):Int)):=by
   simp [u64V,List.getD_eq_getElem?_getD,show i<m.length by omega]
  have p1:=run_part_plain (P:=Try.prog) w (e:=40) (by kernel_rfl) e1
  have p2:=run_part_plain (P:=Try.prog) w (e:=40) (by kernel_rfl) e2
  have p3:=run_equalIn_int (P:=Try.prog) w d 40 .u64 .u64 ((l.getD i 0:Nat):Int) ((m.getD i 0:Nat):Int) (by kernel_rfl)
  simp only [Op.eqItems,Nat.mul_one,Sem.run_bind,p1,p2,p3,Result.andThen_ok]
  by_cases he:l.getD i 0=m.getD i 0
  ·have:(((l.getD i 0:Nat):Int) ==((m.getD i 0:Nat):Int))=true:=by rw [beq_iff_eq];omega
   rw [this]
   simp only [Bool.not_true,Bool.false_eq_true,if_false]
   rw [eqItems_u64 w d hl hm is (λx hx=>h x (List.mem_cons_of_mem _ hx)),List.all_cons,decide_eq_true he,Bool.true_and]
  ·have:(((l.getD i 0:Nat):Int) ==((m.getD i 0:Nat):Int))=false:=by rw [beq_eq_false_iff_ne];omega
   rw [this,List.all_cons,decide_eq_false he]
   simp
theorem eql_cells (w:World) {l m:List Nat} (hl:l.length=16) (hm:m.length=16):(Op.equal 226 (.agg (l.map u64V).toArray) (.agg (m.map u64V).toArray)).run Try.prog w=.ok (decide (l=m)) w:=by
 obtain⟨i0,hi0,_⟩:=info_parts uint64_info0
 have e:=run_equalIn_array (P:=Try.prog) w 9999 (t:=226) (e:=40) (n:=16) (l.map u64V).toArray (m.map u64V).toArray (by kernel_rfl) hi0
 have hc:Try.prog.cellsOf 40=1:=by kernel_rfl
 rw [hc] at e
 show(Op.equalIn 10000 _ _ _).run _ w=_
 rw [e,eqItems_u64 w 9998 hl hm _ (λi hi=>List.mem_range.1 hi)]
 congr 1
 by_cases he:l=m
 ·subst he;simp
 ·rw [decide_eq_false he,List.all_eq_false]
  by_cases hx:∃ i,i<16/\l.getD i 0≠m.getD i 0
  ·obtain⟨i,h1,h2⟩:=hx
   exact⟨i,List.mem_range.2 h1,by simpa using h2⟩
  ·exfalso
   apply he
   apply List.ext_getElem
   ·omega
   ·intro i i1 i2
    have h3:l.getD i 0=m.getD i 0:=by
     by_cases e:l.getD i 0=m.getD i 0
     ·exact e
     ·exact absurd ⟨i,by omega,e⟩ hx
    rw [List.getD_eq_getElem?_getD,List.getElem?_eq_getElem i1,List.getD_eq_getElem?_getD,List.getElem?_eq_getElem i2] at h3
    exact h3
end Go.Proofs.Ytlepjmnhekeofaa
