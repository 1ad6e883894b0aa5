/- Layer 15: a scan as it lies: a block of 56 cells; arrays that are alike. -/
import Derived.Test.YtlepjmnhekeofaaW21
import Derived.ChangeKeysEq
import Derived.Deep.MidRow
import Derived.Deep.AppendLies
set_option maxRecDepth 100000
set_option linter.unusedVariables false
set_option linter.unusedSimpArgs false
set_option linter.unnecessarySimpa false
namespace Go.Proofs.Ytlepjmnhekeofaa
open List renaming getElem_toArray → zq1, getElem_cons_zero → zq2, getElem_cons_succ → zq3, setIfInBounds_toArray → zq4, set_cons_zero → zq5, set_cons_succ → zq6
section
open Go.RowKit
def scanL (bP:Nat) (s:ScD) (lv:Value):List Value:=
 .pointer (some ⟨bP,0,none⟩)::.int .i64 (s.pc:Int)::.int .i64 (s.at_:Int)::.int .i64 (s.rounds:Int)::(s.old.map u64V++(s.now.map u64V++(.int .i64 (s.last:Int)::(s.diff.map Value.bool++[.int .u64 (s.from_:Int),lv,.int .i64 s.moment]))))
theorem app16_get {X Y:List Value} (h:X.length=16) (j:Nat):(X++Y)[16+j]?=Y[j]?:=by
 rw [List.getElem?_append_right (by omega)]
 congr 1;omega
theorem app16_set {X Y:List Value} (h:X.length=16) (j:Nat) (v:Value):(X++Y).set (16+j) v=X++Y.set j v:=by
 rw [List.set_append_right _ _ (by omega)]
 congr 2;omega
structure ScBlk (w:World) (b bP:Nat) (s:ScD) (lv:Value):Prop where
 blk:w.heap[b]?=some (.cells (scanL bP s lv).toArray 229 (0,0))
 l1:s.old.length=16
 l2:s.now.length=16
 l3:s.diff.length=16
section
variable {w w':World} {b bP:Nat} {s:ScD} {lv:Value}
theorem ScBlk.chg {S:Nat->Prop} (h:ScBlk w b bP s lv) (hc:Chg S w w') (hn:¬ S b):ScBlk w' b bP s lv:=⟨(hc.block _ (blk_lt h.blk) hn).trans h.blk,h.l1,h.l2,h.l3⟩
theorem ScBlk.get (h:ScBlk w b bP s lv) (i:Nat):w.cell? ⟨b,i,none⟩=(scanL bP s lv)[i]?:=by rw [cell_blk h.blk];simp
theorem ScBlk.lt (h:ScBlk w b bP s lv):b<w.heap.size:=blk_lt h.blk
theorem ScBlk.frozen (h:ScBlk w b bP s lv) (i:Nat):w.frozen? ⟨b,i,none⟩=false:=frozen_blk h.blk i
theorem ScBlk.ptr (h:ScBlk w b bP s lv):w.cell? ⟨b,0,none⟩=some (.pointer (some ⟨bP,0,none⟩)):=h.get 0
theorem ScBlk.pc (h:ScBlk w b bP s lv):w.cell? ⟨b,1,none⟩=some (.int .i64 (s.pc:Int)):=h.get 1
theorem ScBlk.at_ (h:ScBlk w b bP s lv):w.cell? ⟨b,2,none⟩=some (.int .i64 (s.at_:Int)):=h.get 2
theorem ScBlk.rounds (h:ScBlk w b bP s lv):w.cell? ⟨b,3,none⟩=some (.int .i64 (s.rounds:Int)):=h.get 3
theorem scan_old (h1:s.old.length=16) {t:Nat} (ht:t<16):(scanL bP s lv)[4+t]?=some (.int .u64 ((s.old.getD t 0:Nat):Int)):=by
 rw [show 4+t=t+1+1+1+1 by omega]
 show(s.old.map u64V++_)[t]?=_
 rw [List.getElem?_append_left (by simpa [h1] using ht)]
 simp [u64V,List.getD_eq_getElem?_getD,show t<s.old.length by omega]
theorem scan_now (h1:s.old.length=16) (h2:s.now.length=16) {t:Nat} (ht:t<16):(scanL bP s lv)[20+t]?=some (.int .u64 ((s.now.getD t 0:Nat):Int)):=by
 rw [show 20+t=(16+t)+1+1+1+1 by omega]
 show(s.old.map u64V++_)[16+t]?=_
 rw [app16_get (by simpa using h1),List.getElem?_append_left (by simpa [h2] using ht)]
 simp [u64V,List.getD_eq_getElem?_getD,show t<s.now.length by omega]
theorem scan_tail (h1:s.old.length=16) (h2:s.now.length=16) (j:Nat):(scanL bP s lv)[36+j]?=(Value.int .i64 (s.last:Int)::(s.diff.map Value.bool++[.int .u64 (s.from_:Int),lv,.int .i64 s.moment]))[j]?:=by
 rw [show 36+j=(16+(16+j))+1+1+1+1 by omega]
 show(s.old.map u64V++_)[16+(16+j)]?=_
 rw [app16_get (by simpa using h1),app16_get (by simpa using h2)]
theorem ScBlk.old (h:ScBlk w b bP s lv) {t:Nat} (ht:t<16):w.cell? ⟨b,4+t,none⟩=some (.int .u64 ((s.old.getD t 0:Nat):Int)):=(h.get _).trans (scan_old h.l1 ht)
theorem ScBlk.now (h:ScBlk w b bP s lv) {t:Nat} (ht:t<16):w.cell? ⟨b,20+t,none⟩=some (.int .u64 ((s.now.getD t 0:Nat):Int)):=(h.get _).trans (scan_now h.l1 h.l2 ht)
theorem ScBlk.last (h:ScBlk w b bP s lv):w.cell? ⟨b,36,none⟩=some (.int .i64 (s.last:Int)):=(h.get 36).trans (scan_tail h.l1 h.l2 0)
theorem ScBlk.diff (h:ScBlk w b bP s lv) {t:Nat} (ht:t<16):w.cell? ⟨b,37+t,none⟩=some (.bool (s.diff.getD t false)):=by
 rw [show 37+t=36+(t+1) by omega]
 refine(h.get _).trans ((scan_tail h.l1 h.l2 (t+1)).trans ?_)
 show(s.diff.map Value.bool++_)[t]?=_
 have h3:=h.l3
 rw [List.getElem?_append_left (by simpa [h3] using ht)]
 simp [List.getD_eq_getElem?_getD,show t<s.diff.length by omega]
theorem scan_end (h1:s.old.length=16) (h2:s.now.length=16) (h3:s.diff.length=16) (j:Nat):(scanL bP s lv)[53+j]?=[Value.int .u64 (s.from_:Int),lv,.int .i64 s.moment][j]?:=by
 rw [show 53+j=36+((16+j)+1) by omega,scan_tail h1 h2]
 show(s.diff.map Value.bool++_)[16+j]?=_
 rw [app16_get (by simpa using h3)]
theorem ScBlk.from_ (h:ScBlk w b bP s lv):w.cell? ⟨b,53,none⟩=some (.int .u64 (s.from_:Int)):=(h.get 53).trans (scan_end h.l1 h.l2 h.l3 0)
theorem ScBlk.list (h:ScBlk w b bP s lv):w.cell? ⟨b,54,none⟩=some lv:=(h.get 54).trans (scan_end h.l1 h.l2 h.l3 1)
theorem ScBlk.mom (h:ScBlk w b bP s lv):w.cell? ⟨b,55,none⟩=some (.int .i64 s.moment):=(h.get 55).trans (scan_end h.l1 h.l2 h.l3 2)
theorem ScBlk.rOld (h:ScBlk w b bP s lv):w.rangeAt b 4 (s.old.map u64V):=λj v hv=>by
 have hj:j<s.old.length:=by
  rcases Nat.lt_or_ge j s.old.length with h9|h9
  ·exact h9
  ·rw [List.getElem?_eq_none (by simpa using h9)] at hv;cases hv
 rw [h.old (by have:=h.l1;omega),<-hv]
 simp [u64V,List.getD_eq_getElem?_getD,hj]
theorem ScBlk.rNow (h:ScBlk w b bP s lv):w.rangeAt b 20 (s.now.map u64V):=λj v hv=>by
 have hj:j<s.now.length:=by
  rcases Nat.lt_or_ge j s.now.length with h9|h9
  ·exact h9
  ·rw [List.getElem?_eq_none (by simpa using h9)] at hv;cases hv
 rw [h.now (by have:=h.l2;omega),<-hv]
 simp [u64V,List.getD_eq_getElem?_getD,hj]
theorem ScBlk.put (h:ScBlk w b bP s lv) (i:Nat) (v:Value) {s':ScD} {lv':Value} (e:(scanL bP s lv).set i v=scanL bP s' lv') (h1:s'.old.length=16) (h2:s'.now.length=16) (h3:s'.diff.length=16):ScBlk (w.setCell ⟨b,i,none⟩ v) b bP s' lv':=by
 refine⟨?_,h1,h2,h3⟩
 rw [blk_set h.blk,<-e];simp
theorem ScBlk.setPc (h:ScBlk w b bP s lv) (x:Nat):ScBlk (w.setCell ⟨b,1,none⟩ (.int .i64 (x:Int))) b bP { s with pc:=x } lv:=h.put 1 _ rfl h.l1 h.l2 h.l3
theorem ScBlk.setAt (h:ScBlk w b bP s lv) (x:Nat):ScBlk (w.setCell ⟨b,2,none⟩ (.int .i64 (x:Int))) b bP { s with at_:=x } lv:=h.put 2 _ rfl h.l1 h.l2 h.l3
theorem ScBlk.setRounds (h:ScBlk w b bP s lv) (x:Nat):ScBlk (w.setCell ⟨b,3,none⟩ (.int .i64 (x:Int))) b bP { s with rounds:=x } lv:=h.put 3 _ rfl h.l1 h.l2 h.l3
theorem ScBlk.setNow (h:ScBlk w b bP s lv) {t:Nat} (ht:t<16) (x:Nat):ScBlk (w.setCell ⟨b,20+t,none⟩ (.int .u64 (x:Int))) b bP { s with now:=s.now.set t x } lv:=by
 refine h.put (20+t) _ ?_ h.l1 (by simpa using h.l2) h.l3
 rw [show 20+t=(16+t)+1+1+1+1 by omega]
 unfold scanL
 simp only [zq6]
 rw [app16_set (by simpa using h.l1),List.set_append_left _ _ (by simpa [h.l2] using ht),List.map_set];rfl
theorem ScBlk.setTail (h:ScBlk w b bP s lv) (j:Nat) (v:Value):(scanL bP s lv).set (36+j) v=.pointer (some ⟨bP,0,none⟩)::.int .i64 (s.pc:Int)::.int .i64 (s.at_:Int)::.int .i64 (s.rounds:Int)::(s.old.map u64V++(s.now.map u64V++((Value.int .i64 (s.last:Int)::(s.diff.map Value.bool++[.int .u64 (s.from_:Int),lv,.int .i64 s.moment])).set j v))):=by
 rw [show 36+j=(16+(16+j))+1+1+1+1 by omega]
 unfold scanL
 simp only [zq6]
 rw [app16_set (by simpa using h.l1),app16_set (by simpa using h.l2)]
theorem ScBlk.setLast (h:ScBlk w b bP s lv) (x:Nat):ScBlk (w.setCell ⟨b,36,none⟩ (.int .i64 (x:Int))) b bP { s with last:=x } lv:=h.put 36 _ (h.setTail 0 _) h.l1 h.l2 h.l3
theorem ScBlk.setDiff (h:ScBlk w b bP s lv) {t:Nat} (ht:t<16) (x:Bool):ScBlk (w.setCell ⟨b,37+t,none⟩ (.bool x)) b bP { s with diff:=s.diff.set t x } lv:=by
 refine h.put (37+t) _ ?_ h.l1 h.l2 (by simpa using h.l3)
 rw [show 37+t=36+(t+1) by omega,h.setTail,zq6,List.set_append_left _ _ (by simpa [h.l3] using ht)]
 unfold scanL
 rw [List.map_set]
theorem ScBlk.setEnd (h:ScBlk w b bP s lv) (j:Nat) (v:Value):(scanL bP s lv).set (53+j) v=.pointer (some ⟨bP,0,none⟩)::.int .i64 (s.pc:Int)::.int .i64 (s.at_:Int)::.int .i64 (s.rounds:Int)::(s.old.map u64V++(s.now.map u64V++(Value.int .i64 (s.last:Int)::(s.diff.map Value.bool++[.int .u64 (s.from_:Int),lv,.int .i64 s.moment].set j v)))):=by
 rw [show 53+j=36+((16+j)+1) by omega,h.setTail,zq6,app16_set (by simpa using h.l3)]
theorem ScBlk.setFrom (h:ScBlk w b bP s lv) (x:Nat):ScBlk (w.setCell ⟨b,53,none⟩ (.int .u64 (x:Int))) b bP { s with from_:=x } lv:=h.put 53 _ (h.setEnd 0 _) h.l1 h.l2 h.l3
theorem ScBlk.setList (h:ScBlk w b bP s lv) (l:List Nat) (v:Value):ScBlk (w.setCell ⟨b,54,none⟩ v) b bP { s with list:=l } v:=h.put 54 _ (h.setEnd 1 _) h.l1 h.l2 h.l3
theorem ScBlk.setMom (h:ScBlk w b bP s lv) (x:Int):ScBlk (w.setCell ⟨b,55,none⟩ (.int .i64 x)) b bP { s with moment:=x } lv:=h.put 55 _ (h.setEnd 2 _) h.l1 h.l2 h.l3
theorem blk_setCells {b:Nat} {T:TypeId}:∀(vs O P Y:List Value) (w:World),w.heap[b]?=some (.cells (P++(O++Y)).toArray T (0,0))->O.length=vs.length->(w.setCells b P.length vs).heap[b]?=some (.cells (P++(vs++Y)).toArray T (0,0))/\Chg (λk=>k=b) w (w.setCells b P.length vs)
 | [],O,P,Y,w,h,hl=>by
  obtain rfl:O=[]:=List.length_eq_zero_iff.1 hl
  exact⟨h,Chg.refl _ _⟩
 | v::vs,[],P,Y,w,h,hl=>by simp at hl
 | v::vs,o::O,P,Y,w,h,hl=>by
  have h1:(w.setCell ⟨b,P.length,none⟩ v).heap[b]?=some (.cells ((P++[v])++(O++Y)).toArray T (0,0)):=by
   rw [blk_set h]
   simp [List.set_append_right]
  obtain⟨h2,h3⟩:=blk_setCells vs O (P++[v]) Y _ h1 (by simpa using hl)
  have e:(P++[v]).length=P.length+1:=by simp
  rw [e] at h2 h3
  refine⟨?_,((Chg.refl (λk=>k=b) w).setCell (p:=⟨b,P.length,none⟩) (.inl rfl) v).trans h3⟩
  have e2:P++[v]++(vs++Y)=P++(v::vs++Y):=by simp
  rw [<-e2];exact h2
theorem ScBlk.setOld (h:ScBlk w b bP s lv) (l:List Nat) (hl:l.length=16):ScBlk (w.setCells b 4 (l.map u64V)) b bP { s with old:=l } lv/\Chg (λk=>k=b) w (w.setCells b 4 (l.map u64V)):=by
 obtain⟨h1,h2⟩:=blk_setCells (l.map u64V) (s.old.map u64V) [.pointer (some ⟨bP,0,none⟩),.int .i64 (s.pc:Int),.int .i64 (s.at_:Int),.int .i64 (s.rounds:Int)] _ w h.blk (by simp [h.l1,hl])
 exact⟨⟨h1,hl,h.l2,h.l3⟩,h2⟩
theorem ScBlk.thereOld (h:ScBlk w b bP s lv):w.there b 4 16:=λj hj=>⟨by rw [h.old hj];rfl,h.frozen _⟩
end
theorem eqItems_u64 (w:World) (d:Nat) {l m:List Nat} (hl:l.length=16) (hm:m.length=16):∀ is:List Nat,(∀ i,i∈is->i<16)->(Op.eqItems (d+1) 40 1 (l.map u64V).toArray (m.map u64V).toArray is).run Try.prog w=.ok (is.all λi=>decide (l.getD i 0=m.getD i 0)) w
 | [],_=>rfl
 | i::is,h=>by
  have hi:=h i (List.mem_cons_self ..)
  have e1:(l.map u64V).toArray[i]?=some (.int .u64 ((l.getD i 0:Nat):Int)):=by
   simp [u64V,List.getD_eq_getElem?_getD,show i<l.length by omega]
  have e2:(m.map u64V).toArray[i]?=some (.int .u64 ((m.getD i 0:Nat):Int)):=by
   simp [u64V,List.getD_eq_getElem?_getD,show i<m.length by omega]
  have p1:=run_part_plain (P:=Try.prog) w (e:=40) (by kernel_rfl) e1
  have p2:=run_part_plain (P:=Try.prog) w (e:=40) (by kernel_rfl) e2
  have p3:=run_equalIn_int (P:=Try.prog) w d 40 .u64 .u64 ((l.getD i 0:Nat):Int) ((m.getD i 0:Nat):Int) (by kernel_rfl)
  simp only [Op.eqItems,Nat.mul_one,Sem.run_bind,p1,p2,p3,Result.andThen_ok]
  by_cases he:l.getD i 0=m.getD i 0
  ·have:(((l.getD i 0:Nat):Int) ==((m.getD i 0:Nat):Int))=true:=by rw [beq_iff_eq];omega
   rw [this]
   simp only [Bool.not_true,Bool.false_eq_true,if_false]
   rw [eqItems_u64 w d hl hm is (λx hx=>h x (List.mem_cons_of_mem _ hx)),List.all_cons,decide_eq_true he,Bool.true_and]
  ·have:(((l.getD i 0:Nat):Int) ==((m.getD i 0:Nat):Int))=false:=by rw [beq_eq_false_iff_ne];omega
   rw [this,List.all_cons,decide_eq_false he]
   simp
theorem eql_cells (w:World) {l m:List Nat} (hl:l.length=16) (hm:m.length=16):(Op.equal 226 (.agg (l.map u64V).toArray) (.agg (m.map u64V).toArray)).run Try.prog w=.ok (decide (l=m)) w:=by
 obtain⟨i0,hi0,_⟩:=info_parts uint64_info0
 have e:=run_equalIn_array (P:=Try.prog) w 9999 (t:=226) (e:=40) (n:=16) (l.map u64V).toArray (m.map u64V).toArray (by kernel_rfl) hi0
 have hc:Try.prog.cellsOf 40=1:=by kernel_rfl
 rw [hc] at e
 show(Op.equalIn 10000 _ _ _).run _ w=_
 rw [e,eqItems_u64 w 9998 hl hm _ (λi hi=>List.mem_range.1 hi)]
 congr 1
 by_cases he:l=m
 ·subst he;simp
 ·rw [decide_eq_false he,List.all_eq_false]
  by_cases hx:∃ i,i<16/\l.getD i 0≠m.getD i 0
  ·obtain⟨i,h1,h2⟩:=hx
   exact⟨i,List.mem_range.2 h1,by simpa using h2⟩
  ·exfalso
   apply he
   apply List.ext_getElem
   ·omega
   ·intro i i1 i2
    have h3:l.getD i 0=m.getD i 0:=by
     by_cases e:l.getD i 0=m.getD i 0
     ·exact e
     ·exact absurd ⟨i,by omega,e⟩ hx
    rw [List.getD_eq_getElem?_getD,List.getElem?_eq_getElem i1,List.getD_eq_getElem?_getD,List.getElem?_eq_getElem i2] at h3
    exact h3
end
section

/- Layer 15: a scan's parts: to pass values that are 0. -/
open Go.RowKit
theorem scPass_fuel (n:Nat):∀(m:Nat) (s:ScD),s.at_<=n->n<=s.at_+m->scPass n m s=scPass n (n - s.at_) s
 | 0,s,h1,h2=>by rw [show n - s.at_=0 by omega]
 | m+1,s,h1,h2=>by
  by_cases hc:s.at_<n/\s.now.getD s.at_ 0=0
  ·rw [show n - s.at_=(n - (s.at_+1))+1 by omega]
   unfold scPass
   rw [if_pos hc,if_pos hc]
   exact scPass_fuel n m { s with list:=s.list++[0],at_:=s.at_+1 } (by show s.at_+1<=n;omega) (by show n<=s.at_+1+m;omega)
  ·have e1:scPass n (m+1) s={ s with pc:=if s.at_=n then 3 else s.pc }:=by unfold scPass;rw [if_neg hc]
   rw [e1]
   cases hk:n - s.at_ with
   | zero=>rfl
   | succ k=>unfold scPass;rw [if_neg hc]
def snapL (n k:Nat) (o:List Nat):List Value:=.int .i64 0::.int .i64 (n:Int)::.int .i64 (k:Int)::o.map natV
structure ScRow (w wr:World) (b bP:Nat) (lv:Value) (s:ScD) (lv':Value):Prop where
 blk:ScBlk wr b bP s lv'
 row:wr.ownsRow 0 40 1 lv' s.list.length (s.list.map u64V)
 chg:Chg (λk=>k=b∨lv.ownBlock=some k) w wr
 own:∀ g,lv'.ownBlock=some g->(lv.ownBlock=some g∨w.heap.size<=g)/\g≠b/\g<wr.heap.size
def scM (b n:Nat) (w:World):Nat:=match w.cell? ⟨b,2,none⟩ with|some (.int _ v)=>n - v.toNat|_=>0
def PassTo (w w':World) (b bP:Nat) (lv:Value) (s:ScD) (e:Ending):Prop:=e=.returned (.tuple #[])/\∃ lv',ScRow w w' b bP lv s lv'
theorem ScRow.lv {w wr:World} {b bP:Nat} {lv lv':Value} {s:ScD} (h:ScRow w wr b bP lv s lv'):∃ la lc,lv'=.slice la s.list.length lc:=by
 obtain⟨a,c,e⟩:=row_form h.row
 exact⟨a,c,e⟩
set_option maxHeartbeats 4000000 in
theorem sc_pass_w (n:Nat) (hn:n<=16) (w:World) (b bP:Nat) (s:ScD) (lv:Value) (hb:ScRow w w b bP lv s lv) (hne:bP≠b) (hP:w.cell? ⟨bP,1,none⟩=some (.int .i64 (n:Int))) (hlP:lv.ownBlock≠some bP) (hat:s.at_<=n) (hll:s.list.length<=16) (hla:s.list.length=s.at_) :
  Calls Try.prog 169 #[.pointer (some ⟨b,0,none⟩)] w λe w'=>PassTo w w' b bP lv (scPass n n s) e:=by
 have hF:=scPass_fuel n n s hat (by omega)
 have HB:=Lib.hid hb;have HF:=Lib.hid hF;have Hne:=Lib.hid hne;have HP:=Lib.hid hP;have HlP:=Lib.hid hlP;have Hat:=Lib.hid hat;have Hla:=Lib.hid hla
 have hni:(n:Int)<=16:=by omega
 obtain⟨k0,hk0,hu0,hu1,hu2⟩:=info_parts u64_info'
 clear hb hF hne hP hlP hat hla hll
 go_enter Try.func169,Try.ntmps169
 go_wp2
 go_loopw [] (λwr=>∃ s' lv',ScRow w wr b bP lv s' lv'/\scPass n (n - s'.at_) s'=scPass n n s/\s'.at_<=n/\s'.list.length=s'.at_) (λwr=>scM b n wr)
 case atStart=>exact⟨s,lv,HB.out,HF.out.symm,Hat.out,Hla.out⟩
 case round=>
  obtain⟨s',lv',hr,hp,ha,hl⟩:=hrel
  obtain⟨hbk,hrow,hch,hown⟩:=hr
  have e0:=hbk.ptr
  have e2:=hbk.at_
  have eP:wr.cell? ⟨bP,1,none⟩=some (.int .i64 (n:Int)):=box_keep hch (λh=>h.elim Hne.out HlP.out) HP.out
  obtain⟨a,haa⟩:∃ a,a=s'.at_:=⟨_,rfl⟩
  rw [<-haa] at e2
  have hmes:scM b n wr=n - a:=by unfold scM;rw [e2];rfl
  have HM:=Lib.hid hmes
  by_cases hlt:a<n
  ·have l1:(a:Int)<(n:Int):=by omega
   have l16:(a:Int)<16:=by omega
   have en:=hbk.now (t:=a) (by omega)
   obtain⟨x,hx⟩:∃ x,x=s'.now.getD a 0:=⟨_,rfl⟩
   rw [<-hx] at en
   by_cases hx0:x=0
   ·subst hx0
    have hstep:scPass n (n - s'.at_) s'=scPass n (n - (s'.at_+1)) { s' with list:=s'.list++[0],at_:=s'.at_+1 }:=by
     rw [show n - s'.at_=(n - (s'.at_+1))+1 by omega]
     show(if s'.at_<n/\s'.now.getD s'.at_ 0=0 then _ else _)=_
     rw [if_pos ⟨by omega,by rw [<-haa];exact hx.symm⟩]
    obtain⟨la,lc,rfl⟩:∃ la lc,lv'=.slice la a lc:=by
     obtain⟨la,lc,e⟩:=row_form hrow
     exact⟨la,lc,by rw [e,hl,haa]⟩
    have e9:=hbk.list
    have f2:=hbk.frozen 2
    have f54:=hbk.frozen 54
    obtain⟨xs,hxs⟩:∃ xs,xs=s'.list.map u64V:=⟨_,rfl⟩
    rw [hl,<-haa,<-hxs] at hrow
    have hbl:=hbk.lt
    have wa1:IntKind.i64.wrap ((a:Int)+1)=(a:Int)+1:=by rw [IntKind.wrap_i64];omega
    have Hbk:=Lib.hid hbk;have Hrow:=Lib.hid hrow;have Hch:=Lib.hid hch;have Hown:=Lib.hid hown;have Hp:=Lib.hid (hstep.symm.trans hp);have Haa:=Lib.hid haa;have Hl:=Lib.hid hl;have Hxs:=Lib.hid hxs
    have e3:((0:Int) == 0)=true:=rfl
    clear hbk hrow hch hown hp hstep hx haa hl hxs hmes
    go_wp2_with fail
    go_quiet (fail)
    obtain⟨wd,hwd⟩:∃ wd,wd=wr.drewN nq:=⟨_,rfl⟩
    rw [<-hwd]
    have hcd:Chg (λ_=>False) wr wd:=by rw [hwd];exact(Chg.refl _ _).drewN nq
    have hbd:=Hbk.out.chg hcd (λh=>h)
    have hrd:=row_chg Hrow.out hcd (λ_ _ h=>h)
    have d54:=hbd.list
    have d2:=hbd.at_
    rw [<-Haa.out] at d2
    have ldb:=hbd.lt
    have nlb:∀ g,(Value.slice la a lc).ownBlock=some g->g≠b:=λg hg=>(Hown.out g hg).2.1
    clear hwd e0 e2 eP en e9 f2 f54
    go_wp2_with (at_builtin;refine wpList_append_lies _ rfl (.tmp 30) (.tmp 31) 28 rfl 0 40 k0 (.int .u64 0) 1 8 Try.underlying28 hk0 hu0 hu1 hu2 rfl (by omega) (.slice la a lc) a xs rfl (hrd.alloc _) ⟨wd.heap.size,0,none⟩ 1 1 [.int .u64 0] rfl rfl (World.news_of_block (cs:=#[.int .u64 0]) (t:=40) (fr:=(0,0)) (heap_alloc_new wd _)) (by simp [Value.oneCell']) (by omega) (by unfold maxLen;(try dsimp only);omega) (by(try dsimp only);omega) (by simp) (wd.heap.size+1) (by simp) ?_;intro g8 cp8 w8 hown8 hgrow8 hat8 hlt8;have hbk8:=(hgrow8.block _ (by simp;omega) (λe=>nlb _ e.symm rfl)).trans ((((Gr.new wd _)).block _ ldb).trans hbd.blk);have hb8:ScBlk w8 b bP s' (.slice la a lc):=⟨hbk8,hbd.l1,hbd.l2,hbd.l3⟩;have t2:w8.cell? ⟨b,2,none⟩=some (.int .i64 (a:Int)):=(by rw [hb8.at_,<-Haa.out]);have t54:=hb8.list;have tf2:=hb8.frozen 2;have tf54:=hb8.frozen 54;have tlt:=hb8.lt)
    obtain⟨w10,hw10⟩:∃ w10,w10=(w8.setCell ⟨b,54,none⟩ (.slice (some ⟨g8,0,none⟩) (a+1) cp8)).setCell ⟨b,2,none⟩ (.int .i64 ((a:Int)+1)):=⟨_,rfl⟩
    rw [<-hw10]
    have hb10:ScBlk w10 b bP { s' with list:=s'.list++[0],at_:=s'.at_+1 } (.slice (some ⟨g8,0,none⟩) (a+1) cp8):=by
     have:=(hb8.setList (s'.list++[0]) (.slice (some ⟨g8,0,none⟩) (a+1) cp8)).setAt (a+1)
     rw [hw10,<-Haa.out];exact this
    have hc10:Chg (λk=>k=b) w8 w10:=by rw [hw10];exact((Chg.refl (λk=>k=b) w8).setCell (p:=⟨b,54,none⟩) (.inl rfl) _).setCell (p:=⟨b,2,none⟩) (.inl rfl) _
    have hgb:g8≠b:=by
     rcases hat8 with h|h
     ·exact nlb g8 h
     ·omega
    have hr10:=row_chg hown8 hc10 (λg hg e=>hgb (by cases hg;exact e))
    have hgr:Chg (λg=>(Value.slice la a lc).ownBlock=some g) wd w8:=((Chg.refl _ wd).alloc _).grown hgrow8 (λg hg=>.inl hg)
    have hres:ScRow w w10 b bP lv { s' with list:=s'.list++[0],at_:=s'.at_+1 } (.slice (some ⟨g8,0,none⟩) (a+1) cp8):=by
     have hlw:=Hch.out.size
     have hws:wr.heap.size<=wd.heap.size:=hcd.size
     refine⟨hb10,?_,?_,λg hg=>?_⟩
     ·have e1:(s'.list++[0]).length=a+1:=by rw [List.length_append,Hl.out,<-Haa.out];rfl
      show w10.ownsRow 0 40 1 _ (s'.list++[0]).length ((s'.list++[0]).map u64V)
      rw [e1,List.map_append,<-Hxs.out];exact hr10
     ·have h9:Chg (λk=>(k=b∨lv.ownBlock=some k)∨w.heap.size<=k) w w10:=(((Hch.out.mono (λ_ _ h=>.inl h)).trans (hcd.mono (λ_ _ h=>h.elim))).trans (hgr.mono (λg _ hg=>((Hown.out g hg).1).elim (λh=>.inl (.inr h)) (λh=>.inr h)))).trans (hc10.mono (λg _ e=>.inl (.inl e)))
      exact h9.mono (λg hg h=>h.elim id (λh=>absurd h (by omega)))
     ·cases hg
      refine⟨?_,hgb,Nat.lt_of_lt_of_le hlt8 hc10.size⟩
      rcases hat8 with h|h
      ·exact(Hown.out g8 h).1
      ·right;show w.heap.size<=g8;omega
    have HR:=Lib.hid hres
    have hm10:scM b n w10=n - (a+1):=by unfold scM;rw [hb10.at_,<-Haa.out];rfl
    have HM10:=Lib.hid hm10
    clear hres hm10 hb10 hc10 hr10 hgr hown8 hgrow8 hat8 hlt8 hbk8 hb8 t2 t54 tf2 tf54 tlt hcd hbd hrd d54 d2 ldb nlb hgb
    go_roundw
    case rel=>exact⟨_,_,HR.out,Hp.out,by have:=Haa.out;show s'.at_+1<=n;omega,by show(s'.list++[0]).length=s'.at_+1;rw [List.length_append,Hl.out];rfl⟩
    case measure=>rw [HM.out,HM10.out];omega
   ·have hstop:scPass n (n - s'.at_) s'=s':=by
     rw [show n - s'.at_=(n - (s'.at_+1))+1 by omega]
     show(if s'.at_<n/\s'.now.getD s'.at_ 0=0 then _ else { s' with pc:=if s'.at_=n then 3 else s'.pc })=_
     rw [if_neg (λh=>hx0 (by rw [hx,haa];exact h.2)),if_neg (by omega)]
    have HR:=Lib.hid (show PassTo w wr b bP lv (scPass n n s) (.returned (.tuple #[])) from⟨rfl,lv',by rw [<-hp,hstop];exact⟨hbk,hrow,hch,hown⟩⟩)
    have l2:¬ (a:Int)=(n:Int):=by omega
    have t1:((x:Int) == 0)=false:=by rw [beq_eq_false_iff_ne];omega
    have HD:=Lib.hid (λ(u:World) (hu:Chg (λ_=>False) wr u)=>show PassTo w u b bP lv (scPass n n s) (.returned (.tuple #[])) from⟨rfl,lv',by rw [<-hp,hstop];exact⟨hbk.chg hu (λh=>h),row_chg hrow hu (λ_ _ h=>h),hch.trans (hu.mono (λ_ _ h=>h.elim)),λg hg=>⟨(hown g hg).1,(hown g hg).2.1,Nat.lt_of_lt_of_le (hown g hg).2.2 hu.size⟩⟩⟩)
    clear HR hstop hp hbk hrow hch hown hx haa hx0 hl ha hmes
    go_wp2_with fail
    go_quiet (fail)
    have d0:(wr.drewN nq).cell? ⟨b,0,none⟩=some (.pointer (some ⟨bP,0,none⟩)):=e0
    have d2:(wr.drewN nq).cell? ⟨b,2,none⟩=some (.int .i64 (a:Int)):=e2
    have dP:(wr.drewN nq).cell? ⟨bP,1,none⟩=some (.int .i64 (n:Int)):=eP
    have hcd:Chg (λ_=>False) wr (wr.drewN nq):=(Chg.refl _ _).drewN nq
    obtain⟨wd,hwd⟩:∃ wd,wd=wr.drewN nq:=⟨_,rfl⟩
    rw [<-hwd] at d0 d2 dP hcd ⊢
    have Hcd:=Lib.hid hcd
    clear hwd e0 e2 eP en t1 hcd
    go_wp2_with fail
    rename_i nq0
    go_quiet (fail)
    go_wp2
    go_end0
    exact HD.out _ (Hcd.out.trans ((Chg.refl _ _).drewN _))
  ·have han:a=n:=by omega
   have hstop:scPass n (n - s'.at_) s'={ s' with pc:=3 }:=by
    rw [show n - s'.at_=0 by omega]
    show { s' with pc:=if s'.at_=n then 3 else s'.pc }=_
    rw [if_pos (by omega)]
   subst han
   have l1:¬ (a:Int)<(a:Int):=by omega
   have HD:=Lib.hid (λ(u:World) (hu:Chg (λ_=>False) wr u)=>show PassTo w (u.setCell ⟨b,1,none⟩ (.int .i64 3)) b bP lv (scPass a a s) (.returned (.tuple #[])) from⟨rfl,lv',by
    rw [<-hp,hstop]
    have hc1:Chg (λk=>k=b) u (u.setCell ⟨b,1,none⟩ (.int .i64 3)):=(Chg.refl (λk=>k=b) u).setCell (p:=⟨b,1,none⟩) (.inl rfl) _
    have hrow2:=row_chg (row_chg hrow hu (λ_ _ h=>h)) hc1 (λg hg e=>(hown g hg).2.1 e)
    exact⟨(hbk.chg hu (λh=>h)).setPc 3,hrow2,(hch.trans (hu.mono (λ_ _ h=>h.elim))).trans (hc1.mono (λ_ _ e=>.inl e)),λg hg=>⟨(hown g hg).1,(hown g hg).2.1,Nat.lt_of_lt_of_le (hown g hg).2.2 (Nat.le_trans hu.size hc1.size)⟩⟩⟩)
   have f1:=hbk.frozen 1
   have e1:=hbk.pc
   obtain⟨pc,hpc⟩:∃ pc,pc=s'.pc:=⟨_,rfl⟩
   rw [<-hpc] at e1
   clear hstop hp hbk hrow hch hown haa hl ha hmes hpc
   go_wp2_with fail
   go_quiet (fail)
   have d0:(wr.drewN nq).cell? ⟨b,0,none⟩=some (.pointer (some ⟨bP,0,none⟩)):=e0
   have d1:(wr.drewN nq).cell? ⟨b,1,none⟩=some (.int .i64 (pc:Int)):=e1
   have d2:(wr.drewN nq).cell? ⟨b,2,none⟩=some (.int .i64 (a:Int)):=e2
   have dP:(wr.drewN nq).cell? ⟨bP,1,none⟩=some (.int .i64 (a:Int)):=eP
   have df:(wr.drewN nq).frozen? ⟨b,1,none⟩=false:=f1
   have hcd:Chg (λ_=>False) wr (wr.drewN nq):=(Chg.refl _ _).drewN nq
   obtain⟨wd,hwd⟩:∃ wd,wd=wr.drewN nq:=⟨_,rfl⟩
   rw [<-hwd] at d0 d1 d2 dP df hcd ⊢
   have Hcd:=Lib.hid hcd
   clear hwd e0 e1 e2 eP f1 hcd
   go_wp2_with fail
   rename_i nq0
   go_quiet (fail)
   have g1:(wd.drewN nq).cell? ⟨b,1,none⟩=some (.int .i64 (pc:Int)):=d1
   have gf:(wd.drewN nq).frozen? ⟨b,1,none⟩=false:=df
   go_wp2
   go_end0
   exact HD.out _ (Hcd.out.trans ((Chg.refl _ _).drewN _))
end
end Go.Proofs.Ytlepjmnhekeofaa
