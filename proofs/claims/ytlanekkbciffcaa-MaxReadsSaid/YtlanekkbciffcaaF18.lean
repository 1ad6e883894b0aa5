/- Layer 10: a way down, as it lies: turn, look, set. -/
import Derived.Test.YtlanekkbciffcaaF17
import Derived.Deep.AppendLies
import Derived.Laws.BitsAllLaws
import Derived.WalkMore
set_option maxRecDepth 100000
set_option linter.unusedVariables false
set_option linter.unusedSimpArgs false
set_option linter.unnecessarySimpa false
namespace Go.Proofs.Ytlanekkbciffcaa
open List renaming getElem_toArray → zq1, getElem_cons_zero → zq2, getElem_cons_succ → zq3, setIfInBounds_toArray → zq4, set_cons_zero → zq5, set_cons_succ → zq6
open Go.RowKit
theorem row_tp {w:World} {B:Nat} {e:TypeId} {k n:Nat} {V:Value} {xs:List Value} (h:w.ownsRow B e k V n xs) {b:Nat} (hb:V.ownBlock=some b):∃ cs fz,w.heap[b]?=some (.cells cs e fz):=by
 obtain⟨_,h2⟩:=h
 rcases h2 with⟨rfl,_⟩|⟨g,cap,cur,rfl,_,hh,_⟩
 ·cases hb
 ·cases hb;exact⟨_,_,hh⟩
theorem row_nb {w:World} {B:Nat} {e T:TypeId} {k n b:Nat} {V:Value} {xs:List Value} {cs:Array Value} {fz:Nat×Nat} (h:w.ownsRow B e k V n xs) (hb:w.heap[b]?=some (.cells cs T fz)) (hT:T≠e):V.ownBlock≠some b:=λe9=>by
 obtain⟨cs',fz',h'⟩:=row_tp h e9
 rw [hb] at h'
 simp only [Option.some.injEq,Obj.cells.injEq] at h'
 exact hT h'.2.1
theorem turn_info:(Try.prog.info? 210).map (λi=>(i.zero,i.size,i.bytes))=some (some (.agg #[.int .i64 0,.bool false]),2,16):=by kernel_rfl
def wayL (b m p:Nat) (y:WayD) (tv:Value):List Value:=[.int .i64 (b:Int),.int .i64 (m:Int),.int .i64 (p:Int),.int .i64 (y.k:Int),.int .i64 (y.left:Int),tv,.int .i64 (y.last:Int)]
def turnCells (ts:List (Nat×Bool)):List Value:=ts.flatMap (λt=>[.int .i64 (t.1:Int),.bool t.2])
theorem turnCells_len:∀ ts,(turnCells ts).length=ts.length*2
 | []=>rfl
 | t::ts=>by
  show([(_:Value),_]++turnCells ts).length=_
  rw [List.length_append,turnCells_len ts,List.length_cons]
  show 2+ts.length*2=(ts.length+1)*2
  omega
theorem turnCells_snoc (ts:List (Nat×Bool)) (k:Nat) (r:Bool):turnCells (ts++[(k,r)])=turnCells ts++[.int .i64 (k:Int),.bool r]:=by simp [turnCells]
theorem turnCells_get:∀(ts:List (Nat×Bool)) (i:Nat),i<ts.length->(turnCells ts)[i*2]?=some (.int .i64 ((ts.getD i (0,false)).1:Int))/\(turnCells ts)[i*2+1]?=some (.bool (ts.getD i (0,false)).2)
 | [],i,h=>absurd h (Nat.not_lt_zero i)
 | t::ts,0,_=>⟨rfl,rfl⟩
 | t::ts,i+1,h=>by
  have:=turnCells_get ts i (by simpa using h)
  rw [show(i+1)*2=i*2+1+1 by omega]
  exact this
structure WayAt (w:World) (bm:Nat) (rest:List Value) (T:TypeId) (b m p:Nat) (y:WayD) (tv:Value):Prop where
 blk:w.heap[bm]?=some (.cells (wayL b m p y tv++rest).toArray T (0,0))
 row:w.ownsRow 0 210 2 tv y.turns.length (turnCells y.turns)
 typ:T≠210
def WayB (bm:Nat) (tv:Value) (k:Nat):Prop:=k=bm∨tv.ownBlock=some k
variable {w w':World} {bm:Nat} {rest:List Value} {T:TypeId} {b m p:Nat} {y:WayD} {tv:Value}
theorem WayAt.na (h:WayAt w bm rest T b m p y tv):tv.ownBlock≠some bm:=row_nb h.row h.blk h.typ
theorem WayAt.lt (h:WayAt w bm rest T b m p y tv):∀ k,WayB bm tv k->k<w.heap.size:=by
 intro k hk
 rcases hk with rfl|hk
 ·exact blk_lt h.blk
 ·obtain⟨_,hh⟩:=h.row
  rcases hh with⟨e,_⟩|⟨g9,cap9,cur9,e,hb9,hg9,_⟩
  ·rw [e] at hk;cases hk
  ·rw [e] at hk;cases hk;exact blk_lt hg9
theorem WayAt.chg {S:Nat->Prop} (h:WayAt w bm rest T b m p y tv) (hc:Chg S w w') (hS:∀ k,WayB bm tv k->¬ S k):WayAt w' bm rest T b m p y tv:=
 ⟨(hc.block _ (blk_lt h.blk) (hS _ (.inl rfl))).trans h.blk,row_chg h.row hc (λk hk=>hS _ (.inr hk)),h.typ⟩
theorem WayAt.grown (h:WayAt w bm rest T b m p y tv) (hb:Below w.heap.size w w'):WayAt w' bm rest T b m p y tv:=
 ⟨(hb.block _ (blk_lt h.blk)).trans h.blk,row_below h.row hb,h.typ⟩
theorem WayAt.turn_at (h:WayAt w bm rest T b m p y tv) (hl:y.turns.length<=1000):∃ ta tc,tv=.slice ta y.turns.length tc/\∀ i,i<y.turns.length->∃ g o,ta=some ⟨g,o,none⟩/\g<w.heap.size/\w.cell? ⟨g,o+i*2,none⟩=some (.int .i64 ((y.turns.getD i (0,false)).1:Int))/\w.cell? ⟨g,o+i*2+1,none⟩=some (.bool (y.turns.getD i (0,false)).2):=by
 obtain⟨ta,tc,rfl⟩:=row_form h.row
 refine⟨ta,tc,rfl,λi hi=>?_⟩
 obtain⟨a9,c9,e9,hsl,_⟩:=sl_of_rows h.row (by unfold maxLen;omega) (g:=λj f=>((turnCells y.turns)[j*2+f]?).getD undef) (λj hj f hf=>by
  have hlt:j*2+f<(turnCells y.turns).length:=by rw [turnCells_len];omega
  rw [List.getElem?_eq_getElem hlt];rfl)
 cases e9
 obtain⟨g,o,e,hg,hc⟩:=hsl.2 i hi
 have c0:=hc 0 (by omega)
 have c1:=hc 1 (by omega)
 obtain⟨t0,t1⟩:=turnCells_get y.turns i hi
 refine⟨g,o,e,hg,?_,?_⟩
 ·rw [Nat.add_zero] at c0;rw [c0];simp only [Nat.add_zero];rw [t0];rfl
 ·rw [<-Nat.add_assoc] at c1;rw [c1];simp only [];rw [t1];rfl
set_option maxHeartbeats 4000000 in
theorem way_turn (r:Bool) (h:WayAt w bm rest T b m p y tv) (hk:y.k<=100000) (hl:1<=y.left) (hl2:y.left<=1000) (hn:y.turns.length<=1000) :
  Calls Try.prog 126 #[.pointer (some ⟨bm,0,none⟩),.bool r] w λe w'=>e=.returned (.tuple #[])/\∃ tv',WayAt w' bm rest T b m p (y.turn r) tv'/\Chg (WayB bm tv) w w'/\∀ k,WayB bm tv' k->WayB bm tv k∨w.heap.size<=k:=by
 obtain⟨k0,hk0,hu0,hu1,hu2⟩:=info_parts turn_info
 obtain⟨ta,tc,rfl⟩:=row_form h.row
 have hb:=h.blk
 have lb:=blk_lt hb
 have na:=h.na
 have Hrow:=Lib.hid h.row
 have Hb:=Lib.hid hb
 obtain⟨K,hK⟩:∃ K,K=y.k:=⟨_,rfl⟩
 obtain⟨L,hL⟩:∃ L,L=y.left - 1:=⟨_,rfl⟩
 obtain⟨n,hn9⟩:∃ n,n=y.turns.length:=⟨_,rfl⟩
 obtain⟨xs,hxs⟩:∃ xs,xs=turnCells y.turns:=⟨_,rfl⟩
 have hL1:(y.left:Int)=(L:Int)+1:=by omega
 have x3:w.cell? ⟨bm,3,none⟩=some (.int .i64 (K:Int)):=by rw [cell_blk hb,hK];rfl
 have x5:w.cell? ⟨bm,5,none⟩=some (.slice ta n tc):=by rw [cell_blk hb,hn9];rfl
 have f5:w.frozen? ⟨bm,5,none⟩=false:=frozen_blk hb _
 have fin:∀(g cap:Nat) (w1 w2:World),w1.ownsRow 0 210 2 (.slice (some ⟨g,0,none⟩) (n+1) cap) (n+1) (xs++[.int .i64 (K:Int),.bool r])->Chg (λq=>(Value.slice ta n tc).ownBlock=some q) w w1->((Value.slice ta n tc).ownBlock=some g∨w.heap.size<=g)->
   w2.heap[bm]?=some (.cells (wayL b m p (y.turn r) (.slice (some ⟨g,0,none⟩) (n+1) cap)++rest).toArray T (0,0))->Chg (λq=>q=bm) w1 w2->
   ∃ tv',WayAt w2 bm rest T b m p (y.turn r) tv'/\Chg (WayB bm (.slice ta y.turns.length tc)) w w2/\∀ k,WayB bm tv' k->WayB bm (.slice ta y.turns.length tc) k∨w.heap.size<=k:=by
  intro g cap w1 w2 ho hc1 hat hb2 hc2
  have e1:(y.turn r).turns.length=n+1:=by show(y.turns++[_]).length=_;rw [List.length_append,<-hn9];rfl
  have e2:turnCells (y.turn r).turns=xs++[.int .i64 (K:Int),.bool r]:=by show turnCells (y.turns++[(y.k,r)])=_;rw [turnCells_snoc,<-hxs,<-hK]
  have hgb:∀ q,(Value.slice (some ⟨g,0,none⟩) (n+1) cap).ownBlock=some q->q≠bm:=λq hq e=>by
   cases hq
   have e':g=bm:=e
   rcases hat with h9|h9
   ·exact na (by rw [<-hn9,h9,e'])
   ·omega
  refine⟨.slice (some ⟨g,0,none⟩) (n+1) cap,⟨hb2,by rw [e1,e2];exact row_chg ho hc2 (λq hq e=>hgb q hq e),h.typ⟩,(hc1.mono (λq _ hq=>.inr (by rw [<-hn9];exact hq))).trans (hc2.mono (λq _ hq=>.inl hq)),λk hk=>?_⟩
  rcases hk with rfl|hk
  ·exact .inl (.inl rfl)
  ·cases hk
   rcases hat with h9|h9
   ·exact .inl (.inr (by rw [<-hn9];exact h9))
   ·exact .inr h9
 have Fin:=Lib.hid fin
 rw [<-hn9] at na hn
 have Hrow2:=Lib.hid (show w.ownsRow 0 210 2 (.slice ta n tc) n xs from by rw [hn9,hxs];exact Hrow.out)
 have mid:∀(g cap:Nat) (w1:World),Chg (λq=>(Value.slice ta n tc).ownBlock=some q) w w1->(w1.setCell ⟨bm,5,none⟩ (.slice (some ⟨g,0,none⟩) (n+1) cap)).heap[bm]?=some (.cells (wayL b m p ⟨K,L+1,y.turns,y.last⟩ (.slice (some ⟨g,0,none⟩) (n+1) cap)++rest).toArray T (0,0)):=by
  intro g cap w1 hc1
  have h1:=(hc1.block bm lb (λe=>na e)).trans Hb.out
  have e9:y.left=L+1:=by omega
  rw [blk_set h1,hK,<-e9];rfl
 have Mid:=Lib.hid mid
 have hyt:∀ v,wayL b m p (y.turn r) v=[.int .i64 (b:Int),.int .i64 (m:Int),.int .i64 (p:Int),.int .i64 ((2*K+r.toNat:Nat):Int),.int .i64 (L:Int),v,.int .i64 (y.last:Int)]:=λv=>by rw [hK,hL];rfl
 have Hyt:=Lib.hid hyt
 have hKi:(K:Int)<=100000:=by omega
 have hLi:(L:Int)<=1000:=by omega
 have w2k:IntKind.i64.wrap ((K:Int)*2)=(K:Int)*2:=by rw [IntKind.wrap_i64];omega
 have w2k1:IntKind.i64.wrap ((K:Int)*2+1)=(K:Int)*2+1:=by rw [IntKind.wrap_i64];omega
 have wl:IntKind.i64.wrap ((L:Int)+1 - 1)=(L:Int):=by rw [IntKind.wrap_i64];omega
 clear h hb Hrow hK hL hn9 hxs hL1 fin mid hyt hk hl hl2
 go_enter Try.func126,Try.ntmps126
 go_wp2_with fail
 refine wp_region_L ((λu=>u.cell? ⟨bm,3,none⟩=some (.int .i64 (K:Int))/\u.cell? ⟨bm,5,none⟩=some (.slice ta n tc))) 15 (by kernel_rfl) ?hS0L1 ?_
 case hS0L1=>
  (exact⟨x3,x5⟩)
 intro hS hcl
 refine wpAnyL_take (i:=0) (v:=?tv0L1) 16 rfl (by kernel_rfl) (by kernel_rfl) (by kernel_rfl) (by kernel_rfl) (by kernel_rfl) hcl (by exact λ_ _ _ h=>h) (Or.inl ⟨by rfl,?th0L1⟩) hS ?tr0L1
 (case th0L1=>(intro w hSw;go_simp;with_reducible rfl))
 clear hcl;intro hcl
 (simp only [Act.put,zq1,zq2,zq3,zq4,zq5,zq6])
 refine wpAnyL_take (i:=1) (v:=?tv1L1) 16 rfl (by kernel_rfl) (by kernel_rfl) (by kernel_rfl) (by kernel_rfl) (by kernel_rfl) hcl (by exact λ_ _ _ h=>h) (Or.inl ⟨by rfl,?th1L1⟩) hS ?tr1L1
 (case th1L1=>(intro w hSw;go_simp;with_reducible rfl))
 clear hcl;intro hcl
 (simp only [Act.put,zq1,zq2,zq3,zq4,zq5,zq6])
 refine wpAnyL_take (i:=2) (v:=?tv2L1) 16 rfl (by kernel_rfl) (by kernel_rfl) (by kernel_rfl) (by kernel_rfl) (by kernel_rfl) hcl (by exact λ_ _ _ h=>h) (Or.inl ⟨by rfl,?th2L1⟩) hS ?tr2L1
 (case th2L1=>(intro w hSw;go_simp;with_reducible rfl))
 clear hcl;intro hcl
 (simp only [Act.put,zq1,zq2,zq3,zq4,zq5,zq6])
 refine wpAnyL_take (i:=3) (v:=?tv3L1) 16 rfl (by kernel_rfl) (by kernel_rfl) (by kernel_rfl) (by kernel_rfl) (by kernel_rfl) hcl (by exact λ_ _ _ h=>h) (Or.inl ⟨by rfl,?th3L1⟩) hS ?tr3L1
 (case th3L1=>(intro w hSw;go_simp;with_reducible rfl))
 clear hcl;intro hcl
 (simp only [Act.put,zq1,zq2,zq3,zq4,zq5,zq6])
 refine wpAnyL_take (i:=4) (v:=?tv4L1) 16 rfl (by kernel_rfl) (by kernel_rfl) (by kernel_rfl) (by kernel_rfl) (by kernel_rfl) hcl (by exact λ_ _ _ h=>h) (Or.inl ⟨by rfl,?th4L1⟩) hS ?tr4L1
 (case th4L1=>(intro w hSw;go_simp;with_reducible rfl))
 clear hcl;intro hcl
 (simp only [Act.put,zq1,zq2,zq3,zq4,zq5,zq6])
 refine wpAnyL_take (i:=5) (v:=?tv5L1) 16 rfl (by kernel_rfl) (by kernel_rfl) (by kernel_rfl) (by kernel_rfl) (by kernel_rfl) hcl (by exact λ_ _ _ h=>h) (Or.inl ⟨by rfl,?th5L1⟩) hS ?tr5L1
 (case th5L1=>(intro w hSw;go_simp;with_reducible rfl))
 clear hcl;intro hcl
 (simp only [Act.put,zq1,zq2,zq3,zq4,zq5,zq6])
 refine wpAnyL_take (i:=6) (v:=?tv6L1) 16 rfl (by kernel_rfl) (by kernel_rfl) (by kernel_rfl) (by kernel_rfl) (by kernel_rfl) hcl (by exact λ_ _ _ h=>h) (Or.inl ⟨by rfl,?th6L1⟩) hS ?tr6L1
 (case th6L1=>(intro w hSw;go_simp;with_reducible rfl))
 clear hcl;intro hcl
 (simp only [Act.put,zq1,zq2,zq3,zq4,zq5,zq6])
 refine wpAnyL_take (i:=7) (v:=?tv7L1) 16 rfl (by kernel_rfl) (by kernel_rfl) (by kernel_rfl) (by kernel_rfl) (by kernel_rfl) hcl (by exact λ_ _ _ h=>h) (Or.inl ⟨by rfl,?th7L1⟩) hS ?tr7L1
 (case th7L1=>(intro w hSw;go_simp;with_reducible rfl))
 clear hcl;intro hcl
 (simp only [Act.put,zq1,zq2,zq3,zq4,zq5,zq6])
 refine wpAnyL_take (i:=8) (v:=?tv8L1) 16 rfl (by kernel_rfl) (by kernel_rfl) (by kernel_rfl) (by kernel_rfl) (by kernel_rfl) hcl (by exact λ_ _ _ h=>h) (Or.inl ⟨by rfl,?th8L1⟩) hS ?tr8L1
 (case th8L1=>(intro w hSw;go_simp;with_reducible rfl))
 clear hcl;intro hcl
 (simp only [Act.put,zq1,zq2,zq3,zq4,zq5,zq6])
 refine wpAnyL_take (i:=9) (v:=?tv9L1) 16 rfl (by kernel_rfl) (by kernel_rfl) (by kernel_rfl) (by kernel_rfl) (by kernel_rfl) hcl (by exact λ_ _ _ h=>h) (Or.inl ⟨by rfl,?th9L1⟩) hS ?tr9L1
 (case th9L1=>(intro w hSw;go_simp;with_reducible rfl))
 clear hcl;intro hcl
 (simp only [Act.put,zq1,zq2,zq3,zq4,zq5,zq6])
 refine wpAnyL_take (i:=10) (v:=?tv10L1) 16 rfl (by kernel_rfl) (by kernel_rfl) (by kernel_rfl) (by kernel_rfl) (by kernel_rfl) hcl (by exact λ_ _ _ h=>h) (Or.inl ⟨by rfl,?th10L1⟩) hS ?tr10L1
 (case th10L1=>(intro w hSw;go_simp;with_reducible rfl))
 clear hcl;intro hcl
 (simp only [Act.put,zq1,zq2,zq3,zq4,zq5,zq6])
 refine wpAnyL_one (i:=11) (by kernel_rfl) rfl hcl (λK' hK=>?_)
 have HK:=Lib.hid hK;clear hK
 ((rw [if_pos (by kernel_rfl)]);(simp only [zq1,zq2,zq3]);go_big_op)
 refine HK.out _ _ ?hS11L1 (λhcl=>?_)
 case hS11L1=>
  intro _
  (exact⟨(((Gr.new w _).drew).cell lb).trans x3,(((Gr.new w _).drew).cell lb).trans x5⟩)
 clear HK
 refine wpAnyL_one (i:=12) (by kernel_rfl) rfl hcl (λK' hK=>?_)
 have HK:=Lib.hid hK;clear hK
 ((refine step_append_lies _ (by rfl) _ _ _ (by rfl) 0 210 k0 _ 2 16 Try.underlying200 hk0 hu0 hu1 hu2 rfl (by omega) _ _ _ (by rfl) ((Hrow2.out.alloc _).drew) ⟨w.heap.size,0,none⟩ 1 1 [.int .i64 (K:Int),.bool r] (by rfl) (by rfl) (World.news_of_block (cs:=#[.int .i64 (K:Int),.bool r]) (t:=210) (fr:=(0,0)) (heap_alloc_new w _)) (by simp [Value.oneCell']) (by omega) (by unfold maxLen;omega) (by skip;omega) (by simp) (w.heap.size+1) (by simp) ?_;intro g8 cp8 w8 hown8 hgrow8 hat8 hlt8;have z3:=((hgrow8.cell_far _ (by simp;omega) (Ne.symm na)).trans ((((Gr.new w _).drew).cell lb).trans x3));have z5:=((hgrow8.cell_far _ (by simp;omega) (Ne.symm na)).trans ((((Gr.new w _).drew).cell lb).trans x5));have zf:w8.frozen? ⟨bm,5,none⟩=false:=frozen_blk ((hgrow8.block _ (by simp;omega) (Ne.symm na)).trans ((((Gr.new w _).drew).block _ lb).trans Hb.out)) _))
 refine HK.out _ _ ?hS12L1 (λhcl=>?_)
 case hS12L1=>
  intro _
  (exact⟨z3,z5⟩)
 clear HK
 (simp only [Act.put,zq1,zq2,zq3,zq4,zq5,zq6])
 refine wpAnyL_one (i:=13) (by kernel_rfl) rfl hcl (λK' hK=>?_)
 have HK:=Lib.hid hK;clear hK
 ((rw [if_pos (by kernel_rfl)]);(simp only [zq1,zq2,zq3]);go_big_op)
 refine HK.out _ _ ?hS13L1 (λhcl=>?_)
 case hS13L1=>
  intro _
  (exact⟨z3,z5⟩)
 clear HK
 refine wpAnyL_one (i:=14) (by kernel_rfl) rfl hcl (λK' hK=>?_)
 have HK:=Lib.hid hK;clear hK
 ((rw [if_pos (by kernel_rfl)]);(simp only [zq1,zq2,zq3]);go_big_op)
 refine HK.out _ _ ?hS14L1 (λhcl=>?_)
 case hS14L1=>
  intro _
  (exact⟨z3,z5⟩)
 clear HK
 refine wpAnyL_one (i:=15) (by kernel_rfl) rfl hcl (λK' hK=>?_)
 have HK:=Lib.hid hK;clear hK
 ((rw [if_pos (by kernel_rfl)]);(simp only [zq1,zq2,zq3]);go_big_op)
 refine HK.out _ _ (λh=>by cases h.symm.trans (by kernel_rfl:_=true)) (λ_=>wpAnyL_done (by kernel_rfl) ?_ _)
 clear HK
 (clear hS)
 have hc8:Chg (λq=>(Value.slice ta n tc).ownBlock=some q) w w8:=(((Chg.refl _ w).alloc _).drew).grown hgrow8 (λq hq=>.inl hq)
 have hat9:(Value.slice ta n tc).ownBlock=some g8∨w.heap.size<=g8:=by
  rcases hat8 with h9|h9
  ·exact .inl h9
  ·exact .inr (by omega)
 have hb9:=Mid.out g8 cp8 w8 hc8
 obtain⟨w9,hw9⟩:∃ w9,w9=w8.setCell ⟨bm,5,none⟩ (.slice (some ⟨g8,0,none⟩) (n+1) cp8):=⟨_,rfl⟩
 have hc9:Chg (λq=>q=bm) w8 w9:=by rw [hw9];exact(Chg.refl (λq=>q=bm) w8).setCell (by exact .inl rfl) _
 rw [<-hw9] at hb9 ⊢
 have u3:w9.cell? ⟨bm,3,none⟩=some (.int .i64 (K:Int)):=by rw [cell_blk hb9];rfl
 have u4:w9.cell? ⟨bm,4,none⟩=some (.int .i64 ((L:Int)+1)):=by rw [cell_blk hb9];rfl
 have uf3:=frozen_blk hb9 3;have uf4:=frozen_blk hb9 4
 have Hb9:=Lib.hid hb9;have Hc9:=Lib.hid hc9;have Hc8:=Lib.hid hc8;have Hat:=Lib.hid hat9;have Hown:=Lib.hid hown8
 clear hc8 hat9 hb9 hw9 hc9 hown8 hgrow8 hat8 z3 z5 zf x3 x5 f5 na hlt8
 cases r with
 | true=>
  have F:=Lib.hid (Fin.out g8 cp8 w8 (((w9.setCell ⟨bm,3,none⟩ (.int .i64 ((K:Int)*2))).setCell ⟨bm,3,none⟩ (.int .i64 ((K:Int)*2+1))).setCell ⟨bm,4,none⟩ (.int .i64 (L:Int))) Hown.out Hc8.out Hat.out (by
   rw [Hyt.out,blk_set (blk_set (blk_set Hb9.out _ _) _ _),show((2*K+true.toNat:Nat):Int)=(K:Int)*2+1 by simp;omega];rfl) (((Hc9.out.setCell (by exact .inl rfl) _).setCell (by exact .inl rfl) _).setCell (by exact .inl rfl) _))
  clear Fin Hyt Hb9 Hc9 Hc8 Hat Hown
  go_wp2
  (go_end0)
  exact⟨rfl,F.out⟩
 | false=>
  have F:=Lib.hid (Fin.out g8 cp8 w8 ((w9.setCell ⟨bm,3,none⟩ (.int .i64 ((K:Int)*2))).setCell ⟨bm,4,none⟩ (.int .i64 (L:Int))) Hown.out Hc8.out Hat.out (by
   rw [Hyt.out,blk_set (blk_set Hb9.out _ _),show((2*K+false.toNat:Nat):Int)=(K:Int)*2 by simp;omega];rfl) ((Hc9.out.setCell (by exact .inl rfl) _).setCell (by exact .inl rfl) _))
  clear Fin Hyt Hb9 Hc9 Hc8 Hat Hown
  go_wp2
  (go_end0)
  exact⟨rfl,F.out⟩
theorem max_at (b m k:Nat) (hk:1<=k) (hb:b+k<=1000000) (w:World):Calls Try.prog 122 #[.agg #[.int .i64 (b:Int),.int .i64 (m:Int)],.int .i64 (k:Int)] w λe w'=>e=.returned (.int .i64 ((b+k - 1:Nat):Int))/\Below w.heap.size w w':=by
 obtain⟨a,ha⟩:∃ a,a=b+k - 1:=⟨_,rfl⟩
 rw [<-ha]
 have e:((b:Int)+(k:Int)) - 1=(a:Int):=by omega
 have w1:IntKind.i64.wrap ((b:Int)+(k:Int))=(b:Int)+(k:Int):=by rw [IntKind.wrap_i64];omega
 have w2:IntKind.i64.wrap ((b:Int)+(k:Int) - 1)=(a:Int):=by rw [IntKind.wrap_i64];omega
 clear ha hk hb e
 go_enter Try.func122,Try.ntmps122
 go_wp2
 go_ret
 exact⟨rfl,Gr.new _ _⟩
end Go.Proofs.Ytlanekkbciffcaa
