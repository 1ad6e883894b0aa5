/- Layer 10: a way down, as it lies: turn, look, set. -/
import Derived.Test.YtifhldnmcdbpfaaW19
import Derived.Deep.AppendLies
import Derived.Laws.BitsAllLaws
import Derived.WalkMore
set_option maxRecDepth 100000
set_option linter.unusedVariables false
set_option linter.unusedSimpArgs false
set_option linter.unnecessarySimpa false
namespace Go.Proofs.Ytifhldnmcdbpfaa
open List renaming getElem_toArray → zq1, getElem_cons_zero → zq2, getElem_cons_succ → zq3, setIfInBounds_toArray → zq4, set_cons_zero → zq5, set_cons_succ → zq6
open Go.RowKit
theorem NI {w:World} {B:Nat} {e:TypeId} {k n:Nat} {V:Value} {xs:List Value} (h:w.ownsRow B e k V n xs) {b:Nat} (hb:V.ownBlock=some b):∃ cs fz,w.heap[b]?=some (.cells cs e fz):=by
 obtain⟨_,h2⟩:=h
 rcases h2 with⟨rfl,_⟩|⟨g,cap,cur,rfl,_,hh,_⟩
 ·cases hb
 ·cases hb;exact⟨_,_,hh⟩
theorem vK {w:World} {B:Nat} {e T:TypeId} {k n b:Nat} {V:Value} {xs:List Value} {cs:Array Value} {fz:Nat×Nat} (h:w.ownsRow B e k V n xs) (hb:w.heap[b]?=some (.cells cs T fz)) (hT:T≠e):V.ownBlock≠some b:=λe9=>by
 obtain⟨cs',fz',h'⟩:=NI h e9
 rw [hb] at h'
 simp only [Option.some.injEq,Obj.cells.injEq] at h'
 exact hT h'.2.1
theorem FC:(Try.prog.info? 250).map (λi=>(i.zero,i.size,i.bytes))=some (some (.agg #[.int .i64 0,.bool false]),2,16):=by kernel_rfl
def jM (b m p:Nat) (y:dQ) (tv:Value):List Value:=[.int .i64 (b:Int),.int .i64 (m:Int),.int .i64 (p:Int),.int .i64 (y.k:Int),.int .i64 (y.left:Int),tv,.int .i64 (y.last:Int)]
def dX (ts:List (Nat×Bool)):List Value:=ts.flatMap (λt=>[.int .i64 (t.1:Int),.bool t.2])
theorem mG:∀ ts,(dX ts).length=ts.length*2
 | []=>rfl
 | t::ts=>by
  show([(_:Value),_]++dX ts).length=_
  rw [List.length_append,mG ts,List.length_cons]
  show 2+ts.length*2=(ts.length+1)*2
  omega
theorem tH (ts:List (Nat×Bool)) (k:Nat) (r:Bool):dX (ts++[(k,r)])=dX ts++[.int .i64 (k:Int),.bool r]:=by simp [dX]
theorem mE:∀(ts:List (Nat×Bool)) (i:Nat),i<ts.length->(dX ts)[i*2]?=some (.int .i64 ((ts.getD i (0,false)).1:Int))/\(dX ts)[i*2+1]?=some (.bool (ts.getD i (0,false)).2)
 | [],i,h=>absurd h (Nat.not_lt_zero i)
 | t::ts,0,_=>⟨rfl,rfl⟩
 | t::ts,i+1,h=>by
  have:=mE ts i (by simpa using h)
  rw [show(i+1)*2=i*2+1+1 by omega]
  exact this
structure bV (w:World) (bm:Nat) (rest:List Value) (T:TypeId) (b m p:Nat) (y:dQ) (tv:Value):Prop where
 blk:w.heap[bm]?=some (.cells (jM b m p y tv++rest).toArray T (0,0))
 row:w.ownsRow 0 250 2 tv y.turns.length (dX y.turns)
 typ:T≠250
def bC (bm:Nat) (tv:Value) (k:Nat):Prop:=k=bm∨tv.ownBlock=some k
variable {w w':World} {bm:Nat} {rest:List Value} {T:TypeId} {b m p:Nat} {y:dQ} {tv:Value}
theorem bV.na (h:bV w bm rest T b m p y tv):tv.ownBlock≠some bm:=vK h.row h.blk h.typ
theorem bV.lt (h:bV w bm rest T b m p y tv):∀ k,bC bm tv k->k<w.heap.size:=by
 intro k hk
 rcases hk with rfl|hk
 ·exact aC h.blk
 ·obtain⟨_,hh⟩:=h.row
  rcases hh with⟨e,_⟩|⟨g9,WX,VP,e,kQ,WB,_⟩
  ·rw [e] at hk;cases hk
  ·rw [e] at hk;cases hk;exact aC WB
theorem bV.chg {S:Nat->Prop} (h:bV w bm rest T b m p y tv) (hc:Chg S w w') (hS:∀ k,bC bm tv k->¬ S k):bV w' bm rest T b m p y tv:=
 ⟨(hc.block _ (aC h.blk) (hS _ (.inl rfl))).trans h.blk,iA h.row hc (λk hk=>hS _ (.inr hk)),h.typ⟩
theorem bV.grown (h:bV w bm rest T b m p y tv) (hb:Below w.heap.size w w'):bV w' bm rest T b m p y tv:=
 ⟨(hb.block _ (aC h.blk)).trans h.blk,oN h.row hb,h.typ⟩
theorem bV.turn_at (h:bV w bm rest T b m p y tv) (hl:y.turns.length<=1000):∃ ta tc,tv=.slice ta y.turns.length tc/\∀ i,i<y.turns.length->∃ g o,ta=some ⟨g,o,none⟩/\g<w.heap.size/\w.cell? ⟨g,o+i*2,none⟩=some (.int .i64 ((y.turns.getD i (0,false)).1:Int))/\w.cell? ⟨g,o+i*2+1,none⟩=some (.bool (y.turns.getD i (0,false)).2):=by
 obtain⟨ta,tc,rfl⟩:=iM h.row
 refine⟨ta,tc,rfl,λi hi=>?_⟩
 obtain⟨a9,c9,e9,hsl,_⟩:=AF h.row (by unfold maxLen;omega) (g:=λj f=>((dX y.turns)[j*2+f]?).getD undef) (λj hj f hf=>by
  have hlt:j*2+f<(dX y.turns).length:=by rw [mG];omega
  rw [List.getElem?_eq_getElem hlt];rfl)
 cases e9
 obtain⟨g,o,e,hg,hc⟩:=hsl.2 i hi
 have c0:=hc 0 (by omega)
 have c1:=hc 1 (by omega)
 obtain⟨t0,t1⟩:=mE y.turns i hi
 refine⟨g,o,e,hg,?_,?_⟩
 ·rw [Nat.add_zero] at c0;rw [c0];simp only [Nat.add_zero];rw [t0];rfl
 ·rw [<-Nat.add_assoc] at c1;rw [c1];simp only [];rw [t1];rfl
set_option maxHeartbeats 4000000 in
theorem yL (r:Bool) (h:bV w bm rest T b m p y tv) (hk:y.k<=100000) (hl:1<=y.left) (hl2:y.left<=1000) (hn:y.turns.length<=1000) :
  Calls Try.prog 158 #[.pointer (some ⟨bm,0,none⟩),.bool r] w λe w'=>e=.returned (.tuple #[])/\∃ tv',bV w' bm rest T b m p (y.turn r) tv'/\Chg (bC bm tv) w w'/\∀ k,bC bm tv' k->bC bm tv k∨w.heap.size<=k:=by
 obtain⟨k0,hk0,hu0,hu1,hu2⟩:=info_parts FC
 obtain⟨ta,tc,rfl⟩:=iM h.row
 have hb:=h.blk
 have lb:=aC hb
 have na:=h.na
 have Hrow:=Lib.hid h.row
 have Hb:=Lib.hid hb
 obtain⟨K,hK⟩:∃ K,K=y.k:=⟨_,rfl⟩
 obtain⟨L,hL⟩:∃ L,L=y.left - 1:=⟨_,rfl⟩
 obtain⟨n,xC⟩:∃ n,n=y.turns.length:=⟨_,rfl⟩
 obtain⟨xs,hxs⟩:∃ xs,xs=dX y.turns:=⟨_,rfl⟩
 have hL1:(y.left:Int)=(L:Int)+1:=by omega
 have x3:w.cell? ⟨bm,3,none⟩=some (.int .i64 (K:Int)):=by rw [aA hb,hK];rfl
 have x5:w.cell? ⟨bm,5,none⟩=some (.slice ta n tc):=by rw [aA hb,xC];rfl
 have f5:w.frozen? ⟨bm,5,none⟩=false:=aB hb _
 have fin:∀(g cap:Nat) (w1 w2:World),w1.ownsRow 0 250 2 (.slice (some ⟨g,0,none⟩) (n+1) cap) (n+1) (xs++[.int .i64 (K:Int),.bool r])->Chg (λq=>(Value.slice ta n tc).ownBlock=some q) w w1->((Value.slice ta n tc).ownBlock=some g∨w.heap.size<=g)->
   w2.heap[bm]?=some (.cells (jM b m p (y.turn r) (.slice (some ⟨g,0,none⟩) (n+1) cap)++rest).toArray T (0,0))->Chg (λq=>q=bm) w1 w2->
   ∃ tv',bV w2 bm rest T b m p (y.turn r) tv'/\Chg (bC bm (.slice ta y.turns.length tc)) w w2/\∀ k,bC bm tv' k->bC bm (.slice ta y.turns.length tc) k∨w.heap.size<=k:=by
  intro g cap w1 w2 ho hc1 hat hb2 hc2
  have e1:(y.turn r).turns.length=n+1:=by show(y.turns++[_]).length=_;rw [List.length_append,<-xC];rfl
  have e2:dX (y.turn r).turns=xs++[.int .i64 (K:Int),.bool r]:=by show dX (y.turns++[(y.k,r)])=_;rw [tH,<-hxs,<-hK]
  have hgb:∀ q,(Value.slice (some ⟨g,0,none⟩) (n+1) cap).ownBlock=some q->q≠bm:=λq hq e=>by
   cases hq
   have e':g=bm:=e
   rcases hat with h9|h9
   ·exact na (by rw [<-xC,h9,e'])
   ·omega
  refine⟨.slice (some ⟨g,0,none⟩) (n+1) cap,⟨hb2,by rw [e1,e2];exact iA ho hc2 (λq hq e=>hgb q hq e),h.typ⟩,(hc1.mono (λq _ hq=>.inr (by rw [<-xC];exact hq))).trans (hc2.mono (λq _ hq=>.inl hq)),λk hk=>?_⟩
  rcases hk with rfl|hk
  ·exact .inl (.inl rfl)
  ·cases hk
   rcases hat with h9|h9
   ·exact .inl (.inr (by rw [<-xC];exact h9))
   ·exact .inr h9
 have Fin:=Lib.hid fin
 rw [<-xC] at na hn
 have Hrow2:=Lib.hid (show w.ownsRow 0 250 2 (.slice ta n tc) n xs from by rw [xC,hxs];exact Hrow.out)
 have mid:∀(g cap:Nat) (w1:World),Chg (λq=>(Value.slice ta n tc).ownBlock=some q) w w1->(w1.setCell ⟨bm,5,none⟩ (.slice (some ⟨g,0,none⟩) (n+1) cap)).heap[bm]?=some (.cells (jM b m p ⟨K,L+1,y.turns,y.last⟩ (.slice (some ⟨g,0,none⟩) (n+1) cap)++rest).toArray T (0,0)):=by
  intro g cap w1 hc1
  have h1:=(hc1.block bm lb (λe=>na e)).trans Hb.out
  have e9:y.left=L+1:=by omega
  rw [aH h1,hK,<-e9];rfl
 have Mid:=Lib.hid mid
 have hyt:∀ v,jM b m p (y.turn r) v=[.int .i64 (b:Int),.int .i64 (m:Int),.int .i64 (p:Int),.int .i64 ((2*K+r.toNat:Nat):Int),.int .i64 (L:Int),v,.int .i64 (y.last:Int)]:=λv=>by rw [hK,hL];rfl
 have Hyt:=Lib.hid hyt
 have hKi:(K:Int)<=100000:=by omega
 have hLi:(L:Int)<=1000:=by omega
 have w2k:IntKind.i64.wrap ((K:Int)*2)=(K:Int)*2:=by rw [IntKind.wrap_i64];omega
 have w2k1:IntKind.i64.wrap ((K:Int)*2+1)=(K:Int)*2+1:=by rw [IntKind.wrap_i64];omega
 have wl:IntKind.i64.wrap ((L:Int)+1 - 1)=(L:Int):=by rw [IntKind.wrap_i64];omega
 clear h hb Hrow hK hL xC hxs hL1 fin mid hyt hk hl hl2
 go_enter Try.func158,Try.ntmps158
 go_wp2_with fail
 refine kU ((λu=>u.cell? ⟨bm,3,none⟩=some (.int .i64 (K:Int))/\u.cell? ⟨bm,5,none⟩=some (.slice ta n tc))) 15 (by kernel_rfl) ?hS0L1 ?_
 case hS0L1=>
  (exact⟨x3,x5⟩)
 intro hS hcl
 refine wL (i:=0) 16 rfl hcl hS ?_
 clear hcl;intro hcl
 (simp only [Act.put,zs])
 refine wL (i:=1) 16 rfl hcl hS ?_
 clear hcl;intro hcl
 (simp only [Act.put,zs])
 refine wL (i:=2) 16 rfl hcl hS ?_
 clear hcl;intro hcl
 (simp only [Act.put,zs])
 refine wL (i:=3) 16 rfl hcl hS ?_
 clear hcl;intro hcl
 (simp only [Act.put,zs])
 refine wL (i:=4) 16 rfl hcl hS ?_
 clear hcl;intro hcl
 (simp only [Act.put,zs])
 refine wL (i:=5) 16 rfl hcl hS ?_
 clear hcl;intro hcl
 (simp only [Act.put,zs])
 refine wL (i:=6) 16 rfl hcl hS ?_
 clear hcl;intro hcl
 (simp only [Act.put,zs])
 refine wL (i:=7) 16 rfl hcl hS ?_
 clear hcl;intro hcl
 (simp only [Act.put,zs])
 refine wL (i:=8) 16 rfl hcl hS ?_
 clear hcl;intro hcl
 (simp only [Act.put,zs])
 refine wL (i:=9) 16 rfl hcl hS ?_
 clear hcl;intro hcl
 (simp only [Act.put,zs])
 refine wL (i:=10) 16 rfl hcl hS ?_
 clear hcl;intro hcl
 (simp only [Act.put,zs])
 refine bZ (i:=11) (by kernel_rfl) rfl hcl (λK' hK=>?_)
 have HK:=Lib.hid hK;clear hK
 ((rw [if_pos (by kernel_rfl)]);(simp only [zq1,zq2,zq3]);go_big_op)
 refine HK.out _ _ ?hS11L1 (λhcl=>?_)
 case hS11L1=>
  intro _
  (exact⟨(((Gr.new w _).drew).cell lb).trans x3,(((Gr.new w _).drew).cell lb).trans x5⟩)
 clear HK
 refine bZ (i:=12) (by kernel_rfl) rfl hcl (λK' hK=>?_)
 have HK:=Lib.hid hK;clear hK
 ((refine step_append_lies _ (by rfl) _ _ _ (by rfl) 0 250 k0 _ 2 16 Try.underlying213 hk0 hu0 hu1 hu2 rfl (by omega) _ _ _ (by rfl) ((Hrow2.out.alloc _).drew) ⟨w.heap.size,0,none⟩ 1 1 [.int .i64 (K:Int),.bool r] (by rfl) (by rfl) (World.news_of_block (cs:=#[.int .i64 (K:Int),.bool r]) (t:=250) (fr:=(0,0)) (heap_alloc_new w _)) (by simp [Value.oneCell']) (by omega) (by unfold maxLen;omega) (by skip;omega) (by simp) (w.heap.size+1) (by simp) ?_;intro g8 RH w8 MQ rZ PY SA;have z3:=((rZ.cell_far _ (by simp;omega) (Ne.symm na)).trans ((((Gr.new w _).drew).cell lb).trans x3));have z5:=((rZ.cell_far _ (by simp;omega) (Ne.symm na)).trans ((((Gr.new w _).drew).cell lb).trans x5));have zf:w8.frozen? ⟨bm,5,none⟩=false:=aB ((rZ.block _ (by simp;omega) (Ne.symm na)).trans ((((Gr.new w _).drew).block _ lb).trans Hb.out)) _))
 refine HK.out _ _ ?hS12L1 (λhcl=>?_)
 case hS12L1=>
  intro _
  (exact⟨z3,z5⟩)
 clear HK
 (simp only [Act.put,zs])
 refine bZ (i:=13) (by kernel_rfl) rfl hcl (λK' hK=>?_)
 have HK:=Lib.hid hK;clear hK
 ((rw [if_pos (by kernel_rfl)]);(simp only [zq1,zq2,zq3]);go_big_op)
 refine HK.out _ _ ?hS13L1 (λhcl=>?_)
 case hS13L1=>
  intro _
  (exact⟨z3,z5⟩)
 clear HK
 refine bZ (i:=14) (by kernel_rfl) rfl hcl (λK' hK=>?_)
 have HK:=Lib.hid hK;clear hK
 ((rw [if_pos (by kernel_rfl)]);(simp only [zq1,zq2,zq3]);go_big_op)
 refine HK.out _ _ ?hS14L1 (λhcl=>?_)
 case hS14L1=>
  intro _
  (exact⟨z3,z5⟩)
 clear HK
 refine bZ (i:=15) (by kernel_rfl) rfl hcl (λK' hK=>?_)
 have HK:=Lib.hid hK;clear hK
 ((rw [if_pos (by kernel_rfl)]);(simp only [zq1,zq2,zq3]);go_big_op)
 refine HK.out _ _ (λh=>by cases h.symm.trans (by kernel_rfl:_=true)) (λ_=>lH (by kernel_rfl) ?_ _)
 clear HK
 (clear hS)
 have hc8:Chg (λq=>(Value.slice ta n tc).ownBlock=some q) w w8:=(((Chg.refl _ w).alloc _).drew).grown rZ (λq hq=>.inl hq)
 have PV:(Value.slice ta n tc).ownBlock=some g8∨w.heap.size<=g8:=by
  rcases PY with h9|h9
  ·exact .inl h9
  ·exact .inr (by omega)
 have kQ:=Mid.out g8 RH w8 hc8
 obtain⟨w9,TW⟩:∃ w9,w9=w8.setCell ⟨bm,5,none⟩ (.slice (some ⟨g8,0,none⟩) (n+1) RH):=⟨_,rfl⟩
 have zC:Chg (λq=>q=bm) w8 w9:=by rw [TW];exact(Chg.refl (λq=>q=bm) w8).setCell (by exact .inl rfl) _
 rw [<-TW] at kQ ⊢
 have u3:w9.cell? ⟨bm,3,none⟩=some (.int .i64 (K:Int)):=by rw [aA kQ];rfl
 have u4:w9.cell? ⟨bm,4,none⟩=some (.int .i64 ((L:Int)+1)):=by rw [aA kQ];rfl
 have XE:=aB kQ 3;have XD:=aB kQ 4
 have Hb9:=Lib.hid kQ;have Hc9:=Lib.hid zC;have Hc8:=Lib.hid hc8;have Hat:=Lib.hid PV;have Hown:=Lib.hid MQ
 clear hc8 PV kQ TW zC MQ rZ PY z3 z5 zf x3 x5 f5 na SA
 cases r with
 | true=>
  have F:=Lib.hid (Fin.out g8 RH w8 (((w9.setCell ⟨bm,3,none⟩ (.int .i64 ((K:Int)*2))).setCell ⟨bm,3,none⟩ (.int .i64 ((K:Int)*2+1))).setCell ⟨bm,4,none⟩ (.int .i64 (L:Int))) Hown.out Hc8.out Hat.out (by
   rw [Hyt.out,aH (aH (aH Hb9.out _ _) _ _),show((2*K+true.toNat:Nat):Int)=(K:Int)*2+1 by simp;omega];rfl) (((Hc9.out.setCell (by exact .inl rfl) _).setCell (by exact .inl rfl) _).setCell (by exact .inl rfl) _))
  clear Fin Hyt Hb9 Hc9 Hc8 Hat Hown
  go_wp2
  (go_end0)
  exact⟨rfl,F.out⟩
 | false=>
  have F:=Lib.hid (Fin.out g8 RH w8 ((w9.setCell ⟨bm,3,none⟩ (.int .i64 ((K:Int)*2))).setCell ⟨bm,4,none⟩ (.int .i64 (L:Int))) Hown.out Hc8.out Hat.out (by
   rw [Hyt.out,aH (aH Hb9.out _ _),show((2*K+false.toNat:Nat):Int)=(K:Int)*2 by simp;omega];rfl) ((Hc9.out.setCell (by exact .inl rfl) _).setCell (by exact .inl rfl) _))
  clear Fin Hyt Hb9 Hc9 Hc8 Hat Hown
  go_wp2
  (go_end0)
  exact⟨rfl,F.out⟩
theorem zD (b m k:Nat) (hk:1<=k) (hb:b+k<=1000000) (w:World):Calls Try.prog 166 #[.agg #[.int .i64 (b:Int),.int .i64 (m:Int)],.int .i64 (k:Int)] w λe w'=>e=.returned (.int .i64 ((b+k - 1:Nat):Int))/\Below w.heap.size w w':=by
 obtain⟨a,ha⟩:∃ a,a=b+k - 1:=⟨_,rfl⟩
 rw [<-ha]
 have e:((b:Int)+(k:Int)) - 1=(a:Int):=by omega
 have w1:IntKind.i64.wrap ((b:Int)+(k:Int))=(b:Int)+(k:Int):=by rw [IntKind.wrap_i64];omega
 have w2:IntKind.i64.wrap ((b:Int)+(k:Int) - 1)=(a:Int):=by rw [IntKind.wrap_i64];omega
 clear ha hk hb e
 go_enter Try.func166,Try.ntmps166
 go_wp2
 go_ret
 exact⟨rfl,Gr.new _ _⟩
end Go.Proofs.Ytifhldnmcdbpfaa
