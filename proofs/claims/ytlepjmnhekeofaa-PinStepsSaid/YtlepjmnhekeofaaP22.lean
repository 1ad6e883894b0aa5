/- Layer 9: tickets, in plain numbers. -/
import Derived.Test.YtlepjmnhekeofaaP21
import Derived.Test.YtlepjmnhekeofaaP15
import Derived.Laws.CopyOwn
import Derived.Test.YtlepjmnhekeofaaP20
set_option maxRecDepth 100000
set_option linter.unusedVariables false
set_option linter.unusedSimpArgs false
set_option linter.unnecessarySimpa false
namespace Go.Proofs.Ytlepjmnhekeofaa
section
open Go.RowKit
def tkCall (n k:Nat):CallD:=⟨((k % n:Nat):Int),0,2,0,0,0⟩
def tk (n m:Nat):List CallD:=(List.range m).map (tkCall n)
structure TkInv (st:PlayD adderS) (k:Nat):Prop where
 h16:st.hands.length=16
 none_:∀ p,(st.hands.getD p (none,0)).1=none
 now:st.wd.now=st.evs.length
 ws:st.wd.mem.ws=[st.evs.length]
 evs:∀ i,i<st.evs.length->(st.evs.getD i ev0).ans.val=i/\(st.evs.getD i ev0).resp=i+1
 len:st.evs.length<=k
end
section

/- Layer 9: the walk of AdderTickets. -/
open Go.RowKit
theorem RepAt.event {X:Nat->Prop} {B:Nat} {w:World} {ea:Option Addr} {en ec:Nat} {wv:Value} {ers:List (Value×Value)} {r:RepD} (h:RepAt X B w (.slice ea en ec) wv ers r) (hn:en=r.evs.length) (h0:0<en) :
  ∃ g,ea=some ⟨g,0,none⟩/\g<w.heap.size/\∀ i f,i<en->f<8->w.cell? ⟨g,i*8+f,none⟩=(evCells (r.evs.getD i ev0) (ers.getD i vv0))[f]?:=by
 obtain⟨g,c,h1,h2,h3⟩:=h.row.form (by omega)
 simp only [Value.slice.injEq] at h1
 obtain⟨rfl,h4,h5⟩:=h1
 refine⟨g,rfl,h3,λi f hi hf=>?_⟩
 have hr:=h.row
 rw [<-hn] at hr
 rw [hr.cellAt _ (by omega),evRow_get _ _ _ _ h.elen.symm (by omega) hf]
theorem RepAt.word {X:Nat->Prop} {B:Nat} {w:World} {ev:Value} {va:Option Addr} {vn vc:Nat} {ers:List (Value×Value)} {r:RepD} (h:RepAt X B w ev (.slice va vn vc) ers r) (hn:vn=r.words.length) (h0:0<vn) :
  ∃ q,va=some ⟨q,0,none⟩/\q<w.heap.size/\∀ j,j<vn->w.cell? ⟨q,j,none⟩=some (.int .u64 ((r.words.getD j 0:Nat):Int)):=by
 obtain⟨g,c,h1,h2,h3⟩:=h.words.form (by omega)
 simp only [Value.slice.injEq] at h1
 obtain⟨rfl,h4,h5⟩:=h1
 refine⟨g,rfl,h3,λj hj=>?_⟩
 have hr:=h.words
 rw [<-hn] at hr
 rw [hr.cellAt _ (by omega)]
 simp [u64V,List.getD_eq_getElem?_getD,show j<r.words.length by omega]
def callL (c:CallD):List Value:=[.int .i64 c.thread,.int .i64 c.obj,.int .i64 c.kind,.int .u64 (c.a:Int),.int .u64 (c.b:Int),.int .u64 (c.c:Int)]
theorem callL_get:∀(l:List CallD) (j f:Nat),j<l.length->f<6->(l.flatMap callL)[j*6+f]?=some (callG l j f)
 | [],j,_,h,_=>by simp at h
 | c::l,0,f,_,hf=>by
  simp only [List.flatMap_cons,Nat.zero_mul,Nat.zero_add]
  rw [List.getElem?_append_left (by simpa [callL] using hf)]
  match f,hf with
  | 0,_=>rfl
  | 1,_=>rfl
  | 2,_=>rfl
  | 3,_=>rfl
  | 4,_=>rfl
  | 5,_=>rfl
 | c::l,j+1,f,h,hf=>by
  simp only [List.flatMap_cons]
  rw [List.getElem?_append_right (by simp [callL];omega),show(j+1)*6+f - (callL c).length=j*6+f by simp [callL];omega,callL_get l j f (by simpa using h) hf]
  simp [callG]
theorem calls_block {w:World} {b:Nat} {l:List CallD} {fz:Nat×Nat} (h:w.heap[b]?=some (.cells (l.flatMap callL).toArray 46 fz)) (hl:l.length<=1000000):SlAt w (some ⟨b,0,none⟩) l.length 6 (callG l):=by
 refine⟨by unfold maxLen;omega,λj hj=>⟨b,0,rfl,blk_lt h,λf hf=>?_⟩⟩
 rw [Nat.zero_add,cell_blk h]
 simpa using callL_get l j f hj hf
theorem ints_block {w:World} {b:Nat} {l:List Int} {fz:Nat×Nat} (h:w.heap[b]?=some (.cells (l.map (Value.int .i64)).toArray 3 fz)) (hl:l.length<=1000000):SlAt w (some ⟨b,0,none⟩) l.length 1 (intG l):=by
 refine⟨by unfold maxLen;omega,λj hj=>⟨b,0,rfl,blk_lt h,λf hf=>?_⟩⟩
 obtain rfl:f=0:=by omega
 rw [cell_blk h]
 simp [intG,List.getD_eq_getElem?_getD,hj]
theorem callOk_small {t k:Int} (h1:0<=t) (h2:t<16) (h3:0<=k) (h4:k<16) {a b c:Nat} (ha:a<100) (hb:b<100) (hc:c<100):CallOk ⟨t,0,k,a,b,c⟩:=
 ⟨by simp [Lit.wf,IntKind.min,IntKind.max,IntKind.signed,IntKind.bits];omega,by rfl,by simp [Lit.wf,IntKind.min,IntKind.max,IntKind.signed,IntKind.bits];omega,by simp only;omega,by simp only;omega,by simp only;omega⟩
end
section

/- Layer 6: the order of keys: the walks of ahead, Order. -/
open Go.RowKit
theorem nameW {F:World->Prop} {W:World} (h:∀ w',w'=W->F w'):F W:=h W rfl
theorem keyLt_drop {xs ys:List Int} {k:Nat} (h1:k<xs.length) (h2:k<ys.length):keyLt (xs.drop k) (ys.drop k)=if xs.getD k 0=ys.getD k 0 then keyLt (xs.drop (k+1)) (ys.drop (k+1)) else decide (xs.getD k 0<ys.getD k 0):=by
 rw [List.drop_eq_getElem_cons h1,List.drop_eq_getElem_cons h2]
 simp only [keyLt,List.getD_eq_getElem?_getD,List.getElem?_eq_getElem h1,List.getElem?_eq_getElem h2,Option.getD_some]
theorem keyLt_end {xs ys:List Int} {k:Nat} (h1:k<=xs.length) (h2:k<=ys.length) (h:¬ (k<xs.length/\k<ys.length)):keyLt (xs.drop k) (ys.drop k)=decide (xs.length<ys.length):=by
 by_cases h3:k<xs.length
 ·have h4:ys.drop k=[]:=List.drop_eq_nil_of_le (by omega)
  rw [h4,List.drop_eq_getElem_cons h3]
  simp only [keyLt]
  symm;apply decide_eq_false;omega
 ·have h4:xs.drop k=[]:=List.drop_eq_nil_of_le (by omega)
  rw [h4]
  by_cases h5:k<ys.length
  ·rw [List.drop_eq_getElem_cons h5]
   simp only [keyLt]
   symm;apply decide_eq_true;omega
  ·rw [List.drop_eq_nil_of_le (by omega)]
   simp only [keyLt]
   symm;apply decide_eq_false;omega
set_option maxHeartbeats 4000000 in
theorem ahead_any (xs ys:List Int) (a a2:Option Addr) (c c2:Nat) (w:World) (hs:SlAt w a xs.length 1 (intG xs)) (hs2:SlAt w a2 ys.length 1 (intG ys)) :
  Calls Try.prog 68 #[.slice a xs.length c,.slice a2 ys.length c2] w λe w'=>e=.returned (.bool (keyLt xs ys))/\Below w.heap.size w w':=by
 have hm:=hs.1;have hm2:=hs2.1
 unfold maxLen at hm hm2
 obtain⟨r,hr⟩:∃ r,r=keyLt xs ys:=⟨_,rfl⟩
 rw [<-hr]
 obtain⟨n,hn⟩:∃ n,n=xs.length:=⟨_,rfl⟩
 obtain⟨m,hmm⟩:∃ m,m=ys.length:=⟨_,rfl⟩
 rw [<-hn] at hs hm ⊢
 rw [<-hmm] at hs2 hm2 ⊢
 have Hs:=Lib.hid hs;have Hs2:=Lib.hid hs2;have Hr:=Lib.hid hr;have Hn:=Lib.hid hn;have Hm:=Lib.hid hmm
 clear hs hs2 hr hn hmm
 go_enter Try.func68,Try.ntmps68
 go_wp2
 go_loopw [5] (λi wr=>∃ k:Nat,k<=n/\k<=m/\i=.int .i64 k/\Below w.heap.size w wr/\keyLt (xs.drop k) (ys.drop k)=r) (λi _=>n - (intOf i).toNat)
 case atStart=>exact⟨0,Nat.zero_le _,Nat.zero_le _,rfl,Gr.refl _,by rw [List.drop_zero,List.drop_zero];exact Hr.out.symm⟩
 case round=>
  obtain⟨k,hk,hk2,rfl,hb,hkey⟩:=hrel
  by_cases hlt:k<n
  ·by_cases hlt2:k<m
   ·obtain⟨b,o,rfl,h4⟩:=Hs.out.elem hb hlt
    obtain⟨b2,o2,rfl,h5⟩:=Hs2.out.elem hb hlt2
    obtain⟨x,hx⟩:∃ x,x=xs.getD k 0:=⟨_,rfl⟩
    obtain⟨y,hy⟩:∃ y,y=ys.getD k 0:=⟨_,rfl⟩
    have e4:wr.cell? ⟨b,o+k,none⟩=some (.int .i64 x):=by have h0:=h4 0 (by omega);rw [Nat.mul_one,Nat.add_zero] at h0;rw [h0,hx];rfl
    have e5:wr.cell? ⟨b2,o2+k,none⟩=some (.int .i64 y):=by have h0:=h5 0 (by omega);rw [Nat.mul_one,Nat.add_zero] at h0;rw [h0,hy];rfl
    have hstep:=keyLt_drop (xs:=xs) (ys:=ys) (k:=k) (by rw [<-Hn.out];exact hlt) (by rw [<-Hm.out];exact hlt2)
    rw [<-hx,<-hy,hkey] at hstep
    have l1:(k:Int)<n:=by omega
    have l2:(k:Int)<m:=by omega
    have Hb:=Lib.hid hb
    by_cases hxy:x=y
    ·rw [if_pos hxy] at hstep
     subst hxy
     have Hst:=Lib.hid hstep
     clear h4 h5 hb hx hy hstep hkey
     go_wp2_with fail
     go_quiet (fail)
     go_wp2
     go_roundw
     case rel=>exact⟨k+1,by omega,by omega,by go_num,below_drewN Hb.out nq,Hst.out.symm⟩
     case measure=>simp [intOf]<;>omega
    ·rw [if_neg hxy] at hstep
     subst hstep
     clear h4 h5 hb hx hy hkey
     go_wp2_with fail
     go_quiet (fail)
     revert nq;intro n1
     go_wp2_with fail
     go_quiet (fail)
     go_wp2
     go_ret
     first
     | exact⟨rfl,below_drewN Hb.out _⟩
     | exact⟨rfl,below_drewN (below_drewN Hb.out _) _⟩
   ·have hstep:=keyLt_end (xs:=xs) (ys:=ys) (k:=k) (by rw [<-Hn.out];exact hk) (by rw [<-Hm.out];exact hk2) (by rw [<-Hn.out,<-Hm.out];omega)
    rw [hkey,<-Hn.out,<-Hm.out] at hstep
    have hr1:r=false:=by rw [hstep];apply decide_eq_false;omega
    subst hr1
    have l1:(k:Int)<n:=by omega
    have l2:¬ (k:Int)<m:=by omega
    have l3:¬ (n:Int)<m:=by omega
    have Hb:=Lib.hid hb
    clear hb hstep hkey
    go_wp2
    go_ret
    exact⟨rfl,Hb.out⟩
  ·have hstep:=keyLt_end (xs:=xs) (ys:=ys) (k:=k) (by rw [<-Hn.out];exact hk) (by rw [<-Hm.out];exact hk2) (by rw [<-Hn.out,<-Hm.out];omega)
   rw [hkey,<-Hn.out,<-Hm.out] at hstep
   have l1:¬ (k:Int)<n:=by omega
   have Hb:=Lib.hid hb
   by_cases l3:(n:Int)<m
   ·have hr1:r=true:=by rw [hstep];apply decide_eq_true;omega
    subst hr1
    clear hb hstep hkey
    go_wp2
    go_ret
    exact⟨rfl,Hb.out⟩
   ·have hr1:r=false:=by rw [hstep];apply decide_eq_false;omega
    subst hr1
    clear hb hstep hkey
    go_wp2
    go_ret
    exact⟨rfl,Hb.out⟩
set_option maxHeartbeats 4000000 in
theorem ahead4_any (xs ys:List Int) (a a2:Option Addr) (c c2:Nat) (w:World) (hs:SlAt w a xs.length 1 (intG xs)) (hs2:SlAt w a2 ys.length 1 (intG ys)) :
  Calls Try.prog 55 #[.slice a xs.length c,.slice a2 ys.length c2] w λe w'=>e=.returned (.bool (keyLt xs ys))/\Below w.heap.size w w':=by
 have hm:=hs.1;have hm2:=hs2.1
 unfold maxLen at hm hm2
 obtain⟨r,hr⟩:∃ r,r=keyLt xs ys:=⟨_,rfl⟩
 rw [<-hr]
 obtain⟨n,hn⟩:∃ n,n=xs.length:=⟨_,rfl⟩
 obtain⟨m,hmm⟩:∃ m,m=ys.length:=⟨_,rfl⟩
 rw [<-hn] at hs hm ⊢
 rw [<-hmm] at hs2 hm2 ⊢
 have Hs:=Lib.hid hs;have Hs2:=Lib.hid hs2;have Hr:=Lib.hid hr;have Hn:=Lib.hid hn;have Hm:=Lib.hid hmm
 clear hs hs2 hr hn hmm
 go_enter Try.func55,Try.ntmps55
 go_wp2
 go_loopw [5] (λi wr=>∃ k:Nat,k<=n/\k<=m/\i=.int .i64 k/\Below w.heap.size w wr/\keyLt (xs.drop k) (ys.drop k)=r) (λi _=>n - (intOf i).toNat)
 case atStart=>exact⟨0,Nat.zero_le _,Nat.zero_le _,rfl,Gr.refl _,by rw [List.drop_zero,List.drop_zero];exact Hr.out.symm⟩
 case round=>
  obtain⟨k,hk,hk2,rfl,hb,hkey⟩:=hrel
  by_cases hlt:k<n
  ·by_cases hlt2:k<m
   ·obtain⟨b,o,rfl,h4⟩:=Hs.out.elem hb hlt
    obtain⟨b2,o2,rfl,h5⟩:=Hs2.out.elem hb hlt2
    obtain⟨x,hx⟩:∃ x,x=xs.getD k 0:=⟨_,rfl⟩
    obtain⟨y,hy⟩:∃ y,y=ys.getD k 0:=⟨_,rfl⟩
    have e4:wr.cell? ⟨b,o+k,none⟩=some (.int .i64 x):=by have h0:=h4 0 (by omega);rw [Nat.mul_one,Nat.add_zero] at h0;rw [h0,hx];rfl
    have e5:wr.cell? ⟨b2,o2+k,none⟩=some (.int .i64 y):=by have h0:=h5 0 (by omega);rw [Nat.mul_one,Nat.add_zero] at h0;rw [h0,hy];rfl
    have hstep:=keyLt_drop (xs:=xs) (ys:=ys) (k:=k) (by rw [<-Hn.out];exact hlt) (by rw [<-Hm.out];exact hlt2)
    rw [<-hx,<-hy,hkey] at hstep
    have l1:(k:Int)<n:=by omega
    have l2:(k:Int)<m:=by omega
    have Hb:=Lib.hid hb
    by_cases hxy:x=y
    ·rw [if_pos hxy] at hstep
     subst hxy
     have Hst:=Lib.hid hstep
     clear h4 h5 hb hx hy hstep hkey
     go_wp2_with fail
     go_quiet (fail)
     go_wp2
     go_roundw
     case rel=>exact⟨k+1,by omega,by omega,by go_num,below_drewN Hb.out nq,Hst.out.symm⟩
     case measure=>simp [intOf]<;>omega
    ·rw [if_neg hxy] at hstep
     subst hstep
     clear h4 h5 hb hx hy hkey
     go_wp2_with fail
     go_quiet (fail)
     revert nq;intro n1
     go_wp2_with fail
     go_quiet (fail)
     go_wp2
     go_ret
     first
     | exact⟨rfl,below_drewN Hb.out _⟩
     | exact⟨rfl,below_drewN (below_drewN Hb.out _) _⟩
   ·have hstep:=keyLt_end (xs:=xs) (ys:=ys) (k:=k) (by rw [<-Hn.out];exact hk) (by rw [<-Hm.out];exact hk2) (by rw [<-Hn.out,<-Hm.out];omega)
    rw [hkey,<-Hn.out,<-Hm.out] at hstep
    have hr1:r=false:=by rw [hstep];apply decide_eq_false;omega
    subst hr1
    have l1:(k:Int)<n:=by omega
    have l2:¬ (k:Int)<m:=by omega
    have l3:¬ (n:Int)<m:=by omega
    have Hb:=Lib.hid hb
    clear hb hstep hkey
    go_wp2
    go_ret
    exact⟨rfl,Hb.out⟩
  ·have hstep:=keyLt_end (xs:=xs) (ys:=ys) (k:=k) (by rw [<-Hn.out];exact hk) (by rw [<-Hm.out];exact hk2) (by rw [<-Hn.out,<-Hm.out];omega)
   rw [hkey,<-Hn.out,<-Hm.out] at hstep
   have l1:¬ (k:Int)<n:=by omega
   have Hb:=Lib.hid hb
   by_cases l3:(n:Int)<m
   ·have hr1:r=true:=by rw [hstep];apply decide_eq_true;omega
    subst hr1
    clear hb hstep hkey
    go_wp2
    go_ret
    exact⟨rfl,Hb.out⟩
   ·have hr1:r=false:=by rw [hstep];apply decide_eq_false;omega
    subst hr1
    clear hb hstep hkey
    go_wp2
    go_ret
    exact⟨rfl,Hb.out⟩
end
section

/- Layer 8: the tally as the loom's object: the walks of its machines. -/
open Go.RowKit
inductive TaS where
 | count (seen:Bool) (v:Nat)
 | read (at_ sum:Nat) (key:List Int)
def taWhen (ticks:List Int) (inv s:Nat):Int:=if 0<s/\s<=ticks.length then max (inv:Int) (ticks.getD (s - 1) 0) else (inv:Int)
def taRead (wd:WD) (a:Nat):WD:={ wd with mem:=(memRead wd.mem (a:Int)).1 }
def taWrite (wd:WD) (p v:Nat):WD:={ wd with mem:=memWrite wd.mem (p:Int) (v+1),traces:=updT wd.traces 0 (wd.traces 0++[(wd.now:Int)]) }
def taGot (wd:WD) (a:Nat):Nat:=(memRead wd.mem (a:Int)).2
def taKey (wd:WD) (p s:Nat):List Int:=[2*taWhen (wd.traces 0) (wd.inv.getD p 0) s,2*(wd.now:Int)]
def tallyS (n:Nat):Sys where
 σ:=TaS
 ω:=Unit
 start:=λ_ _ _ c=>if c.kind=0 then .run (.count false 0) else if c.kind=1 then .run (.read 0 0 []) else .refuse 9
 step:=λ_ wd p s=>match s with
  | .count false _=>((),taRead wd p,.count true (taGot wd p),false)
  | .count true v=>((),taWrite wd p v,.count true v,true)
  | .read a s k=>if a+1<n then ((),taRead wd a,.read (a+1) (s+taGot wd a) k,false) else ((),taRead wd a,.read (a+1) (s+taGot wd a) (taKey wd p (s+taGot wd a)),true)
 answer:=λs=>match s with
  | .count _ _=>(⟨0,0,[]⟩,[])
  | .read _ s k=>(⟨0,s,[]⟩,k)
 late:=λ_ _ _ _=>none
def OwnTo (w w':World) (Mut B:Nat->Prop) (I:WIds) (N:Nat) (wd:WD) (b:Nat) (cells:Array Value) (T:TypeId) (done:Bool) (e:Ending):Prop:=
 e=.returned (.bool done)/\Chg (λk=>WSet I k∨B k) w w'/\WorldAt w' (mutTo Mut B (λk=>k=b)) I N wd/\w'.heap[b]?=some (.cells cells T (0,0))
theorem own_fin {w w1 w2:World} {Mut B:Nat->Prop} {I:WIds} {N:Nat} {wd:WD} {b:Nat} {cells:Array Value} {T:TypeId} {done:Bool} (hw1:WorldAt w1 Mut I N wd) (hch1:Chg (WSet I) w w1) (hb:B b) (hB:∀ b,B b->Mut b/\¬ WSet I b)
  (hc:Chg (λk=>k=b) w1 w2) (hbk:w2.heap[b]?=some (.cells cells T (0,0))):OwnTo w w2 Mut B I N wd b cells T done (.returned (.bool done)):=
 ⟨rfl,(hch1.mono (λk _ h=>.inl h)).trans (hc.mono (λk _ h=>by cases h;exact .inr hb)),world_own hw1 hc hb hB,hbk⟩
theorem OwnTo.drewN {w w':World} {Mut B:Nat->Prop} {I:WIds} {N:Nat} {wd:WD} {b:Nat} {cells:Array Value} {T:TypeId} {done:Bool} {e:Ending} (h:OwnTo w w' Mut B I N wd b cells T done e) (n:Nat):OwnTo w (w'.drewN n) Mut B I N wd b cells T done e:=
 ⟨h.1,h.2.1.drewN n,h.2.2.1.keep (S:=noB) ((Chg.refl _ _).drewN n) (λ_ h=>h.elim) (λ_ h=>h.elim) (MutUp.refl _ _) (λk hk=>h.2.2.1.low k hk) h.2.2.1.muts,h.2.2.2⟩
theorem memRead_val {w:World} {bm:Nat} {bw:Option Nat} {m:MemD} (h:MemAt w bm bw m) (a:Int):(memRead m a).2<18446744073709551616:=by
 unfold memRead
 split
 ·simp only;omega
 ·simp only
  rw [List.getD_eq_getElem?_getD]
  cases h9:m.ws[a.toNat]? with
  | none=>simp
  | some z=>exact h.val z (List.mem_of_getElem? h9)
end
section

/- Layer 8: the tally's machines: counting. -/
open Go.RowKit
theorem int_info9:(Try.prog.info? 3).map (λi=>(i.zero,i.size,i.bytes))=some (some (.int .i64 0),1,8):=by kernel_rfl
theorem make_ints (m:Nat) (v:Int) (hv:v=(m:Int)) (hm:m<=1000000) (u:World):(Instr.makeSlice 24 (.int .i64 v) (.int .i64 v)).run Try.prog u=.ok (.slice (some ⟨u.heap.size,0,none⟩) m m) (u.alloc (.cells (Array.replicate m (Value.int .i64 0)) 3)):=by
 subst hv
 obtain⟨i0,hi,hz0,hz1,hz2⟩:=info_parts int_info9
 have h:=run_make (P:=Try.prog) u 24 3 i0 (.int .i64 0) Try.underlying24 hi hz0 .i64 .i64 (m:Int) (m:Int) (by omega) (Int.le_refl _) (by rw [hz2];omega) (by omega)
 simpa [hz1,Value.cells,madeCells_one] using h
end
section

/- Layer 8: the tally's machines: reading. -/
open Go.RowKit
end
section

/- Layer 8: the tally as the loom's object. -/
open Go.RowKit
end
section

/- Counting events of a play, in plain numbers. -/
open Go.RowKit
def cnt (P:EvD->Bool) (l:List EvD):Nat:=(l.map λe=>if P e then 1 else 0).sum
theorem cnt_nil (P:EvD->Bool):cnt P []=0:=rfl
theorem cnt_cons (P:EvD->Bool) (e:EvD) (l:List EvD):cnt P (e::l)=(if P e then 1 else 0)+cnt P l:=rfl
theorem cnt_append (P:EvD->Bool) (l m:List EvD):cnt P (l++m)=cnt P l+cnt P m:=by unfold cnt;rw [List.map_append,List.sum_append]
theorem cnt_set (P:EvD->Bool) (l:List EvD) (k:Nat) (e:EvD) (hk:k<l.length):cnt P (l.set k e)+(if P (evAt l k) then 1 else 0)=cnt P l+(if P e then 1 else 0):=sum_map_set _ l k e hk
theorem cnt_mono {P Q:EvD->Bool}:∀ {l:List EvD},(∀ i,i<l.length->P (evAt l i)=true->Q (evAt l i)=true)->cnt P l<=cnt Q l
 | [],_=>Nat.le_refl _
 | e::l,h=>by
  rw [cnt_cons,cnt_cons]
  have h1:=cnt_mono (P:=P) (Q:=Q) (l:=l) (λi hi hp=>h (i+1) (by simp;omega) hp)
  have h2:=h 0 (by simp)
  have h3:evAt (e::l) 0=e:=rfl
  rw [h3] at h2
  cases hp:P e with
  | true=>rw [h2 hp];simp;omega
  | false=>simp;omega
variable {S:Sys}
theorem From.cnt {calls:List CallD} {st:PlayD S} {q i k:Nat} {s:S.σ} {evs0:List EvD} {wd0:WD} (h:From calls st q i k s evs0 wd0) {P:EvD->Bool} (hP:∀ e,e.resp=0->P e=false) (e:EvD):cnt P (evs0.set k e)=cnt P st.evs+(if P e then 1 else 0):=by
 have h1:=cnt_set P evs0 k e h.len
 rw [hP _ h.open_] at h1
 have h2:Go.Proofs.Ytlepjmnhekeofaa.cnt P evs0=Go.Proofs.Ytlepjmnhekeofaa.cnt P st.evs:=by
  cases h with
  | old k s hh hk hc hr=>rfl
  | new s hh hs=>rw [cnt_append,cnt_cons,hP _ rfl,cnt_nil];simp
 rw [h2] at h1
 simpa using h1
end
section

/- Layer 6: cells as the loom's object. -/
open Go.RowKit
section
variable (w:World) (Mut:Nat->Prop) (I:WIds) (N:Nat) (wd:WD) (b bc ba:Nat) (c:CallD)
end
end
section

/- Layer 6: loom.Cells. -/
open Go.RowKit
end
section

/- Layer 6: two threads that add to a cell. -/
open Go.RowKit
end
end Go.Proofs.Ytlepjmnhekeofaa
