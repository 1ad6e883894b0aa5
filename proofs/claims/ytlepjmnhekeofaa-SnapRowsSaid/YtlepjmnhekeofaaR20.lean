/- Layer 6: what a play hands out, in one form. -/
import Derived.Test.YtlepjmnhekeofaaR19
import Derived.Test.YtlepjmnhekeofaaR15
import Derived.Test.YtlepjmnhekeofaaR18
set_option maxRecDepth 100000
set_option linter.unusedVariables false
set_option linter.unusedSimpArgs false
set_option linter.unnecessarySimpa false
namespace Go.Proofs.Ytlepjmnhekeofaa
open List renaming getElem_toArray → zq1, getElem_cons_zero → zq2, getElem_cons_succ → zq3, setIfInBounds_toArray → zq4, set_cons_zero → zq5, set_cons_succ → zq6
section
open Go.RowKit
structure CallsAt (X:Nat->Prop) (w:World) (ca:Option Addr) (calls:List CallD):Prop where
 sl:SlAt w ca calls.length 6 (callG calls)
 ok:∀ x∈calls,CallOk x
 nx:0<calls.length->∀ b off,ca=some ⟨b,off,none⟩->¬ X b
structure PicksAt (w:World) (pa:Option Addr) (picks:List Int):Prop where
 sl:SlAt w pa picks.length 1 (intG picks)
 ok:∀ x∈picks,(Lit.int .i64 x).wf=true
theorem CallsAt.grown {X:Nat->Prop} {w w':World} {ca:Option Addr} {calls:List CallD} (h:CallsAt X w ca calls) (hb:Below w.heap.size w w'):CallsAt X w' ca calls:=⟨h.sl.grown hb,h.ok,h.nx⟩
theorem PicksAt.grown {w w':World} {pa:Option Addr} {picks:List Int} (h:PicksAt w pa picks) (hb:Below w.heap.size w w'):PicksAt w' pa picks:=⟨h.sl.grown hb,h.ok⟩
def PlayRest (X:Nat->Prop) (w w':World) (er:Int) (r:RepD) (ea:Option Addr) (en ec:Nat) (va:Option Addr) (vn vc:Nat) (rp:RepD):Prop:=
 Below w.heap.size w w'/\((er≠0/\ea=none/\en=0/\ec=0/\va=none/\vn=0/\vc=0/\rp=⟨[],[],c0,0,0⟩)∨
  (er=0/\rp=r/\en=r.evs.length/\vn=r.words.length/\∃ ers,RepAt X w.heap.size w' (.slice ea en ec) (.slice va vn vc) ers r))
def PlayRet (X:Nat->Prop) (w w':World) (er:Int) (r:RepD) (e:Ending):Prop:=
 ∃ ea en ec va vn vc rp,e=.returned (.tuple #[repV (.slice ea en ec) (.slice va vn vc) rp,.int .i64 er])/\PlayRest X w w' er r ea en ec va vn vc rp
theorem PlayTo.ret {X:Nat->Prop} {w w':World} {er:Int} {r:RepD} {e:Ending} (h:PlayTo X w w' er r e):PlayRet X w w' er r e:=by
 obtain⟨hb,⟨h0,rfl⟩|⟨h0,ea,ec,va,vc,ers,rfl,hr⟩⟩:=h
 ·exact⟨none,0,0,none,0,0,_,rfl,hb,.inl ⟨h0,rfl,rfl,rfl,rfl,rfl,rfl,rfl⟩⟩
 ·exact⟨ea,_,ec,va,_,vc,r,by rw [h0],hb,.inr ⟨h0,rfl,rfl,rfl,ers,hr⟩⟩
theorem PlayRest.chg {X X' Q:Nat->Prop} {w0 w w' w'':World} {er:Int} {r:RepD} {ea:Option Addr} {en ec:Nat} {va:Option Addr} {vn vc:Nat} {rp:RepD} (h:PlayRest X w w' er r ea en ec va vn vc rp) (hc:Chg Q w' w'') (hQ:∀ b,Q b->X b/\w0.heap.size<=b/\b<w.heap.size) (h0:Below w0.heap.size w0 w) (hX:∀ b,X' b->X b):PlayRest X' w0 w'' er r ea en ec va vn vc rp:=by
 obtain⟨hb,hr⟩:=h
 have hb1:Chg (λb=>w0.heap.size<=b) w0 w'':=((Chg.of_below h0).trans (show Chg (λb=>w0.heap.size<=b) w w' from⟨hb.os,hb.tape,hb.output,hb.size,λk hk _=>hb.block k hk⟩)).trans (hc.mono (λb _ hq=>(hQ b hq).2.1))
 refine⟨hb1.below (λb h=>h) (Nat.le_refl _),?_⟩
 rcases hr with hr|⟨h1,h2,h3,h4,ers,h5⟩
 ·exact .inl hr
 ·exact .inr ⟨h1,h2,h3,h4,ers,(h5.chg hc (λb hb=>⟨(hQ b hb).1,(hQ b hb).2.2⟩)).low h0.size hX⟩
theorem u64_info':(Try.prog.info? 40).map (λi=>(i.zero,i.size,i.bytes))=some (some (.int .u64 0),1,8):=by kernel_rfl
theorem Chg.setCells (b:Nat):∀(vs:List Value) (o:Nat) (w:World),Chg (λk=>k=b) w (w.setCells b o vs)
 | [],_,w=>Chg.refl _ w
 | v::r,o,w=>((Chg.refl (λk=>k=b) w).setCell (p:=⟨b,o,none⟩) (.inl rfl) v).trans (Chg.setCells b r (o+1) (w.setCell ⟨b,o,none⟩ v))
set_option maxHeartbeats 2000000 in
theorem rep_store (w:World) (b:Nat) (ev wv:Value) (r:RepD) (h:w.heap[b]?=some (.cells #[.slice none 0 0,.slice none 0 0,.int .i64 0,.int .i64 0,.int .i64 0,.int .i64 0,.int .i64 0,.int .i64 0,.int .i64 0] 32 (0,0))) (h1:ev.oneCell'=true) (h2:wv.oneCell'=true) :
  ∃(cs:Array Value) (w7:World),repV ev wv r=.agg cs/\cs.size=9/\(storeCells ⟨b,0,none⟩ cs.toList).run Try.prog w=.ok () w7/\w7.heap[b]?=some (.cells cs 32 (0,0))/\Chg (λk=>k=b) w w7:=by
 refine⟨#[ev,wv,.int .i64 (r.c.read:Int),.int .i64 (r.c.write:Int),.int .i64 (r.c.swap:Int),.int .i64 (r.c.add:Int),.int .i64 (r.c.fault:Int),.int .i64 (r.ticks:Int),.int .i64 (r.idle:Int)],_,rfl,rfl,run_storeCells_cells (P:=Try.prog) b 0 _ 0 w (λj hj=>?_) (λj hj=>frozen_blk h _) (λv hv=>?_),?_,?_⟩
 ·rw [cell_blk h]
  have:j<9:=by simpa using hj
  rw [Array.getElem?_eq_getElem (by simpa using this)];rfl
 ·simp only [List.mem_cons,List.not_mem_nil,or_false] at hv
  rcases hv with rfl|rfl|rfl|rfl|rfl|rfl|rfl|rfl|rfl
  ·exact h1
  ·exact h2
  all_goals rfl
 ·simp only [World.setCells,Nat.reduceAdd]
  rw [(blk_set (blk_set (blk_set (blk_set (blk_set (blk_set (blk_set (blk_set (blk_set h _ _) _ _) _ _) _ _) _ _) _ _) _ _) _ _) _ _)]
  simp only [zq4,zq5,zq6]
 ·exact Chg.setCells b _ _ w
theorem rep_info:(Try.prog.info? 32).map (·.size)=some 9:=by kernel_rfl
theorem rep_load (w:World) (b:Nat) (cs:Array Value) (h:w.heap[b]?=some (.cells cs 32 (0,0))) (hc:cs.size=9):(loadVar 32 ⟨b,0,none⟩).run Try.prog w=.ok (.agg cs) w:=by
 have:=run_loadVar_mid (P:=Try.prog) w b 0 32 cs.toList _ (λj v hv=>by rw [Nat.zero_add,cell_blk h];simpa using hv) Try.underlying32 rfl (by rw [rep_info];simp [hc])
 simpa using this
end
section

/- Layer 7: cons.Play. -/
open Go.RowKit
end
section

/- Layer 7: agreement, in plain numbers. -/
open Go.RowKit
def Proposed (calls:List CallD) (evs:List EvD) (x:Nat):Prop:=∃ i,i<evs.length/\(calls.getD (evAt evs i).call d0).obj=0/\(calls.getD (evAt evs i).call d0).kind=0/\(calls.getD (evAt evs i).call d0).a+1=x
def EvFits (x:Nat) (e:EvD):Prop:=e.steps<=2/\(e.resp≠0->e.ans.err=0->e.ans.val+1=x)
structure CoInv (calls:List CallD) (st:PlayD consS) (x:Nat):Prop where
 good:StGood calls st
 ws:st.wd.mem.ws=[x]
 prop:x≠0->Proposed calls st.evs x
 evs:∀ i,i<st.evs.length->EvFits x (evAt st.evs i)
 hand:∀ p s k,st.hands.getD p (none,0)=(some s,k)->∃ v,s=.prop v true/\(evAt st.evs k).steps=1/\x≠0
theorem Proposed.keep {calls:List CallD} {evs evs':List EvD} {x:Nat} (h:Proposed calls evs x) (hl:evs.length<=evs'.length) (hc:∀ i,i<evs.length->(evAt evs' i).call=(evAt evs i).call):Proposed calls evs' x:=by
 obtain⟨i,h1,h2⟩:=h
 exact⟨i,by omega,by rw [hc i h1];exact h2⟩
theorem evAt_old {l:List EvD} {e:EvD} {i:Nat} (h:i<l.length):evAt (l++[e]) i=evAt l i:=getD_snoc_lt h
theorem evAt_last {l:List EvD} {e:EvD}:evAt (l++[e]) l.length=e:=getD_snoc_eq
theorem end_same {S:Sys} (st:PlayD S) (hl:∀ o wd p s,S.late o wd p s=none):∀(l:List Nat) (evs:List EvD),(l.foldl (endEv S st) evs).length=evs.length/\∀ i,(evAt (l.foldl (endEv S st) evs) i).call=(evAt evs i).call/\(evAt (l.foldl (endEv S st) evs) i).inv=(evAt evs i).inv/\(evAt (l.foldl (endEv S st) evs) i).resp=(evAt evs i).resp/\(evAt (l.foldl (endEv S st) evs) i).steps=(evAt evs i).steps/\(evAt (l.foldl (endEv S st) evs) i).ans=(evAt evs i).ans
 | [],_=>⟨rfl,λ_=>⟨rfl,rfl,rfl,rfl,rfl⟩⟩
 | p::l,evs=>by
  rw [List.foldl_cons]
  obtain⟨h1,h2⟩:=end_same st hl l (endEv S st evs p)
  have h3:(endEv S st evs p).length=evs.length/\∀ i,(evAt (endEv S st evs p) i).call=(evAt evs i).call/\(evAt (endEv S st evs p) i).inv=(evAt evs i).inv/\(evAt (endEv S st evs p) i).resp=(evAt evs i).resp/\(evAt (endEv S st evs p) i).steps=(evAt evs i).steps/\(evAt (endEv S st evs p) i).ans=(evAt evs i).ans:=by
   unfold endEv
   split
   ·exact⟨rfl,λ_=>⟨rfl,rfl,rfl,rfl,rfl⟩⟩
   ·rename_i s k _
    refine⟨by simp [modEv],λi=>?_⟩
    rcases Nat.lt_or_ge k evs.length with hk|hk
    ·unfold modEv
     rw [evAt_set _ hk]
     split
     ·rename_i e;subst e;exact⟨rfl,rfl,rfl,rfl,rfl⟩
     ·exact⟨rfl,rfl,rfl,rfl,rfl⟩
    ·have:modEv evs k (λe=>{ e with key:=(S.late st.obj st.wd p s).getD (st.wd.marks.getD p []) })=evs:=by
      unfold modEv;exact List.set_eq_of_length_le hk
     rw [this];exact⟨rfl,rfl,rfl,rfl,rfl⟩
  refine⟨h1.trans h3.1,λi=>?_⟩
  have a:=h2 i;have b:=h3.2 i
  exact⟨a.1.trans b.1,a.2.1.trans b.2.1,a.2.2.1.trans b.2.2.1,a.2.2.2.1.trans b.2.2.2.1,a.2.2.2.2.trans b.2.2.2.2⟩
theorem EvGood.len_le {calls:List CallD} {now:Nat} {fin:List Bool} {hnd:Nat->Option Nat} {evs:List EvD} (h:EvGood calls now fin hnd evs):evs.length<=now:=by
 have hi:∀ i,i<evs.length->i+1<=(evAt evs i).inv:=by
  intro i
  induction i with
  | zero=>intro hi;have:=(h.tick 0 hi).1;omega
  | succ i ih=>intro hi;have h1:=ih (by omega);have h2:=h.rise i (i+1) (by omega) hi;omega
 rcases Nat.eq_zero_or_pos evs.length with h0|h0
 ·omega
 ·have h1:=hi (evs.length - 1) (by omega)
  have h2:=(h.tick (evs.length - 1) (by omega)).2.1
  omega
end
section

/- Layer 6: what one pick does to a play, case by case, in plain numbers. -/
open Go.RowKit
variable {S:Sys}
def ev1 (S:Sys) (r:S.ω×WD×S.σ×Bool) (q:Nat) (e:EvD):EvD:=if r.2.2.2 then finishEv r.2.1 q (S.answer r.2.2.1).1 (S.answer r.2.2.1).2 e else stepEv e
def stepTo (st:PlayD S) (r:S.ω×WD×S.σ×Bool) (q i k:Nat) (evs0:List EvD):PlayD S:=
 { wd:=r.2.1,obj:=r.1,fin:=if r.2.2.2 then st.fin.set i true else st.fin,hands:=st.hands.set q (if r.2.2.2 then none else some r.2.2.1,k),evs:=evs0.set k (ev1 S r q (evAt evs0 k)),idle:=st.idle }
def refuseTo (st:PlayD S) (q i:Nat) (er:Int):PlayD S:=
 { wd:=st.wd.tick.begin q,obj:=st.obj,fin:=st.fin.set i true,hands:=st.hands.set q (none,st.evs.length),evs:=st.evs++[finishEv (st.wd.tick.begin q) q ⟨er,0,[]⟩ [] (newEv i (st.wd.tick.begin q))],idle:=st.idle }
inductive From (calls:List CallD) (st:PlayD S) (q i:Nat):Nat->S.σ->List EvD->WD->Prop where
 | old (k:Nat) (s:S.σ) (hh:st.hands.getD q (none,0)=(some s,k)) (hk:k<st.evs.length) (hc:(evAt st.evs k).call=i) (hr:(evAt st.evs k).resp=0):From calls st q i k s st.evs st.wd.tick
 | new (s:S.σ) (hh:(st.hands.getD q (none,0)).1=none) (hs:startD S st.obj (st.wd.tick.begin q) q (calls.getD i d0)=.run s):From calls st q i st.evs.length s (st.evs++[newEv i (st.wd.tick.begin q)]) (st.wd.tick.begin q)
inductive Turn (calls:List CallD) (st:PlayD S):PlayD S->Prop where
 | idle:Turn calls st { st with idle:=st.idle+1 }
 | refuse (q i:Nat) (er:Int) (hq:q<16) (hN:nowN calls st.fin (q:Int)=some i) (hh:(st.hands.getD q (none,0)).1=none) (hs:startD S st.obj (st.wd.tick.begin q) q (calls.getD i d0)=.refuse er):Turn calls st (refuseTo st q i er)
 | step (q i k:Nat) (s:S.σ) (evs0:List EvD) (wd0:WD) (hq:q<16) (hN:nowN calls st.fin (q:Int)=some i) (hf:From calls st q i k s evs0 wd0):Turn calls st (stepTo st (S.step st.obj wd0 q s) q i k evs0)
theorem goStep_to {st0 st:PlayD S} {q i k:Nat} {s:S.σ} {evs0:List EvD} (ho:st0.obj=st.obj) (he:st0.evs=evs0) (hh:st0.hands.set q (none,k)=st.hands.set q (none,k)) (hh2:∀ x,st0.hands.set q (some x,k)=st.hands.set q (some x,k)) (hf:st0.fin=st.fin) (hi:st0.idle=st.idle) :
  (if (goStep S st0 q k s).2 then { (goStep S st0 q k s).1 with fin:=(goStep S st0 q k s).1.fin.set i true } else (goStep S st0 q k s).1)=stepTo st (S.step st.obj st0.wd q s) q i k evs0:=by
 unfold goStep stepTo ev1
 simp only
 rw [ho]
 cases hd:(S.step st.obj st0.wd q s).2.2.2 with
 | true=>simp only [if_true,hh,hf,hi,modEv];rw [he];rfl
 | false=>simp only [Bool.false_eq_true,if_false,hh2,hf,hi,modEv];rw [he];rfl
theorem pick_turn {calls:List CallD} (hthr:∀ c,c<calls.length->0<=(calls.getD c d0).thread/\(calls.getD c d0).thread<16) {st:PlayD S} (h:StGood calls st) (p:Int):Turn calls st (pickD S calls st p):=by
 cases hN:nowN calls st.fin p with
 | none=>
  have hp:pickD S calls st p={ st with idle:=st.idle+1 }:=by unfold pickD;rw [hN]
  rw [hp];exact .idle
 | some i=>
  obtain⟨n1,n2,n3⟩:=nowN_spec hN
  obtain⟨t1,t2⟩:=hthr i n1
  obtain⟨q,rfl⟩:∃ q:Nat,p=(q:Int):=⟨p.toNat,by omega⟩
  have hq:q<16:=by omega
  have hp:pickD S calls st (q:Int)=if (stepD S calls st q i).2 then { (stepD S calls st q i).1 with fin:=(stepD S calls st q i).1.fin.set i true } else (stepD S calls st q i).1:=by unfold pickD;rw [hN];rfl
  rw [hp]
  cases hs:(st.hands.getD q (none,0)).1 with
  | some s=>
   obtain⟨k,hk⟩:∃ k,k=(st.hands.getD q (none,0)).2:=⟨_,rfl⟩
   have hh:hndOf st.hands q=some k:=by unfold hndOf;rw [hs,hk];rfl
   obtain⟨k1,k2,k3,k4⟩:=h.ev.hand q k hh
   have hst:stepD S calls st q i=goStep S { st with wd:=st.wd.tick } q k s:=by unfold stepD;rw [hs];simp only;rw [<-hk]
   rw [hst]
   exact(congrArg (Turn calls st) (goStep_to (i:=i) (st0:={ st with wd:=st.wd.tick }) (st:=st) (q:=q) (k:=k) (s:=s) (evs0:=st.evs) rfl rfl rfl (λ_=>rfl) rfl rfl)).mpr
    (.step q i k s st.evs st.wd.tick hq hN (.old k s (Prod.ext hs hk.symm) k1 (by rw [hN] at k4;cases k4;rfl) k3))
  | none=>
   cases hst:startD S st.obj (st.wd.tick.begin q) q (calls.getD i d0) with
   | refuse e=>
    have hst2:stepD S calls st q i=({ st with wd:=st.wd.tick.begin q,hands:=st.hands.set q (none,st.evs.length),evs:=st.evs++[finishEv (st.wd.tick.begin q) q ⟨e,0,[]⟩ [] (newEv i (st.wd.tick.begin q))] },true):=by
     unfold stepD;rw [hs];simp only;rw [hst]
    rw [hst2]
    exact .refuse q i e hq hN hs hst
   | run s=>
    have hst2:stepD S calls st q i=goStep S { st with wd:=st.wd.tick.begin q,hands:=st.hands.set q (some s,st.evs.length),evs:=st.evs++[newEv i (st.wd.tick.begin q)] } q st.evs.length s:=by
     unfold stepD;rw [hs];simp only;rw [hst]
    rw [hst2]
    exact(congrArg (Turn calls st) (goStep_to (i:=i) (st0:={ st with wd:=st.wd.tick.begin q,hands:=st.hands.set q (some s,st.evs.length),evs:=st.evs++[newEv i (st.wd.tick.begin q)] }) (st:=st) (q:=q) (k:=st.evs.length) (s:=s) (evs0:=st.evs++[newEv i (st.wd.tick.begin q)]) rfl rfl (by simp [List.set_set]) (λ_=>by simp [List.set_set]) rfl rfl)).mpr
     (.step q i st.evs.length s _ _ hq hN (.new s hs hst))
theorem picks_ind {calls:List CallD} (hnow:∀ o wd p s,(S.step o wd p s).2.1.now=wd.now) (hthr:∀ c,c<calls.length->0<=(calls.getD c d0).thread/\(calls.getD c d0).thread<16) {J:PlayD S->Prop}
  (hJ:∀ st st',StGood calls st->StGood calls st'->J st->Turn calls st st'->J st'):∀(picks:List Int) {st:PlayD S},StGood calls st->J st->StGood calls (picksD S calls st picks)/\J (picksD S calls st picks)
 | [],_,hg,h=>⟨hg,h⟩
 | p::ps,_,hg,h=>picks_ind hnow hthr hJ ps (pick_good hnow hthr hg p) (hJ _ _ hg (pick_good hnow hthr hg p) h (pick_turn hthr hg p))
theorem From.len {calls:List CallD} {st:PlayD S} {q i k:Nat} {s:S.σ} {evs0:List EvD} {wd0:WD} (h:From calls st q i k s evs0 wd0):k<evs0.length:=by
 cases h with
 | old k s hh hk hc hr=>exact hk
 | new s hh hs=>simp
theorem From.call {calls:List CallD} {st:PlayD S} {q i k:Nat} {s:S.σ} {evs0:List EvD} {wd0:WD} (h:From calls st q i k s evs0 wd0):(evAt evs0 k).call=i:=by
 cases h with
 | old k s hh hk hc hr=>exact hc
 | new s hh hs=>rw [evAt_last];rfl
theorem From.open_ {calls:List CallD} {st:PlayD S} {q i k:Nat} {s:S.σ} {evs0:List EvD} {wd0:WD} (h:From calls st q i k s evs0 wd0):(evAt evs0 k).resp=0:=by
 cases h with
 | old k s hh hk hc hr=>exact hr
 | new s hh hs=>rw [evAt_last];rfl
theorem From.now {calls:List CallD} {st:PlayD S} {q i k:Nat} {s:S.σ} {evs0:List EvD} {wd0:WD} (h:From calls st q i k s evs0 wd0):wd0.now=st.wd.now+1:=by
 cases h<;>rfl
theorem From.mem {calls:List CallD} {st:PlayD S} {q i k:Nat} {s:S.σ} {evs0:List EvD} {wd0:WD} (h:From calls st q i k s evs0 wd0):wd0.mem=st.wd.mem:=by
 cases h<;>rfl
theorem From.traces {calls:List CallD} {st:PlayD S} {q i k:Nat} {s:S.σ} {evs0:List EvD} {wd0:WD} (h:From calls st q i k s evs0 wd0):wd0.traces=st.wd.traces:=by
 cases h<;>rfl
theorem From.obj {calls:List CallD} {st:PlayD S} {q i k:Nat} {s:S.σ} {evs0:List EvD} {wd0:WD} (h:From calls st q i k s evs0 wd0):st.evs.length<=evs0.length/\∀ j,j<st.evs.length->evAt evs0 j=evAt st.evs j:=by
 cases h with
 | old k s hh hk hc hr=>exact⟨Nat.le_refl _,λ_ _=>rfl⟩
 | new s hh hs=>exact⟨by simp,λj hj=>evAt_old hj⟩
theorem From.other {calls:List CallD} {st:PlayD S} {q i k:Nat} {s:S.σ} {evs0:List EvD} {wd0:WD} (h:From calls st q i k s evs0 wd0) (e:EvD) {j:Nat} (hj:j<(evs0.set k e).length) (hjk:j≠k):j<st.evs.length/\evAt (evs0.set k e) j=evAt st.evs j:=by
 rw [List.length_set] at hj
 rw [evAt_set _ h.len,if_neg hjk]
 cases h with
 | old k s hh hk hc hr=>exact⟨hj,rfl⟩
 | new s hh hs=>
  have:j<st.evs.length:=by simp at hj;omega
  exact⟨this,evAt_old this⟩
theorem From.self {calls:List CallD} {st:PlayD S} {q i k:Nat} {s:S.σ} {evs0:List EvD} {wd0:WD} (h:From calls st q i k s evs0 wd0) (e:EvD):evAt (evs0.set k e) k=e:=by rw [evAt_set _ h.len,if_pos rfl]
theorem From.size {calls:List CallD} {st:PlayD S} {q i k:Nat} {s:S.σ} {evs0:List EvD} {wd0:WD} (h:From calls st q i k s evs0 wd0) (e:EvD):st.evs.length<=(evs0.set k e).length:=by rw [List.length_set];exact h.obj.1
theorem hands_set {h16:Nat} {hands:List (Option S.σ×Nat)} {q:Nat} (hl:hands.length=h16) (hq:q<h16) (x:Option S.σ×Nat) (p:Nat):(hands.set q x).getD p (none,0)=if p=q then x else hands.getD p (none,0):=by
 by_cases h:p=q
 ·subst h;rw [if_pos rfl];exact getD_set_eq (by omega)
 ·rw [if_neg h];exact getD_set_neq (Ne.symm h)
end
section

/- Layer 6: the rows of a report (6.3), in plain numbers. -/
open Go.RowKit
def Within (k:List Int) (inv resp:Nat):Prop:=k≠[]/\2*(inv:Int)<=k.headD 0/\k.headD 0<=2*(resp:Int)
structure KeySys (S:Sys):Prop where
 now:∀ o wd p s,(S.step o wd p s).2.1.now=wd.now
 mlen:∀ o wd p s,(S.step o wd p s).2.1.marks.length=wd.marks.length
 mark:∀ o wd p s q,(S.step o wd p s).2.1.marks.getD q []=wd.marks.getD q []∨∃ rest,(S.step o wd p s).2.1.marks.getD q []=2*(wd.now:Int)::rest
 ans:∀ s,(S.answer s).2=[]
 late:∀ o wd p s,S.late o wd p s=none
structure KeyInv {S:Sys} (calls:List CallD) (st:PlayD S):Prop where
 good:StGood calls st
 m16:st.wd.marks.length=16
 keys:∀ i,i<st.evs.length->(evAt st.evs i).resp≠0->Within (evAt st.evs i).key (evAt st.evs i).inv (evAt st.evs i).resp
 none_:∀ i,i<st.evs.length->(evAt st.evs i).resp=0->(evAt st.evs i).key=[]
 marks:∀ p k,hndOf st.hands p=some k->st.wd.marks.getD p []=[]∨Within (st.wd.marks.getD p []) (evAt st.evs k).inv st.wd.now
variable {S:Sys}
theorem Within.more {k:List Int} {inv a b:Nat} (h:Within k inv a) (hab:a<=b):Within k inv b:=⟨h.1,h.2.1,by have:=h.2.2;omega⟩
end
end Go.Proofs.Ytlepjmnhekeofaa
