/- Layer 6: what a play hands out, in one form. -/
import Derived.Test.YtifhldnmcdbpfaaV15
import Derived.Test.YtifhldnmcdbpfaaV12
set_option maxRecDepth 100000
set_option linter.unusedVariables false
set_option linter.unusedSimpArgs false
set_option linter.unnecessarySimpa false
namespace Go.Proofs.Ytifhldnmcdbpfaa
open List renaming getElem_toArray → zq1, getElem_cons_zero → zq2, getElem_cons_succ → zq3, setIfInBounds_toArray → zq4, set_cons_zero → zq5, set_cons_succ → zq6
section
open Go.RowKit
structure kH (X:Nat->Prop) (w:World) (ca:Option Addr) (calls:List aF):Prop where
 sl:bQ w ca calls.length 6 (gK calls)
 ok:∀ x∈calls,mY x
 nx:0<calls.length->∀ b off,ca=some ⟨b,off,none⟩->¬ X b
structure lX (w:World) (pa:Option Addr) (picks:List Int):Prop where
 sl:bQ w pa picks.length 1 (gQ picks)
 ok:∀ x∈picks,(Lit.int .i64 x).wf=true
theorem kH.grown {X:Nat->Prop} {w w':World} {ca:Option Addr} {calls:List aF} (h:kH X w ca calls) (hb:Below w.heap.size w w'):kH X w' ca calls:=⟨h.sl.grown hb,h.ok,h.nx⟩
theorem lX.grown {w w':World} {pa:Option Addr} {picks:List Int} (h:lX w pa picks) (hb:Below w.heap.size w w'):lX w' pa picks:=⟨h.sl.grown hb,h.ok⟩
def lQ (X:Nat->Prop) (w w':World) (er:Int) (r:iU) (ea:Option Addr) (en ec:Nat) (va:Option Addr) (vn vc:Nat) (rp:iU):Prop:=
 Below w.heap.size w w'/\((er≠0/\ea=none/\en=0/\ec=0/\va=none/\vn=0/\vc=0/\rp=⟨[],[],c0,0,0⟩)∨
  (er=0/\rp=r/\en=r.evs.length/\vn=r.words.length/\∃ ers,iB X w.heap.size w' (.slice ea en ec) (.slice va vn vc) ers r))
def rD (X:Nat->Prop) (w w':World) (er:Int) (r:iU) (e:Ending):Prop:=
 ∃ ea en ec va vn vc rp,e=.returned (.tuple #[kS (.slice ea en ec) (.slice va vn vc) rp,.int .i64 er])/\lQ X w w' er r ea en ec va vn vc rp
theorem lQ.chg {X X' Q:Nat->Prop} {w0 w w' w'':World} {er:Int} {r:iU} {ea:Option Addr} {en ec:Nat} {va:Option Addr} {vn vc:Nat} {rp:iU} (h:lQ X w w' er r ea en ec va vn vc rp) (hc:Chg Q w' w'') (hQ:∀ b,Q b->X b/\w0.heap.size<=b/\b<w.heap.size) (h0:Below w0.heap.size w0 w) (hX:∀ b,X' b->X b):lQ X' w0 w'' er r ea en ec va vn vc rp:=by
 obtain⟨hb,hr⟩:=h
 have hb1:Chg (λb=>w0.heap.size<=b) w0 w'':=((Chg.of_below h0).trans (show Chg (λb=>w0.heap.size<=b) w w' from⟨hb.os,hb.tape,hb.output,hb.size,λk hk _=>hb.block k hk⟩)).trans (hc.mono (λb _ hq=>(hQ b hq).2.1))
 refine⟨hb1.below (λb h=>h) (Nat.le_refl _),?_⟩
 rcases hr with hr|⟨h1,h2,h3,h4,ers,h5⟩
 ·exact .inl hr
 ·exact .inr ⟨h1,h2,h3,h4,ers,(h5.chg hc (λb hb=>⟨(hQ b hb).1,(hQ b hb).2.2⟩)).low h0.size hX⟩
theorem DU:(Try.prog.info? 40).map (λi=>(i.zero,i.size,i.bytes))=some (some (.int .u64 0),1,8):=by kernel_rfl
theorem Chg.setCells (b:Nat):∀(vs:List Value) (o:Nat) (w:World),Chg (λk=>k=b) w (w.setCells b o vs)
 | [],_,w=>Chg.refl _ w
 | v::r,o,w=>((Chg.refl (λk=>k=b) w).setCell (p:=⟨b,o,none⟩) (.inl rfl) v).trans (Chg.setCells b r (o+1) (w.setCell ⟨b,o,none⟩ v))
set_option maxHeartbeats 2000000 in
theorem EH (w:World) (b:Nat) (ev wv:Value) (r:iU) (h:w.heap[b]?=some (.cells #[.slice none 0 0,.slice none 0 0,.int .i64 0,.int .i64 0,.int .i64 0,.int .i64 0,.int .i64 0,.int .i64 0,.int .i64 0] 32 (0,0))) (h1:ev.oneCell'=true) (h2:wv.oneCell'=true) :
  ∃(cs:Array Value) (w7:World),kS ev wv r=.agg cs/\cs.size=9/\(storeCells ⟨b,0,none⟩ cs.toList).run Try.prog w=.ok () w7/\w7.heap[b]?=some (.cells cs 32 (0,0))/\Chg (λk=>k=b) w w7:=by
 refine⟨#[ev,wv,.int .i64 (r.c.read:Int),.int .i64 (r.c.write:Int),.int .i64 (r.c.swap:Int),.int .i64 (r.c.add:Int),.int .i64 (r.c.fault:Int),.int .i64 (r.ticks:Int),.int .i64 (r.idle:Int)],_,rfl,rfl,run_storeCells_cells (P:=Try.prog) b 0 _ 0 w (λj hj=>?_) (λj hj=>aB h _) (λv hv=>?_),?_,?_⟩
 ·rw [aA h]
  have:j<9:=by simpa using hj
  rw [Array.getElem?_eq_getElem (by simpa using this)];rfl
 ·simp only [List.mem_cons,List.not_mem_nil,or_false] at hv
  rcases hv with rfl|rfl|rfl|rfl|rfl|rfl|rfl|rfl|rfl
  ·exact h1
  ·exact h2
  all_goals rfl
 ·simp only [World.setCells,Nat.reduceAdd]
  rw [(aH (aH (aH (aH (aH (aH (aH (aH (aH h _ _) _ _) _ _) _ _) _ _) _ _) _ _) _ _) _ _)]
  simp only [zq4,zq5,zq6]
 ·exact Chg.setCells b _ _ w
theorem JY:(Try.prog.info? 32).map (·.size)=some 9:=by kernel_rfl
theorem oO (w:World) (b:Nat) (cs:Array Value) (h:w.heap[b]?=some (.cells cs 32 (0,0))) (hc:cs.size=9):(loadVar 32 ⟨b,0,none⟩).run Try.prog w=.ok (.agg cs) w:=by
 have:=run_loadVar_mid (P:=Try.prog) w b 0 32 cs.toList _ (λj v hv=>by rw [Nat.zero_add,aA h];simpa using hv) Try.underlying32 rfl (by rw [JY];simp [hc])
 simpa using this
end
section
open Go.RowKit
end
section
open Go.RowKit
def nV (calls:List aF) (evs:List EvD) (x:Nat):Prop:=∃ i,i<evs.length/\(calls.getD (aD evs i).call d0).obj=0/\(calls.getD (aD evs i).call d0).kind=0/\(calls.getD (aD evs i).call d0).a+1=x
def OD (x:Nat) (e:EvD):Prop:=e.steps<=2/\(e.resp≠0->e.ans.err=0->e.ans.val+1=x)
structure VK (calls:List aF) (st:aQ QQ) (x:Nat):Prop where
 good:eD calls st
 ws:st.wd.mem.ws=[x]
 prop:x≠0->nV calls st.evs x
 evs:∀ i,i<st.evs.length->OD x (aD st.evs i)
 hand:∀ p s k,st.hands.getD p (none,0)=(some s,k)->∃ v,s=.prop v true/\(aD st.evs k).steps=1/\x≠0
theorem nV.keep {calls:List aF} {evs evs':List EvD} {x:Nat} (h:nV calls evs x) (hl:evs.length<=evs'.length) (hc:∀ i,i<evs.length->(aD evs' i).call=(aD evs i).call):nV calls evs' x:=by
 obtain⟨i,h1,h2⟩:=h
 exact⟨i,by omega,by rw [hc i h1];exact h2⟩
theorem rW {l:List EvD} {e:EvD} {i:Nat} (h:i<l.length):aD (l++[e]) i=aD l i:=gZ h
theorem jV {l:List EvD} {e:EvD}:aD (l++[e]) l.length=e:=dW
theorem zD {S:Sys} (st:aQ S) (hl:∀ o wd p s,S.late o wd p s=none):∀(l:List Nat) (evs:List EvD),(l.foldl (gF S st) evs).length=evs.length/\∀ i,(aD (l.foldl (gF S st) evs) i).call=(aD evs i).call/\(aD (l.foldl (gF S st) evs) i).inv=(aD evs i).inv/\(aD (l.foldl (gF S st) evs) i).resp=(aD evs i).resp/\(aD (l.foldl (gF S st) evs) i).steps=(aD evs i).steps/\(aD (l.foldl (gF S st) evs) i).ans=(aD evs i).ans
 | [],_=>⟨rfl,λ_=>⟨rfl,rfl,rfl,rfl,rfl⟩⟩
 | p::l,evs=>by
  rw [List.foldl_cons]
  obtain⟨h1,h2⟩:=zD st hl l (gF S st evs p)
  have h3:(gF S st evs p).length=evs.length/\∀ i,(aD (gF S st evs p) i).call=(aD evs i).call/\(aD (gF S st evs p) i).inv=(aD evs i).inv/\(aD (gF S st evs p) i).resp=(aD evs i).resp/\(aD (gF S st evs p) i).steps=(aD evs i).steps/\(aD (gF S st evs p) i).ans=(aD evs i).ans:=by
   unfold gF
   split
   ·exact⟨rfl,λ_=>⟨rfl,rfl,rfl,rfl,rfl⟩⟩
   ·rename_i s k _
    refine⟨by simp [cB],λi=>?_⟩
    rcases Nat.lt_or_ge k evs.length with hk|hk
    ·unfold cB
     rw [jM _ hk]
     split
     ·rename_i e;subst e;exact⟨rfl,rfl,rfl,rfl,rfl⟩
     ·exact⟨rfl,rfl,rfl,rfl,rfl⟩
    ·have:cB evs k (λe=>{ e with key:=(S.late st.obj st.wd p s).getD (st.wd.marks.getD p []) })=evs:=by
      unfold cB;exact List.set_eq_of_length_le hk
     rw [this];exact⟨rfl,rfl,rfl,rfl,rfl⟩
  refine⟨h1.trans h3.1,λi=>?_⟩
  have a:=h2 i;have b:=h3.2 i
  exact⟨a.1.trans b.1,a.2.1.trans b.2.1,a.2.2.1.trans b.2.2.1,a.2.2.2.1.trans b.2.2.2.1,a.2.2.2.2.trans b.2.2.2.2⟩
theorem iD.len_le {calls:List aF} {now:Nat} {fin:List Bool} {hnd:Nat->Option Nat} {evs:List EvD} (h:iD calls now fin hnd evs):evs.length<=now:=by
 have hi:∀ i,i<evs.length->i+1<=(aD evs i).inv:=by
  intro i
  induction i with
  | zero=>intro hi;have:=(h.tick 0 hi).1;omega
  | succ i ih=>intro hi;have h1:=ih (by omega);have h2:=h.rise i (i+1) (by omega) hi;omega
 rcases Nat.eq_zero_or_pos evs.length with h0|h0
 ·omega
 ·have h1:=hi (evs.length - 1) (by omega)
  have h2:=(h.tick (evs.length - 1) (by omega)).2.1
  omega
end
section
open Go.RowKit
variable {S:Sys}
def VE (S:Sys) (r:S.ω×WD×S.σ×Bool) (q:Nat) (e:EvD):EvD:=if r.2.2.2 then bK r.2.1 q (S.answer r.2.2.1).1 (S.answer r.2.2.1).2 e else aZ e
def nA (st:aQ S) (r:S.ω×WD×S.σ×Bool) (q i k:Nat) (bJ:List EvD):aQ S:=
 { wd:=r.2.1,obj:=r.1,fin:=if r.2.2.2 then st.fin.set i true else st.fin,hands:=st.hands.set q (if r.2.2.2 then none else some r.2.2.1,k),evs:=bJ.set k (VE S r q (aD bJ k)),idle:=st.idle }
def oJ (st:aQ S) (q i:Nat) (er:Int):aQ S:=
 { wd:=st.wd.tick.begin q,obj:=st.obj,fin:=st.fin.set i true,hands:=st.hands.set q (none,st.evs.length),evs:=st.evs++[bK (st.wd.tick.begin q) q ⟨er,0,[]⟩ [] (dC i (st.wd.tick.begin q))],idle:=st.idle }
inductive From (calls:List aF) (st:aQ S) (q i:Nat):Nat->S.σ->List EvD->WD->Prop where
 | old (k:Nat) (s:S.σ) (hh:st.hands.getD q (none,0)=(some s,k)) (hk:k<st.evs.length) (hc:(aD st.evs k).call=i) (hr:(aD st.evs k).resp=0):From calls st q i k s st.evs st.wd.tick
 | new (s:S.σ) (hh:(st.hands.getD q (none,0)).1=none) (hs:dH S st.obj (st.wd.tick.begin q) q (calls.getD i d0)=.run s):From calls st q i st.evs.length s (st.evs++[dC i (st.wd.tick.begin q)]) (st.wd.tick.begin q)
inductive yJ (calls:List aF) (st:aQ S):aQ S->Prop where
 | idle:yJ calls st { st with idle:=st.idle+1 }
 | refuse (q i:Nat) (er:Int) (hq:q<16) (hN:iI calls st.fin (q:Int)=some i) (hh:(st.hands.getD q (none,0)).1=none) (hs:dH S st.obj (st.wd.tick.begin q) q (calls.getD i d0)=.refuse er):yJ calls st (oJ st q i er)
 | step (q i k:Nat) (s:S.σ) (bJ:List EvD) (dK:WD) (hq:q<16) (hN:iI calls st.fin (q:Int)=some i) (hf:From calls st q i k s bJ dK):yJ calls st (nA st (S.step st.obj dK q s) q i k bJ)
theorem uH {st0 st:aQ S} {q i k:Nat} {s:S.σ} {bJ:List EvD} (ho:st0.obj=st.obj) (he:st0.evs=bJ) (hh:st0.hands.set q (none,k)=st.hands.set q (none,k)) (VA:∀ x,st0.hands.set q (some x,k)=st.hands.set q (some x,k)) (hf:st0.fin=st.fin) (hi:st0.idle=st.idle) :
  (if (eZ S st0 q k s).2 then { (eZ S st0 q k s).1 with fin:=(eZ S st0 q k s).1.fin.set i true } else (eZ S st0 q k s).1)=nA st (S.step st.obj st0.wd q s) q i k bJ:=by
 unfold eZ nA VE
 simp only
 rw [ho]
 cases hd:(S.step st.obj st0.wd q s).2.2.2 with
 | true=>simp only [if_true,hh,hf,hi,cB];rw [he];rfl
 | false=>simp only [Bool.false_eq_true,if_false,VA,hf,hi,cB];rw [he];rfl
theorem DL {calls:List aF} (hthr:∀ c,c<calls.length->0<=(calls.getD c d0).thread/\(calls.getD c d0).thread<16) {st:aQ S} (h:eD calls st) (p:Int):yJ calls st (gV S calls st p):=by
 cases hN:iI calls st.fin p with
 | none=>
  have hp:gV S calls st p={ st with idle:=st.idle+1 }:=by unfold gV;rw [hN]
  rw [hp];exact .idle
 | some i=>
  obtain⟨n1,n2,n3⟩:=dO hN
  obtain⟨t1,t2⟩:=hthr i n1
  obtain⟨q,rfl⟩:∃ q:Nat,p=(q:Int):=⟨p.toNat,by omega⟩
  have hq:q<16:=by omega
  have hp:gV S calls st (q:Int)=if (dJ S calls st q i).2 then { (dJ S calls st q i).1 with fin:=(dJ S calls st q i).1.fin.set i true } else (dJ S calls st q i).1:=by unfold gV;rw [hN];rfl
  rw [hp]
  cases hs:(st.hands.getD q (none,0)).1 with
  | some s=>
   obtain⟨k,hk⟩:∃ k,k=(st.hands.getD q (none,0)).2:=⟨_,rfl⟩
   have hh:eT st.hands q=some k:=by unfold eT;rw [hs,hk];rfl
   obtain⟨k1,k2,k3,k4⟩:=h.ev.hand q k hh
   have hst:dJ S calls st q i=eZ S { st with wd:=st.wd.tick } q k s:=by unfold dJ;rw [hs];simp only;rw [<-hk]
   rw [hst]
   exact(congrArg (yJ calls st) (uH (i:=i) (st0:={ st with wd:=st.wd.tick }) (st:=st) (q:=q) (k:=k) (s:=s) (bJ:=st.evs) rfl rfl rfl (λ_=>rfl) rfl rfl)).mpr
    (.step q i k s st.evs st.wd.tick hq hN (.old k s (Prod.ext hs hk.symm) k1 (by rw [hN] at k4;cases k4;rfl) k3))
  | none=>
   cases hst:dH S st.obj (st.wd.tick.begin q) q (calls.getD i d0) with
   | refuse e=>
    have PH:dJ S calls st q i=({ st with wd:=st.wd.tick.begin q,hands:=st.hands.set q (none,st.evs.length),evs:=st.evs++[bK (st.wd.tick.begin q) q ⟨e,0,[]⟩ [] (dC i (st.wd.tick.begin q))] },true):=by
     unfold dJ;rw [hs];simp only;rw [hst]
    rw [PH]
    exact .refuse q i e hq hN hs hst
   | run s=>
    have PH:dJ S calls st q i=eZ S { st with wd:=st.wd.tick.begin q,hands:=st.hands.set q (some s,st.evs.length),evs:=st.evs++[dC i (st.wd.tick.begin q)] } q st.evs.length s:=by
     unfold dJ;rw [hs];simp only;rw [hst]
    rw [PH]
    exact(congrArg (yJ calls st) (uH (i:=i) (st0:={ st with wd:=st.wd.tick.begin q,hands:=st.hands.set q (some s,st.evs.length),evs:=st.evs++[dC i (st.wd.tick.begin q)] }) (st:=st) (q:=q) (k:=st.evs.length) (s:=s) (bJ:=st.evs++[dC i (st.wd.tick.begin q)]) rfl rfl (by simp [List.set_set]) (λ_=>by simp [List.set_set]) rfl rfl)).mpr
     (.step q i st.evs.length s _ _ hq hN (.new s hs hst))
theorem vC {calls:List aF} (hnow:∀ o wd p s,(S.step o wd p s).2.1.now=wd.now) (hthr:∀ c,c<calls.length->0<=(calls.getD c d0).thread/\(calls.getD c d0).thread<16) {J:aQ S->Prop}
  (hJ:∀ st st',eD calls st->eD calls st'->J st->yJ calls st st'->J st'):∀(picks:List Int) {st:aQ S},eD calls st->J st->eD calls (eO S calls st picks)/\J (eO S calls st picks)
 | [],_,hg,h=>⟨hg,h⟩
 | p::ps,_,hg,h=>vC hnow hthr hJ ps (uX hnow hthr hg p) (hJ _ _ hg (uX hnow hthr hg p) h (DL hthr hg p))
theorem From.len {calls:List aF} {st:aQ S} {q i k:Nat} {s:S.σ} {bJ:List EvD} {dK:WD} (h:From calls st q i k s bJ dK):k<bJ.length:=by
 cases h with
 | old k s hh hk hc hr=>exact hk
 | new s hh hs=>simp
theorem From.call {calls:List aF} {st:aQ S} {q i k:Nat} {s:S.σ} {bJ:List EvD} {dK:WD} (h:From calls st q i k s bJ dK):(aD bJ k).call=i:=by
 cases h with
 | old k s hh hk hc hr=>exact hc
 | new s hh hs=>rw [jV];rfl
theorem From.open_ {calls:List aF} {st:aQ S} {q i k:Nat} {s:S.σ} {bJ:List EvD} {dK:WD} (h:From calls st q i k s bJ dK):(aD bJ k).resp=0:=by
 cases h with
 | old k s hh hk hc hr=>exact hr
 | new s hh hs=>rw [jV];rfl
theorem From.now {calls:List aF} {st:aQ S} {q i k:Nat} {s:S.σ} {bJ:List EvD} {dK:WD} (h:From calls st q i k s bJ dK):dK.now=st.wd.now+1:=by
 cases h<;>rfl
theorem From.mem {calls:List aF} {st:aQ S} {q i k:Nat} {s:S.σ} {bJ:List EvD} {dK:WD} (h:From calls st q i k s bJ dK):dK.mem=st.wd.mem:=by
 cases h<;>rfl
theorem From.traces {calls:List aF} {st:aQ S} {q i k:Nat} {s:S.σ} {bJ:List EvD} {dK:WD} (h:From calls st q i k s bJ dK):dK.traces=st.wd.traces:=by
 cases h<;>rfl
theorem From.obj {calls:List aF} {st:aQ S} {q i k:Nat} {s:S.σ} {bJ:List EvD} {dK:WD} (h:From calls st q i k s bJ dK):st.evs.length<=bJ.length/\∀ j,j<st.evs.length->aD bJ j=aD st.evs j:=by
 cases h with
 | old k s hh hk hc hr=>exact⟨Nat.le_refl _,λ_ _=>rfl⟩
 | new s hh hs=>exact⟨by simp,λj hj=>rW hj⟩
theorem From.other {calls:List aF} {st:aQ S} {q i k:Nat} {s:S.σ} {bJ:List EvD} {dK:WD} (h:From calls st q i k s bJ dK) (e:EvD) {j:Nat} (hj:j<(bJ.set k e).length) (hjk:j≠k):j<st.evs.length/\aD (bJ.set k e) j=aD st.evs j:=by
 rw [List.length_set] at hj
 rw [jM _ h.len,if_neg hjk]
 cases h with
 | old k s hh hk hc hr=>exact⟨hj,rfl⟩
 | new s hh hs=>
  have:j<st.evs.length:=by simp at hj;omega
  exact⟨this,rW this⟩
theorem From.self {calls:List aF} {st:aQ S} {q i k:Nat} {s:S.σ} {bJ:List EvD} {dK:WD} (h:From calls st q i k s bJ dK) (e:EvD):aD (bJ.set k e) k=e:=by rw [jM _ h.len,if_pos rfl]
theorem From.size {calls:List aF} {st:aQ S} {q i k:Nat} {s:S.σ} {bJ:List EvD} {dK:WD} (h:From calls st q i k s bJ dK) (e:EvD):st.evs.length<=(bJ.set k e).length:=by rw [List.length_set];exact h.obj.1
theorem jP {h16:Nat} {hands:List (Option S.σ×Nat)} {q:Nat} (hl:hands.length=h16) (hq:q<h16) (x:Option S.σ×Nat) (p:Nat):(hands.set q x).getD p (none,0)=if p=q then x else hands.getD p (none,0):=by
 by_cases h:p=q
 ·subst h;rw [if_pos rfl];exact aL (by omega)
 ·rw [if_neg h];exact aR (Ne.symm h)
end
section
open Go.RowKit
def Within (k:List Int) (inv resp:Nat):Prop:=k≠[]/\2*(inv:Int)<=k.headD 0/\k.headD 0<=2*(resp:Int)
structure SH (S:Sys):Prop where
 now:∀ o wd p s,(S.step o wd p s).2.1.now=wd.now
 mlen:∀ o wd p s,(S.step o wd p s).2.1.marks.length=wd.marks.length
 mark:∀ o wd p s q,(S.step o wd p s).2.1.marks.getD q []=wd.marks.getD q []∨∃ rest,(S.step o wd p s).2.1.marks.getD q []=2*(wd.now:Int)::rest
 ans:∀ s,(S.answer s).2=[]
 late:∀ o wd p s,S.late o wd p s=none
structure UE {S:Sys} (calls:List aF) (st:aQ S):Prop where
 good:eD calls st
 m16:st.wd.marks.length=16
 keys:∀ i,i<st.evs.length->(aD st.evs i).resp≠0->Within (aD st.evs i).key (aD st.evs i).inv (aD st.evs i).resp
 none_:∀ i,i<st.evs.length->(aD st.evs i).resp=0->(aD st.evs i).key=[]
 marks:∀ p k,eT st.hands p=some k->st.wd.marks.getD p []=[]∨Within (st.wd.marks.getD p []) (aD st.evs k).inv st.wd.now
variable {S:Sys}
theorem Within.more {k:List Int} {inv a b:Nat} (h:Within k inv a) (hab:a<=b):Within k inv b:=⟨h.1,h.2.1,by have:=h.2.2;omega⟩
end
section
open Go.RowKit
variable {S:Sys}
theorem AC {calls:List aF} {st:aQ S} (h:eD calls st):(pU S st).length=st.evs.length:=by
 have:∀(l:List Nat) (evs:List EvD),(l.foldl (gF S st) evs).length=evs.length:=by
  intro l
  induction l with
  | nil=>intro evs;rfl
  | cons p l ih=>
   intro evs
   rw [List.foldl_cons,ih]
   unfold gF;split
   ·rfl
   ·rw [vX]
 exact this _ _
structure LC (calls:List aF) (n:Nat) (ticks:Nat) (e:EvD):Prop where
 call:e.call<calls.length
 thr:0<=(calls.getD e.call d0).thread/\(calls.getD e.call d0).thread<n
 WP:1<=e.inv
 invt:e.inv<=ticks
 steps:1<=e.steps
 resp:e.resp≠0->e.inv<=e.resp/\e.resp<=ticks/\e.steps<=e.resp - e.inv+1/\Within e.key e.inv e.resp
 open_:e.resp=0->e.key=[]∨Within e.key e.inv ticks
structure QJ (calls:List aF) (n:Nat) (r:iU):Prop where
 n1:1<=n
 n16:n<=16
 ev:∀ i,i<r.evs.length->LC calls n r.ticks (aD r.evs i)
 rise:∀ i j,i<j->j<r.evs.length->(aD r.evs i).inv<(aD r.evs j).inv
 same:∀ i j,i<j->j<r.evs.length->tn calls (aD r.evs i)=tn calls (aD r.evs j)->(aD r.evs i).resp≠0/\(aD r.evs i).resp<(aD r.evs j).inv/\(aD r.evs i).call<(aD r.evs j).call
 sum:(r.evs.map (·.steps)).sum=r.ticks
 fault:r.c.fault=0
 all:r.c.read+r.c.write+r.c.swap+r.c.add<=r.ticks
 small:r.ticks<1000000
structure RN (st:aQ S):Prop where
 keys:∀ i,i<st.evs.length->(aD st.evs i).resp≠0->Within (aD st.evs i).key (aD st.evs i).inv (aD st.evs i).resp
 late:∀ p s k,st.hands.getD p (none,0)=(some s,k)->(S.late st.obj st.wd p s).getD (st.wd.marks.getD p [])=[]∨Within ((S.late st.obj st.wd p s).getD (st.wd.marks.getD p [])) (aD st.evs k).inv st.wd.now
end
section
open Go.RowKit
end
section
open Go.RowKit
abbrev PE:Sys:=KZ IG IB
end
section
open Go.RowKit
def NM (n k:Nat):aF:=⟨((k % n:Nat):Int),0,2,0,0,0⟩
def tk (n m:Nat):List aF:=(List.range m).map (NM n)
structure VM (st:aQ PE) (k:Nat):Prop where
 h16:st.hands.length=16
 none_:∀ p,(st.hands.getD p (none,0)).1=none
 now:st.wd.now=st.evs.length
 ws:st.wd.mem.ws=[st.evs.length]
 evs:∀ i,i<st.evs.length->(st.evs.getD i jZ).ans.val=i/\(st.evs.getD i jZ).resp=i+1
 len:st.evs.length<=k
end
section
open Go.RowKit
theorem iB.event {X:Nat->Prop} {B:Nat} {w:World} {ea:Option Addr} {en ec:Nat} {wv:Value} {ers:List (Value×Value)} {r:iU} (h:iB X B w (.slice ea en ec) wv ers r) (hn:en=r.evs.length) (h0:0<en) :
  ∃ g,ea=some ⟨g,0,none⟩/\g<w.heap.size/\∀ i f,i<en->f<8->w.cell? ⟨g,i*8+f,none⟩=(dM (r.evs.getD i jZ) (ers.getD i tO))[f]?:=by
 obtain⟨g,c,h1,h2,h3⟩:=h.row.form (by omega)
 simp only [Value.slice.injEq] at h1
 obtain⟨rfl,h4,h5⟩:=h1
 refine⟨g,rfl,h3,λi f hi hf=>?_⟩
 have hr:=h.row
 rw [<-hn] at hr
 rw [hr.cellAt _ (by omega),pX _ _ _ _ h.elen.symm (by omega) hf]
theorem iB.word {X:Nat->Prop} {B:Nat} {w:World} {ev:Value} {va:Option Addr} {vn vc:Nat} {ers:List (Value×Value)} {r:iU} (h:iB X B w ev (.slice va vn vc) ers r) (hn:vn=r.words.length) (h0:0<vn) :
  ∃ q,va=some ⟨q,0,none⟩/\q<w.heap.size/\∀ j,j<vn->w.cell? ⟨q,j,none⟩=some (.int .u64 ((r.words.getD j 0:Nat):Int)):=by
 obtain⟨g,c,h1,h2,h3⟩:=h.words.form (by omega)
 simp only [Value.slice.injEq] at h1
 obtain⟨rfl,h4,h5⟩:=h1
 refine⟨g,rfl,h3,λj hj=>?_⟩
 have hr:=h.words
 rw [<-hn] at hr
 rw [hr.cellAt _ (by omega)]
 simp [lG,List.getD_eq_getElem?_getD,show j<r.words.length by omega]
def sP (c:aF):List Value:=[.int .i64 c.thread,.int .i64 c.obj,.int .i64 c.kind,.int .u64 (c.a:Int),.int .u64 (c.b:Int),.int .u64 (c.c:Int)]
theorem uN:∀(l:List aF) (j f:Nat),j<l.length->f<6->(l.flatMap sP)[j*6+f]?=some (gK l j f)
 | [],j,_,h,_=>by simp at h
 | c::l,0,f,_,hf=>by
  simp only [List.flatMap_cons,Nat.zero_mul,Nat.zero_add]
  rw [List.getElem?_append_left (by simpa [sP] using hf)]
  match f,hf with
  | 0,_=>rfl
  | 1,_=>rfl
  | 2,_=>rfl
  | 3,_=>rfl
  | 4,_=>rfl
  | 5,_=>rfl
 | c::l,j+1,f,h,hf=>by
  simp only [List.flatMap_cons]
  rw [List.getElem?_append_right (by simp [sP];omega),show(j+1)*6+f - (sP c).length=j*6+f by simp [sP];omega,uN l j f (by simpa using h) hf]
  simp [gK]
theorem yS {w:World} {b:Nat} {l:List aF} {fz:Nat×Nat} (h:w.heap[b]?=some (.cells (l.flatMap sP).toArray 46 fz)) (hl:l.length<=1000000):bQ w (some ⟨b,0,none⟩) l.length 6 (gK l):=by
 refine⟨by unfold maxLen;omega,λj hj=>⟨b,0,rfl,aC h,λf hf=>?_⟩⟩
 rw [Nat.zero_add,aA h]
 simpa using uN l j f hj hf
theorem AU {w:World} {b:Nat} {l:List Int} {fz:Nat×Nat} (h:w.heap[b]?=some (.cells (l.map (Value.int .i64)).toArray 3 fz)) (hl:l.length<=1000000):bQ w (some ⟨b,0,none⟩) l.length 1 (gQ l):=by
 refine⟨by unfold maxLen;omega,λj hj=>⟨b,0,rfl,aC h,λf hf=>?_⟩⟩
 obtain rfl:f=0:=by omega
 rw [aA h]
 simp [gQ,List.getD_eq_getElem?_getD,hj]
theorem vI {t k:Int} (h1:0<=t) (h2:t<16) (h3:0<=k) (h4:k<16) {a b c:Nat} (ha:a<100) (hb:b<100) (hc:c<100):mY ⟨t,0,k,a,b,c⟩:=
 ⟨by simp [Lit.wf,IntKind.min,IntKind.max,IntKind.signed,IntKind.bits];omega,by rfl,by simp [Lit.wf,IntKind.min,IntKind.max,IntKind.signed,IntKind.bits];omega,by simp only;omega,by simp only;omega,by simp only;omega⟩
end
section
open Go.RowKit
end
end Go.Proofs.Ytifhldnmcdbpfaa
