/- Layer 6: what a play hands out, in one form. -/
import Derived.Test.YtifhldnmcdbpfaaU13
import Derived.Test.YtifhldnmcdbpfaaU10
set_option maxRecDepth 100000
set_option linter.unusedVariables false
set_option linter.unusedSimpArgs false
set_option linter.unnecessarySimpa false
namespace Go.Proofs.Ytifhldnmcdbpfaa
open List renaming getElem_toArray → zq1, getElem_cons_zero → zq2, getElem_cons_succ → zq3, setIfInBounds_toArray → zq4, set_cons_zero → zq5, set_cons_succ → zq6
section
open Go.RowKit
structure iX (X:Nat->Prop) (w:World) (ca:Option Addr) (calls:List aF):Prop where
 sl:aW w ca calls.length 6 (iE calls)
 ok:∀ x∈calls,iJ x
 nx:0<calls.length->∀ b off,ca=some ⟨b,off,none⟩->¬ X b
structure lT (w:World) (pa:Option Addr) (picks:List Int):Prop where
 sl:aW w pa picks.length 1 (iY picks)
 ok:∀ x∈picks,(Lit.int .i64 x).wf=true
theorem iX.grown {X:Nat->Prop} {w w':World} {ca:Option Addr} {calls:List aF} (h:iX X w ca calls) (hb:Below w.heap.size w w'):iX X w' ca calls:=⟨h.sl.grown hb,h.ok,h.nx⟩
theorem lT.grown {w w':World} {pa:Option Addr} {picks:List Int} (h:lT w pa picks) (hb:Below w.heap.size w w'):lT w' pa picks:=⟨h.sl.grown hb,h.ok⟩
def nE (X:Nat->Prop) (w w':World) (er:Int) (r:gT) (ea:Option Addr) (en ec:Nat) (va:Option Addr) (vn vc:Nat) (rp:gT):Prop:=
 Below w.heap.size w w'/\((er≠0/\ea=none/\en=0/\ec=0/\va=none/\vn=0/\vc=0/\rp=⟨[],[],c0,0,0⟩)∨
  (er=0/\rp=r/\en=r.evs.length/\vn=r.words.length/\∃ ers,fB X w.heap.size w' (.slice ea en ec) (.slice va vn vc) ers r))
def oW (X:Nat->Prop) (w w':World) (er:Int) (r:gT) (e:Ending):Prop:=
 ∃ ea en ec va vn vc rp,e=.returned (.tuple #[jL (.slice ea en ec) (.slice va vn vc) rp,.int .i64 er])/\nE X w w' er r ea en ec va vn vc rp
theorem IL.ret {X:Nat->Prop} {w w':World} {er:Int} {r:gT} {e:Ending} (h:IL X w w' er r e):oW X w w' er r e:=by
 obtain⟨hb,⟨h0,rfl⟩|⟨h0,ea,ec,va,vc,ers,rfl,hr⟩⟩:=h
 ·exact⟨none,0,0,none,0,0,_,rfl,hb,.inl ⟨h0,rfl,rfl,rfl,rfl,rfl,rfl,rfl⟩⟩
 ·exact⟨ea,_,ec,va,_,vc,r,by rw [h0],hb,.inr ⟨h0,rfl,rfl,rfl,ers,hr⟩⟩
theorem nE.chg {X X' Q:Nat->Prop} {w0 w w' w'':World} {er:Int} {r:gT} {ea:Option Addr} {en ec:Nat} {va:Option Addr} {vn vc:Nat} {rp:gT} (h:nE X w w' er r ea en ec va vn vc rp) (hc:Chg Q w' w'') (hQ:∀ b,Q b->X b/\w0.heap.size<=b/\b<w.heap.size) (h0:Below w0.heap.size w0 w) (hX:∀ b,X' b->X b):nE X' w0 w'' er r ea en ec va vn vc rp:=by
 obtain⟨hb,hr⟩:=h
 have hb1:Chg (λb=>w0.heap.size<=b) w0 w'':=((Chg.of_below h0).trans (show Chg (λb=>w0.heap.size<=b) w w' from⟨hb.os,hb.tape,hb.output,hb.size,λk hk _=>hb.block k hk⟩)).trans (hc.mono (λb _ hq=>(hQ b hq).2.1))
 refine⟨hb1.below (λb h=>h) (Nat.le_refl _),?_⟩
 rcases hr with hr|⟨h1,h2,h3,h4,ers,h5⟩
 ·exact .inl hr
 ·exact .inr ⟨h1,h2,h3,h4,ers,(h5.chg hc (λb hb=>⟨(hQ b hb).1,(hQ b hb).2.2⟩)).low h0.size hX⟩
theorem nI:(Try.prog.info? 40).map (λi=>(i.zero,i.size,i.bytes))=some (some (.int .u64 0),1,8):=by kernel_rfl
theorem Chg.setCells (b:Nat):∀(vs:List Value) (o:Nat) (w:World),Chg (λk=>k=b) w (w.setCells b o vs)
 | [],_,w=>Chg.refl _ w
 | v::r,o,w=>((Chg.refl (λk=>k=b) w).setCell (p:=⟨b,o,none⟩) (.inl rfl) v).trans (Chg.setCells b r (o+1) (w.setCell ⟨b,o,none⟩ v))
set_option maxHeartbeats 2000000 in
theorem FE (w:World) (b:Nat) (ev wv:Value) (r:gT) (h:w.heap[b]?=some (.cells #[.slice none 0 0,.slice none 0 0,.int .i64 0,.int .i64 0,.int .i64 0,.int .i64 0,.int .i64 0,.int .i64 0,.int .i64 0] 32 (0,0))) (h1:ev.oneCell'=true) (h2:wv.oneCell'=true) :
  ∃(cs:Array Value) (w7:World),jL ev wv r=.agg cs/\cs.size=9/\(storeCells ⟨b,0,none⟩ cs.toList).run Try.prog w=.ok () w7/\w7.heap[b]?=some (.cells cs 32 (0,0))/\Chg (λk=>k=b) w w7:=by
 refine⟨#[ev,wv,.int .i64 (r.c.read:Int),.int .i64 (r.c.write:Int),.int .i64 (r.c.swap:Int),.int .i64 (r.c.add:Int),.int .i64 (r.c.fault:Int),.int .i64 (r.ticks:Int),.int .i64 (r.idle:Int)],_,rfl,rfl,run_storeCells_cells (P:=Try.prog) b 0 _ 0 w (λj hj=>?_) (λj hj=>aC h _) (λv hv=>?_),?_,?_⟩
 ·rw [aA h]
  have:j<9:=by simpa using hj
  rw [Array.getElem?_eq_getElem (by simpa using this)];rfl
 ·simp only [List.mem_cons,List.not_mem_nil,or_false] at hv
  rcases hv with rfl|rfl|rfl|rfl|rfl|rfl|rfl|rfl|rfl
  ·exact h1
  ·exact h2
  all_goals rfl
 ·simp only [World.setCells,Nat.reduceAdd]
  rw [(aG (aG (aG (aG (aG (aG (aG (aG (aG h _ _) _ _) _ _) _ _) _ _) _ _) _ _) _ _) _ _)]
  simp only [zq4,zq5,zq6]
 ·exact Chg.setCells b _ _ w
theorem IW:(Try.prog.info? 32).map (·.size)=some 9:=by kernel_rfl
theorem lF (w:World) (b:Nat) (cs:Array Value) (h:w.heap[b]?=some (.cells cs 32 (0,0))) (hc:cs.size=9):(loadVar 32 ⟨b,0,none⟩).run Try.prog w=.ok (.agg cs) w:=by
 have:=run_loadVar_mid (P:=Try.prog) w b 0 32 cs.toList _ (λj v hv=>by rw [Nat.zero_add,aA h];simpa using hv) Try.underlying32 rfl (by rw [IW];simp [hc])
 simpa using this
end
section
open Go.RowKit
end
section
open Go.RowKit
def pF (calls:List aF) (evs:List EvD) (x:Nat):Prop:=∃ i,i<evs.length/\(calls.getD (aB evs i).call d0).obj=0/\(calls.getD (aB evs i).call d0).kind=0/\(calls.getD (aB evs i).call d0).a+1=x
def SG (x:Nat) (e:EvD):Prop:=e.steps<=2/\(e.resp≠0->e.ans.err=0->e.ans.val+1=x)
structure XB (calls:List aF) (st:aP UT) (x:Nat):Prop where
 good:bH calls st
 ws:st.wd.mem.ws=[x]
 prop:x≠0->pF calls st.evs x
 evs:∀ i,i<st.evs.length->SG x (aB st.evs i)
 hand:∀ p s k,st.hands.getD p (none,0)=(some s,k)->∃ v,s=.prop v true/\(aB st.evs k).steps=1/\x≠0
theorem pF.keep {calls:List aF} {evs evs':List EvD} {x:Nat} (h:pF calls evs x) (hl:evs.length<=evs'.length) (hc:∀ i,i<evs.length->(aB evs' i).call=(aB evs i).call):pF calls evs' x:=by
 obtain⟨i,h1,h2⟩:=h
 exact⟨i,by omega,by rw [hc i h1];exact h2⟩
theorem uV {l:List EvD} {e:EvD} {i:Nat} (h:i<l.length):aB (l++[e]) i=aB l i:=iO h
theorem jO {l:List EvD} {e:EvD}:aB (l++[e]) l.length=e:=dS
theorem zQ {S:Sys} (st:aP S) (hl:∀ o wd p s,S.late o wd p s=none):∀(l:List Nat) (evs:List EvD),(l.foldl (dV S st) evs).length=evs.length/\∀ i,(aB (l.foldl (dV S st) evs) i).call=(aB evs i).call/\(aB (l.foldl (dV S st) evs) i).inv=(aB evs i).inv/\(aB (l.foldl (dV S st) evs) i).resp=(aB evs i).resp/\(aB (l.foldl (dV S st) evs) i).steps=(aB evs i).steps/\(aB (l.foldl (dV S st) evs) i).ans=(aB evs i).ans
 | [],_=>⟨rfl,λ_=>⟨rfl,rfl,rfl,rfl,rfl⟩⟩
 | p::l,evs=>by
  rw [List.foldl_cons]
  obtain⟨h1,h2⟩:=zQ st hl l (dV S st evs p)
  have h3:(dV S st evs p).length=evs.length/\∀ i,(aB (dV S st evs p) i).call=(aB evs i).call/\(aB (dV S st evs p) i).inv=(aB evs i).inv/\(aB (dV S st evs p) i).resp=(aB evs i).resp/\(aB (dV S st evs p) i).steps=(aB evs i).steps/\(aB (dV S st evs p) i).ans=(aB evs i).ans:=by
   unfold dV
   split
   ·exact⟨rfl,λ_=>⟨rfl,rfl,rfl,rfl,rfl⟩⟩
   ·rename_i s k _
    refine⟨by simp [bZ],λi=>?_⟩
    rcases Nat.lt_or_ge k evs.length with hk|hk
    ·unfold bZ
     rw [jA _ hk]
     split
     ·rename_i e;subst e;exact⟨rfl,rfl,rfl,rfl,rfl⟩
     ·exact⟨rfl,rfl,rfl,rfl,rfl⟩
    ·have:bZ evs k (λe=>{ e with key:=(S.late st.obj st.wd p s).getD (st.wd.marks.getD p []) })=evs:=by
      unfold bZ;exact List.set_eq_of_length_le hk
     rw [this];exact⟨rfl,rfl,rfl,rfl,rfl⟩
  refine⟨h1.trans h3.1,λi=>?_⟩
  have a:=h2 i;have b:=h3.2 i
  exact⟨a.1.trans b.1,a.2.1.trans b.2.1,a.2.2.1.trans b.2.2.1,a.2.2.2.1.trans b.2.2.2.1,a.2.2.2.2.trans b.2.2.2.2⟩
theorem iU.len_le {calls:List aF} {now:Nat} {fin:List Bool} {hnd:Nat->Option Nat} {evs:List EvD} (h:iU calls now fin hnd evs):evs.length<=now:=by
 have hi:∀ i,i<evs.length->i+1<=(aB evs i).inv:=by
  intro i
  induction i with
  | zero=>intro hi;have:=(h.tick 0 hi).1;omega
  | succ i ih=>intro hi;have h1:=ih (by omega);have h2:=h.rise i (i+1) (by omega) hi;omega
 rcases Nat.eq_zero_or_pos evs.length with h0|h0
 ·omega
 ·have h1:=hi (evs.length - 1) (by omega)
  have h2:=(h.tick (evs.length - 1) (by omega)).2.1
  omega
end
section
open Go.RowKit
variable {S:Sys}
def MX (S:Sys) (r:S.ω×WD×S.σ×Bool) (q:Nat) (e:EvD):EvD:=if r.2.2.2 then bL r.2.1 q (S.answer r.2.2.1).1 (S.answer r.2.2.1).2 e else aV e
def jV (st:aP S) (r:S.ω×WD×S.σ×Bool) (q i k:Nat) (aU:List EvD):aP S:=
 { wd:=r.2.1,obj:=r.1,fin:=if r.2.2.2 then st.fin.set i true else st.fin,hands:=st.hands.set q (if r.2.2.2 then none else some r.2.2.1,k),evs:=aU.set k (MX S r q (aB aU k)),idle:=st.idle }
def tZ (st:aP S) (q i:Nat) (er:Int):aP S:=
 { wd:=st.wd.tick.begin q,obj:=st.obj,fin:=st.fin.set i true,hands:=st.hands.set q (none,st.evs.length),evs:=st.evs++[bL (st.wd.tick.begin q) q ⟨er,0,[]⟩ [] (eB i (st.wd.tick.begin q))],idle:=st.idle }
inductive From (calls:List aF) (st:aP S) (q i:Nat):Nat->S.σ->List EvD->WD->Prop where
 | old (k:Nat) (s:S.σ) (hh:st.hands.getD q (none,0)=(some s,k)) (hk:k<st.evs.length) (hc:(aB st.evs k).call=i) (hr:(aB st.evs k).resp=0):From calls st q i k s st.evs st.wd.tick
 | new (s:S.σ) (hh:(st.hands.getD q (none,0)).1=none) (hs:dB S st.obj (st.wd.tick.begin q) q (calls.getD i d0)=.run s):From calls st q i st.evs.length s (st.evs++[eB i (st.wd.tick.begin q)]) (st.wd.tick.begin q)
inductive wZ (calls:List aF) (st:aP S):aP S->Prop where
 | idle:wZ calls st { st with idle:=st.idle+1 }
 | refuse (q i:Nat) (er:Int) (hq:q<16) (hN:gU calls st.fin (q:Int)=some i) (hh:(st.hands.getD q (none,0)).1=none) (hs:dB S st.obj (st.wd.tick.begin q) q (calls.getD i d0)=.refuse er):wZ calls st (tZ st q i er)
 | step (q i k:Nat) (s:S.σ) (aU:List EvD) (bQ:WD) (hq:q<16) (hN:gU calls st.fin (q:Int)=some i) (hf:From calls st q i k s aU bQ):wZ calls st (jV st (S.step st.obj bQ q s) q i k aU)
theorem vZ {st0 st:aP S} {q i k:Nat} {s:S.σ} {aU:List EvD} (ho:st0.obj=st.obj) (he:st0.evs=aU) (hh:st0.hands.set q (none,k)=st.hands.set q (none,k)) (YP:∀ x,st0.hands.set q (some x,k)=st.hands.set q (some x,k)) (hf:st0.fin=st.fin) (hi:st0.idle=st.idle) :
  (if (eU S st0 q k s).2 then { (eU S st0 q k s).1 with fin:=(eU S st0 q k s).1.fin.set i true } else (eU S st0 q k s).1)=jV st (S.step st.obj st0.wd q s) q i k aU:=by
 unfold eU jV MX
 simp only
 rw [ho]
 cases hd:(S.step st.obj st0.wd q s).2.2.2 with
 | true=>simp only [if_true,hh,hf,hi,bZ];rw [he];rfl
 | false=>simp only [Bool.false_eq_true,if_false,YP,hf,hi,bZ];rw [he];rfl
theorem EX {calls:List aF} (hthr:∀ c,c<calls.length->0<=(calls.getD c d0).thread/\(calls.getD c d0).thread<16) {st:aP S} (h:bH calls st) (p:Int):wZ calls st (iL S calls st p):=by
 cases hN:gU calls st.fin p with
 | none=>
  have hp:iL S calls st p={ st with idle:=st.idle+1 }:=by unfold iL;rw [hN]
  rw [hp];exact .idle
 | some i=>
  obtain⟨n1,n2,n3⟩:=fQ hN
  obtain⟨t1,t2⟩:=hthr i n1
  obtain⟨q,rfl⟩:∃ q:Nat,p=(q:Int):=⟨p.toNat,by omega⟩
  have hq:q<16:=by omega
  have hp:iL S calls st (q:Int)=if (dJ S calls st q i).2 then { (dJ S calls st q i).1 with fin:=(dJ S calls st q i).1.fin.set i true } else (dJ S calls st q i).1:=by unfold iL;rw [hN];rfl
  rw [hp]
  cases hs:(st.hands.getD q (none,0)).1 with
  | some s=>
   obtain⟨k,hk⟩:∃ k,k=(st.hands.getD q (none,0)).2:=⟨_,rfl⟩
   have hh:dU st.hands q=some k:=by unfold dU;rw [hs,hk];rfl
   obtain⟨k1,k2,k3,k4⟩:=h.ev.hand q k hh
   have hst:dJ S calls st q i=eU S { st with wd:=st.wd.tick } q k s:=by unfold dJ;rw [hs];simp only;rw [<-hk]
   rw [hst]
   exact(congrArg (wZ calls st) (vZ (i:=i) (st0:={ st with wd:=st.wd.tick }) (st:=st) (q:=q) (k:=k) (s:=s) (aU:=st.evs) rfl rfl rfl (λ_=>rfl) rfl rfl)).mpr
    (.step q i k s st.evs st.wd.tick hq hN (.old k s (Prod.ext hs hk.symm) k1 (by rw [hN] at k4;cases k4;rfl) k3))
  | none=>
   cases hst:dB S st.obj (st.wd.tick.begin q) q (calls.getD i d0) with
   | refuse e=>
    have SS:dJ S calls st q i=({ st with wd:=st.wd.tick.begin q,hands:=st.hands.set q (none,st.evs.length),evs:=st.evs++[bL (st.wd.tick.begin q) q ⟨e,0,[]⟩ [] (eB i (st.wd.tick.begin q))] },true):=by
     unfold dJ;rw [hs];simp only;rw [hst]
    rw [SS]
    exact .refuse q i e hq hN hs hst
   | run s=>
    have SS:dJ S calls st q i=eU S { st with wd:=st.wd.tick.begin q,hands:=st.hands.set q (some s,st.evs.length),evs:=st.evs++[eB i (st.wd.tick.begin q)] } q st.evs.length s:=by
     unfold dJ;rw [hs];simp only;rw [hst]
    rw [SS]
    exact(congrArg (wZ calls st) (vZ (i:=i) (st0:={ st with wd:=st.wd.tick.begin q,hands:=st.hands.set q (some s,st.evs.length),evs:=st.evs++[eB i (st.wd.tick.begin q)] }) (st:=st) (q:=q) (k:=st.evs.length) (s:=s) (aU:=st.evs++[eB i (st.wd.tick.begin q)]) rfl rfl (by simp [List.set_set]) (λ_=>by simp [List.set_set]) rfl rfl)).mpr
     (.step q i st.evs.length s _ _ hq hN (.new s hs hst))
theorem wL {calls:List aF} (hnow:∀ o wd p s,(S.step o wd p s).2.1.now=wd.now) (hthr:∀ c,c<calls.length->0<=(calls.getD c d0).thread/\(calls.getD c d0).thread<16) {J:aP S->Prop}
  (hJ:∀ st st',bH calls st->bH calls st'->J st->wZ calls st st'->J st'):∀(picks:List Int) {st:aP S},bH calls st->J st->bH calls (dX S calls st picks)/\J (dX S calls st picks)
 | [],_,hg,h=>⟨hg,h⟩
 | p::ps,_,hg,h=>wL hnow hthr hJ ps (wM hnow hthr hg p) (hJ _ _ hg (wM hnow hthr hg p) h (EX hthr hg p))
theorem From.len {calls:List aF} {st:aP S} {q i k:Nat} {s:S.σ} {aU:List EvD} {bQ:WD} (h:From calls st q i k s aU bQ):k<aU.length:=by
 cases h with
 | old k s hh hk hc hr=>exact hk
 | new s hh hs=>simp
theorem From.call {calls:List aF} {st:aP S} {q i k:Nat} {s:S.σ} {aU:List EvD} {bQ:WD} (h:From calls st q i k s aU bQ):(aB aU k).call=i:=by
 cases h with
 | old k s hh hk hc hr=>exact hc
 | new s hh hs=>rw [jO];rfl
theorem From.open_ {calls:List aF} {st:aP S} {q i k:Nat} {s:S.σ} {aU:List EvD} {bQ:WD} (h:From calls st q i k s aU bQ):(aB aU k).resp=0:=by
 cases h with
 | old k s hh hk hc hr=>exact hr
 | new s hh hs=>rw [jO];rfl
theorem From.now {calls:List aF} {st:aP S} {q i k:Nat} {s:S.σ} {aU:List EvD} {bQ:WD} (h:From calls st q i k s aU bQ):bQ.now=st.wd.now+1:=by
 cases h<;>rfl
theorem From.mem {calls:List aF} {st:aP S} {q i k:Nat} {s:S.σ} {aU:List EvD} {bQ:WD} (h:From calls st q i k s aU bQ):bQ.mem=st.wd.mem:=by
 cases h<;>rfl
theorem From.traces {calls:List aF} {st:aP S} {q i k:Nat} {s:S.σ} {aU:List EvD} {bQ:WD} (h:From calls st q i k s aU bQ):bQ.traces=st.wd.traces:=by
 cases h<;>rfl
theorem From.obj {calls:List aF} {st:aP S} {q i k:Nat} {s:S.σ} {aU:List EvD} {bQ:WD} (h:From calls st q i k s aU bQ):st.evs.length<=aU.length/\∀ j,j<st.evs.length->aB aU j=aB st.evs j:=by
 cases h with
 | old k s hh hk hc hr=>exact⟨Nat.le_refl _,λ_ _=>rfl⟩
 | new s hh hs=>exact⟨by simp,λj hj=>uV hj⟩
theorem From.other {calls:List aF} {st:aP S} {q i k:Nat} {s:S.σ} {aU:List EvD} {bQ:WD} (h:From calls st q i k s aU bQ) (e:EvD) {j:Nat} (hj:j<(aU.set k e).length) (hjk:j≠k):j<st.evs.length/\aB (aU.set k e) j=aB st.evs j:=by
 rw [List.length_set] at hj
 rw [jA _ h.len,if_neg hjk]
 cases h with
 | old k s hh hk hc hr=>exact⟨hj,rfl⟩
 | new s hh hs=>
  have:j<st.evs.length:=by simp at hj;omega
  exact⟨this,uV this⟩
theorem From.self {calls:List aF} {st:aP S} {q i k:Nat} {s:S.σ} {aU:List EvD} {bQ:WD} (h:From calls st q i k s aU bQ) (e:EvD):aB (aU.set k e) k=e:=by rw [jA _ h.len,if_pos rfl]
theorem From.size {calls:List aF} {st:aP S} {q i k:Nat} {s:S.σ} {aU:List EvD} {bQ:WD} (h:From calls st q i k s aU bQ) (e:EvD):st.evs.length<=(aU.set k e).length:=by rw [List.length_set];exact h.obj.1
theorem GJ {h16:Nat} {hands:List (Option S.σ×Nat)} {q:Nat} (hl:hands.length=h16) (hq:q<h16) (x:Option S.σ×Nat) (p:Nat):(hands.set q x).getD p (none,0)=if p=q then x else hands.getD p (none,0):=by
 by_cases h:p=q
 ·subst h;rw [if_pos rfl];exact aK (by omega)
 ·rw [if_neg h];exact aO (Ne.symm h)
end
section
open Go.RowKit
def Within (k:List Int) (inv resp:Nat):Prop:=k≠[]/\2*(inv:Int)<=k.headD 0/\k.headD 0<=2*(resp:Int)
structure WL (S:Sys):Prop where
 now:∀ o wd p s,(S.step o wd p s).2.1.now=wd.now
 mlen:∀ o wd p s,(S.step o wd p s).2.1.marks.length=wd.marks.length
 mark:∀ o wd p s q,(S.step o wd p s).2.1.marks.getD q []=wd.marks.getD q []∨∃ rest,(S.step o wd p s).2.1.marks.getD q []=2*(wd.now:Int)::rest
 ans:∀ s,(S.answer s).2=[]
 late:∀ o wd p s,S.late o wd p s=none
structure WJ {S:Sys} (calls:List aF) (st:aP S):Prop where
 good:bH calls st
 m16:st.wd.marks.length=16
 keys:∀ i,i<st.evs.length->(aB st.evs i).resp≠0->Within (aB st.evs i).key (aB st.evs i).inv (aB st.evs i).resp
 none_:∀ i,i<st.evs.length->(aB st.evs i).resp=0->(aB st.evs i).key=[]
 marks:∀ p k,dU st.hands p=some k->st.wd.marks.getD p []=[]∨Within (st.wd.marks.getD p []) (aB st.evs k).inv st.wd.now
variable {S:Sys}
theorem Within.more {k:List Int} {inv a b:Nat} (h:Within k inv a) (hab:a<=b):Within k inv b:=⟨h.1,h.2.1,by have:=h.2.2;omega⟩
end
section
open Go.RowKit
variable {S:Sys}
theorem yT {calls:List aF} {st:aP S} (h:bH calls st) {i:Nat} (hi:i<st.evs.length):∀(l:List Nat) (evs:List EvD),l.Nodup->evs.length=st.evs.length->
  aB (l.foldl (dV S st) evs) i=(match st.hands.getD (tn calls (aB st.evs i)) (none,0) with
   | (some s,k)=>if tn calls (aB st.evs i)∈l/\k=i then { aB evs i with key:=(S.late st.obj st.wd (tn calls (aB st.evs i)) s).getD (st.wd.marks.getD (tn calls (aB st.evs i)) []) } else aB evs i
   | (none,_)=>aB evs i)
 | [],evs,_,_=>by
  simp only [List.foldl_nil]
  split
  ·rw [if_neg (by simp)]
  ·rfl
 | p::l,evs,hnd,hlen=>by
  rw [List.foldl_cons]
  have hl:(dV S st evs p).length=st.evs.length:=by
   unfold dV;split
   ·exact hlen
   ·rw [oV];exact hlen
  rw [yT h hi l (dV S st evs p) (List.nodup_cons.1 hnd).2 hl]
  obtain⟨t,ht⟩:∃ t,t=tn calls (aB st.evs i):=⟨_,rfl⟩
  rw [<-ht]
  by_cases hpt:p=t
  ·subst hpt
   have hpn:p ∉ l:=(List.nodup_cons.1 hnd).1
   cases hh:st.hands.getD p (none,0) with
   | mk m k=>
    cases m with
    | none=>
     simp only
     unfold dV;rw [hh]
    | some s=>
     simp only
     rw [if_neg (λh=>hpn h.1)]
     have hkl:k<st.evs.length:=(h.ev.hand p k (by unfold dU;rw [hh];rfl)).1
     have:dV S st evs p=bZ evs k λe=>{ e with key:=(S.late st.obj st.wd p s).getD (st.wd.marks.getD p []) }:=by unfold dV;rw [hh]
     rw [this]
     unfold bZ
     rw [jA _ (by omega)]
     by_cases hki:k=i
     ·subst hki
      rw [if_pos rfl,if_pos ⟨by simp,rfl⟩];rfl
     ·rw [if_neg (Ne.symm hki),if_neg (λh=>hki h.2)]
  ·have hsame:aB (dV S st evs p) i=aB evs i:=by
    unfold dV
    split
    ·rfl
    ·rename_i s k hk
     obtain⟨k1,k2,_⟩:=h.ev.hand p k (by unfold dU;rw [hk];rfl)
     unfold bZ
     rw [jA _ (by omega),if_neg]
     rintro rfl
     exact hpt (k2.symm.trans ht.symm)
   rw [hsame]
   have hmem:(t∈p::l)↔t∈l:=by simp [Ne.symm hpt]
   split
   ·rename_i s2 k2 hk2
    by_cases hm2:t∈l/\k2=i
    ·rw [if_pos hm2,if_pos ⟨hmem.2 hm2.1,hm2.2⟩]
    ·rw [if_neg hm2,if_neg (λh=>hm2 ⟨hmem.1 h.1,h.2⟩)]
   ·rfl
theorem LF {calls:List aF} {st:aP S} (h:bH calls st) (hthr:∀ c,c<calls.length->0<=(calls.getD c d0).thread/\(calls.getD c d0).thread<16) {i:Nat} (hi:i<st.evs.length) :
  ((aB st.evs i).resp≠0->aB (bR S st) i=aB st.evs i)/\
  ((aB st.evs i).resp=0->∃ s,st.hands.getD (tn calls (aB st.evs i)) (none,0)=(some s,i)/\aB (bR S st) i={ aB st.evs i with key:=(S.late st.obj st.wd (tn calls (aB st.evs i)) s).getD (st.wd.marks.getD (tn calls (aB st.evs i)) []) }):=by
 have hf:=yT h hi (List.range 16) st.evs List.nodup_range rfl
 unfold bR
 rw [hf]
 refine⟨λhr=>?_,λhr=>?_⟩
 ·split
  ·rename_i s k hk
   rw [if_neg]
   rintro⟨_,rfl⟩
   exact hr (h.ev.hand _ k (by unfold dU;rw [hk];rfl)).2.2.1
  ·rfl
 ·have ho:=(h.ev.open_ i hi hr).2
  unfold dU at ho
  cases hh:st.hands.getD (tn calls (aB st.evs i)) (none,0) with
  | mk m k=>
   rw [hh] at ho
   cases m with
   | none=>simp at ho
   | some s=>
    simp only [Option.isSome_some,if_true,Option.some.injEq] at ho
    subst ho
    refine⟨s,rfl,?_⟩
    have hm:tn calls (aB st.evs k)∈List.range 16:=by
     have:=hthr _ (h.ev.call k hi)
     rw [List.mem_range];unfold tn;omega
    simp only
    rw [if_pos (by exact⟨hm,by trivial⟩)]
theorem oI {calls:List aF} {st:aP S} (h:bH calls st):(bR S st).length=st.evs.length:=by
 have:∀(l:List Nat) (evs:List EvD),(l.foldl (dV S st) evs).length=evs.length:=by
  intro l
  induction l with
  | nil=>intro evs;rfl
  | cons p l ih=>
   intro evs
   rw [List.foldl_cons,ih]
   unfold dV;split
   ·rfl
   ·rw [oV]
 exact this _ _
def eG (evs:List EvD) (calls:List aF) (n:Nat):Nat->List Int
 | 0=>List.replicate n 0
 | k+1=>(eG evs calls n k).set (tn calls (aB evs k)) (if (aB evs k).resp=0 then -1 else ((aB evs k).resp:Int))
def iA (evs:List EvD) (calls:List aF) (n:Nat):Nat->List Int
 | 0=>List.replicate n 0
 | k+1=>(iA evs calls n k).set (tn calls (aB evs k)) (((aB evs k).call:Int)+1)
theorem lI (evs:List EvD) (calls:List aF) (n:Nat):∀ k,(eG evs calls n k).length=n
 | 0=>by simp [eG]
 | k+1=>by simp [eG,lI evs calls n k]
theorem lN (evs:List EvD) (calls:List aF) (n:Nat):∀ k,(iA evs calls n k).length=n
 | 0=>by simp [iA]
 | k+1=>by simp [iA,lN evs calls n k]
theorem wH (evs:List EvD) (calls:List aF) (n:Nat) {p:Nat} (hp:p<n):∀ k,((eG evs calls n k).getD p 0=0/\(iA evs calls n k).getD p 0=0)∨
  ∃ i,i<k/\tn calls (aB evs i)=p/\(eG evs calls n k).getD p 0=(if (aB evs i).resp=0 then -1 else ((aB evs i).resp:Int))/\(iA evs calls n k).getD p 0=((aB evs i).call:Int)+1
 | 0=>.inl ⟨by simp [eG,List.getD_eq_getElem?_getD,List.getElem?_replicate,hp],by simp [iA,List.getD_eq_getElem?_getD,List.getElem?_replicate,hp]⟩
 | k+1=>by
  by_cases h:tn calls (aB evs k)=p
  ·refine .inr ⟨k,Nat.lt_succ_self k,h,?_,?_⟩
   ·show((eG evs calls n k).set (tn calls (aB evs k)) _).getD p 0=_
    rw [h];exact aK (by rw [lI];exact hp)
   ·show((iA evs calls n k).set (tn calls (aB evs k)) _).getD p 0=_
    rw [h];exact aK (by rw [lN];exact hp)
  ·have e1:(eG evs calls n (k+1)).getD p 0=(eG evs calls n k).getD p 0:=aO h
   have e2:(iA evs calls n (k+1)).getD p 0=(iA evs calls n k).getD p 0:=aO h
   rw [e1,e2]
   rcases wH evs calls n hp k with h1|⟨i,h1,h2⟩
   ·exact .inl h1
   ·exact .inr ⟨i,by omega,h2⟩
structure DN (calls:List aF) (n:Nat) (ticks:Nat) (e:EvD):Prop where
 call:e.call<calls.length
 thr:0<=(calls.getD e.call d0).thread/\(calls.getD e.call d0).thread<n
 inv1:1<=e.inv
 invt:e.inv<=ticks
 steps:1<=e.steps
 resp:e.resp≠0->e.inv<=e.resp/\e.resp<=ticks/\e.steps<=e.resp - e.inv+1/\Within e.key e.inv e.resp
 open_:e.resp=0->e.key=[]∨Within e.key e.inv ticks
structure mW (calls:List aF) (n:Nat) (r:gT):Prop where
 n1:1<=n
 n16:n<=16
 ev:∀ i,i<r.evs.length->DN calls n r.ticks (aB r.evs i)
 rise:∀ i j,i<j->j<r.evs.length->(aB r.evs i).inv<(aB r.evs j).inv
 same:∀ i j,i<j->j<r.evs.length->tn calls (aB r.evs i)=tn calls (aB r.evs j)->(aB r.evs i).resp≠0/\(aB r.evs i).resp<(aB r.evs j).inv/\(aB r.evs i).call<(aB r.evs j).call
 sum:(r.evs.map (·.steps)).sum=r.ticks
 fault:r.c.fault=0
 all:r.c.read+r.c.write+r.c.swap+r.c.add<=r.ticks
 small:r.ticks<1000000
structure OQ (st:aP S):Prop where
 keys:∀ i,i<st.evs.length->(aB st.evs i).resp≠0->Within (aB st.evs i).key (aB st.evs i).inv (aB st.evs i).resp
 late:∀ p s k,st.hands.getD p (none,0)=(some s,k)->(S.late st.obj st.wd p s).getD (st.wd.marks.getD p [])=[]∨Within ((S.late st.obj st.wd p s).getD (st.wd.marks.getD p [])) (aB st.evs k).inv st.wd.now
theorem PU {calls:List aF} {st:aP S} (h:bH calls st):((bR S st).map (·.steps)).sum=(st.evs.map (·.steps)).sum:=by
 have:∀(l:List Nat) (evs:List EvD),(∀ i,(aB evs i).steps=(aB evs i).steps)->((l.foldl (dV S st) evs).map (·.steps))=evs.map (·.steps):=by
  intro l
  induction l with
  | nil=>intro evs _;rfl
  | cons p l ih=>
   intro evs _
   rw [List.foldl_cons,ih _ (λ_=>rfl)]
   unfold dV;split
   ·rfl
   ·unfold bZ
    rename_i s k _
    rw [List.map_set]
    rcases Nat.lt_or_ge k evs.length with hk|hk
    ·apply List.ext_getElem?
     intro j
     rw [List.getElem?_set]
     split
     ·rename_i e;subst e
      simp [hk,List.getD_eq_getElem?_getD]
     ·rfl
    ·rw [List.set_eq_of_length_le (by simpa using hk)]
 unfold bR
 rw [this _ _ (λ_=>rfl)]
theorem FY {calls:List aF} {n:Nat} {st:aP S} (h:bH calls st) (hn1:1<=n) (hn16:n<=16) (hthr:∀ c,c<calls.length->0<=(calls.getD c d0).thread/\(calls.getD c d0).thread<n)
  (hk:OQ st) (hf:st.wd.mem.c.fault=0) (ha:st.wd.mem.c.all<=st.wd.now) (hs:st.wd.now<1000000):mW calls n (kJ S st):=by
 have hthr':∀ c,c<calls.length->0<=(calls.getD c d0).thread/\(calls.getD c d0).thread<16:=λc hc=>by have:=hthr c hc;omega
 have hlen:=oI (calls:=calls) h
 have hat:=λi hi=>LF h hthr' (i:=i) hi
 have hpre:∀ i,i<st.evs.length->(aB (bR S st) i).call=(aB st.evs i).call/\(aB (bR S st) i).inv=(aB st.evs i).inv/\(aB (bR S st) i).resp=(aB st.evs i).resp/\(aB (bR S st) i).steps=(aB st.evs i).steps:=by
  intro i hi
  by_cases hr:(aB st.evs i).resp=0
  ·obtain⟨s,_,e⟩:=(hat i hi).2 hr
   rw [e];exact⟨rfl,rfl,rfl,rfl⟩
  ·rw [(hat i hi).1 hr];exact⟨rfl,rfl,rfl,rfl⟩
 have htn:∀ i,i<st.evs.length->tn calls (aB (bR S st) i)=tn calls (aB st.evs i):=λi hi=>by unfold tn;rw [(hpre i hi).1]
 refine⟨hn1,hn16,λi hi=>?_,λi j hij hj=>?_,λi j hij hj ht=>?_,?_,hf,?_,hs⟩
 ·have hi':i<st.evs.length:=by rw [<-hlen];exact hi
  obtain⟨p1,p2,p3,p4⟩:=hpre i hi'
  have ht:=h.ev.tick i hi'
  show DN calls n st.wd.now (aB (bR S st) i)
  refine⟨by rw [p1];exact h.ev.call i hi',by rw [p1];exact hthr _ (h.ev.call i hi'),by rw [p2];exact ht.1,by rw [p2];exact ht.2.1,by rw [p4];exact ht.2.2.1,λhr=>?_,λhr=>?_⟩
  ·rw [p3] at hr
   have hre:=h.ev.resp i hi' hr
   rw [(hat i hi').1 hr]
   exact⟨hre.1,ht.2.2.2,hre.2.1,hk.keys i hi' hr⟩
  ·rw [p3] at hr
   obtain⟨s,hh,e⟩:=(hat i hi').2 hr
   rw [e]
   exact hk.late _ s i hh
 ·have hj':j<st.evs.length:=by rw [<-hlen];exact hj
  show(aB (bR S st) i).inv<(aB (bR S st) j).inv
  rw [(hpre i (by omega)).2.1,(hpre j hj').2.1];exact h.ev.rise i j hij hj'
 ·have hj':j<st.evs.length:=by rw [<-hlen];exact hj
  have ht':tn calls (aB (bR S st) i)=tn calls (aB (bR S st) j):=ht
  rw [htn i (by omega),htn j hj'] at ht'
  have:=h.ev.same i j hij hj' ht'
  show(aB (bR S st) i).resp≠0/\(aB (bR S st) i).resp<(aB (bR S st) j).inv/\(aB (bR S st) i).call<(aB (bR S st) j).call
  rw [(hpre i (by omega)).2.2.1,(hpre i (by omega)).1,(hpre j hj').2.1,(hpre j hj').1]
  exact this
 ·show((bR S st).map (·.steps)).sum=st.wd.now
  rw [PU h];exact h.ev.sum
 ·show st.wd.mem.c.read+st.wd.mem.c.write+st.wd.mem.c.swap+st.wd.mem.c.add<=st.wd.now
  unfold dG.all at ha;omega
end
end Go.Proofs.Ytifhldnmcdbpfaa
