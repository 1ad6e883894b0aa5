/- Layer 6: what a play hands out, in one form. -/
import Derived.Test.YtfkokppncipgnaaGreatW13
import Derived.Test.YtfkokppncipgnaaGreatW11
set_option maxRecDepth 100000
set_option linter.unusedVariables false
set_option linter.unusedSimpArgs false
set_option linter.unnecessarySimpa false
namespace Go.Proofs.YtfkokppncipgnaaGreat
open List renaming getElem_toArray → zq1, getElem_cons_zero → zq2, getElem_cons_succ → zq3, setIfInBounds_toArray → zq4, set_cons_zero → zq5, set_cons_succ → zq6
section
open Go.RowKit
structure jD (X:Nat->Prop) (w:World) (ca:Option Addr) (calls:List aD):Prop where
 sl:cB w ca calls.length 6 (iX calls)
 ok:∀ x∈calls,lF x
 nx:0<calls.length->∀ b off,ca=some ⟨b,off,none⟩->¬ X b
structure jU (w:World) (pa:Option Addr) (picks:List Int):Prop where
 sl:cB w pa picks.length 1 (kJ picks)
 ok:∀ x∈picks,(Lit.int .i64 x).wf=true
theorem jD.grown {X:Nat->Prop} {w w':World} {ca:Option Addr} {calls:List aD} (h:jD X w ca calls) (hb:Below w.heap.size w w'):jD X w' ca calls:=⟨h.sl.grown hb,h.ok,h.nx⟩
theorem jU.grown {w w':World} {pa:Option Addr} {picks:List Int} (h:jU w pa picks) (hb:Below w.heap.size w w'):jU w' pa picks:=⟨h.sl.grown hb,h.ok⟩
def zD (X:Nat->Prop) (w w':World) (er:Int) (r:iN) (ea:Option Addr) (en ec:Nat) (va:Option Addr) (vn vc:Nat) (rp:iN):Prop:=
 Below w.heap.size w w'/\((er≠0/\ea=none/\en=0/\ec=0/\va=none/\vn=0/\vc=0/\rp=⟨[],[],c0,0,0⟩)∨
  (er=0/\rp=r/\en=r.evs.length/\vn=r.words.length/\∃ ers,iQ X w.heap.size w' (.slice ea en ec) (.slice va vn vc) ers r))
def yC (X:Nat->Prop) (w w':World) (er:Int) (r:iN) (e:Ending):Prop:=
 ∃ ea en ec va vn vc rp,e=.returned (.tuple #[lC (.slice ea en ec) (.slice va vn vc) rp,.int .i64 er])/\zD X w w' er r ea en ec va vn vc rp
theorem Jp.ret {X:Nat->Prop} {w w':World} {er:Int} {r:iN} {e:Ending} (h:Jp X w w' er r e):yC X w w' er r e:=by
 obtain⟨hb,⟨h0,rfl⟩|⟨h0,ea,ec,va,vc,ers,rfl,hr⟩⟩:=h
 ·exact⟨none,0,0,none,0,0,_,rfl,hb,.inl ⟨h0,rfl,rfl,rfl,rfl,rfl,rfl,rfl⟩⟩
 ·exact⟨ea,_,ec,va,_,vc,r,by rw [h0],hb,.inr ⟨h0,rfl,rfl,rfl,ers,hr⟩⟩
theorem zD.chg {X X' Q:Nat->Prop} {w0 w w' w'':World} {er:Int} {r:iN} {ea:Option Addr} {en ec:Nat} {va:Option Addr} {vn vc:Nat} {rp:iN} (h:zD X w w' er r ea en ec va vn vc rp) (hc:Chg Q w' w'') (hQ:∀ b,Q b->X b/\w0.heap.size<=b/\b<w.heap.size) (h0:Below w0.heap.size w0 w) (hX:∀ b,X' b->X b):zD X' w0 w'' er r ea en ec va vn vc rp:=by
 obtain⟨hb,hr⟩:=h
 have hb1:Chg (λb=>w0.heap.size<=b) w0 w'':=((Chg.of_below h0).trans (show Chg (λb=>w0.heap.size<=b) w w' from⟨hb.os,hb.tape,hb.output,hb.size,λk hk _=>hb.block k hk⟩)).trans (hc.mono (λb _ hq=>(hQ b hq).2.1))
 refine⟨hb1.below (λb h=>h) (Nat.le_refl _),?_⟩
 rcases hr with hr|⟨h1,h2,h3,h4,ers,h5⟩
 ·exact .inl hr
 ·exact .inr ⟨h1,h2,h3,h4,ers,(h5.chg hc (λb hb=>⟨(hQ b hb).1,(hQ b hb).2.2⟩)).low h0.size hX⟩
theorem xG:(Tryz.prog.info? 46).map (λi=>(i.zero,i.size,i.bytes))=some (some (.int .u64 0),1,8):=by kernel_rfl
theorem Chg.setCells (b:Nat):∀(vs:List Value) (o:Nat) (w:World),Chg (λk=>k=b) w (w.setCells b o vs)
 | [],_,w=>Chg.refl _ w
 | v::r,o,w=>((Chg.refl (λk=>k=b) w).setCell (p:=⟨b,o,none⟩) (.inl rfl) v).trans (Chg.setCells b r (o+1) (w.setCell ⟨b,o,none⟩ v))
set_option maxHeartbeats 2000000 in
theorem zZ (w:World) (b:Nat) (ev wv:Value) (r:iN) (h:w.heap[b]?=some (.cells #[.slice none 0 0,.slice none 0 0,.int .i64 0,.int .i64 0,.int .i64 0,.int .i64 0,.int .i64 0,.int .i64 0,.int .i64 0] 32 (0,0))) (h1:ev.oneCell'=true) (h2:wv.oneCell'=true) :
  ∃(cs:Array Value) (w7:World),lC ev wv r=.agg cs/\cs.size=9/\(storeCells ⟨b,0,none⟩ cs.toList).run Tryz.prog w=.ok () w7/\w7.heap[b]?=some (.cells cs 32 (0,0))/\Chg (λk=>k=b) w w7:=by
 refine⟨#[ev,wv,.int .i64 (r.c.read:Int),.int .i64 (r.c.write:Int),.int .i64 (r.c.swap:Int),.int .i64 (r.c.add:Int),.int .i64 (r.c.fault:Int),.int .i64 (r.ticks:Int),.int .i64 (r.idle:Int)],_,rfl,rfl,run_storeCells_cells (P:=Tryz.prog) b 0 _ 0 w (λj hj=>?_) (λj hj=>aB h _) (λv hv=>?_),?_,?_⟩
 ·rw [aA h]
  have:j<9:=by simpa using hj
  rw [Array.getElem?_eq_getElem (by simpa using this)];rfl
 ·simp only [List.mem_cons,List.not_mem_nil,or_false] at hv
  rcases hv with rfl|rfl|rfl|rfl|rfl|rfl|rfl|rfl|rfl
  ·exact h1
  ·exact h2
  all_goals rfl
 ·simp only [World.setCells,Nat.reduceAdd]
  rw [(aG (aG (aG (aG (aG (aG (aG (aG (aG h _ _) _ _) _ _) _ _) _ _) _ _) _ _) _ _) _ _)]
  simp only [zq4,zq5,zq6]
 ·exact Chg.setCells b _ _ w
theorem UX:(Tryz.prog.info? 32).map (·.size)=some 9:=by kernel_rfl
theorem lQ (w:World) (b:Nat) (cs:Array Value) (h:w.heap[b]?=some (.cells cs 32 (0,0))) (hc:cs.size=9):(loadVar 32 ⟨b,0,none⟩).run Tryz.prog w=.ok (.agg cs) w:=by
 have:=run_loadVar_mid (P:=Tryz.prog) w b 0 32 cs.toList _ (λj v hv=>by rw [Nat.zero_add,aA h];simpa using hv) Tryz.underlying32 rfl (by rw [UX];simp [hc])
 simpa using this
end
section
open Go.RowKit
end
section
open Go.RowKit
def CL (calls:List aD) (evs:List EvD) (x:Nat):Prop:=∃ i,i<evs.length/\(calls.getD (aF evs i).call d0).obj=0/\(calls.getD (aF evs i).call d0).kind=0/\(calls.getD (aF evs i).call d0).a+1=x
def Rj (x:Nat) (e:EvD):Prop:=e.steps<=2/\(e.resp≠0->e.ans.err=0->e.ans.val+1=x)
structure aAO (calls:List aD) (st:aP Xf) (x:Nat):Prop where
 good:bQ calls st
 ws:st.wd.mem.ws=[x]
 prop:x≠0->CL calls st.evs x
 evs:∀ i,i<st.evs.length->Rj x (aF st.evs i)
 hand:∀ p s k,st.hands.getD p (none,0)=(some s,k)->∃ v,s=.prop v true/\(aF st.evs k).steps=1/\x≠0
theorem CL.keep {calls:List aD} {evs evs':List EvD} {x:Nat} (h:CL calls evs x) (hl:evs.length<=evs'.length) (hc:∀ i,i<evs.length->(aF evs' i).call=(aF evs i).call):CL calls evs' x:=by
 obtain⟨i,h1,h2⟩:=h
 exact⟨i,by omega,by rw [hc i h1];exact h2⟩
theorem NC {l:List EvD} {e:EvD} {i:Nat} (h:i<l.length):aF (l++[e]) i=aF l i:=kZ h
theorem vJ {l:List EvD} {e:EvD}:aF (l++[e]) l.length=e:=gM
end
section
open Go.RowKit
variable {S:Sys}
def PO (S:Sys) (r:S.ω×WD×S.σ×Bool) (q:Nat) (e:EvD):EvD:=if r.2.2.2 then dF r.2.1 q (S.answer r.2.2.1).1 (S.answer r.2.2.1).2 e else aS e
def lL (st:aP S) (r:S.ω×WD×S.σ×Bool) (q i k:Nat) (aQ:List EvD):aP S:=
 { wd:=r.2.1,obj:=r.1,fin:=if r.2.2.2 then st.fin.set i true else st.fin,hands:=st.hands.set q (if r.2.2.2 then none else some r.2.2.1,k),evs:=aQ.set k (PO S r q (aF aQ k)),idle:=st.idle }
def NT (st:aP S) (q i:Nat) (er:Int):aP S:=
 { wd:=st.wd.tick.begin q,obj:=st.obj,fin:=st.fin.set i true,hands:=st.hands.set q (none,st.evs.length),evs:=st.evs++[dF (st.wd.tick.begin q) q ⟨er,0,[]⟩ [] (fZ i (st.wd.tick.begin q))],idle:=st.idle }
inductive From (calls:List aD) (st:aP S) (q i:Nat):Nat->S.σ->List EvD->WD->Prop where
 | old (k:Nat) (s:S.σ) (hh:st.hands.getD q (none,0)=(some s,k)) (hk:k<st.evs.length) (hc:(aF st.evs k).call=i) (hr:(aF st.evs k).resp=0):From calls st q i k s st.evs st.wd.tick
 | new (s:S.σ) (hh:(st.hands.getD q (none,0)).1=none) (hs:eG S st.obj (st.wd.tick.begin q) q (calls.getD i d0)=.run s):From calls st q i st.evs.length s (st.evs++[fZ i (st.wd.tick.begin q)]) (st.wd.tick.begin q)
inductive OZ (calls:List aD) (st:aP S):aP S->Prop where
 | idle:OZ calls st { st with idle:=st.idle+1 }
 | refuse (q i:Nat) (er:Int) (hq:q<16) (hN:gF calls st.fin (q:Int)=some i) (hh:(st.hands.getD q (none,0)).1=none) (hs:eG S st.obj (st.wd.tick.begin q) q (calls.getD i d0)=.refuse er):OZ calls st (NT st q i er)
 | step (q i k:Nat) (s:S.σ) (aQ:List EvD) (cZ:WD) (hq:q<16) (hN:gF calls st.fin (q:Int)=some i) (hf:From calls st q i k s aQ cZ):OZ calls st (lL st (S.step st.obj cZ q s) q i k aQ)
theorem zP {st0 st:aP S} {q i k:Nat} {s:S.σ} {aQ:List EvD} (ho:st0.obj=st.obj) (he:st0.evs=aQ) (hh:st0.hands.set q (none,k)=st.hands.set q (none,k)) (Pb:∀ x,st0.hands.set q (some x,k)=st.hands.set q (some x,k)) (hf:st0.fin=st.fin) (hi:st0.idle=st.idle) :
  (if (gX S st0 q k s).2 then { (gX S st0 q k s).1 with fin:=(gX S st0 q k s).1.fin.set i true } else (gX S st0 q k s).1)=lL st (S.step st.obj st0.wd q s) q i k aQ:=by
 unfold gX lL PO
 simp only
 rw [ho]
 cases hd:(S.step st.obj st0.wd q s).2.2.2 with
 | true=>simp only [if_true,hh,hf,hi,dA];rw [he];rfl
 | false=>simp only [Bool.false_eq_true,if_false,Pb,hf,hi,dA];rw [he];rfl
theorem Bn {calls:List aD} (hthr:∀ c,c<calls.length->0<=(calls.getD c d0).thread/\(calls.getD c d0).thread<16) {st:aP S} (h:bQ calls st) (p:Int):OZ calls st (jQ S calls st p):=by
 cases hN:gF calls st.fin p with
 | none=>
  have hp:jQ S calls st p={ st with idle:=st.idle+1 }:=by unfold jQ;rw [hN]
  rw [hp];exact .idle
 | some i=>
  obtain⟨n1,n2,n3⟩:=fC hN
  obtain⟨t1,t2⟩:=hthr i n1
  obtain⟨q,rfl⟩:∃ q:Nat,p=(q:Int):=⟨p.toNat,by omega⟩
  have hq:q<16:=by omega
  have hp:jQ S calls st (q:Int)=if (fA S calls st q i).2 then { (fA S calls st q i).1 with fin:=(fA S calls st q i).1.fin.set i true } else (fA S calls st q i).1:=by unfold jQ;rw [hN];rfl
  rw [hp]
  cases hs:(st.hands.getD q (none,0)).1 with
  | some s=>
   obtain⟨k,hk⟩:∃ k,k=(st.hands.getD q (none,0)).2:=⟨_,rfl⟩
   have hh:fQ st.hands q=some k:=by unfold fQ;rw [hs,hk];rfl
   obtain⟨k1,k2,k3,k4⟩:=h.ev.hand q k hh
   have hst:fA S calls st q i=gX S { st with wd:=st.wd.tick } q k s:=by unfold fA;rw [hs];simp only;rw [<-hk]
   rw [hst]
   exact(congrArg (OZ calls st) (zP (i:=i) (st0:={ st with wd:=st.wd.tick }) (st:=st) (q:=q) (k:=k) (s:=s) (aQ:=st.evs) rfl rfl rfl (λ_=>rfl) rfl rfl)).mpr
    (.step q i k s st.evs st.wd.tick hq hN (.old k s (Prod.ext hs hk.symm) k1 (by rw [hN] at k4;cases k4;rfl) k3))
  | none=>
   cases hst:eG S st.obj (st.wd.tick.begin q) q (calls.getD i d0) with
   | refuse e=>
    have VX:fA S calls st q i=({ st with wd:=st.wd.tick.begin q,hands:=st.hands.set q (none,st.evs.length),evs:=st.evs++[dF (st.wd.tick.begin q) q ⟨e,0,[]⟩ [] (fZ i (st.wd.tick.begin q))] },true):=by
     unfold fA;rw [hs];simp only;rw [hst]
    rw [VX]
    exact .refuse q i e hq hN hs hst
   | run s=>
    have VX:fA S calls st q i=gX S { st with wd:=st.wd.tick.begin q,hands:=st.hands.set q (some s,st.evs.length),evs:=st.evs++[fZ i (st.wd.tick.begin q)] } q st.evs.length s:=by
     unfold fA;rw [hs];simp only;rw [hst]
    rw [VX]
    exact(congrArg (OZ calls st) (zP (i:=i) (st0:={ st with wd:=st.wd.tick.begin q,hands:=st.hands.set q (some s,st.evs.length),evs:=st.evs++[fZ i (st.wd.tick.begin q)] }) (st:=st) (q:=q) (k:=st.evs.length) (s:=s) (aQ:=st.evs++[fZ i (st.wd.tick.begin q)]) rfl rfl (by simp [List.set_set]) (λ_=>by simp [List.set_set]) rfl rfl)).mpr
     (.step q i st.evs.length s _ _ hq hN (.new s hs hst))
theorem zS {calls:List aD} (hnow:∀ o wd p s,(S.step o wd p s).2.1.now=wd.now) (hthr:∀ c,c<calls.length->0<=(calls.getD c d0).thread/\(calls.getD c d0).thread<16) {J:aP S->Prop}
  (hJ:∀ st st',bQ calls st->bQ calls st'->J st->OZ calls st st'->J st'):∀(picks:List Int) {st:aP S},bQ calls st->J st->bQ calls (eF S calls st picks)/\J (eF S calls st picks)
 | [],_,hg,h=>⟨hg,h⟩
 | p::ps,_,hg,h=>zS hnow hthr hJ ps (zT hnow hthr hg p) (hJ _ _ hg (zT hnow hthr hg p) h (Bn hthr hg p))
theorem From.len {calls:List aD} {st:aP S} {q i k:Nat} {s:S.σ} {aQ:List EvD} {cZ:WD} (h:From calls st q i k s aQ cZ):k<aQ.length:=by
 cases h with
 | old k s hh hk hc hr=>exact hk
 | new s hh hs=>simp
theorem From.call {calls:List aD} {st:aP S} {q i k:Nat} {s:S.σ} {aQ:List EvD} {cZ:WD} (h:From calls st q i k s aQ cZ):(aF aQ k).call=i:=by
 cases h with
 | old k s hh hk hc hr=>exact hc
 | new s hh hs=>rw [vJ];rfl
theorem From.open_ {calls:List aD} {st:aP S} {q i k:Nat} {s:S.σ} {aQ:List EvD} {cZ:WD} (h:From calls st q i k s aQ cZ):(aF aQ k).resp=0:=by
 cases h with
 | old k s hh hk hc hr=>exact hr
 | new s hh hs=>rw [vJ];rfl
theorem From.now {calls:List aD} {st:aP S} {q i k:Nat} {s:S.σ} {aQ:List EvD} {cZ:WD} (h:From calls st q i k s aQ cZ):cZ.now=st.wd.now+1:=by
 cases h<;>rfl
theorem From.mem {calls:List aD} {st:aP S} {q i k:Nat} {s:S.σ} {aQ:List EvD} {cZ:WD} (h:From calls st q i k s aQ cZ):cZ.mem=st.wd.mem:=by
 cases h<;>rfl
theorem From.traces {calls:List aD} {st:aP S} {q i k:Nat} {s:S.σ} {aQ:List EvD} {cZ:WD} (h:From calls st q i k s aQ cZ):cZ.traces=st.wd.traces:=by
 cases h<;>rfl
theorem From.obj {calls:List aD} {st:aP S} {q i k:Nat} {s:S.σ} {aQ:List EvD} {cZ:WD} (h:From calls st q i k s aQ cZ):st.evs.length<=aQ.length/\∀ j,j<st.evs.length->aF aQ j=aF st.evs j:=by
 cases h with
 | old k s hh hk hc hr=>exact⟨Nat.le_refl _,λ_ _=>rfl⟩
 | new s hh hs=>exact⟨by simp,λj hj=>NC hj⟩
theorem From.other {calls:List aD} {st:aP S} {q i k:Nat} {s:S.σ} {aQ:List EvD} {cZ:WD} (h:From calls st q i k s aQ cZ) (e:EvD) {j:Nat} (hj:j<(aQ.set k e).length) (hjk:j≠k):j<st.evs.length/\aF (aQ.set k e) j=aF st.evs j:=by
 rw [List.length_set] at hj
 rw [jK _ h.len,if_neg hjk]
 cases h with
 | old k s hh hk hc hr=>exact⟨hj,rfl⟩
 | new s hh hs=>
  have:j<st.evs.length:=by simp at hj;omega
  exact⟨this,NC this⟩
theorem From.self {calls:List aD} {st:aP S} {q i k:Nat} {s:S.σ} {aQ:List EvD} {cZ:WD} (h:From calls st q i k s aQ cZ) (e:EvD):aF (aQ.set k e) k=e:=by rw [jK _ h.len,if_pos rfl]
theorem From.size {calls:List aD} {st:aP S} {q i k:Nat} {s:S.σ} {aQ:List EvD} {cZ:WD} (h:From calls st q i k s aQ cZ) (e:EvD):st.evs.length<=(aQ.set k e).length:=by rw [List.length_set];exact h.obj.1
theorem Dh {h16:Nat} {hands:List (Option S.σ×Nat)} {q:Nat} (hl:hands.length=h16) (hq:q<h16) (x:Option S.σ×Nat) (p:Nat):(hands.set q x).getD p (none,0)=if p=q then x else hands.getD p (none,0):=by
 by_cases h:p=q
 ·subst h;rw [if_pos rfl];exact aI (by omega)
 ·rw [if_neg h];exact aK (Ne.symm h)
end
end Go.Proofs.YtfkokppncipgnaaGreat
