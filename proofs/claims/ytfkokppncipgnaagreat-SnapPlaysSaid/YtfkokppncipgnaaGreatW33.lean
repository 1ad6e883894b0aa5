/- Layer 14: the register's addresses; one that writes: to look, to fill. -/
import Derived.Test.YtfkokppncipgnaaGreatW32
import Derived.BigQuiet
import Derived.Laws.BitsAllLaws
import Derived.WalkMore
import Derived.Deep.AppendLies
import Derived.Test.YtfkokppncipgnaaGreatW29
import Derived.Test.YtfkokppncipgnaaGreatW26
set_option maxRecDepth 100000
set_option linter.unusedVariables false
set_option linter.unusedSimpArgs false
set_option linter.unnecessarySimpa false
namespace Go.Proofs.YtfkokppncipgnaaGreat
section
open Go.RowKit
def Fa (n w last now bC:Nat):Array Value:=#[.int .i64 0,.int .i64 (n:Int),.int .i64 (w:Int),.slice (some ⟨bC,0,none⟩) (n+1) (n+1),.int .u64 (last:Int),.int .i64 (now:Int)]
end
section
open Go.RowKit
structure UN (w:World) (bP bC n k:Nat) (o:SH):Prop where
 blk:w.heap[bP]?=some (.cells (Fa n k o.last o.now bC) 111 (0,0))
 come:w.heap[bC]?=some (.cells (o.come.map bI).toArray 46 (0,0))
 len:o.come.length=n+1
 small:∀ x∈o.come,x<18446744073709551616
 lsm:o.last<18446744073709551616
 nle:o.now<=n
theorem UN.chg {w w':World} {bP bC n k:Nat} {o:SH} {S:Nat->Prop} (h:UN w bP bC n k o) (hc:Chg S w w') (h1:¬ S bP) (h2:¬ S bC):UN w' bP bC n k o:=
 ⟨(hc.block _ (aC h.blk) h1).trans h.blk,(hc.block _ (aC h.come) h2).trans h.come,h.len,h.small,h.lsm,h.nle⟩
theorem UN.slice {w:World} {bP bC n k:Nat} {o:SH} (h:UN w bP bC n k o):w.cell? ⟨bP,3,none⟩=some (.slice (some ⟨bC,0,none⟩) (n+1) (n+1)):=by rw [aA h.blk];rfl
end
section
open Go.RowKit
end
section
open Go.RowKit
end
section
open Go.RowKit
theorem fT {w w':World} {Mut:Nat->Prop} {I:iM} {N:Nat} {wd:WD} {S:Nat->Prop} (h:bJ w Mut I N wd) (hc:Chg S w w') (h1:∀ b,S b->Mut b/\¬ cK I b):bJ w' Mut I N wd:=
 h.keep hc (λb hb=>(h1 b hb).1) (λb hb=>(h1 b hb).2) (aN.refl _ _) (λb hb=>Nat.lt_of_lt_of_le (h.low b hb) hc.size) h.muts
end
section
open Go.RowKit
end
section
open Go.RowKit
theorem Jd (w:World) (th ob kd ca cb cc:Int):∃ wa,wa=w.alloc (.cells #[.int .i64 th,.int .i64 ob,.int .i64 kd,.int .u64 ca,.int .u64 cb,.int .u64 cc] 48)/\Below w.heap.size w wa/\wa.heap.size=w.heap.size+1/\
  wa.heap[w.heap.size]?=some (.cells #[.int .i64 th,.int .i64 ob,.int .i64 kd,.int .u64 ca,.int .u64 cb,.int .u64 cc] 48 (0,0)):=
 ⟨_,rfl,Gr.new _ _,by simp,heap_alloc_new _ _⟩
end
section
open Go.RowKit
variable {n k:Nat} {calls:List aD}
end
section
open Go.RowKit
variable {n k:Nat} {calls:List aD}
theorem PiW.same {t t':Nat} {ws:List Nat} {o:SH} {hs hs':List (Option PiS×Nat)} (h:PiW n k t ws o hs) (ht:t<=t') (hH:∀ y,piH y hs'=piH y hs):PiW n k t' ws o hs':=by
 obtain⟨c,c1,c2,c3,c4⟩:=h.cell
 exact⟨h.wl,h.cl,h.nl,⟨c,c1,by omega,c3,λq hq=>by rw [hH];exact c4 q hq⟩,h.cm⟩
theorem MC {wd:WD} {a:Nat} (h:a<wd.mem.ws.length):dZ wd a=wd.mem.ws.getD a 0:=by
 have ho:gI wd.mem (a:Int)=false:=by unfold gI;simp;omega
 unfold dZ bL
 rw [if_neg (by rw [ho];simp)];simp
theorem AC (wd:WD) (a:Nat):(eY wd a).mem.ws=wd.mem.ws:=by
 unfold eY bL
 split<;>rfl
theorem OU {wd:WD} {a:Nat} (h:a<wd.mem.ws.length) (v:Nat):(eB wd a v).mem.ws=wd.mem.ws.set a v:=by
 have ho:gI wd.mem (a:Int)=false:=by unfold gI;simp;omega
 unfold eB fJ
 simp only
 rw [if_neg (by rw [ho];simp)];simp
theorem vE (l:List Nat) (p v i:Nat) (h:p<l.length):(l.set p v).getD i 0=if i=p then v else l.getD i 0:=by
 by_cases hi:i=p
 ·subst hi;rw [if_pos rfl];exact aI h
 ·rw [if_neg hi];exact aK (Ne.symm hi)
end
section
open Go.RowKit
variable {n k:Nat} {calls:List aD}
end
section
open Go.RowKit
variable {n k:Nat} {calls:List aD}
end
section
open Go.RowKit
variable {n k:Nat} {calls:List aD}
end
section
open Go.RowKit
end
section
open Go.RowKit
end
section
open Go.RowKit
theorem XF (size:Nat) (v:Int) (hv:v=(size:Int)) (h64:size<=1000000) (u:World):(Instr.makeSlice 28 (.int .i64 v) (.int .i64 v)).run Tryz.prog u=.ok (.slice (some ⟨u.heap.size,0,none⟩) size size) (u.alloc (.cells (madeCells #[.int .u64 0] size) 46)):=by
 subst hv
 obtain⟨i0,hi,hz0,hz1,hz2⟩:=info_parts xG
 have h:=run_make (P:=Tryz.prog) u 28 46 i0 (.int .u64 0) Tryz.underlying28 hi hz0 .i64 .i64 (size:Int) (size:Int) (by omega) (Int.le_refl _) (by rw [hz2];omega) (by omega)
 simpa [hz1,Value.cells] using h
theorem Cr {u:World} {b size:Nat} (h:u.heap[b]?=some (.cells (madeCells #[.int .u64 0] size) 46 (0,0))) (h64:size<=1000000):cB u (some ⟨b,0,none⟩) (List.replicate size 0).length 1 (fE (List.replicate size 0)):=by
 refine⟨by rw [List.length_replicate];unfold maxLen;omega,λj hj=>⟨b,0,rfl,aC h,λf hf=>?_⟩⟩
 obtain rfl:f=0:=by omega
 rw [List.length_replicate] at hj
 rw [aA h,jT]
 simp [fE,bI,List.getD_eq_getElem?_getD,List.getElem?_replicate,hj]
theorem KX.ret {O X X':Nat->Prop} {w0 w w':World} {er:Int} {r:iN} {e:Ending} (h:KX O X w w' er r e) (hb:Below w0.heap.size w0 w) (hO:∀ b,O b->w0.heap.size<=b) (hX:∀ b,X' b->X b):yC X' w0 w' er r e:=by
 obtain⟨hc,h2⟩:=h
 have hb2:Below w0.heap.size w0 w':=(((Chg.of_below hb).trans (hc.mono (λb _ h=>hO b h)):Chg (λb=>w0.heap.size<=b) w0 w')).below (λb h=>h) (Nat.le_refl _)
 rcases h2 with⟨h0,rfl⟩|⟨h0,ea,ec,va,vc,ers,rfl,hr⟩
 ·exact⟨none,0,0,none,0,0,_,rfl,hb2,.inl ⟨h0,rfl,rfl,rfl,rfl,rfl,rfl,rfl⟩⟩
 ·exact⟨ea,_,ec,va,_,vc,r,by rw [h0],hb2,.inr ⟨h0,rfl,rfl,rfl,ers,hr.low hb.size hX⟩⟩
end
section
open Go.RowKit
variable {n k:Nat} {calls:List aD}
end
section
open Go.RowKit
variable {S:Sys} {calls:List aD}
def xI (st:aP S):Prop:=∀ i j,i<st.evs.length->j<st.evs.length->i≠j->(aF st.evs i).resp≠0->(aF st.evs i).resp≠(aF st.evs j).inv
theorem Next.tickApart {st:aP S} {q k:Nat} {evs':List EvD} {e1:EvD} (hg:bQ calls st) (hT:xI st) (h:Next calls st q evs' k e1) (hr:e1.resp=0∨e1.resp=st.wd.now+1) (hi:st.evs.length<=k->e1.inv=st.wd.now+1) (hi2:k<st.evs.length->e1.inv=(aF st.evs k).inv) :
  ∀ i j,i<evs'.length->j<evs'.length->i≠j->(aF evs' i).resp≠0->(aF evs' i).resp≠(aF evs' j).inv:=by
 intro i j hil hjl hij hri
 by_cases hik:i=k
 ·subst hik
  obtain⟨j1,j2⟩:=h.other j hjl (Ne.symm hij)
  have hti:=hg.ev.tick j j1
  rw [j2]
  rw [h.self] at hri ⊢
  omega
 ·obtain⟨i1,i2⟩:=h.other i hil hik
  have hti:=hg.ev.tick i i1
  rw [i2] at hri ⊢
  by_cases hjk:j=k
  ·subst hjk
   rw [h.self]
   by_cases hjn:j<st.evs.length
   ·rw [hi2 hjn]
    exact hT i j i1 hjn hij hri
   ·have:=hi (by omega);omega
  ·obtain⟨j1,j2⟩:=h.other j hjl hjk
   rw [j2]
   exact hT i j i1 j1 hij hri
theorem YS (y:S.ω×WD×S.σ×Bool) (q:Nat) (e:EvD):(PO S y q e).call=e.call/\(PO S y q e).inv=e.inv/\(PO S y q e).steps=e.steps+1/\(y.2.2.2=true->(PO S y q e).resp=y.2.1.now/\(PO S y q e).ans=(S.answer y.2.2.1).1/\(PO S y q e).key=keyOf y.2.1 q (S.answer y.2.2.1).2)/\(y.2.2.2=false->(PO S y q e).resp=e.resp):=by
 unfold PO
 cases hb:y.2.2.2 with
 | true=>exact⟨rfl,rfl,rfl,λ_=>⟨rfl,rfl,rfl⟩,λh=>Bool.noConfusion h⟩
 | false=>exact⟨rfl,rfl,rfl,λh=>Bool.noConfusion h,λ_=>rfl⟩
theorem Eu {wd:WD} (h:wd.marks=List.replicate 16 []) (p:Nat):wd.marks.getD p []=[]:=by
 rw [h,List.getD_eq_getElem?_getD,List.getElem?_replicate]
 split<;>rfl
theorem BS {wd:WD} (h:wd.marks=List.replicate 16 []) (p:Nat) (k:List Int):keyOf wd p k=if k=[] then jW wd else k:=by
 unfold keyOf
 rw [Eu h p,if_pos rfl]
theorem From.invs {st:aP S} {q i k:Nat} {s:S.σ} {aQ:List EvD} {cZ:WD} (h:From calls st q i k s aQ cZ):(st.evs.length<=k->(aF aQ k).inv=st.wd.now+1)/\(k<st.evs.length->(aF aQ k).inv=(aF st.evs k).inv):=by
 cases h with
 | old k s hh hk hc hr=>exact⟨λh=>by omega,λ_=>rfl⟩
 | new s hh hs=>exact⟨λ_=>by rw [vJ];rfl,λh=>absurd h (Nat.lt_irrefl _)⟩
theorem From.mark0 {st:aP S} {q i k:Nat} {s:S.σ} {aQ:List EvD} {cZ:WD} (h:From calls st q i k s aQ cZ) (hm:st.wd.marks=List.replicate 16 []):cZ.marks=List.replicate 16 []:=by
 cases h with
 | old k s hh hk hc hr=>exact hm
 | new s hh hs=>exact yV hm
theorem YV (hnow:∀ o wd p s,(S.step o wd p s).2.1.now=wd.now) {st st':aP S} (hg:bQ calls st) (hT:xI st) (ht:OZ calls st st'):xI st':=by
 cases ht with
 | idle=>exact hT
 | refuse q i er hq hN hh hs=>
  exact(FY hg hN (dF (st.wd.tick.begin q) q ⟨er,0,[]⟩ [] (fZ i (st.wd.tick.begin q))) rfl).tickApart hg hT (.inr rfl) (λ_=>rfl) (λh=>absurd h (Nat.lt_irrefl _))
 | step q i k s aQ cZ hq hN hf=>
  obtain⟨f1,f2,f3,f4,f5⟩:=YS (S.step st.obj cZ q s) q (aF aQ k)
  have hn:=hnow st.obj cZ q s
  have hn0:=hf.now
  refine(hf.next hg hN (PO S (S.step st.obj cZ q s) q (aF aQ k)) f1).tickApart hg hT ?_ (λh=>f2.trans (hf.invs.1 h)) (λh=>f2.trans (hf.invs.2 h))
  cases hb:(S.step st.obj cZ q s).2.2.2 with
  | true=>right;rw [(f4 hb).1];omega
  | false=>left;rw [f5 hb];exact hf.open_
end
section
open Go.RowKit
variable {n k:Nat} {calls:List aD}
def piW (calls:List aD) (e:EvD):Prop:=iG calls e=0/\kindOf calls e=0/\e.ans.err=0/\e.resp≠0
def oZ (k:Nat) (calls:List aD) (evs:List EvD) (T:Nat) (f:Nat->Nat):Prop:=
 ((∀ j,j<evs.length->piW calls (aF evs j)->T<=(aF evs j).resp)/\∀ a,a<k->f a=0)∨
 ∃ j,j<evs.length/\piW calls (aF evs j)/\(aF evs j).resp<T/\(∀ i,i<evs.length->piW calls (aF evs i)->(aF evs i).resp<T->(aF evs i).resp<=(aF evs j).resp)/\∀ a,a<k->f a=((calls.getD (aF evs j).call d0).a+a) % 18446744073709551616
theorem oZ.congr {evs:List EvD} {T:Nat} {f g:Nat->Nat} (h:oZ k calls evs T f) (e:∀ a,a<k->g a=f a):oZ k calls evs T g:=by
 rcases h with⟨h1,h2⟩|⟨j,h1,h2,h3,h4,h5⟩
 ·exact .inl ⟨h1,λa ha=>(e a ha).trans (h2 a ha)⟩
 ·exact .inr ⟨j,h1,h2,h3,h4,λa ha=>(e a ha).trans (h5 a ha)⟩
section
variable {st:aP (Od n k)} {q j:Nat} {evs':List EvD} {e1:EvD}
theorem oZ.move {T T':Nat} {f:Nat->Nat} (h:oZ k calls st.evs T f) (hx:Next calls st q evs' j e1) (h1:∀ i,i<st.evs.length->piW calls (aF st.evs i)->((aF st.evs i).resp<T↔(aF st.evs i).resp<T')) (hw:piW calls e1->T'<=e1.resp):oZ k calls evs' T' f:=by
 have old:∀ i,i<evs'.length->piW calls (aF evs' i)->(aF evs' i).resp<T'->i<st.evs.length/\aF evs' i=aF st.evs i:=λi hi hp hlt=>by
  by_cases hij:i=j
  ·subst hij
   rw [hx.self] at hp hlt
   have:=hw hp;omega
  ·exact hx.other i hi hij
 rcases h with⟨a1,a2⟩|⟨i,b1,b2,b3,b4,b5⟩
 ·refine .inl ⟨λi hi hp=>Nat.le_of_not_lt λhlt=>?_,a2⟩
  obtain⟨i1,i2⟩:=old i hi hp hlt
  rw [i2] at hp hlt
  have:=a1 i i1 hp
  have:=(h1 i i1 hp).2 hlt
  omega
 ·have hij:i≠j:=λe=>b2.2.2.2 (hx.old (by omega) ▸ (by rw [e]))
  have e:aF evs' i=aF st.evs i:=(hx.other i (Nat.lt_of_lt_of_le b1 hx.size) hij).2
  refine .inr ⟨i,Nat.lt_of_lt_of_le b1 hx.size,by rw [e];exact b2,by rw [e];exact(h1 i b1 b2).1 b3,λi' hi' hp hlt=>?_,λa ha=>by rw [e];exact b5 a ha⟩
  obtain⟨i1,i2⟩:=old i' hi' hp hlt
  rw [i2] at hp hlt ⊢
  rw [e]
  exact b4 i' i1 hp ((h1 i' i1 hp).2 hlt)
theorem oZ.keep {T:Nat} {f:Nat->Nat} (h:oZ k calls st.evs T f) (hx:Next calls st q evs' j e1) (hr:e1.resp=0∨e1.resp=st.wd.now+1) (hT:T<=st.wd.now+1):oZ k calls evs' T f:=
 h.move hx (λ_ _ _=>Iff.rfl) (λhp=>by rcases hr with h0|h0;exact absurd h0 hp.2.2.2;omega)
theorem oZ.up {f:Nat->Nat} (hg:bQ calls st) (h:oZ k calls st.evs (st.wd.now+1) f) (hx:Next calls st q evs' j e1) (hw:¬ piW calls e1):oZ k calls evs' (st.wd.now+2) f:=
 h.move hx (λi hi _=>by have:=(hg.ev.tick i hi).2.2.2;omega) (λhp=>absurd hp hw)
theorem oZ.new {f:Nat->Nat} (hg:bQ calls st) (hx:Next calls st q evs' j e1) (hw:piW calls e1) (hr:e1.resp=st.wd.now+1) (hf:∀ a,a<k->f a=((calls.getD e1.call d0).a+a) % 18446744073709551616):oZ k calls evs' (st.wd.now+2) f:=by
 refine .inr ⟨j,hx.lt,by rw [hx.self];exact hw,by rw [hx.self];omega,λi hi hp hlt=>?_,λa ha=>by rw [hx.self];exact hf a ha⟩
 rw [hx.self,hr];omega
end
structure SX (k:Nat) (calls:List aD) (evs:List EvD) (e:EvD):Prop where
 rd:iG calls e=0->kindOf calls e=1->oZ k calls evs e.inv (λa=>e.ans.list.getD a 0)/\e.ans.err=0/\e.ans.val=0/\e.key=[2*(e.inv:Int)]
 el:¬ (iG calls e=0/\kindOf calls e=1)->e.key=[2*(e.resp:Int)]/\e.ans=(if iG calls e≠0 then ⟨12,0,[]⟩ else if kindOf calls e≠0 then ⟨9,0,[]⟩ else if tn calls e≠0 then ⟨11,0,[]⟩ else ⟨0,0,[]⟩)
structure aAi (n k:Nat) (calls:List aD) (st:aP (Od n k)):Prop where
 marks:st.wd.marks=List.replicate 16 []
 cf:st.wd.mem.c.fault=0
 ca:st.wd.mem.c.all<=st.wd.now
 cell:oZ k calls st.evs (st.wd.now+1) (λa=>st.wd.mem.ws.getD (yU n k st.obj.now a) 0)
 hand:∀ p q j l key i,st.hands.getD p (none,0)=(some (.rd q j l key),i)->1<=j->oZ k calls st.evs (aF st.evs i).inv (λa=>st.wd.mem.ws.getD (yU n k q a) 0)/\key=[2*((aF st.evs i).inv:Int)]
 told:∀ j,j<st.evs.length->(aF st.evs j).resp≠0->SX k calls st.evs (aF st.evs j)
theorem SX.keep {st:aP (Od n k)} {q j:Nat} {evs':List EvD} {e1 e:EvD} (h:SX k calls st.evs e) (hx:Next calls st q evs' j e1) (hr:e1.resp=0∨e1.resp=st.wd.now+1) (hT:e.inv<=st.wd.now+1):SX k calls evs' e:=
 ⟨λh0 h1=>⟨(h.rd h0 h1).1.keep hx hr hT,(h.rd h0 h1).2⟩,h.el⟩
end
section
open Go.RowKit
variable {S:Sys} {calls:List aD}
def xF (evs:List EvD):Prop:=∀ i j,i<evs.length->j<evs.length->(aF evs i).resp≠0->(aF evs i).resp=(aF evs j).resp->i=j
theorem Next.respApart {st:aP S} {q k:Nat} {evs':List EvD} {e1:EvD} (hg:bQ calls st) (hR:xF st.evs) (h:Next calls st q evs' k e1) (hr:e1.resp=0∨e1.resp=st.wd.now+1):xF evs':=by
 intro i j hi hj h0 h1
 by_cases hik:i=k
 ·by_cases hjk:j=k
  ·rw [hik,hjk]
  ·exfalso
   subst hik
   obtain⟨j1,j2⟩:=h.other j hj hjk
   have:=(hg.ev.tick j j1).2.2.2
   rw [j2,h.self] at h1
   rw [h.self] at h0
   omega
 ·obtain⟨i1,i2⟩:=h.other i hi hik
  have hti:=(hg.ev.tick i i1).2.2.2
  by_cases hjk:j=k
  ·exfalso
   subst hjk
   rw [i2,h.self] at h1
   rw [i2] at h0
   omega
  ·obtain⟨j1,j2⟩:=h.other j hj hjk
   rw [i2,j2] at h1
   rw [i2] at h0
   exact hR i j i1 j1 h0 h1
def eU (calls:List aD) (prt:aD->Nat) (evs:List EvD) (i T:Nat):Option Nat->Prop
 | none=>∀ j,j<evs.length->piW calls (aF evs j)->prt (calls.getD (aF evs j).call d0)=i->T<(aF evs j).resp
 | some j=>j<evs.length/\piW calls (aF evs j)/\prt (calls.getD (aF evs j).call d0)=i/\(aF evs j).resp<=T/\∀ j',j'<evs.length->piW calls (aF evs j')->prt (calls.getD (aF evs j').call d0)=i->(aF evs j').resp<=T->(aF evs j').resp<=(aF evs j).resp
def CY (rho:Nat->Nat):Option Nat->Nat
 | none=>0
 | some j=>rho j
def valOf (calls:List aD) (val:aD->Nat) (evs:List EvD):Option Nat->Nat
 | none=>0
 | some j=>val (calls.getD (aF evs j).call d0)
def jI (calls:List aD) (prt:aD->Nat) (rho:Nat->Nat) (evs:List EvD) (i T c:Nat):Prop:=∃ oj,eU calls prt evs i T oj/\c=CY rho oj
def ValAt (calls:List aD) (prt val:aD->Nat) (evs:List EvD) (i T v:Nat):Prop:=∃ oj,eU calls prt evs i T oj/\v=valOf calls val evs oj
variable {prt val:aD->Nat} {rho:Nat->Nat} {evs:List EvD}
theorem eU.unique (hR:xF evs) {i T:Nat} {o1 o2:Option Nat} (h1:eU calls prt evs i T o1) (h2:eU calls prt evs i T o2):o1=o2:=by
 match o1,o2,h1,h2 with
 | none,none,_,_=>rfl
 | none,some j,h1,⟨a,b,c,d,_⟩=>have:=h1 j a b c;omega
 | some j,none,⟨a,b,c,d,_⟩,h2=>have:=h2 j a b c;omega
 | some j,some j',⟨a,b,c,d,e⟩,⟨a',b',c',d',e'⟩=>
  have h3:=e j' a' b' c' d'
  have h4:=e' j a b c d
  exact congrArg some (hR j j' a a' b.2.2.2 (by omega))
theorem eU.down {i T T':Nat} {o:Option Nat} (h:eU calls prt evs i T' o) (hT:T<=T') (ho:∀ j,o=some j->(aF evs j).resp<=T):eU calls prt evs i T o:=by
 match o,h with
 | none,h=>exact λj a b c=>by have:=h j a b c;omega
 | some j,⟨a,b,c,d,e⟩=>exact⟨a,b,c,ho j rfl,λj' p0 p1 p2 p3=>e j' p0 p1 p2 (by omega)⟩
theorem eU.resp_le {i T j:Nat} (h:eU calls prt evs i T (some j)):(aF evs j).resp<=T:=h.2.2.2.1
theorem jI.between {i T T' c m:Nat} (hinj:∀ x y,x<evs.length->y<evs.length->piW calls (aF evs x)->piW calls (aF evs y)->rho x=rho y->x=y) (hpos:∀ x,x<evs.length->piW calls (aF evs x)->0<rho x)
  (h1:jI calls prt rho evs i T c) (h2:jI calls prt rho evs i T' c) (hm:T<=m) (hm':m<=T'):∃ oj,eU calls prt evs i m oj/\c=CY rho oj:=by
 obtain⟨o1,a1,a2⟩:=h1
 obtain⟨o2,b1,b2⟩:=h2
 have e:o1=o2:=by
  match o1,o2,a1,b1 with
  | none,none,_,_=>rfl
  | none,some j,_,⟨b,d,_⟩=>have:=hpos j b d;simp only [CY] at a2 b2;omega
  | some j,none,⟨a,d,_⟩,_=>have:=hpos j a d;simp only [CY] at a2 b2;omega
  | some j,some j',⟨a,d,_⟩,⟨b,f,_⟩=>exact congrArg some (hinj j j' a b d f (by simp only [CY] at a2 b2;omega))
 subst e
 refine⟨o1,b1.down hm' (λj e=>?_),a2⟩
 subst e
 have:=a1.resp_le;omega
theorem jI.differ (hR:xF evs) {i T T' c c':Nat} (hT:T<=T') (h1:jI calls prt rho evs i T c) (h2:jI calls prt rho evs i T' c') (hne:c≠c'):∃ j,eU calls prt evs i T' (some j)/\c'=rho j/\T<(aF evs j).resp:=by
 obtain⟨o1,a1,a2⟩:=h1
 obtain⟨o2,b1,b2⟩:=h2
 by_cases hx:∀ j,o2=some j->(aF evs j).resp<=T
 ·have:=(b1.down hT hx).unique hR a1
  subst this
  exact absurd (a2.trans b2.symm) hne
 ·match o2,b1,b2,hx with
  | none,_,_,hx=>exact absurd (λj e=>by cases e) hx
  | some j,b1,b2,hx=>exact⟨j,b1,b2,Nat.lt_of_not_le λh9=>hx λj' e=>by cases e;exact h9⟩
section
variable {st:aP S} {q j:Nat} {evs':List EvD} {e1:EvD}
theorem eU.move {i T T':Nat} {o:Option Nat} (h:eU calls prt st.evs i T o) (hx:Next calls st q evs' j e1) (h1:∀ i,i<st.evs.length->piW calls (aF st.evs i)->((aF st.evs i).resp<=T↔(aF st.evs i).resp<=T')) (hw:piW calls e1->prt (calls.getD e1.call d0)=i->T'<e1.resp):eU calls prt evs' i T' o:=by
 have old:∀ x,x<evs'.length->piW calls (aF evs' x)->prt (calls.getD (aF evs' x).call d0)=i->(aF evs' x).resp<=T'->x<st.evs.length/\aF evs' x=aF st.evs x:=λx hx' hp hq hle=>by
  by_cases hxj:x=j
  ·subst hxj
   rw [hx.self] at hp hq hle
   have:=hw hp hq;omega
  ·exact hx.other x hx' hxj
 match o,h with
 | none,h=>
  intro x hx' hp hq
  refine Nat.lt_of_not_le λhle=>?_
  obtain⟨a,b⟩:=old x hx' hp hq hle
  rw [b] at hp hq hle
  have:=h x a hp hq
  have:=(h1 x a hp).2 hle
  omega
 | some y,⟨a,b,c,d,e⟩=>
  have hyj:y≠j:=λe'=>b.2.2.2 (hx.old (by omega) ▸ (by rw [e']))
  have ey:aF evs' y=aF st.evs y:=(hx.other y (Nat.lt_of_lt_of_le a hx.size) hyj).2
  refine⟨Nat.lt_of_lt_of_le a hx.size,by rw [ey];exact b,by rw [ey];exact c,by rw [ey];exact(h1 y a b).1 d,λx hx' hp hq hle=>?_⟩
  obtain⟨a',b'⟩:=old x hx' hp hq hle
  rw [b'] at hp hq hle ⊢
  rw [ey]
  exact e x a' hp hq ((h1 x a' hp).2 hle)
theorem eU.keep {i T:Nat} {o:Option Nat} (h:eU calls prt st.evs i T o) (hx:Next calls st q evs' j e1) (hr:e1.resp=0∨e1.resp=st.wd.now+1) (hT:T<=st.wd.now):eU calls prt evs' i T o:=
 h.move hx (λ_ _ _=>Iff.rfl) (λhp _=>by rcases hr with h0|h0;exact absurd h0 hp.2.2.2;omega)
theorem eU.up {i:Nat} {o:Option Nat} (hg:bQ calls st) (h:eU calls prt st.evs i st.wd.now o) (hx:Next calls st q evs' j e1) (hw:piW calls e1->prt (calls.getD e1.call d0)≠i):eU calls prt evs' i (st.wd.now+1) o:=
 h.move hx (λx hx' _=>by have:=(hg.ev.tick x hx').2.2.2;omega) (λhp hq=>absurd hq (hw hp))
theorem eU.new {i:Nat} (hg:bQ calls st) (hx:Next calls st q evs' j e1) (hw:piW calls e1) (hp:prt (calls.getD e1.call d0)=i) (hr:e1.resp=st.wd.now+1):eU calls prt evs' i (st.wd.now+1) (some j):=by
 refine⟨hx.lt,by rw [hx.self];exact hw,by rw [hx.self];exact hp,by rw [hx.self];omega,λx _ _ _ hle=>?_⟩
 rw [hx.self,hr];exact hle
theorem eU.old {i T y:Nat} (h:eU calls prt st.evs i T (some y)) (hx:Next calls st q evs' j e1):aF evs' y=aF st.evs y:=by
 obtain⟨a,b,_⟩:=h
 have hyj:y≠j:=λe'=>b.2.2.2 (hx.old (by omega) ▸ (by rw [e']))
 exact(hx.other y (Nat.lt_of_lt_of_le a hx.size) hyj).2
end
end
section
open Go.RowKit
variable {calls:List aD} {prt val:aD->Nat} {rho:Nat->Nat} {evs:List EvD}
def EM (d:List Bool):Nat:=d.countP (λb=>b)
theorem VF {d:List Bool} {t:Nat} (ht:t<d.length) (h:d.getD t false=false):EM (d.set t true)=EM d+1:=by
 have e:d[t]=false:=by
  have:=h
  rw [List.getD_eq_getElem?_getD,List.getElem?_eq_getElem ht] at this;exact this
 unfold EM
 rw [List.countP_set ht,e]
 simp
theorem Mt {d:List Bool} {n:Nat} (h:∀ i,n<=i->d.getD i false=false):EM d<=n:=by
 have e:=List.take_append_drop n d
 have hd:(d.drop n).countP (λb=>b)=0:=by
  rw [List.countP_eq_zero]
  intro x hx
  obtain⟨i,hi,rfl⟩:=List.getElem_of_mem hx
  have h1:=h (n+i) (by omega)
  rw [List.length_drop] at hi
  rw [List.getD_eq_getElem?_getD,List.getElem?_eq_getElem (by omega)] at h1
  rw [List.getElem_drop]
  simpa using h1
 have ht:(d.take n).countP (λb=>b)<=n:=Nat.le_trans List.countP_le_length (by rw [List.length_take];omega)
 have:=List.countP_append (p:=λb:Bool=>b) (l₁:=d.take n) (l₂:=d.drop n)
 rw [e] at this
 unfold EM
 omega
theorem SA {d:List Bool} {n p:Nat} (hp:p<n) (hl:n<=d.length) (h:∀ i,n<=i->d.getD i false=false) (h0:d.getD p false=false):EM d+1<=n:=by
 rw [<-VF (t:=p) (by omega) h0]
 refine Mt λi hi=>?_
 rw [aK (by omega)];exact h i hi
structure Wo (old now:List Nat) (t n:Nat) (d d':List Bool):Prop where
 len:d'.length=d.length
 out:∀ i,¬ (t<=i/\i<n)->d'.getD i false=d.getD i false
 same:∀ i,t<=i->i<n->old.getD i 0=now.getD i 0->d'.getD i false=d.getD i false
 mono:EM d<=EM d'
theorem yD (old now:List Nat):∀(m t:Nat) (d:List Bool),t+m<=d.length->(∀ d',iA old now m t d=(d',none)->Wo old now t (t+m) d d'/\(∀ i,t<=i->i<t+m->old.getD i 0≠now.getD i 0->d.getD i false=false/\d'.getD i false=true)/\((∃ i,t<=i/\i<t+m/\old.getD i 0≠now.getD i 0)->EM d+1<=EM d'))/\
  (∀ d' f,iA old now m t d=(d',some f)->∃ i,t<=i/\i<t+m/\old.getD i 0≠now.getD i 0/\d.getD i false=true/\f=now.getD i 0/\d'.length=d.length/\(∀ x,¬ (t<=x/\x<t+m)->d'.getD x false=d.getD x false)/\(∀ x,t<=x->x<t+m->old.getD x 0=now.getD x 0->d'.getD x false=d.getD x false))
 | 0,t,d,_=>by
  refine⟨λd' h=>?_,λd' f h=>by cases h⟩
  cases h
  exact⟨⟨rfl,λ_ _=>rfl,λ_ _ _ _=>rfl,Nat.le_refl _⟩,λi h1 h2=>by omega,λ⟨i,h1,h2,_⟩=>by omega⟩
 | m+1,t,d,hl=>by
  unfold iA
  by_cases he:old.getD t 0=now.getD t 0
  ·rw [if_pos he]
   obtain⟨a,b⟩:=yD old now m (t+1) d (by omega)
   refine⟨λd' h=>?_,λd' f h=>?_⟩
   ·obtain⟨g1,g2,g3⟩:=a d' h
    refine⟨⟨g1.len,λi hi=>?_,λi h1 h2 h3=>?_,g1.mono⟩,λi h1 h2 h3=>?_,λ⟨i,h1,h2,h3⟩=>?_⟩
    ·exact g1.out i (by omega)
    ·by_cases e:i=t
     ·exact g1.out i (by omega)
     ·exact g1.same i (by omega) (by omega) h3
    ·have e:i≠t:=λe=>by subst e;exact h3 he
     exact g2 i (by omega) (by omega) h3
    ·have e:i≠t:=λe=>by subst e;exact h3 he
     exact g3 ⟨i,by omega,by omega,h3⟩
   ·obtain⟨i,h1,h2,h3,h4,h5,h6,h7,h8⟩:=b d' f h
    refine⟨i,by omega,by omega,h3,h4,h5,h6,λx hx=>h7 x (by omega),λx x1 x2 x3=>?_⟩
    by_cases e:x=t
    ·exact h7 x (by omega)
    ·exact h8 x (by omega) (by omega) x3
  ·rw [if_neg he]
   by_cases hd:d.getD t false=true
   ·rw [if_pos hd]
    refine⟨λd' h=>(by cases h),λd' f h=>?_⟩
    cases h
    exact⟨t,Nat.le_refl _,by omega,he,hd,rfl,rfl,λ_ _=>rfl,λ_ _ _ _=>rfl⟩
   ·rw [if_neg hd]
    have hd0:d.getD t false=false:=by simpa using hd
    obtain⟨a,b⟩:=yD old now m (t+1) (d.set t true) (by rw [List.length_set];omega)
    have hset:∀ i,i≠t->(d.set t true).getD i false=d.getD i false:=λi hi=>aK (Ne.symm hi)
    have hcnt:=VF (d:=d) (t:=t) (by omega) hd0
    refine⟨λd' h=>?_,λd' f h=>?_⟩
    ·obtain⟨g1,g2,g3⟩:=a d' h
     have hm:=g1.mono
     refine⟨⟨by rw [g1.len,List.length_set],λi hi=>?_,λi h1 h2 h3=>?_,by omega⟩,λi h1 h2 h3=>?_,λ_=>by omega⟩
     ·rw [g1.out i (by omega),hset i (by omega)]
     ·have e:i≠t:=λe=>by subst e;exact he h3
      rw [g1.same i (by omega) (by omega) h3,hset i e]
     ·by_cases e:i=t
      ·subst e
       refine⟨hd0,?_⟩
       rw [g1.out i (by omega)]
       exact aI (by omega)
      ·have:=g2 i (by omega) (by omega) h3
       rw [hset i e] at this;exact this
    ·obtain⟨i,h1,h2,h3,h4,h5,h6,h7,h8⟩:=b d' f h
     have e:i≠t:=by omega
     rw [hset i e] at h4
     refine⟨i,by omega,by omega,h3,h4,h5,by rw [h6,List.length_set],λx hx=>by rw [h7 x (by omega),hset x (by omega)],λx x1 x2 x3=>?_⟩
     have e:x≠t:=λe=>by subst e;exact he x3
     rw [h8 x (by omega) (by omega) x3,hset x e]
theorem yX (n:Nat):∀(m:Nat) (s:ScD),s.at_<=n->n<=s.at_+m->∃ a,s.at_<=a/\a<=n/\(∀ i,s.at_<=i->i<a->s.now.getD i 0=0)/\(a<n->s.now.getD a 0≠0)/\dI n m s={ s with at_:=a,list:=s.list++List.replicate (a - s.at_) 0,pc:=if a=n then 3 else s.pc }
 | 0,s,h1,h2=>by
  have e:s.at_=n:=by omega
  exact⟨s.at_,Nat.le_refl _,h1,λi _ _=>by omega,λh=>by omega,by unfold dI;simp⟩
 | m+1,s,h1,h2=>by
  unfold dI
  by_cases hc:s.at_<n/\s.now.getD s.at_ 0=0
  ·rw [if_pos hc]
   obtain⟨a,a1,a2,a3,a4,a5⟩:=yX n m { s with list:=s.list++[0],at_:=s.at_+1 } (by show s.at_+1<=n;omega) (by show n<=s.at_+1+m;omega)
   simp only at a1 a3 a5
   refine⟨a,by omega,a2,λi i1 i2=>?_,a4,?_⟩
   ·by_cases e:i=s.at_
    ·rw [e];exact hc.2
    ·exact a3 i (by omega) i2
   ·rw [a5]
    have e:a - s.at_=(a - (s.at_+1))+1:=by omega
    rw [e,List.replicate_succ,List.append_assoc];rfl
  ·rw [if_neg hc]
   refine⟨s.at_,Nat.le_refl _,h1,λi _ _=>by omega,λh=>λh0=>hc ⟨h,h0⟩,?_⟩
   rw [Nat.sub_self];simp
structure ScC (n:Nat) (calls:List aD) (prt:aD->Nat) (rho:Nat->Nat) (evs:List EvD) (T I N:Nat) (s:ScD):Prop where
 at_:s.at_<n
 nil:s.list=[]
 steps:N=s.rounds*n+s.at_
 few:s.rounds<=EM s.diff+1
 cur:∀ i,i<s.at_->∃ a,I<=a/\a<=T/\(1<=s.rounds->s.last<=a)/\jI calls prt rho evs i a (s.now.getD i 0)
 last:1<=s.rounds->I<=s.last/\s.last<=T
 prev:1<=s.rounds->∀ i,i<n->∃ a,I<=a/\a<=s.last/\jI calls prt rho evs i a (s.old.getD i 0)/\(s.diff.getD i false=true->∃ jj,eU calls prt evs i a (some jj)/\I<=(aF evs jj).resp)
 first:s.rounds=0->∀ i,s.diff.getD i false=false
structure ScV (n:Nat) (calls:List aD) (prt val:aD->Nat) (rho:Nat->Nat) (evs:List EvD) (T I N:Nat) (s:ScD):Prop where
 at_:s.at_<n
 pos:s.now.getD s.at_ 0≠0
 len:s.list.length=s.at_
 steps:N<=(n+1)*n+s.at_
 mom:∃ m:Nat,s.moment=(m:Int)/\I<=m/\m<=T/\(∀ i,i<n->∃ oj,eU calls prt evs i m oj/\s.now.getD i 0=CY rho oj)/\∀ i,i<s.at_->ValAt calls prt val evs i m (s.list.getD i 0)
structure ScB (n:Nat) (calls:List aD) (prt val:aD->Nat) (rho:Nat->Nat) (evs:List EvD) (traces:Int->List Int) (T I N:Nat) (s:ScD):Prop where
 at_:s.at_<n
 len:s.list.length=s.at_
 steps:N<=(n+1)*n+s.at_
 ref:∃ jj,jj<evs.length/\piW calls (aF evs jj)/\s.from_=rho jj
 tr:traces (s.from_:Int)=[s.moment]
 mom:∃ m:Nat,s.moment=(m:Int)/\I<=m/\m<=T/\∀ i,i<s.at_->ValAt calls prt val evs i m (s.list.getD i 0)
structure ScO (n:Nat) (calls:List aD) (prt val:aD->Nat) (evs:List EvD) (T I N:Nat) (s:ScD):Prop where
 len:s.list.length=n
 steps:N<=(n+1)*n+n
 mom:∃ m:Nat,s.moment=(m:Int)/\I<=m/\m<=T/\∀ i,i<n->ValAt calls prt val evs i m (s.list.getD i 0)
structure BH (n:Nat) (calls:List aD) (prt val:aD->Nat) (rho:Nat->Nat) (evs:List EvD) (traces:Int->List Int) (T p I N:Nat) (s:ScD):Prop where
 l1:s.old.length=16
 l2:s.now.length=16
 l3:s.diff.length=16
 z:∀ i,n<=i->s.old.getD i 0=0/\s.now.getD i 0=0
 it:I<=T
 own:s.diff.getD p false=false
 dn:∀ i,n<=i->s.diff.getD i false=false
 body:(s.pc=0/\ScC n calls prt rho evs T I N s)∨(s.pc=1/\ScV n calls prt val rho evs T I N s)∨(s.pc=2/\ScB n calls prt val rho evs traces T I N s)∨(s.pc=3/\ScO n calls prt val evs T I N s)
structure xH (n:Nat) (calls:List aD) (prt val:aD->Nat) (rho:Nat->Nat) (evs:List EvD) (ws:List Nat) (traces:Int->List Int) (T:Nat):Prop where
 cell:∀ i,i<n->jI calls prt rho evs i T (ws.getD i 0)
 nw:n<=ws.length
 pos:∀ x,x<evs.length->piW calls (aF evs x)->0<rho x/\rho x+n<ws.length
 inj:∀ x y,x<evs.length->y<evs.length->piW calls (aF evs x)->piW calls (aF evs y)->rho x=rho y->x=y
 value:∀ x,x<evs.length->piW calls (aF evs x)->ws.getD (rho x) 0=val (calls.getD (aF evs x).call d0)
 view:∀ x,x<evs.length->piW calls (aF evs x)->∃ m:Nat,traces (rho x:Int)=[(m:Int)]/\(aF evs x).inv<=m/\m<=(aF evs x).resp/\∀ i,i<n->ValAt calls prt val evs i m (ws.getD (rho x+1+i) 0)
 seq:∀ x y,x<evs.length->y<evs.length->piW calls (aF evs x)->piW calls (aF evs y)->tn calls (aF evs x)=tn calls (aF evs y)->(aF evs x).resp<(aF evs y).resp->(aF evs x).resp<(aF evs y).inv
 apart:xF evs
theorem kU {l m:List Nat} {i:Nat} (h:i<l.length):(l++m).getD i 0=l.getD i 0:=by
 rw [List.getD_eq_getElem?_getD,List.getD_eq_getElem?_getD,List.getElem?_append_left h]
theorem QW {l:List Nat} {x:Nat}:(l++[x]).getD l.length 0=x:=by
 rw [List.getD_eq_getElem?_getD,List.getElem?_append_right (Nat.le_refl _),Nat.sub_self];rfl
theorem YI {l:List Nat} {m i:Nat} (h:l.length<=i):(l++List.replicate m 0).getD i 0=0:=by
 rw [List.getD_eq_getElem?_getD,List.getElem?_append_right h,List.getElem?_replicate]
 split<;>rfl
theorem Ae {n T I N:Nat} {s:ScD} {traces:Int->List Int} {p:Nat} (hpos:∀ x,x<evs.length->piW calls (aF evs x)->0<rho x) (h1:s.old.length=16) (h2:s.now.length=16) (h3:s.diff.length=16) (hz:∀ i,n<=i->s.old.getD i 0=0/\s.now.getD i 0=0) (hit:I<=T) (hown:s.diff.getD p false=false) (hdn:∀ i,n<=i->s.diff.getD i false=false)
  (hpc:s.pc=1) (hat:s.at_<=n) (hlen:s.list.length=s.at_) (hst:N<=(n+1)*n+s.at_) {m:Nat} (hm:s.moment=(m:Int)) (hI:I<=m) (hT:m<=T) (hl:∀ i,i<n->∃ oj,eU calls prt evs i m oj/\s.now.getD i 0=CY rho oj) (hv:∀ i,i<s.at_->ValAt calls prt val evs i m (s.list.getD i 0)) :
  BH n calls prt val rho evs traces T p I N (dI n n s):=by
 obtain⟨a,a1,a2,a3,a4,a5⟩:=yX n n s hat (by omega)
 rw [a5]
 have hv':∀ i,i<a->ValAt calls prt val evs i m ((s.list++List.replicate (a - s.at_) 0).getD i 0):=λi hi=>by
  by_cases h9:i<s.at_
  ·rw [kU (by omega)];exact hv i h9
  ·rw [YI (by omega)]
   obtain⟨oj,o1,o2⟩:=hl i (by omega)
   rw [a3 i (by omega) hi] at o2
   match oj,o1,o2 with
   | none,o1,_=>exact⟨none,o1,rfl⟩
   | some y,o1,o2=>
    have:=hpos y o1.1 o1.2.1
    simp only [CY] at o2
    omega
 have hlen':(s.list++List.replicate (a - s.at_) 0).length=a:=by rw [List.length_append,List.length_replicate,hlen];omega
 refine⟨h1,h2,h3,hz,hit,hown,hdn,?_⟩
 by_cases he:a=n
 ·rw [if_pos he]
  exact .inr (.inr (.inr ⟨rfl,⟨hlen'.trans he,by omega,m,hm,hI,hT,λi hi=>hv' i (by omega)⟩⟩))
 ·rw [if_neg he]
  exact .inr (.inl ⟨hpc,⟨by show a<n;omega,a4 (by omega),hlen',by show N<=(n+1)*n+a;omega,m,hm,hI,hT,hl,hv'⟩⟩)
end
end Go.Proofs.YtfkokppncipgnaaGreat
