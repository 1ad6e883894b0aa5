/- Layer 14: one that writes: to look whether all have left a buffer, and to fill it. -/
import Derived.Test.YtlepjmnhekeofaaR22
import Derived.Deep.AppendLies
import Derived.Test.YtlepjmnhekeofaaR21
set_option maxRecDepth 100000
set_option linter.unusedVariables false
set_option linter.unusedSimpArgs false
set_option linter.unnecessarySimpa false
namespace Go.Proofs.Ytlepjmnhekeofaa
section
open Go.RowKit
structure PinAt (w:World) (bP bC n k:Nat) (o:PinO):Prop where
 blk:w.heap[bP]?=some (.cells (pinCells n k o.last o.now bC) 86 (0,0))
 come:w.heap[bC]?=some (.cells (o.come.map u64V).toArray 40 (0,0))
 len:o.come.length=n+1
 small:∀ x∈o.come,x<18446744073709551616
 lsm:o.last<18446744073709551616
 nle:o.now<=n
theorem PinAt.chg {w w':World} {bP bC n k:Nat} {o:PinO} {S:Nat->Prop} (h:PinAt w bP bC n k o) (hc:Chg S w w') (h1:¬ S bP) (h2:¬ S bC):PinAt w' bP bC n k o:=
 ⟨(hc.block _ (blk_lt h.blk) h1).trans h.blk,(hc.block _ (blk_lt h.come) h2).trans h.come,h.len,h.small,h.lsm,h.nle⟩
theorem PinAt.slice {w:World} {bP bC n k:Nat} {o:PinO} (h:PinAt w bP bC n k o):w.cell? ⟨bP,3,none⟩=some (.slice (some ⟨bC,0,none⟩) (n+1) (n+1)):=by rw [cell_blk h.blk];rfl
end
section

/- Layer 14: one that writes: to fill a buffer, word by word; its step. -/
open Go.RowKit
end
section

/- Layer 14: one that writes: to change the buffer; its step. -/
open Go.RowKit
end
section

/- Layer 14: one that reads: to come, to leave. -/
open Go.RowKit
theorem world_cell {w w':World} {Mut:Nat->Prop} {I:WIds} {N:Nat} {wd:WD} {S:Nat->Prop} (h:WorldAt w Mut I N wd) (hc:Chg S w w') (h1:∀ b,S b->Mut b/\¬ WSet I b):WorldAt w' Mut I N wd:=
 h.keep hc (λb hb=>(h1 b hb).1) (λb hb=>(h1 b hb).2) (MutUp.refl _ _) (λb hb=>Nat.lt_of_lt_of_le (h.low b hb) hc.size) h.muts
end
section

/- Layer 14: one that reads: to read a word, to leave. -/
open Go.RowKit
end
section

/- Layer 14: the register as the loom's object: its machines answer, and start. -/
open Go.RowKit
theorem pin_blks (w:World) (th ob kd ca cb cc:Int):∃ wa,wa=w.alloc (.cells #[.int .i64 th,.int .i64 ob,.int .i64 kd,.int .u64 ca,.int .u64 cb,.int .u64 cc] 46)/\Below w.heap.size w wa/\wa.heap.size=w.heap.size+1/\
  wa.heap[w.heap.size]?=some (.cells #[.int .i64 th,.int .i64 ob,.int .i64 kd,.int .u64 ca,.int .u64 cb,.int .u64 cc] 46 (0,0)):=
 ⟨_,rfl,Gr.new _ _,by simp,heap_alloc_new _ _⟩
end
section

/- Layer 14: what every play of a register keeps: how a turn begins, and what it leaves alone. -/
open Go.RowKit
variable {n k:Nat} {calls:List CallD}
end
section

/- Layer 14: what every play of a register keeps: each turn keeps it. -/
open Go.RowKit
variable {n k:Nat} {calls:List CallD}
theorem PiW.same {t t':Nat} {ws:List Nat} {o:PinO} {hs hs':List (Option PiS×Nat)} (h:PiW n k t ws o hs) (ht:t<=t') (hH:∀ y,piH y hs'=piH y hs):PiW n k t' ws o hs':=by
 obtain⟨c,c1,c2,c3,c4⟩:=h.cell
 exact⟨h.wl,h.cl,h.nl,⟨c,c1,by omega,c3,λq hq=>by rw [hH];exact c4 q hq⟩,h.cm⟩
theorem taGot_in {wd:WD} {a:Nat} (h:a<wd.mem.ws.length):taGot wd a=wd.mem.ws.getD a 0:=by
 have ho:memOut wd.mem (a:Int)=false:=by unfold memOut;simp;omega
 unfold taGot memRead
 rw [if_neg (by rw [ho];simp)];simp
theorem taRead_ws (wd:WD) (a:Nat):(taRead wd a).mem.ws=wd.mem.ws:=by
 unfold taRead memRead
 split<;>rfl
theorem doWrite_ws {wd:WD} {a:Nat} (h:a<wd.mem.ws.length) (v:Nat):(doWrite wd a v).mem.ws=wd.mem.ws.set a v:=by
 have ho:memOut wd.mem (a:Int)=false:=by unfold memOut;simp;omega
 unfold doWrite memWrite
 simp only
 rw [if_neg (by rw [ho];simp)];simp
theorem getD_set_if' (l:List Nat) (p v i:Nat) (h:p<l.length):(l.set p v).getD i 0=if i=p then v else l.getD i 0:=by
 by_cases hi:i=p
 ·subst hi;rw [if_pos rfl];exact getD_set_eq h
 ·rw [if_neg hi];exact getD_set_neq (Ne.symm hi)
end
section

/- Layer 14: what every play of a register keeps: a look; to come; to leave; to read a word. -/
open Go.RowKit
variable {n k:Nat} {calls:List CallD}
end
section

/- Layer 14: what every play of a register keeps: to read a word, to leave. -/
open Go.RowKit
variable {n k:Nat} {calls:List CallD}
end
section

/- Layer 14: what every play of a register keeps: to fill a buffer, to change it. -/
open Go.RowKit
variable {n k:Nat} {calls:List CallD}
end
section

/- Layer 14: the register as the loom's object. -/
open Go.RowKit
end
section

/- Layer 8: tally.Play. -/
open Go.RowKit
end
section

/- Layer 14: pin.Play. -/
open Go.RowKit
theorem make_size4 (size:Nat) (v:Int) (hv:v=(size:Int)) (h64:size<=1000000) (u:World):(Instr.makeSlice 28 (.int .i64 v) (.int .i64 v)).run Try.prog u=.ok (.slice (some ⟨u.heap.size,0,none⟩) size size) (u.alloc (.cells (madeCells #[.int .u64 0] size) 40)):=by
 subst hv
 obtain⟨i0,hi,hz0,hz1,hz2⟩:=info_parts u64_info'
 have h:=run_make (P:=Try.prog) u 28 40 i0 (.int .u64 0) Try.underlying28 hi hz0 .i64 .i64 (size:Int) (size:Int) (by omega) (Int.le_refl _) (by rw [hz2];omega) (by omega)
 simpa [hz1,Value.cells] using h
theorem zeros_sl4 {u:World} {b size:Nat} (h:u.heap[b]?=some (.cells (madeCells #[.int .u64 0] size) 40 (0,0))) (h64:size<=1000000):SlAt u (some ⟨b,0,none⟩) (List.replicate size 0).length 1 (u64G (List.replicate size 0)):=by
 refine⟨by rw [List.length_replicate];unfold maxLen;omega,λj hj=>⟨b,0,rfl,blk_lt h,λf hf=>?_⟩⟩
 obtain rfl:f=0:=by omega
 rw [List.length_replicate] at hj
 rw [cell_blk h,madeCells_one]
 simp [u64G,u64V,List.getD_eq_getElem?_getD,List.getElem?_replicate,hj]
theorem PlayToB.ret {O X X':Nat->Prop} {w0 w w':World} {er:Int} {r:RepD} {e:Ending} (h:PlayToB O X w w' er r e) (hb:Below w0.heap.size w0 w) (hO:∀ b,O b->w0.heap.size<=b) (hX:∀ b,X' b->X b):PlayRet X' w0 w' er r e:=by
 obtain⟨hc,h2⟩:=h
 have hb2:Below w0.heap.size w0 w':=(((Chg.of_below hb).trans (hc.mono (λb _ h=>hO b h)):Chg (λb=>w0.heap.size<=b) w0 w')).below (λb h=>h) (Nat.le_refl _)
 rcases h2 with⟨h0,rfl⟩|⟨h0,ea,ec,va,vc,ers,rfl,hr⟩
 ·exact⟨none,0,0,none,0,0,_,rfl,hb2,.inl ⟨h0,rfl,rfl,rfl,rfl,rfl,rfl,rfl⟩⟩
 ·exact⟨ea,_,ec,va,_,vc,r,by rw [h0],hb2,.inr ⟨h0,rfl,rfl,rfl,ers,hr.low hb.size hX⟩⟩
end
section

/- Layer 14: what every play of a register keeps. -/
open Go.RowKit
variable {n k:Nat} {calls:List CallD}
end
section

/- Layer 6: what every play keeps, whatever the object: no two operations turn at one tick; nobody has marks if nobody makes one. -/
open Go.RowKit
variable {S:Sys} {calls:List CallD}
def TickApart (st:PlayD S):Prop:=∀ i j,i<st.evs.length->j<st.evs.length->i≠j->(evAt st.evs i).resp≠0->(evAt st.evs i).resp≠(evAt st.evs j).inv
theorem Next.tickApart {st:PlayD S} {q k:Nat} {evs':List EvD} {e1:EvD} (hg:StGood calls st) (hT:TickApart st) (h:Next calls st q evs' k e1) (hr:e1.resp=0∨e1.resp=st.wd.now+1) (hi:st.evs.length<=k->e1.inv=st.wd.now+1) (hi2:k<st.evs.length->e1.inv=(evAt st.evs k).inv) :
  ∀ i j,i<evs'.length->j<evs'.length->i≠j->(evAt evs' i).resp≠0->(evAt evs' i).resp≠(evAt evs' j).inv:=by
 intro i j hil hjl hij hri
 by_cases hik:i=k
 ·subst hik
  obtain⟨j1,j2⟩:=h.other j hjl (Ne.symm hij)
  have hti:=hg.ev.tick j j1
  rw [j2]
  rw [h.self] at hri ⊢
  omega
 ·obtain⟨i1,i2⟩:=h.other i hil hik
  have hti:=hg.ev.tick i i1
  rw [i2] at hri ⊢
  by_cases hjk:j=k
  ·subst hjk
   rw [h.self]
   by_cases hjn:j<st.evs.length
   ·rw [hi2 hjn]
    exact hT i j i1 hjn hij hri
   ·have:=hi (by omega);omega
  ·obtain⟨j1,j2⟩:=h.other j hjl hjk
   rw [j2]
   exact hT i j i1 j1 hij hri
theorem ev1_fields (y:S.ω×WD×S.σ×Bool) (q:Nat) (e:EvD):(ev1 S y q e).call=e.call/\(ev1 S y q e).inv=e.inv/\(ev1 S y q e).steps=e.steps+1/\(y.2.2.2=true->(ev1 S y q e).resp=y.2.1.now/\(ev1 S y q e).ans=(S.answer y.2.2.1).1/\(ev1 S y q e).key=keyOf y.2.1 q (S.answer y.2.2.1).2)/\(y.2.2.2=false->(ev1 S y q e).resp=e.resp):=by
 unfold ev1
 cases hb:y.2.2.2 with
 | true=>exact⟨rfl,rfl,rfl,λ_=>⟨rfl,rfl,rfl⟩,λh=>Bool.noConfusion h⟩
 | false=>exact⟨rfl,rfl,rfl,λh=>Bool.noConfusion h,λ_=>rfl⟩
theorem no_marks {wd:WD} (h:wd.marks=List.replicate 16 []) (p:Nat):wd.marks.getD p []=[]:=by
 rw [h,List.getD_eq_getElem?_getD,List.getElem?_replicate]
 split<;>rfl
theorem keyOf_none {wd:WD} (h:wd.marks=List.replicate 16 []) (p:Nat) (k:List Int):keyOf wd p k=if k=[] then tickKey wd else k:=by
 unfold keyOf
 rw [no_marks h p,if_pos rfl]
theorem From.invs {st:PlayD S} {q i k:Nat} {s:S.σ} {evs0:List EvD} {wd0:WD} (h:From calls st q i k s evs0 wd0):(st.evs.length<=k->(evAt evs0 k).inv=st.wd.now+1)/\(k<st.evs.length->(evAt evs0 k).inv=(evAt st.evs k).inv):=by
 cases h with
 | old k s hh hk hc hr=>exact⟨λh=>by omega,λ_=>rfl⟩
 | new s hh hs=>exact⟨λ_=>by rw [evAt_last];rfl,λh=>absurd h (Nat.lt_irrefl _)⟩
theorem From.mark0 {st:PlayD S} {q i k:Nat} {s:S.σ} {evs0:List EvD} {wd0:WD} (h:From calls st q i k s evs0 wd0) (hm:st.wd.marks=List.replicate 16 []):wd0.marks=List.replicate 16 []:=by
 cases h with
 | old k s hh hk hc hr=>exact hm
 | new s hh hs=>exact begin_marks hm
theorem turn_apart (hnow:∀ o wd p s,(S.step o wd p s).2.1.now=wd.now) {st st':PlayD S} (hg:StGood calls st) (hT:TickApart st) (ht:Turn calls st st'):TickApart st':=by
 cases ht with
 | idle=>exact hT
 | refuse q i er hq hN hh hs=>
  exact(refuse_next hg hN (finishEv (st.wd.tick.begin q) q ⟨er,0,[]⟩ [] (newEv i (st.wd.tick.begin q))) rfl).tickApart hg hT (.inr rfl) (λ_=>rfl) (λh=>absurd h (Nat.lt_irrefl _))
 | step q i k s evs0 wd0 hq hN hf=>
  obtain⟨f1,f2,f3,f4,f5⟩:=ev1_fields (S.step st.obj wd0 q s) q (evAt evs0 k)
  have hn:=hnow st.obj wd0 q s
  have hn0:=hf.now
  refine(hf.next hg hN (ev1 S (S.step st.obj wd0 q s) q (evAt evs0 k)) f1).tickApart hg hT ?_ (λh=>f2.trans (hf.invs.1 h)) (λh=>f2.trans (hf.invs.2 h))
  cases hb:(S.step st.obj wd0 q s).2.2.2 with
  | true=>right;rw [(f4 hb).1];omega
  | false=>left;rw [f5 hb];exact hf.open_
end
section

/- Layer 14: what every play of a register keeps: what was written last ahead of a tick. -/
open Go.RowKit
variable {n k:Nat} {calls:List CallD}
def piW (calls:List CallD) (e:EvD):Prop:=objOf calls e=0/\kindOf calls e=0/\e.ans.err=0/\e.resp≠0
def PiAtT (k:Nat) (calls:List CallD) (evs:List EvD) (T:Nat) (f:Nat->Nat):Prop:=
 ((∀ j,j<evs.length->piW calls (evAt evs j)->T<=(evAt evs j).resp)/\∀ a,a<k->f a=0)∨
 ∃ j,j<evs.length/\piW calls (evAt evs j)/\(evAt evs j).resp<T/\(∀ i,i<evs.length->piW calls (evAt evs i)->(evAt evs i).resp<T->(evAt evs i).resp<=(evAt evs j).resp)/\∀ a,a<k->f a=((calls.getD (evAt evs j).call d0).a+a) % 18446744073709551616
theorem PiAtT.congr {evs:List EvD} {T:Nat} {f g:Nat->Nat} (h:PiAtT k calls evs T f) (e:∀ a,a<k->g a=f a):PiAtT k calls evs T g:=by
 rcases h with⟨h1,h2⟩|⟨j,h1,h2,h3,h4,h5⟩
 ·exact .inl ⟨h1,λa ha=>(e a ha).trans (h2 a ha)⟩
 ·exact .inr ⟨j,h1,h2,h3,h4,λa ha=>(e a ha).trans (h5 a ha)⟩
section
variable {st:PlayD (pinS n k)} {q j:Nat} {evs':List EvD} {e1:EvD}
theorem PiAtT.move {T T':Nat} {f:Nat->Nat} (h:PiAtT k calls st.evs T f) (hx:Next calls st q evs' j e1) (h1:∀ i,i<st.evs.length->piW calls (evAt st.evs i)->((evAt st.evs i).resp<T↔(evAt st.evs i).resp<T')) (hw:piW calls e1->T'<=e1.resp):PiAtT k calls evs' T' f:=by
 have old:∀ i,i<evs'.length->piW calls (evAt evs' i)->(evAt evs' i).resp<T'->i<st.evs.length/\evAt evs' i=evAt st.evs i:=λi hi hp hlt=>by
  by_cases hij:i=j
  ·subst hij
   rw [hx.self] at hp hlt
   have:=hw hp;omega
  ·exact hx.other i hi hij
 rcases h with⟨a1,a2⟩|⟨i,b1,b2,b3,b4,b5⟩
 ·refine .inl ⟨λi hi hp=>Nat.le_of_not_lt λhlt=>?_,a2⟩
  obtain⟨i1,i2⟩:=old i hi hp hlt
  rw [i2] at hp hlt
  have:=a1 i i1 hp
  have:=(h1 i i1 hp).2 hlt
  omega
 ·have hij:i≠j:=λe=>b2.2.2.2 (hx.old (by omega) ▸ (by rw [e]))
  have e:evAt evs' i=evAt st.evs i:=(hx.other i (Nat.lt_of_lt_of_le b1 hx.size) hij).2
  refine .inr ⟨i,Nat.lt_of_lt_of_le b1 hx.size,by rw [e];exact b2,by rw [e];exact(h1 i b1 b2).1 b3,λi' hi' hp hlt=>?_,λa ha=>by rw [e];exact b5 a ha⟩
  obtain⟨i1,i2⟩:=old i' hi' hp hlt
  rw [i2] at hp hlt ⊢
  rw [e]
  exact b4 i' i1 hp ((h1 i' i1 hp).2 hlt)
theorem PiAtT.keep {T:Nat} {f:Nat->Nat} (h:PiAtT k calls st.evs T f) (hx:Next calls st q evs' j e1) (hr:e1.resp=0∨e1.resp=st.wd.now+1) (hT:T<=st.wd.now+1):PiAtT k calls evs' T f:=
 h.move hx (λ_ _ _=>Iff.rfl) (λhp=>by rcases hr with h0|h0;exact absurd h0 hp.2.2.2;omega)
theorem PiAtT.up {f:Nat->Nat} (hg:StGood calls st) (h:PiAtT k calls st.evs (st.wd.now+1) f) (hx:Next calls st q evs' j e1) (hw:¬ piW calls e1):PiAtT k calls evs' (st.wd.now+2) f:=
 h.move hx (λi hi _=>by have:=(hg.ev.tick i hi).2.2.2;omega) (λhp=>absurd hp hw)
theorem PiAtT.new {f:Nat->Nat} (hg:StGood calls st) (hx:Next calls st q evs' j e1) (hw:piW calls e1) (hr:e1.resp=st.wd.now+1) (hf:∀ a,a<k->f a=((calls.getD e1.call d0).a+a) % 18446744073709551616):PiAtT k calls evs' (st.wd.now+2) f:=by
 refine .inr ⟨j,hx.lt,by rw [hx.self];exact hw,by rw [hx.self];omega,λi hi hp hlt=>?_,λa ha=>by rw [hx.self];exact hf a ha⟩
 rw [hx.self,hr];omega
end
structure PiTold (k:Nat) (calls:List CallD) (evs:List EvD) (e:EvD):Prop where
 rd:objOf calls e=0->kindOf calls e=1->PiAtT k calls evs e.inv (λa=>e.ans.list.getD a 0)/\e.ans.err=0/\e.ans.val=0/\e.key=[2*(e.inv:Int)]
 el:¬ (objOf calls e=0/\kindOf calls e=1)->e.key=[2*(e.resp:Int)]/\e.ans=(if objOf calls e≠0 then ⟨12,0,[]⟩ else if kindOf calls e≠0 then ⟨9,0,[]⟩ else if tn calls e≠0 then ⟨11,0,[]⟩ else ⟨0,0,[]⟩)
structure PiHist (n k:Nat) (calls:List CallD) (st:PlayD (pinS n k)):Prop where
 marks:st.wd.marks=List.replicate 16 []
 cf:st.wd.mem.c.fault=0
 ca:st.wd.mem.c.all<=st.wd.now
 cell:PiAtT k calls st.evs (st.wd.now+1) (λa=>st.wd.mem.ws.getD (piWord n k st.obj.now a) 0)
 hand:∀ p q j l key i,st.hands.getD p (none,0)=(some (.rd q j l key),i)->1<=j->PiAtT k calls st.evs (evAt st.evs i).inv (λa=>st.wd.mem.ws.getD (piWord n k q a) 0)/\key=[2*((evAt st.evs i).inv:Int)]
 told:∀ j,j<st.evs.length->(evAt st.evs j).resp≠0->PiTold k calls st.evs (evAt st.evs j)
theorem PiTold.keep {st:PlayD (pinS n k)} {q j:Nat} {evs':List EvD} {e1 e:EvD} (h:PiTold k calls st.evs e) (hx:Next calls st q evs' j e1) (hr:e1.resp=0∨e1.resp=st.wd.now+1) (hT:e.inv<=st.wd.now+1):PiTold k calls evs' e:=
 ⟨λh0 h1=>⟨(h.rd h0 h1).1.keep hx hr hT,(h.rd h0 h1).2⟩,h.el⟩
end
end Go.Proofs.Ytlepjmnhekeofaa
