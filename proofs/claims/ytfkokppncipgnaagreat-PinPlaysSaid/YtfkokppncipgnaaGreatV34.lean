/- What holds of a hand of the reference's play as its step begins. -/
import Derived.Test.YtfkokppncipgnaaGreatV33
import Derived.Test.YtfkokppncipgnaaGreatV15
import Derived.Test.YtfkokppncipgnaaGreatV12
import Derived.Test.YtfkokppncipgnaaGreatV20
import Derived.Laws.CopyOwn
import Derived.Test.YtfkokppncipgnaaGreatV30
import Derived.Test.YtfkokppncipgnaaGreatV24
set_option maxRecDepth 100000
set_option linter.unusedVariables false
set_option linter.unusedSimpArgs false
set_option linter.unnecessarySimpa false
namespace Go.Proofs.YtfkokppncipgnaaGreat
section
open Go.RowKit
variable {S:Sys} {M:RefSim S} {n:Nat} {calls:List CallD}
structure HandPre (M:RefSim S) (n:Nat) (calls:List CallD) (s:RefS) (st:PlayD S) (q i:Nat) (h:RHand) (r:RWD):Prop where
 inv:h.inv<=65537
 now:r.now<=65537
 ticks:∀ x,x∈h.ticks->0<=x/\x<=65537
 mlen:r.marks.length=n
 mem:r.mem=s.rw.mem
 traces:r.traces=s.rw.traces
 own:h.own=(s.hands.getD q rh0).own
 how:(h.got=[]/\h.ticks=[]/\(s.hands.getD q rh0).opn=false)∨∃ σ,st.hands.getD q (none,0)=(some σ,h.ev)/\M.Rel st.obj s.rw q (calls.getD i d0) h σ/\h=s.hands.getD q rh0
theorem hand_pre {sz:Nat} {s:RefS} {st:PlayD S} {q i:Nat} (hP:PSim M n calls s st) (hg:StGood calls st) (hR:RGood n sz calls s) (hT:RTick n s) (hnow:s.rw.now<=65536) (hq:q<n) (hN:nowN calls s.fin (q:Int)=some i) (s1:RefS) (hs1:s1=ropen { s with rw:=s.rw.tick } q i) :
  HandPre M n calls s st q i (s1.hands.getD q rh0) s1.rw:=by
 obtain⟨n1,_,_⟩:=nowN_spec hN
 obtain⟨t1,t2⟩:=hT.open_ hR.hl q i hq
 rw [<-hs1] at t1 t2
 have hql:q<s.hands.length:=by rw [hR.hl];exact hq
 by_cases ho:(s.hands.getD q rh0).opn=true
 ·have e:s1={ s with rw:=s.rw.tick }:=by rw [hs1];unfold ropen;rw [if_pos ho]
  have ho1:(s1.hands.getD q rh0).opn=true:=by rw [e];exact ho
  obtain⟨a,b⟩:=t1 q hq ho1
  have H:=hP.hand q hq
  rw [H.opn] at ho
  cases hs:(st.hands.getD q (none,0)).1 with
  | none=>rw [hs] at ho;cases ho
  | some σ=>
   have hc:=psim_call hP hg q hq (by rw [H.opn,hs];rfl)
   rw [hN] at hc
   cases hc
   have hev:=H.ev (by rw [H.opn,hs];rfl)
   refine⟨by omega,by omega,λx hx=>⟨(b x hx).1,by have:=(b x hx).2;omega⟩,by rw [e];exact hP.rw.mlen,by rw [e];rfl,by rw [e];rfl,by rw [e],.inr ⟨σ,?_,?_,by rw [e]⟩⟩
   ·rw [e];exact Prod.ext hs hev.symm
   ·rw [e]
    have h9:=(H.rel σ hs).1
    rw [<-hev,<-hP.evs] at h9
    exact h9
 ·have e:s1=rbegin { s with rw:=s.rw.tick } q i:=by rw [hs1];unfold ropen;rw [if_neg ho]
  have hb:s1.hands.getD q rh0=⟨true,s.evs.length,s.rw.now+1,[],[],(s.hands.getD q rh0).own⟩:=by rw [e];exact getD_set_eq hql
  rw [hb]
  refine⟨by show s.rw.now+1<=_;omega,by omega,(λx hx=>by cases hx),?_,by rw [e];rfl,by rw [e];rfl,rfl,.inl ⟨rfl,rfl,by simpa using ho⟩⟩
  rw [e]
  show(s.rw.marks.set q []).length=n
  rw [List.length_set];exact hP.rw.mlen
end
section

/- A cons in the reference's play: plain numbers. -/
open Go.RowKit
theorem accP_fresh {t:TapeP} (hh:t.halt=false) (ha:¬ t.at_<t.got.length) (hf:t.fresh=true) (kd a:Int) (x y:Nat) (r:RWD):accP kd a x y t r=((memAcc r.mem kd a x y).2,{ t with got:=t.got++[(memAcc r.mem kd a x y).2],ticks:=t.ticks++[(r.now:Int)],at_:=t.at_+1,fresh:=false },{ r with mem:=(memAcc r.mem kd a x y).1 }):=by
 unfold accP
 rw [if_neg (by rw [hh];exact Bool.false_ne_true),if_neg ha,if_pos hf]
theorem accP_old {t:TapeP} (hh:t.halt=false) (ha:t.at_<t.got.length) (kd a:Int) (x y:Nat) (r:RWD):accP kd a x y t r=(t.got.getD t.at_ 0,{ t with at_:=t.at_+1 },r):=by
 unfold accP
 rw [if_neg (by rw [hh];exact Bool.false_ne_true),if_pos ha]
theorem accP_end {t:TapeP} (hh:t.halt=false) (ha:¬ t.at_<t.got.length) (hf:t.fresh=false) (kd a:Int) (x y:Nat) (r:RWD):accP kd a x y t r=(0,{ t with halt:=true },r):=by
 unfold accP
 rw [if_neg (by rw [hh];exact Bool.false_ne_true),if_neg ha,if_neg (by rw [hf];exact Bool.false_ne_true)]
theorem accP_halt {t:TapeP} (hh:t.halt=true) (kd a:Int) (x y:Nat) (r:RWD):accP kd a x y t r=(0,t,r):=by
 unfold accP
 rw [if_pos hh]
theorem markP_now (p k:Int) (t:TapeP) (r:RWD) (l:List Int):(markP p l t r).now=r.now/\(markP p l t r).mem=r.mem/\(markP p l t r).traces=r.traces/\(markP p l t r).marks.length=r.marks.length:=by
 unfold markP
 split
 ·exact⟨rfl,rfl,rfl,by simp⟩
 ·exact⟨rfl,rfl,rfl,rfl⟩
theorem Runs.mark {t t':TapeP} {r r':RWD} (h:Runs t r t' r') (p:Int) (l:List Int) (u:TapeP):Runs t r t' (markP p l u r'):=by
 obtain⟨h1,h2,h3,h4⟩:=markP_now p 0 u r' l
 exact⟨by rw [h2];exact h.ws,h1.trans h.now,by rw [h2];exact h.all,h.got,h.thread,h.inv⟩
end
section

/- Layer 8: the tally as the loom's object: the walks of its machines. -/
open Go.RowKit
inductive TaS where
 | count (seen:Bool) (v:Nat)
 | read (at_ sum:Nat) (key:List Int)
def taWhen (ticks:List Int) (inv s:Nat):Int:=if 0<s/\s<=ticks.length then max (inv:Int) (ticks.getD (s - 1) 0) else (inv:Int)
def taRead (wd:WD) (a:Nat):WD:={ wd with mem:=(memRead wd.mem (a:Int)).1 }
def taWrite (wd:WD) (p v:Nat):WD:={ wd with mem:=memWrite wd.mem (p:Int) (v+1),traces:=updT wd.traces 0 (wd.traces 0++[(wd.now:Int)]) }
def taGot (wd:WD) (a:Nat):Nat:=(memRead wd.mem (a:Int)).2
def taKey (wd:WD) (p s:Nat):List Int:=[2*taWhen (wd.traces 0) (wd.inv.getD p 0) s,2*(wd.now:Int)]
def tallyS (n:Nat):Sys where
 σ:=TaS
 ω:=Unit
 start:=λ_ _ _ c=>if c.kind=0 then .run (.count false 0) else if c.kind=1 then .run (.read 0 0 []) else .refuse 9
 step:=λ_ wd p s=>match s with
  | .count false _=>((),taRead wd p,.count true (taGot wd p),false)
  | .count true v=>((),taWrite wd p v,.count true v,true)
  | .read a s k=>if a+1<n then ((),taRead wd a,.read (a+1) (s+taGot wd a) k,false) else ((),taRead wd a,.read (a+1) (s+taGot wd a) (taKey wd p (s+taGot wd a)),true)
 answer:=λs=>match s with
  | .count _ _=>(⟨0,0,[]⟩,[])
  | .read _ s k=>(⟨0,s,[]⟩,k)
 late:=λ_ _ _ _=>none
def OwnTo (w w':World) (Mut B:Nat->Prop) (I:WIds) (N:Nat) (wd:WD) (b:Nat) (cells:Array Value) (T:TypeId) (done:Bool) (e:Ending):Prop:=
 e=.returned (.bool done)/\Chg (λk=>WSet I k∨B k) w w'/\WorldAt w' (mutTo Mut B (λk=>k=b)) I N wd/\w'.heap[b]?=some (.cells cells T (0,0))
theorem own_fin {w w1 w2:World} {Mut B:Nat->Prop} {I:WIds} {N:Nat} {wd:WD} {b:Nat} {cells:Array Value} {T:TypeId} {done:Bool} (hw1:WorldAt w1 Mut I N wd) (hch1:Chg (WSet I) w w1) (hb:B b) (hB:∀ b,B b->Mut b/\¬ WSet I b)
  (hc:Chg (λk=>k=b) w1 w2) (hbk:w2.heap[b]?=some (.cells cells T (0,0))):OwnTo w w2 Mut B I N wd b cells T done (.returned (.bool done)):=
 ⟨rfl,(hch1.mono (λk _ h=>.inl h)).trans (hc.mono (λk _ h=>by cases h;exact .inr hb)),world_own hw1 hc hb hB,hbk⟩
theorem OwnTo.drewN {w w':World} {Mut B:Nat->Prop} {I:WIds} {N:Nat} {wd:WD} {b:Nat} {cells:Array Value} {T:TypeId} {done:Bool} {e:Ending} (h:OwnTo w w' Mut B I N wd b cells T done e) (n:Nat):OwnTo w (w'.drewN n) Mut B I N wd b cells T done e:=
 ⟨h.1,h.2.1.drewN n,h.2.2.1.keep (S:=noB) ((Chg.refl _ _).drewN n) (λ_ h=>h.elim) (λ_ h=>h.elim) (MutUp.refl _ _) (λk hk=>h.2.2.1.low k hk) h.2.2.1.muts,h.2.2.2⟩
theorem memRead_val {w:World} {bm:Nat} {bw:Option Nat} {m:MemD} (h:MemAt w bm bw m) (a:Int):(memRead m a).2<18446744073709551616:=by
 unfold memRead
 split
 ·simp only;omega
 ·simp only
  rw [List.getD_eq_getElem?_getD]
  cases h9:m.ws[a.toNat]? with
  | none=>simp
  | some z=>exact h.val z (List.mem_of_getElem? h9)
end
section

/- Layer 8: the tally's machines: counting. -/
open Go.RowKit
end
section

/- Layer 8: the tally's machines: reading. -/
open Go.RowKit
end
section

/- Layer 8: the tally as the loom's object. -/
open Go.RowKit
end
section

/- Layer 8: what every play of a tally keeps, in plain numbers. -/
open Go.RowKit
def objOf (calls:List CallD) (e:EvD):Int:=(calls.getD e.call d0).obj
def kindOf (calls:List CallD) (e:EvD):Int:=(calls.getD e.call d0).kind
def isK (calls:List CallD) (kd:Int) (e:EvD):Bool:=decide (objOf calls e=0) && decide (kindOf calls e=kd) && decide (e.resp≠0)
def tP1 (calls:List CallD) (t:Nat) (e:EvD):Bool:=isK calls 0 e && decide (tn calls e=t)
def tP2 (calls:List CallD) (a:Nat) (e:EvD):Bool:=isK calls 0 e && decide (tn calls e<a)
def tP3 (calls:List CallD) (a iv:Nat) (e:EvD):Bool:=isK calls 0 e && decide (tn calls e<a) && decide (e.resp<iv)
def tP4 (calls:List CallD) (t:Nat) (e:EvD):Bool:=isK calls 0 e && decide (e.resp<=t)
theorem isK_open {calls:List CallD} {kd:Int} {e:EvD} (h:e.resp=0):isK calls kd e=false:=by unfold isK;simp [h]
theorem tP4_open {calls:List CallD} {t:Nat} (e:EvD) (h:e.resp=0):tP4 calls t e=false:=by unfold tP4;rw [isK_open h];rfl
def taHand (n:Nat) (calls:List CallD) (st:PlayD (tallyS n)) (p:Nat) (e:EvD):TaS->Prop
 | .count seen v=>seen=true/\v=cnt (tP1 calls p) st.evs/\e.steps=1/\kindOf calls e=0
 | .read a s _=>a<n/\cnt (tP3 calls a e.inv) st.evs<=s/\s<=cnt (tP2 calls a) st.evs/\e.steps=a/\kindOf calls e=1/\(∀ i,i<st.evs.length->isK calls 0 (evAt st.evs i)=true->(evAt st.evs i).resp≠e.inv)
def taDone (n:Nat) (calls:List CallD) (evs:List EvD) (e:EvD):Prop:=
 if objOf calls e≠0 then e.ans=⟨12,0,[]⟩/\e.key=[2*(e.resp:Int)]/\e.steps=1
 else if kindOf calls e=0 then e.ans=⟨0,0,[]⟩/\e.key=[2*(e.resp:Int)]/\e.steps=2/\e.inv<e.resp
 else if kindOf calls e=1 then ∃ wn v:Nat,e.ans=⟨0,v,[]⟩/\e.key=[2*(wn:Int),2*(e.resp:Int)]/\e.inv<=wn/\wn<=e.resp/\cnt (tP4 calls wn) evs=v/\cnt (tP3 calls n e.inv) evs<=v/\v<=cnt (tP4 calls e.resp) evs/\e.steps=n
 else e.ans=⟨9,0,[]⟩/\e.key=[2*(e.resp:Int)]/\e.steps=1
structure TaInv (n:Nat) (calls:List CallD) (st:PlayD (tallyS n)):Prop where
 wlen:st.wd.mem.ws.length=n
 words:∀ t,t<n->st.wd.mem.ws.getD t 0=cnt (tP1 calls t) st.evs
 tr:∀ t:Nat,((st.wd.traces 0).filter λx=>decide (x<=(t:Int))).length=cnt (tP4 calls t) st.evs
 tinc:(st.wd.traces 0).Pairwise (·<·)
 tpos:∀ x∈st.wd.traces 0,1<=x/\x<=(st.wd.now:Int)
 hand:∀ p s k,st.hands.getD p (none,0)=(some s,k)->objOf calls (evAt st.evs k)=0/\taHand n calls st p (evAt st.evs k) s/\st.wd.inv.getD p 0=(evAt st.evs k).inv
 done:∀ i,i<st.evs.length->(evAt st.evs i).resp≠0->taDone n calls st.evs (evAt st.evs i)
 marks:st.wd.marks=List.replicate 16 []
 ilen:st.wd.inv.length=16
 fault:st.wd.mem.c.fault=0
 all:st.wd.mem.c.all<=st.wd.now
theorem From.tn {S:Sys} {calls:List CallD} {st:PlayD S} {q i k:Nat} {s:S.σ} {evs0:List EvD} {wd0:WD} (h:From calls st q i k s evs0 wd0) (hN:nowN calls st.fin (q:Int)=some i):tn calls (evAt evs0 k)=q:=by
 unfold Go.Proofs.YtfkokppncipgnaaGreat.tn
 rw [h.call,(nowN_spec hN).2.1];simp
theorem From.apart {S:Sys} {calls:List CallD} {st:PlayD S} {q i k:Nat} {s:S.σ} {evs0:List EvD} {wd0:WD} (h:From calls st q i k s evs0 wd0) (hg:StGood calls st) (hN:nowN calls st.fin (q:Int)=some i) {p k2:Nat} {s2:S.σ} (hp:p≠q) (hh:st.hands.getD p (none,0)=(some s2,k2)):k2≠k/\k2<st.evs.length:=by
 obtain⟨a1,a2,a3,a4⟩:=hg.ev.hand p k2 (by unfold hndOf;rw [hh];rfl)
 refine⟨?_,a1⟩
 rintro rfl
 apply hp
 rw [<-a2,<-h.tn hN,h.obj.2 k2 a1]
theorem From.or {S:Sys} {calls:List CallD} {st:PlayD S} {q i k:Nat} {s:S.σ} {evs0:List EvD} {wd0:WD} (h:From calls st q i k s evs0 wd0) :
  (st.hands.getD q (none,0)=(some s,k)/\k<st.evs.length/\(evAt st.evs k).call=i/\(evAt st.evs k).resp=0/\evs0=st.evs/\wd0=st.wd.tick)∨
  ((st.hands.getD q (none,0)).1=none/\startD S st.obj (st.wd.tick.begin q) q (calls.getD i d0)=.run s/\k=st.evs.length/\evs0=st.evs++[newEv i (st.wd.tick.begin q)]/\wd0=st.wd.tick.begin q):=by
 cases h with
 | old k s hh hk hc hr=>exact .inl ⟨hh,hk,hc,hr,rfl,rfl⟩
 | new s hh hs=>exact .inr ⟨hh,hs,rfl,rfl,rfl⟩
theorem From.inv {S:Sys} {calls:List CallD} {st:PlayD S} {q i k:Nat} {s:S.σ} {evs0:List EvD} {wd0:WD} (h:From calls st q i k s evs0 wd0) {p:Nat} (hp:p≠q):wd0.inv.getD p 0=st.wd.inv.getD p 0:=by
 cases h with
 | old k s hh hk hc hr=>rfl
 | new s hh hs=>exact getD_set_neq (Ne.symm hp)
theorem begin_marks {wd:WD} {q:Nat} (h:wd.marks=List.replicate 16 []):(wd.tick.begin q).marks=List.replicate 16 []:=by
 show wd.marks.set q []=_
 rw [h]
 apply List.ext_getElem?
 intro j
 rw [List.getElem?_set]
 split
 ·rename_i e
  subst e
  rw [List.length_replicate,List.getElem?_replicate]
 ·rfl
theorem From.marks {S:Sys} {calls:List CallD} {st:PlayD S} {q i k:Nat} {s:S.σ} {evs0:List EvD} {wd0:WD} (h:From calls st q i k s evs0 wd0) (hm:st.wd.marks=List.replicate 16 []):wd0.marks=List.replicate 16 []:=by
 cases h with
 | old k s hh hk hc hr=>exact hm
 | new s hh hs=>exact begin_marks hm
theorem From.ilen {S:Sys} {calls:List CallD} {st:PlayD S} {q i k:Nat} {s:S.σ} {evs0:List EvD} {wd0:WD} (h:From calls st q i k s evs0 wd0) (hm:st.wd.inv.length=16):wd0.inv.length=16:=by
 cases h with
 | old k s hh hk hc hr=>exact hm
 | new s hh hs=>show(st.wd.inv.set q _).length=16;rw [List.length_set];exact hm
theorem n_ok {n:Int} {calls:List CallD} {np:Nat} (hck:checkN n calls np=0):1<=n/\n<=16:=by
 obtain⟨hw0,_⟩:=checkN_zero hck
 obtain⟨z1,z2,z3,z4⟩:=wrongN_zero hw0
 omega
theorem np_ok {n:Int} {calls:List CallD} {np:Nat} (hck:checkN n calls np=0):np<=65536:=by
 obtain⟨_,h⟩:=checkN_zero hck
 omega
end
section

/- Layer 6: the events behind a turn, beside those ahead of it. -/
open Go.RowKit
variable {S:Sys}
structure Next (calls:List CallD) (st:PlayD S) (q:Nat) (evs':List EvD) (k:Nat) (e1:EvD):Prop where
 lt:k<evs'.length
 self:evAt evs' k=e1
 other:∀ j,j<evs'.length->j≠k->j<st.evs.length/\evAt evs' j=evAt st.evs j
 size:st.evs.length<=evs'.length
 old:k<st.evs.length->(evAt st.evs k).resp=0
 cnt:∀ {P:EvD->Bool},(∀ e,e.resp=0->P e=false)->cnt P evs'=cnt P st.evs+(if P e1 then 1 else 0)
 apart:∀ p s2 k2,p≠q->st.hands.getD p (none,0)=(some s2,k2)->k2≠k/\k2<st.evs.length
 thr:tn calls e1=q
theorem From.next {calls:List CallD} {st:PlayD S} {q i k:Nat} {s:S.σ} {evs0:List EvD} {wd0:WD} (hg:StGood calls st) (hf:From calls st q i k s evs0 wd0) (hN:nowN calls st.fin (q:Int)=some i) (e1:EvD) (he:e1.call=(evAt evs0 k).call):Next calls st q (evs0.set k e1) k e1 where
 lt:=by rw [List.length_set];exact hf.len
 self:=hf.self e1
 other:=λj hj hjk=>hf.other e1 hj hjk
 size:=hf.size e1
 old:=λhk=>by have h1:=hf.obj.2 k hk;rw [<-h1];exact hf.open_
 cnt:=λhP=>hf.cnt hP e1
 apart:=λp s2 k2 hp hh=>hf.apart hg hN hp hh
 thr:=by have h1:=hf.tn hN;unfold Go.Proofs.YtfkokppncipgnaaGreat.tn at h1 ⊢;rw [he];exact h1
theorem refuse_next {calls:List CallD} {st:PlayD S} {q i:Nat} (hg:StGood calls st) (hN:nowN calls st.fin (q:Int)=some i) (e1:EvD) (he:e1.call=i):Next calls st q (st.evs++[e1]) st.evs.length e1 where
 lt:=by simp
 self:=evAt_last
 other:=λj hj hjk=>by
  have h1:j<st.evs.length:=by simp at hj;omega
  exact⟨h1,evAt_old h1⟩
 size:=by simp
 old:=λhk=>absurd hk (Nat.lt_irrefl _)
 cnt:=λhP=>by rw [cnt_append,cnt_cons,cnt_nil];omega
 apart:=λp s2 k2 hp hh=>by
  obtain⟨a1,a2,a3,a4⟩:=hg.ev.hand p k2 (by unfold hndOf;rw [hh];rfl)
  exact⟨by omega,a1⟩
 thr:=by unfold tn;rw [he,(nowN_spec hN).2.1];simp
theorem Next.more {calls:List CallD} {st:PlayD S} {q k:Nat} {evs':List EvD} {e1:EvD} (h:Next calls st q evs' k e1) (h1:isK calls 0 e1=true) (h2:e1.resp=st.wd.now+1):Go.Proofs.YtfkokppncipgnaaGreat.cnt (tP4 calls st.wd.now) st.evs+1<=Go.Proofs.YtfkokppncipgnaaGreat.cnt (tP4 calls (st.wd.now+1)) evs':=by
 rw [h.cnt tP4_open]
 have h3:tP4 calls (st.wd.now+1) e1=true:=by unfold tP4;rw [h1,h2];simp
 rw [h3,if_pos rfl]
 have:Go.Proofs.YtfkokppncipgnaaGreat.cnt (tP4 calls st.wd.now) st.evs<=Go.Proofs.YtfkokppncipgnaaGreat.cnt (tP4 calls (st.wd.now+1)) st.evs:=cnt_mono λj _ hp=>by
  unfold tP4 at hp ⊢
  simp only [Bool.and_eq_true,decide_eq_true_eq] at hp ⊢
  exact⟨hp.1,by omega⟩
 omega
end
section

/- Layer 12: the door: what every play of one keeps, in plain numbers. -/
open Go.RowKit
inductive DoS where
 | take (at_ ph:Nat)
 | once (c:CallD) (r:Int×Nat)
def doWrite (wd:WD) (p v:Nat):WD:={ wd with mem:=memWrite wd.mem (p:Int) v }
def doorAct (c:CallD) (wd:WD):WD×(Int×Nat):=(taRead wd c.a,(0,taGot wd c.a))
def doorS (n:Nat):Sys where
 σ:=DoS
 ω:=Unit
 start:=λ_ _ _ c=>if c.kind=0 then .run (.take 0 0) else if c.kind≠1 then .refuse 9 else if c.a<n then .run (.once c (0,0)) else .refuse 10
 step:=λ_ wd p s=>match s with
  | .take a v=>if a<n then ((),taRead wd a,.take (a+1) (max v (taGot wd a)),false) else ((),doWrite wd p (v+1),.take a (v+1),true)
  | .once c _=>((),(doorAct c wd).1,.once c (doorAct c wd).2,true)
 answer:=λs=>match s with
  | .take _ v=>(⟨0,v,[]⟩,[])
  | .once _ r=>(⟨r.1,r.2,[]⟩,[])
 late:=λ_ _ _ _=>none
def doSeen (calls:List CallD) (evs:List EvD) (a iv v:Nat):Prop:=∀ i,i<evs.length->isK calls 0 (evAt evs i)=true->(evAt evs i).resp<iv->tn calls (evAt evs i)<a->(evAt evs i).ans.val<=v
def doHand (n:Nat) (calls:List CallD) (st:PlayD (doorS n)) (p:Nat) (e:EvD):DoS->Prop
 | .take a v=>a<=n/\v<=cnt (tP4 calls st.wd.now) st.evs/\(p<a->st.wd.mem.ws.getD p 0<=v)/\doSeen calls st.evs a e.inv v/\e.steps=a/\kindOf calls e=0/\1<=a
 | .once _ _=>False
def doDone (n:Nat) (calls:List CallD) (evs:List EvD) (e:EvD):Prop:=
 e.steps<=n+1/\(objOf calls e=0->kindOf calls e=0->e.inv<e.resp/\1<=e.ans.val/\e.ans.val<=cnt (tP4 calls e.resp) evs/\
  ∀ j,j<evs.length->isK calls 0 (evAt evs j)=true->(evAt evs j).resp<e.inv->(evAt evs j).ans.val<e.ans.val)
structure DoInv (n:Nat) (calls:List CallD) (st:PlayD (doorS n)):Prop where
 wlen:st.wd.mem.ws.length=n
 top:∀ t,t<n->st.wd.mem.ws.getD t 0<=cnt (tP4 calls st.wd.now) st.evs
 low:∀ i,i<st.evs.length->isK calls 0 (evAt st.evs i)=true->(evAt st.evs i).ans.val<=st.wd.mem.ws.getD (tn calls (evAt st.evs i)) 0
 hand:∀ p s k,st.hands.getD p (none,0)=(some s,k)->objOf calls (evAt st.evs k)=0/\doHand n calls st p (evAt st.evs k) s
 done:∀ i,i<st.evs.length->(evAt st.evs i).resp≠0->doDone n calls st.evs (evAt st.evs i)
end
section

/- A door in the reference's play: plain numbers. -/
open Go.RowKit
def Bnd (t:TapeP) (r:RWD):Prop:=(∀ x,x∈t.got->x<=1000000)/\∀ x,x∈r.mem.ws->x<=1000000
theorem memRead_ws (m:MemD) (a:Int):(memRead m a).1.ws=m.ws:=by unfold memRead MemD.fault;split<;>rfl
theorem Bnd.read {t:TapeP} {r:RWD} (h:Bnd t r) (a:Int):(accP 0 a 0 0 t r).1<=1000000/\Bnd (accP 0 a 0 0 t r).2.1 (accP 0 a 0 0 t r).2.2:=by
 have hm:(memRead r.mem a).2<=1000000:=by
  unfold memRead
  split
  ·exact Nat.zero_le _
  ·show r.mem.ws.getD _ 0<=_
   rw [List.getD_eq_getElem?_getD]
   cases hx:r.mem.ws[a.toNat]? with
   | none=>exact Nat.zero_le _
   | some x=>exact h.2 x (List.mem_of_getElem? hx)
 cases hh:t.halt with
 | true=>rw [accP_halt hh];exact⟨Nat.zero_le _,h⟩
 | false=>
  by_cases ha:t.at_<t.got.length
  ·rw [accP_old hh ha]
   refine⟨?_,h⟩
   show t.got.getD t.at_ 0<=_
   rw [List.getD_eq_getElem?_getD,List.getElem?_eq_getElem ha]
   exact h.1 _ (List.getElem_mem ha)
  ·cases hf:t.fresh with
   | false=>rw [accP_end hh ha hf];exact⟨Nat.zero_le _,h⟩
   | true=>
    rw [accP_fresh hh ha hf]
    refine⟨hm,λx hx=>?_,λx hx=>?_⟩
    ·have hx':x∈t.got++[(memRead r.mem a).2]:=hx
     rcases List.mem_append.1 hx' with h9|h9
     ·exact h.1 x h9
     ·rw [List.mem_singleton.1 h9];exact hm
    ·have hx':x∈(memRead r.mem a).1.ws:=hx
     rw [memRead_ws] at hx'
     exact h.2 x hx'
end
section

/- An operation of the reference as a tree of accesses: what its run on a tape comes to. -/
open Go.RowKit
structure OutP where
 err:Int
 val:Nat
 list:List Nat
 key:List Int
 priv:List Nat
def TapeP.out (t:TapeP) (o:OutP):TapeP:={ t with err:=o.err,val:=o.val,list:=o.list,key:=o.key,priv:=o.priv }
def TapeP.outs (t:TapeP):OutP:=⟨t.err,t.val,t.list,t.key,t.priv⟩
inductive Pg where
 | ret (f:TapeP->RWD->OutP)
 | acc (kd a:Int) (x y:Nat) (eff:RWD->RWD) (k:Nat->Pg)
def effP (eff:RWD->RWD) (t:TapeP) (r:RWD):RWD:=if justP t=true then eff r else r
def Pg.run:Pg->TapeP->RWD->TapeP×RWD
 | .ret f,t,r=>(t.out (f t r),r)
 | .acc kd a x y eff k,t,r=>(k (accP kd a x y t r).1).run (accP kd a x y t r).2.1 (effP eff (accP kd a x y t r).2.1 (accP kd a x y t r).2.2)
def Pg.res:Pg->List Nat->Pg
 | P,[]=>P
 | .acc _ _ _ _ _ k,g::gs=>(k g).res gs
 | .ret f,_::_=>.ret f
def Pg.deep:Pg->List Nat->Prop
 | _,[]=>True
 | .acc _ _ _ _ _ k,g::gs=>(k g).deep gs
 | .ret _,_::_=>False
theorem Pg.res_nil (P:Pg):P.res []=P:=by cases P<;>rfl
theorem Pg.deep_nil (P:Pg):P.deep []:=by cases P<;>trivial
theorem Pg.res_snoc:∀(gs:List Nat) (P:Pg) (g:Nat) {kd a:Int} {x y:Nat} {eff:RWD->RWD} {k:Nat->Pg},P.res gs=.acc kd a x y eff k->P.deep gs->P.res (gs++[g])=k g/\P.deep (gs++[g])
 | [],P,g,kd,a,x,y,eff,k,h,_=>by
  rw [Pg.res_nil] at h
  subst h
  exact⟨Pg.res_nil _,Pg.deep_nil _⟩
 | g0::gs,P,g,kd,a,x,y,eff,k,h,hd=>by
  cases P with
  | ret f=>exact hd.elim
  | acc kd' a' x' y' eff' k'=>exact Pg.res_snoc gs (k' g0) g h hd
theorem just_old {t:TapeP} (hf:t.fresh=true):justP t=false:=by unfold justP;rw [hf];simp
theorem just_halt {t:TapeP} (hh:t.halt=true):justP t=false:=by unfold justP;rw [hh];simp
theorem Pg.run_halt:∀(P:Pg) (t:TapeP) (r:RWD),t.halt=true->∃ o,P.run t r=(t.out o,r)
 | .ret f,t,r,_=>⟨_,rfl⟩
 | .acc kd a x y eff k,t,r,hh=>by
  show ∃ o,(k (accP kd a x y t r).1).run (accP kd a x y t r).2.1 (effP eff (accP kd a x y t r).2.1 (accP kd a x y t r).2.2)=_
  rw [accP_halt hh]
  simp only
  have e:effP eff t r=r:=by unfold effP;rw [just_halt hh];rfl
  rw [e]
  exact Pg.run_halt (k 0) t r hh
theorem Pg.run_told:∀(gs:List Nat) (P:Pg) (t:TapeP) (r:RWD),t.halt=false->t.fresh=true->t.at_<=t.got.length->t.got.drop t.at_=gs->P.deep gs->P.run t r=(P.res gs).run { t with at_:=t.got.length } r
 | [],P,t,r,hh,hf,hle,hd,_=>by
  have e:t.at_=t.got.length:=by
   have:=congrArg List.length hd
   rw [List.length_drop] at this
   simp at this
   omega
  rw [Pg.res_nil,<-e]
 | g::gs,.ret f,t,r,hh,hf,hle,hd,hdp=>hdp.elim
 | g::gs,.acc kd a x y eff k,t,r,hh,hf,hle,hd,hdp=>by
  have hlt:t.at_<t.got.length:=by
   have:=congrArg List.length hd
   rw [List.length_drop] at this
   simp at this
   omega
  have hg:t.got.getD t.at_ 0=g:=by
   have h1:=List.drop_eq_getElem_cons hlt
   rw [hd] at h1
   rw [List.getD_eq_getElem?_getD,List.getElem?_eq_getElem hlt]
   exact(List.cons.inj h1).1.symm
  have hd2:t.got.drop (t.at_+1)=gs:=by
   have h1:=List.drop_eq_getElem_cons hlt
   rw [hd] at h1
   exact(List.cons.inj h1).2.symm
  show(k (accP kd a x y t r).1).run (accP kd a x y t r).2.1 (effP eff (accP kd a x y t r).2.1 (accP kd a x y t r).2.2)=_
  rw [accP_old hh hlt,hg]
  simp only
  have e:effP eff { t with at_:=t.at_+1 } r=r:=by unfold effP;rw [just_old (t:={ t with at_:=t.at_+1 }) hf];rfl
  rw [e]
  exact Pg.run_told gs (k g) { t with at_:=t.at_+1 } r hh hf hlt hd2 hdp
def tapeNew (t:TapeP) (v:Nat) (now:Nat):TapeP:={ t with got:=t.got++[v],ticks:=t.ticks++[(now:Int)],at_:=t.at_+1,fresh:=false }
theorem Pg.step {P:Pg} {h:RHand} {p:Nat} {r:RWD} {kd a:Int} {x y:Nat} {eff:RWD->RWD} {k:Nat->Pg} (hdp:P.deep h.got) (hres:P.res h.got=.acc kd a x y eff k) :
  ∃ t1,t1=tapeNew { h.tape p with at_:=h.got.length } (memAcc r.mem kd a x y).2 r.now/\
   (∀ f,k (memAcc r.mem kd a x y).2=.ret f->P.run (h.tape p) r=(t1.out (f t1 (eff { r with mem:=(memAcc r.mem kd a x y).1 })),eff { r with mem:=(memAcc r.mem kd a x y).1 }))/\
   (∀ kd' a' x' y' eff' k',k (memAcc r.mem kd a x y).2=.acc kd' a' x' y' eff' k'->∃ o,P.run (h.tape p) r=(({ t1 with halt:=true }:TapeP).out o,eff { r with mem:=(memAcc r.mem kd a x y).1 })):=by
 obtain⟨t0,ht0⟩:∃ t0:TapeP,t0={ h.tape p with at_:=h.got.length }:=⟨_,rfl⟩
 have e1:P.run (h.tape p) r=(Pg.acc kd a x y eff k).run t0 r:=by
  rw [Pg.run_told h.got P (h.tape p) r rfl rfl (Nat.zero_le _) rfl hdp,hres,ht0];rfl
 have h0:t0.halt=false/\t0.fresh=true/\t0.at_=h.got.length/\t0.got=h.got:=by rw [ht0];exact⟨rfl,rfl,rfl,rfl⟩
 obtain⟨t1,ht1⟩:∃ t1,t1=tapeNew t0 (memAcc r.mem kd a x y).2 r.now:=⟨_,rfl⟩
 obtain⟨r2,hr2⟩:∃ r2:RWD,r2=eff { r with mem:=(memAcc r.mem kd a x y).1 }:=⟨_,rfl⟩
 have e2:(Pg.acc kd a x y eff k).run t0 r=(k (memAcc r.mem kd a x y).2).run t1 r2:=by
  show(k (accP kd a x y t0 r).1).run (accP kd a x y t0 r).2.1 (effP eff (accP kd a x y t0 r).2.1 (accP kd a x y t0 r).2.2)=_
  rw [accP_fresh h0.1 (by rw [h0.2.2.1,h0.2.2.2];exact Nat.lt_irrefl _) h0.2.1]
  simp only
  have hj:justP t1=true:=by
   rw [ht1];unfold justP tapeNew
   simp only [h0.1,h0.2.2.1,h0.2.2.2,List.length_append,List.length_singleton]
   simp
  have e:effP eff t1 { r with mem:=(memAcc r.mem kd a x y).1 }=r2:=by unfold effP;rw [hj,hr2];rfl
  have e3:({ t0 with got:=t0.got++[(memAcc r.mem kd a x y).2],ticks:=t0.ticks++[(r.now:Int)],at_:=t0.at_+1,fresh:=false }:TapeP)=t1:=by rw [ht1];rfl
  rw [e3,e]
 refine⟨t1,by rw [ht1,ht0],λf hf=>?_,λkd' a' x' y' eff' k' hk=>?_⟩
 ·rw [e1,e2,hf,<-hr2];rfl
 ·have t1h:t1.halt=false:=by rw [ht1];exact h0.1
  have t1f:t1.fresh=false:=by rw [ht1];rfl
  have t1a:¬ t1.at_<t1.got.length:=by rw [ht1];show ¬ t0.at_+1<(t0.got++[_]).length;rw [h0.2.2.1,h0.2.2.2,List.length_append];exact Nat.lt_irrefl _
  have e4:(Pg.acc kd' a' x' y' eff' k').run t1 r2=(k' 0).run { t1 with halt:=true } r2:=by
   show(k' (accP kd' a' x' y' t1 r2).1).run (accP kd' a' x' y' t1 r2).2.1 (effP eff' (accP kd' a' x' y' t1 r2).2.1 (accP kd' a' x' y' t1 r2).2.2)=_
   rw [accP_end t1h t1a t1f]
   simp only
   have e:effP eff' { t1 with halt:=true } r2=r2:=by unfold effP;rw [just_halt rfl];rfl
   rw [e]
  obtain⟨o,ho⟩:=Pg.run_halt (k' 0) { t1 with halt:=true } r2 rfl
  exact⟨o,by rw [e1,e2,hk,e4,ho,<-hr2]⟩
def EffOk (eff:RWD->RWD):Prop:=∀ r,(eff r).mem=r.mem/\(eff r).now=r.now/\(eff r).marks.length=r.marks.length/\(eff r).traces.length=r.traces.length
def Pg.effs:Pg->Prop
 | .ret _=>True
 | .acc _ _ _ _ eff k=>EffOk eff/\∀ v,(k v).effs
theorem effOk_id:EffOk id:=λ_=>⟨rfl,rfl,rfl,rfl⟩
theorem Runs.eff {t t':TapeP} {r r':RWD} (h:Runs t r t' r') {eff:RWD->RWD} (he:EffOk eff) (u:TapeP):Runs t r t' (effP eff u r'):=by
 unfold effP
 split
 ·obtain⟨h1,h2,_⟩:=he r'
  exact⟨by rw [h1];exact h.ws,h2.trans h.now,by rw [h1];exact h.all,h.got,h.thread,h.inv⟩
 ·exact h
theorem Pg.runs:∀(P:Pg) (t:TapeP) (r:RWD),P.effs->Runs t r (P.run t r).1 (P.run t r).2
 | .ret f,t,r,_=>⟨rfl,rfl,Nat.le_refl _,Nat.le_refl _,rfl,rfl⟩
 | .acc kd a x y eff k,t,r,h=>((Runs.acc kd a x y t r).eff h.1 _).trans (Pg.runs (k _) _ _ (h.2 _))
theorem Pg.ticks:∀(P:Pg) (t:TapeP) (r:RWD),P.effs->∀ z,z∈(P.run t r).1.ticks->z∈t.ticks∨z=(r.now:Int)
 | .ret f,t,r,_,z,hz=>.inl hz
 | .acc kd a x y eff k,t,r,h,z,hz=>by
  have hn:=((Runs.acc kd a x y t r).eff h.1 (accP kd a x y t r).2.1).now
  rcases Pg.ticks (k _) _ _ (h.2 _) z hz with h9|h9
  ·exact accP_ticks _ _ _ _ _ _ _ h9
  ·right;rw [h9,hn]
end
section

/- An operation of the reference as a tree of accesses: its step beside the machine's, whatever the object; what its runs keep. -/
open Go.RowKit
theorem Pg.sim {S:Sys} {M:RefSim S} {n p:Nat} {c:CallD} {h:RHand} {o:S.ω} {r r2:RWD} {σ:S.σ} {wd:WD} {P:Pg} {kd a:Int} {x y v:Nat} {eff:RWD->RWD} {k:Nat->Pg} (hdp:P.deep h.got) (hres:P.res h.got=.acc kd a x y eff k) (hv:(memAcc r.mem kd a x y).2=v) (hr2:r2=eff { r with mem:=(memAcc r.mem kd a x y).1 })
  {o':S.ω} {wd':WD} {σ':S.σ} {b:Bool} (hst:S.step o wd p σ=(o',wd',σ',b)) (hrw:RwSim n r2 wd') (hinv:wd'.inv=wd.inv) (hmk:wd'.marks.length=wd.marks.length)
  (hfin:b=true->∃ f,k v=.ret f/\∀ t1,t1=tapeNew { h.tape p with at_:=h.got.length } v r.now->(⟨(f t1 r2).err,(f t1 r2).val,(f t1 r2).list⟩:AnsD)=(S.answer σ').1/\rkey r2 p (f t1 r2).key=keyOf wd' p (S.answer σ').2/\M.Own o' p (f t1 r2).priv)
  (hgo:b=false->(∃ kd' a' x' y' eff' k',k v=.acc kd' a' x' y' eff' k')/\(P.deep (h.got++[v])->P.res (h.got++[v])=k v->M.Rel o' r2 p c { h with got:=h.got++[v],ticks:=h.ticks++[(r.now:Int)] } σ')/\M.Own o' p h.own) :
  StepSim M n p c h o r σ wd (P.run (h.tape p) r):=by
 obtain⟨t1,ht1,hret,hacc⟩:=Pg.step (P:=P) (h:=h) (p:=p) (r:=r) hdp hres
 rw [hv] at ht1 hret hacc
 rw [<-hr2] at hret hacc
 obtain⟨hs1,hs2⟩:=Pg.res_snoc h.got P v hres hdp
 have ht1f:t1.got=h.got++[v]/\t1.ticks=h.ticks++[(r.now:Int)]/\t1.halt=false:=by rw [ht1];exact⟨rfl,rfl,rfl⟩
 cases b with
 | true=>
  obtain⟨f,hf,ha⟩:=hfin rfl
  obtain⟨a1,a2,a3⟩:=ha t1 ht1
  rw [hret f hf]
  exact⟨by rw [hst];exact hrw,by rw [hst];exact hinv,by rw [hst];exact hmk,by rw [hst];exact ht1f.2.2,λ_=>⟨by rw [hst];exact a1,by rw [hst];exact a2,by rw [hst];exact a3⟩,λe=>by
   have e':t1.halt=true:=e
   rw [ht1f.2.2] at e';cases e'⟩
 | false=>
  obtain⟨⟨kd',a',x',y',eff',k',hk⟩,hrel,hown⟩:=hgo rfl
  obtain⟨ou,hr⟩:=hacc kd' a' x' y' eff' k' hk
  rw [hr]
  refine⟨by rw [hst];exact hrw,by rw [hst];exact hinv,by rw [hst];exact hmk,by rw [hst];rfl,(λe=>by cases e),λ_=>⟨?_,by rw [hst];exact hown⟩⟩
  rw [hst]
  show M.Rel o' r2 p c { h with got:=t1.got,ticks:=t1.ticks } σ'
  rw [ht1f.1,ht1f.2.1]
  exact hrel hs2 hs1
def Pg.short (N:Nat):Pg->Prop
 | .ret f=>∀ t r,t.priv.length<=N->(f t r).priv.length<=N
 | .acc _ _ _ _ _ k=>∀ g,(k g).short N
theorem Pg.run_short {N:Nat}:∀(P:Pg) (t:TapeP) (r:RWD),P.short N->t.priv.length<=N->(P.run t r).1.priv.length<=N
 | .ret f,t,r,h,hp=>h t r hp
 | .acc kd a x y eff k,t,r,h,hp=>Pg.run_short (k _) _ _ (h _) (by rw [accP_priv];exact hp)
theorem rkey_same {n p:Nat} {r:RWD} {wd:WD} (h:RwSim n r wd) (hp:p<n) (k:List Int):rkey r p k=keyOf wd p k:=by
 unfold rkey keyOf tickKey
 rw [h.marks p hp,h.now]
end
end Go.Proofs.YtfkokppncipgnaaGreat
