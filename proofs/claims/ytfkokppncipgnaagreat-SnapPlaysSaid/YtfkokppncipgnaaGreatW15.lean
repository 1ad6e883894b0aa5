/- A reference's play in plain numbers; it is the loom's, where each of an object's steps is what the reference's run of its operation comes to. -/
import Derived.Test.YtfkokppncipgnaaGreatW07
import Derived.Test.YtfkokppncipgnaaGreatW14
import Derived.Test.YtfkokppncipgnaaGreatW04
import Derived.Deep.Cut
set_option maxRecDepth 100000
set_option linter.unusedVariables false
set_option linter.unusedSimpArgs false
set_option linter.unnecessarySimpa false
namespace Go.Proofs.YtfkokppncipgnaaGreat
section
open Go.RowKit
structure dW where
  opn:Bool
  ev:Nat
  inv:Nat
  got:List Nat
  ticks:List Int
  own:List Nat
def aY:dW:=⟨false,0,0,[],[],[]⟩
structure dS where
  rw:RWD
  fin:List Bool
  evs:List EvD
  idle:Nat
  hands:List dW
def dW.tape (h:dW) (p:Nat):aJ:=⟨p,h.inv,h.got,h.ticks,0,true,false,h.own,0,0,[],[]⟩
def RWD.tick (r:RWD):RWD:={ r with now:=r.now+1 }
def RWD.begin (r:RWD) (p:Nat):RWD:={ r with marks:=r.marks.set p [] }
def rdo (dO:aD->aJ->RWD->aJ×RWD) (c:aD) (t:aJ) (r:RWD):aJ×RWD:=if c.obj≠0 then ({ t with err:=12 },r) else dO c t r
def yQ (r:RWD) (p:Nat) (k:List Int):List Int:=if k=[] then (if r.marks.getD p []=[] then [2*(r.now:Int)] else r.marks.getD p []) else k
def lJ (r:RWD) (p:Nat) (t:aJ) (e:EvD):EvD:={ e with resp:=r.now,ans:=⟨t.err,t.val,t.list⟩,key:=yQ r p t.key }
def iW (s:dS) (p i:Nat):dS:={ s with rw:=s.rw.begin p,evs:=s.evs++[⟨i,s.rw.now,0,0,SK,[]⟩],hands:=s.hands.set p ⟨true,s.evs.length,s.rw.now,[],[],(s.hands.getD p aY).own⟩ }
def dM (s:dS) (p i:Nat):dS:=if (s.hands.getD p aY).opn=true then s else iW s p i
def rgo (dO:aD->aJ->RWD->aJ×RWD) (s:dS) (p i:Nat) (c:aD):dS:=
  if (rdo dO c ((s.hands.getD p aY).tape p) s.rw).1.halt=true then
    { s with rw:=(rdo dO c ((s.hands.getD p aY).tape p) s.rw).2,evs:=dA s.evs (s.hands.getD p aY).ev aS,hands:=s.hands.set p { s.hands.getD p aY with got:=(rdo dO c ((s.hands.getD p aY).tape p) s.rw).1.got,ticks:=(rdo dO c ((s.hands.getD p aY).tape p) s.rw).1.ticks } }
  else { s with rw:=(rdo dO c ((s.hands.getD p aY).tape p) s.rw).2,fin:=s.fin.set i true,
                evs:=dA (dA s.evs (s.hands.getD p aY).ev aS) (s.hands.getD p aY).ev (lJ (rdo dO c ((s.hands.getD p aY).tape p) s.rw).2 p (rdo dO c ((s.hands.getD p aY).tape p) s.rw).1),
                hands:=s.hands.set p { s.hands.getD p aY with opn:=false,got:=(rdo dO c ((s.hands.getD p aY).tape p) s.rw).1.got,ticks:=(rdo dO c ((s.hands.getD p aY).tape p) s.rw).1.ticks,own:=if c.obj=0 then (rdo dO c ((s.hands.getD p aY).tape p) s.rw).1.priv else (s.hands.getD p aY).own } }
def oQ (dO:aD->aJ->RWD->aJ×RWD) (calls:List aD) (s:dS) (p:Int):dS:=
  match gF calls s.fin p with
  | none=>{ s with idle:=s.idle+1 }
  | some i=>rgo dO (dM { s with rw:=s.rw.tick } p.toNat i) p.toNat i (calls.getD i d0)
def gQ (n sz:Nat) (calls:List aD):dS:=⟨⟨⟨List.replicate sz 0,c0⟩,0,List.replicate n [],List.replicate sz []⟩,List.replicate calls.length false,[],0,List.replicate n aY⟩
def dL (dO:aD->aJ->RWD->aJ×RWD) (calls:List aD) (s:dS) (picks:List Int):dS:=picks.foldl (oQ dO calls) s
def jH (late:aD->Nat->dW->RWD->List Int) (calls:List aD) (s:dS) (evs:List EvD) (p:Nat):List EvD:=
  if (s.hands.getD p aY).opn=true then dA evs (s.hands.getD p aY).ev (λe=>{ e with key:=late (calls.getD e.call d0) p (s.hands.getD p aY) s.rw }) else evs
def rend (late:aD->Nat->dW->RWD->List Int) (calls:List aD) (s:dS) (n:Nat):List EvD:=(List.range n).foldl (jH late calls s) s.evs
def Ld (late:aD->Nat->dW->RWD->List Int) (calls:List aD) (s:dS) (n:Nat):iN:=⟨rend late calls s n,s.rw.mem.ws,s.rw.mem.c,s.rw.now,s.idle⟩
def Md (r:RWD):Prop:=0<r.traces.length/\r.traces.length=r.mem.ws.length
theorem Md.acc {r:RWD} (h:Md r) {m m':dR} (e:r.mem=m') (hl:m.ws.length=m'.ws.length):Md { r with mem:=m }:=⟨h.1,h.2.trans (by rw [e];exact hl.symm)⟩
structure iJ (n:Nat) (r:RWD) (wd:WD):Prop where
  mem:r.mem=wd.mem
  now:r.now=wd.now
  mlen:r.marks.length=n
  marks:∀ p,p<n->r.marks.getD p []=wd.marks.getD p []
  tr:∀ a,gN a r=wd.traces a
  tl:Md r
structure Qi (wd:WD):Prop where
  inv:wd.inv.length=16
  marks:wd.marks.length=16
structure vO (S:Sys) where
  Rel:S.ω->RWD->Nat->aD->dW->S.σ->Prop
  Own:S.ω->Nat->List Nat->Prop
structure vG {S:Sys} (M:vO S) (calls:List aD) (o:S.ω) (wd:WD) (r:RWD) (evs:List EvD) (p:Nat) (h:dW) (x:Option S.σ×Nat):Prop where
  own:M.Own o p h.own
  opn:h.opn=x.1.isSome
  ev:h.opn=true->h.ev=x.2
  inv:h.opn=true->h.inv=wd.inv.getD p 0
  rel:∀ σ,x.1=some σ->M.Rel o r p (calls.getD (aF evs x.2).call d0) h σ/\(calls.getD (aF evs x.2).call d0).obj=0
structure BQ {S:Sys} (M:vO S) (n:Nat) (calls:List aD) (s:dS) (st:aP S):Prop where
  rw:iJ n s.rw st.wd
  w16:Qi st.wd
  fin:s.fin=st.fin
  evs:s.evs=st.evs
  idle:s.idle=st.idle
  hlen:s.hands.length=n
  hand:∀ p,p<n->vG M calls st.obj st.wd s.rw st.evs p (s.hands.getD p aY) (st.hands.getD p (none,0))
structure DW {S:Sys} (M:vO S) (n:Nat) (p:Nat) (c:aD) (h:dW) (o:S.ω) (r:RWD) (σ:S.σ) (wd:WD) (z:aJ×RWD):Prop where
  rw:iJ n z.2 (S.step o wd p σ).2.1
  inv:(S.step o wd p σ).2.1.inv=wd.inv
  mkl:(S.step o wd p σ).2.1.marks.length=wd.marks.length
  halt:z.1.halt=!(S.step o wd p σ).2.2.2
  ans:z.1.halt=false->(⟨z.1.err,z.1.val,z.1.list⟩:TN)=(S.answer (S.step o wd p σ).2.2.1).1/\yQ z.2 p z.1.key=keyOf (S.step o wd p σ).2.1 p (S.answer (S.step o wd p σ).2.2.1).2/\M.Own (S.step o wd p σ).1 p z.1.priv
  go:z.1.halt=true->M.Rel (S.step o wd p σ).1 z.2 p c { h with got:=z.1.got,ticks:=z.1.ticks } (S.step o wd p σ).2.2.1/\M.Own (S.step o wd p σ).1 p h.own
structure CX (S:Sys) (M:vO S) (n:Nat) (dO:aD->aJ->RWD->aJ×RWD) (late:aD->Nat->dW->RWD->List Int) (calls:List aD) (Good:aP S->Prop):Prop where
  refuse:∀(st:aP S) (c:aD) (p:Nat) (h:dW) (e:Int) (r:RWD),Good st->c.obj=0->p<n->M.Own st.obj p h.own->S.start st.obj (st.wd.tick.begin p) p c=.refuse e->iJ n r (st.wd.tick.begin p)->h.got=[]->h.ticks=[]->
    ∃ t',dO c (h.tape p) r=(t',r)/\t'.halt=false/\t'.err=e/\t'.val=0/\t'.list=[]/\t'.key=[]/\M.Own st.obj p t'.priv
  start:∀(st:aP S) (c:aD) (p:Nat) (h:dW) (σ:S.σ) (r:RWD),Good st->c.obj=0->c.thread=(p:Int)->p<n->M.Own st.obj p h.own->S.start st.obj (st.wd.tick.begin p) p c=.run σ->iJ n r (st.wd.tick.begin p)->h.got=[]->h.ticks=[]->h.inv=st.wd.now+1->M.Rel st.obj r p c h σ
  step:∀(st:aP S) (c:aD) (p:Nat) (h:dW) (σ:S.σ) (r:RWD) (wd:WD) (k:Nat) (aQ:List EvD),Good st->From calls st p (aF aQ k).call k σ aQ wd->c=calls.getD (aF aQ k).call d0->p<n->h.inv=wd.inv.getD p 0->M.Own st.obj p h.own->M.Rel st.obj r p c h σ->iJ n r wd->c.obj=0->DW M n p c h st.obj r σ wd (dO c (h.tape p) r)
  ownOther:∀(st:aP S) (p:Nat) (σ:S.σ) (wd:WD) (k:Nat) (aQ:List EvD) (q:Nat) (own:List Nat),Good st->From calls st p (aF aQ k).call k σ aQ wd->q≠p->M.Own st.obj q own->M.Own (S.step st.obj wd p σ).1 q own
  relOther:∀(st:aP S) (p:Nat) (σ:S.σ) (wd:WD) (k:Nat) (aQ:List EvD) (r:RWD) (q:Nat) (c:aD) (h:dW) (σ':S.σ) (r':RWD),Good st->From calls st p (aF aQ k).call k σ aQ wd->q≠p->st.hands.getD q (none,0)=(some σ',h.ev)->M.Rel st.obj r q c h σ'->iJ n r' (S.step st.obj wd p σ).2.1->M.Rel (S.step st.obj wd p σ).1 r' q c h σ'
  relTick:∀(o:S.ω) (r:RWD) (p:Nat) (c:aD) (h:dW) (σ:S.σ),M.Rel o r p c h σ->M.Rel o r.tick p c h σ
  relBegin:∀(o:S.ω) (r:RWD) (p:Nat) (c:aD) (h:dW) (σ:S.σ) (q:Nat),M.Rel o r p c h σ->M.Rel o (r.begin q) p c h σ
  late:∀(st:aP S) (c:aD) (p:Nat) (h:dW) (σ:S.σ) (r:RWD),Good st->st.hands.getD p (none,0)=(some σ,h.ev)->h.inv=st.wd.inv.getD p 0->M.Rel st.obj r p c h σ->iJ n r st.wd->p<n->late c p h r=(S.late st.obj st.wd p σ).getD (st.wd.marks.getD p [])
variable {S:Sys} {M:vO S} {n:Nat} {dO:aD->aJ->RWD->aJ×RWD} {late:aD->Nat->dW->RWD->List Int} {calls:List aD} {Good:aP S->Prop}
theorem Fb (r:S.ω×WD×S.σ×Bool) (q:Nat) (e:EvD):(PO S r q e).call=e.call:=by unfold PO dF aS;split<;>rfl
theorem vG.evs {o:S.ω} {wd:WD} {r:RWD} {evs evs':List EvD} {p:Nat} {h:dW} {x:Option S.σ×Nat} (hs:vG M calls o wd r evs p h x) (he:(aF evs' x.2).call=(aF evs x.2).call):vG M calls o wd r evs' p h x:=
  ⟨hs.own,hs.opn,hs.ev,hs.inv,λσ e=>by rw [he];exact hs.rel σ e⟩
theorem ZZ (ok:CX S M n dO late calls Good) {s1:dS} {st:aP S} {q i k:Nat} {σ:S.σ} {aQ:List EvD} {cZ:WD} (hg:bQ calls st) (hG:Good st) (hn:n<=16) (hf:From calls st q i k σ aQ cZ) (hq:q<n) (hc0:(calls.getD i d0).obj=0)
    (e1:s1.fin=st.fin) (e2:s1.evs=aQ) (e3:s1.idle=st.idle) (hl:s1.hands.length=n) (hrw:iJ n s1.rw cZ) (hW:Qi cZ) (ho:(s1.hands.getD q aY).opn=true) (hev:(s1.hands.getD q aY).ev=k) (hinv:(s1.hands.getD q aY).inv=cZ.inv.getD q 0)
    (hown:M.Own st.obj q (s1.hands.getD q aY).own) (hrel:M.Rel st.obj s1.rw q (calls.getD i d0) (s1.hands.getD q aY) σ) (hoth:∀ p,p<n->p≠q->vG M calls st.obj cZ s1.rw aQ p (s1.hands.getD p aY) (st.hands.getD p (none,0))) :
    BQ M n calls (rgo dO s1 q i (calls.getD i d0)) (lL st (S.step st.obj cZ q σ) q i k aQ):=by
  have hcall:=hf.call
  have hk:=hf.len
  obtain⟨h,hh⟩:∃ h,h=s1.hands.getD q aY:=⟨_,rfl⟩
  obtain⟨c,hc⟩:∃ c,c=calls.getD i d0:=⟨_,rfl⟩
  have hz:rdo dO c (h.tape q) s1.rw=dO c (h.tape q) s1.rw:=by unfold rdo;rw [if_neg (by rw [hc];exact λx=>x hc0)]
  rw [<-hh] at ho hev hinv hown hrel
  rw [<-hc] at hrel hc0 ⊢
  have SS:=ok.step st c q h σ s1.rw cZ k aQ hG (by rw [hcall];exact hf) (by rw [hcall];exact hc) hq hinv hown hrel hrw hc0
  obtain⟨z,hzz⟩:∃ z,z=dO c (h.tape q) s1.rw:=⟨_,rfl⟩
  obtain⟨y,hy⟩:∃ y,y=S.step st.obj cZ q σ:=⟨_,rfl⟩
  have Av:q<st.hands.length:=by rw [hg.h16];omega
  have hql:q<s1.hands.length:=by omega
  have hxe:∀ j,(aF (aQ.set k (PO S y q (aF aQ k))) j).call=(aF aQ j).call:=λj=>by
    rw [jK _ hk]
    split
    · rename_i e;rw [Fb,e]
    · rfl
  have other:∀ p,p<n->p≠q->∀ h',s1.hands.getD p aY=h'->vG M calls y.1 y.2.1 z.2 (aQ.set k (PO S y q (aF aQ k))) p h' (st.hands.getD p (none,0)):=λp hp hpq h' e=>by
    subst e
    have H:=hoth p hp hpq
    refine⟨by rw [hy];exact ok.ownOther st q σ cZ k aQ p _ hG (by rw [hcall];exact hf) hpq H.own,H.opn,H.ev,λh9=>by rw [H.inv h9,hy,SS.inv],λσ' e=>?_⟩
    rw [hxe]
    obtain⟨r1,r2⟩:=H.rel σ' e
    refine⟨?_,r2⟩
    rw [hy]
    have h9:(s1.hands.getD p aY).opn=true:=by rw [H.opn,e];rfl
    exact ok.relOther st q σ cZ k aQ s1.rw p _ _ σ' z.2 hG (by rw [hcall];exact hf) hpq (Prod.ext e (H.ev h9).symm) r1 (by rw [hzz];exact SS.rw)
  have hSS:DW M n q c h st.obj s1.rw σ cZ z:=by rw [hzz];exact SS
  unfold rgo
  rw [<-hh,hz,<-hzz]
  unfold lL
  rw [<-hy]
  cases hd:y.2.2.2 with
  | true=>
    have hhalt:z.1.halt=false:=by rw [hSS.halt,<-hy,hd];rfl
    obtain⟨a1,a2,a3⟩:=hSS.ans hhalt
    rw [<-hy] at a1 a2 a3
    rw [if_neg (by rw [hhalt];exact Bool.false_ne_true)]
    refine⟨by rw [hy];exact hSS.rw,⟨by rw [hy,hSS.inv];exact hW.inv,by rw [hy,hSS.mkl];exact hW.marks⟩,?_,?_,e3,by simpa using hl,λp hp=>?_⟩
    · simp only [if_true,e1]
    · have Jb:PO S y q (aF aQ k)=lJ z.2 q z.1 (aS (aF aQ k)):=by
        unfold PO dF lJ aS
        rw [if_pos hd,a1,a2,show z.2.now=y.2.1.now from by rw [hy];exact hSS.rw.now]
      show dA (dA s1.evs h.ev aS) h.ev (lJ z.2 q z.1)=aQ.set k (PO S y q (aF aQ k))
      rw [e2,hev,Jb]
      have h9:aF (aQ.set k (aS (aF aQ k))) k=aS (aF aQ k):=by rw [jK _ hk,if_pos rfl]
      unfold dA
      rw [List.set_set]
      exact congrArg (λe=>aQ.set k (lJ z.2 q z.1 e)) h9
    · by_cases hpq:p=q
      · subst hpq
        simp only
        rw [aI hql,aI Av]
        exact⟨by simp only;rw [if_pos hc0];exact a3,rfl,λh9=>by(cases h9),λh9=>by(cases h9),λσ' e=>by(cases e)⟩
      · simp only
        rw [aK (Ne.symm hpq),aK (Ne.symm hpq)]
        exact other p hp hpq _ rfl
  | false=>
    have hhalt:z.1.halt=true:=by rw [hSS.halt,<-hy,hd];rfl
    obtain⟨a1,a2⟩:=hSS.go hhalt
    rw [<-hy] at a1 a2
    rw [if_pos hhalt]
    refine⟨by rw [hy];exact hSS.rw,⟨by rw [hy,hSS.inv];exact hW.inv,by rw [hy,hSS.mkl];exact hW.marks⟩,?_,?_,e3,by simpa using hl,λp hp=>?_⟩
    · simp only [Bool.false_eq_true,if_false,e1]
    · have Jb:PO S y q (aF aQ k)=aS (aF aQ k):=by
        unfold PO
        rw [if_neg (by rw [hd];exact Bool.false_ne_true)]
      show dA s1.evs h.ev aS=aQ.set k (PO S y q (aF aQ k))
      rw [e2,hev,Jb]
      rfl
    · by_cases hpq:p=q
      · subst hpq
        simp only [Bool.false_eq_true,if_false]
        rw [aI hql,aI Av]
        refine⟨a2,by simp only;exact ho,λ_=>hev,λ_=>by rw [hy,hSS.inv];exact hinv,λσ' e=>?_⟩
        cases e
        simp only
        rw [hxe,hcall,<-hc]
        exact⟨a1,hc0⟩
      · simp only [Bool.false_eq_true,if_false]
        rw [aK (Ne.symm hpq),aK (Ne.symm hpq)]
        exact other p hp hpq _ rfl
theorem UZ {l l':List (List Int)} {n:Nat} (hn:n<=l'.length) (hl:l.length=n) (h:∀ p,p<n->l.getD p []=l'.getD p []) (q:Nat) (hq:q<n):∀ p,p<n->(l.set q []).getD p []=(l'.set q []).getD p []:=λp hp=>by
  by_cases hpq:q=p
  · subst hpq;rw [aI (by omega),aI (by omega)]
  · rw [aK hpq,aK hpq];exact h p hp
theorem iJ.tick {r:RWD} {wd:WD} (h:iJ n r wd):iJ n r.tick wd.tick:=⟨h.mem,congrArg (·+1) h.now,h.mlen,h.marks,h.tr,h.tl⟩
theorem iJ.begin {r:RWD} {wd:WD} (h:iJ n r wd) (hm:n<=wd.marks.length) {q:Nat} (hq:q<n):iJ n (r.begin q) (wd.begin q):=
  ⟨h.mem,h.now,by show(r.marks.set q []).length=n;rw [List.length_set];exact h.mlen,UZ hm h.mlen h.marks q hq,h.tr,h.tl⟩
theorem QF (ok:CX S M n dO late calls Good) (hn:n<=16) (hthr:∀ c,c<calls.length->0<=(calls.getD c d0).thread/\(calls.getD c d0).thread<(n:Int)) {s:dS} {st:aP S} (hg:bQ calls st) (hG:Good st) (h:BQ M n calls s st) (p:Int) :
    BQ M n calls (oQ dO calls s p) (jQ S calls st p):=by
  have hW:=h.w16
  unfold oQ jQ
  rw [show gF calls s.fin p=gF calls st.fin p from by rw [h.fin]]
  cases hN:gF calls st.fin p with
  | none=>exact⟨h.rw,hW,h.fin,h.evs,congrArg (·+1) h.idle,h.hlen,h.hand⟩
  | some i=>
    obtain⟨n1,n2,n3⟩:=fC hN
    obtain⟨t1,t2⟩:=hthr i n1
    obtain⟨q,rfl⟩:∃ q:Nat,p=(q:Int):=⟨p.toNat,by omega⟩
    have hq:q<n:=by omega
    have Av:q<st.hands.length:=by rw [hg.h16];omega
    have hql:q<s.hands.length:=by rw [h.hlen];omega
    simp only [Int.toNat_natCast]
    have Hq:=h.hand q hq
    cases hs:(st.hands.getD q (none,0)).1 with
    | some σ=>
      obtain⟨k,hk⟩:∃ k,k=(st.hands.getD q (none,0)).2:=⟨_,rfl⟩
      have hh:fQ st.hands q=some k:=by unfold fQ;rw [hs,hk];rfl
      obtain⟨k1,k2,k3,k4⟩:=hg.ev.hand q k hh
      have hci:(aF st.evs k).call=i:=by rw [hN] at k4;cases k4;rfl
      have hst:fA S calls st q i=gX S { st with wd:=st.wd.tick } q k σ:=by unfold fA;rw [hs];simp only;rw [<-hk]
      have hopn:(s.hands.getD q aY).opn=true:=by rw [Hq.opn,hs];rfl
      rw [hst,zP (i:=i) (st0:={ st with wd:=st.wd.tick }) (st:=st) (q:=q) (k:=k) (s:=σ) (aQ:=st.evs) rfl rfl rfl (λ_=>rfl) rfl rfl]
      have hro:dM { s with rw:=s.rw.tick } q i={ s with rw:=s.rw.tick }:=by unfold dM;rw [if_pos hopn]
      rw [hro]
      obtain⟨r1,r2⟩:=Hq.rel σ hs
      rw [<-hk,hci] at r1 r2
      exact ZZ ok hg hG hn (.old k σ (Prod.ext hs hk.symm) k1 hci k3) hq r2 h.fin h.evs h.idle h.hlen h.rw.tick ⟨hW.inv,hW.marks⟩ hopn (by rw [Hq.ev hopn,hk]) (Hq.inv hopn) Hq.own (ok.relTick _ _ _ _ _ _ r1)
        (λp hp hpq=>by
          have H:=h.hand p hp
          exact⟨H.own,H.opn,H.ev,H.inv,λσ' e=>⟨ok.relTick _ _ _ _ _ _ (H.rel σ' e).1,(H.rel σ' e).2⟩⟩)
    | none=>
      have hcl:(s.hands.getD q aY).opn=false:=by rw [Hq.opn,hs];rfl
      have hro:dM { s with rw:=s.rw.tick } q i=iW { s with rw:=s.rw.tick } q i:=by unfold dM;rw [if_neg (by rw [hcl];exact Bool.false_ne_true)]
      rw [hro]
      have Rs:(⟨i,s.rw.tick.now,0,0,SK,[]⟩:EvD)=fZ i (st.wd.tick.begin q):=by
        show(⟨i,s.rw.now+1,0,0,SK,[]⟩:EvD)=⟨i,st.wd.now+1,0,0,SK,[]⟩
        rw [h.rw.now]
      have hrw1:iJ n (s.rw.tick.begin q) (st.wd.tick.begin q):=h.rw.tick.begin (by show n<=st.wd.marks.length;rw [hW.marks];exact hn) hq
      have hW1:Qi (st.wd.tick.begin q):=⟨by show(st.wd.inv.set q _).length=16;rw [List.length_set];exact hW.inv,by show(st.wd.marks.set q _).length=16;rw [List.length_set];exact hW.marks⟩
      have hother:∀ evs',(∀ j,j<st.evs.length->aF evs' j=aF st.evs j)->∀ p,p<n->p≠q->vG M calls st.obj (st.wd.tick.begin q) (s.rw.tick.begin q) evs' p (s.hands.getD p aY) (st.hands.getD p (none,0)):=λevs' he p hp hpq=>by
        have H:=h.hand p hp
        refine⟨H.own,H.opn,H.ev,λh9=>?_,λσ' e=>?_⟩
        · rw [H.inv h9]
          show st.wd.inv.getD p 0=(st.wd.inv.set q _).getD p 0
          rw [aK (Ne.symm hpq)]
        · have hh:fQ st.hands p=some (st.hands.getD p (none,0)).2:=by unfold fQ;rw [e];rfl
          obtain⟨k1,_⟩:=hg.ev.hand p _ hh
          rw [he _ k1]
          exact⟨ok.relBegin _ _ _ _ _ _ _ (ok.relTick _ _ _ _ _ _ (H.rel σ' e).1),(H.rel σ' e).2⟩
      have happ:∀ j,j<st.evs.length->∀ e,aF (st.evs++[e]) j=aF st.evs j:=λj hj e=>by
        unfold aF;rw [List.getD_eq_getElem?_getD,List.getD_eq_getElem?_getD,List.getElem?_append_left hj]
      have hlast:∀ e,aF (st.evs++[e]) st.evs.length=e:=λe=>by unfold aF;rw [List.getD_eq_getElem?_getD,List.getElem?_append_right (Nat.le_refl _),Nat.sub_self];rfl
      have hbh:(iW { s with rw:=s.rw.tick } q i).hands.getD q aY=⟨true,s.evs.length,s.rw.now+1,[],[],(s.hands.getD q aY).own⟩:=aI hql
      have hbo:∀ p,p≠q->(iW { s with rw:=s.rw.tick } q i).hands.getD p aY=s.hands.getD p aY:=λp hp=>aK (Ne.symm hp)
      have hbl:(iW { s with rw:=s.rw.tick } q i).hands.length=n:=by show(s.hands.set q _).length=n;rw [List.length_set];exact h.hlen
      have hbe:(iW { s with rw:=s.rw.tick } q i).evs=st.evs++[fZ i (st.wd.tick.begin q)]:=by show s.evs++[⟨i,s.rw.tick.now,0,0,SK,[]⟩]=_;rw [Rs,h.evs]
      have hbinv:(st.wd.tick.begin q).inv.getD q 0=st.wd.now+1:=aI (by show q<st.wd.inv.length;rw [hW.inv];omega)
      cases hst:eG S st.obj (st.wd.tick.begin q) q (calls.getD i d0) with
      | run σ=>
        have VX:fA S calls st q i=gX S { st with wd:=st.wd.tick.begin q,hands:=st.hands.set q (some σ,st.evs.length),evs:=st.evs++[fZ i (st.wd.tick.begin q)] } q st.evs.length σ:=by
          unfold fA;rw [hs];simp only;rw [hst]
        rw [VX,zP (i:=i) (st0:={ st with wd:=st.wd.tick.begin q,hands:=st.hands.set q (some σ,st.evs.length),evs:=st.evs++[fZ i (st.wd.tick.begin q)] }) (st:=st) (q:=q) (k:=st.evs.length) (s:=σ) (aQ:=st.evs++[fZ i (st.wd.tick.begin q)]) rfl rfl (by simp [List.set_set]) (λ_=>by simp [List.set_set]) rfl rfl]
        have hobj:(calls.getD i d0).obj=0/\S.start st.obj (st.wd.tick.begin q) q (calls.getD i d0)=.run σ:=by
          unfold eG at hst
          split at hst
          · exact⟨by assumption,hst⟩
          · cases hst
        refine ZZ ok hg hG hn (.new σ hs hst) hq hobj.1 h.fin hbe h.idle hbl hrw1 hW1 (by rw [hbh]) (by rw [hbh,h.evs]) (by rw [hbh,hbinv];exact congrArg (·+1) h.rw.now) (by rw [hbh];exact Hq.own) ?_ (λp hp hpq=>by rw [hbo p hpq];exact hother _ (λj hj=>happ j hj _) p hp hpq)
        rw [hbh]
        exact ok.start st _ q _ σ _ hG hobj.1 n2 hq Hq.own hobj.2 hrw1 rfl rfl (congrArg (·+1) h.rw.now)
      | refuse e=>
        have VX:fA S calls st q i=({ st with wd:=st.wd.tick.begin q,hands:=st.hands.set q (none,st.evs.length),evs:=st.evs++[dF (st.wd.tick.begin q) q ⟨e,0,[]⟩ [] (fZ i (st.wd.tick.begin q))] },true):=by
          unfold fA;rw [hs];simp only;rw [hst]
        rw [VX]
        simp only [if_true]
        obtain⟨c,hc⟩:∃ c,c=calls.getD i d0:=⟨_,rfl⟩
        rw [<-hc] at hst n2 ⊢
        obtain⟨h1,Dt⟩:∃ h1:dW,h1=⟨true,s.evs.length,s.rw.now+1,[],[],(s.hands.getD q aY).own⟩:=⟨_,rfl⟩
        rw [<-Dt] at hbh
        have hown1:h1.own=(s.hands.getD q aY).own:=by rw [Dt]
        obtain⟨t',hd,d1,d2,d3,d4,d5,d6⟩:∃ t',rdo dO c (h1.tape q) (s.rw.tick.begin q)=(t',s.rw.tick.begin q)/\t'.halt=false/\t'.err=e/\t'.val=0/\t'.list=[]/\t'.key=[]/\(c.obj=0->M.Own st.obj q t'.priv):=by
          unfold eG at hst
          by_cases hz:c.obj=0
          · rw [if_pos hz] at hst
            obtain⟨t',g1,g2,g3,g4,g5,g6,g7⟩:=ok.refuse st c q h1 e (s.rw.tick.begin q) hG hz hq (by rw [hown1];exact Hq.own) hst hrw1 (by rw [Dt]) (by rw [Dt])
            exact⟨t',by unfold rdo;rw [if_neg (λx=>x hz)];exact g1,g2,g3,g4,g5,g6,λ_=>g7⟩
          · rw [if_neg hz] at hst
            cases hst
            exact⟨_,by unfold rdo;rw [if_pos hz],rfl,rfl,rfl,rfl,rfl,λx=>absurd x hz⟩
        unfold rgo
        rw [hbh]
        have hrwb:(iW { s with rw:=s.rw.tick } q i).rw=s.rw.tick.begin q:=rfl
        rw [hrwb,hd,if_neg (by rw [d1];exact Bool.false_ne_true)]
        refine⟨hrw1,hW1,by show s.fin.set i true=_;rw [h.fin],?_,h.idle,by simpa using hbl,λp hp=>?_⟩
        · show dA (dA (iW { s with rw:=s.rw.tick } q i).evs h1.ev aS) h1.ev (lJ (s.rw.tick.begin q) q t')=_
          rw [hbe]
          have Jb:h1.ev=st.evs.length:=by rw [Dt];exact congrArg List.length h.evs
          rw [Jb]
          unfold dA
          have e9:∀ x:EvD,(st.evs++[x]).set st.evs.length=λy=>st.evs++[y]:=λx=>by funext y;rw [List.set_append_right _ _ (Nat.le_refl _),Nat.sub_self];rfl
          have e8:∀ x:EvD,(st.evs++[x]).getD st.evs.length iO=x:=λx=>hlast x
          rw [e9,e9,e8,e8]
          congr 2
          unfold lJ dF
          rw [d2,d3,d4,d5]
          have hkey:yQ (s.rw.tick.begin q) q []=keyOf (st.wd.tick.begin q) q []:=by
            unfold yQ keyOf jW
            rw [if_pos rfl,if_pos rfl,hrw1.marks q hq,hrw1.now]
          rw [hkey,hrw1.now]
          rfl
        · by_cases hpq:p=q
          · subst hpq
            simp only
            rw [aI (by rw [hbl];exact hq),aI Av]
            refine⟨?_,rfl,λh9=>by(cases h9),λh9=>by(cases h9),λσ' e=>by(cases e)⟩
            simp only
            split
            · rename_i hz;exact d6 hz
            · rw [hown1];exact Hq.own
          · simp only
            rw [aK (Ne.symm hpq),aK (Ne.symm hpq),hbo p hpq]
            exact hother _ (λj hj=>happ j hj _) p hp hpq
theorem fU {α:Type} (n p:Nat) (x:α):(List.replicate n x).getD p x=x:=by
  rw [List.getD_eq_getElem?_getD,List.getElem?_replicate]
  split<;>rfl
theorem LP (ok:CX S M n dO late calls Good) (hnow:∀ o wd p s,(S.step o wd p s).2.1.now=wd.now) (hn:n<=16) (hthr:∀ c,c<calls.length->0<=(calls.getD c d0).thread/\(calls.getD c d0).thread<(n:Int)) :
    ∀(picks:List Int) {s:dS} {st:aP S},bQ calls st->(∀ k,Good (eF S calls st (picks.take k)))->BQ M n calls s st->BQ M n calls (dL dO calls s picks) (eF S calls st picks)
  | [],_,_,_,_,h=>h
  | p::ps,s,st,hg,hG,h=>LP ok hnow hn hthr ps (zT hnow (λc hc=>⟨(hthr c hc).1,by have:=(hthr c hc).2;omega⟩) hg p) (λk=>hG (k+1)) (QF ok hn hthr hg (hG 0) h p)
theorem yL {α:Type} (f:α->Nat->α) (n:Nat):∀(m:Nat) (x:α),n<=m->(∀ y p,n<=p->p<m->f y p=y)->(List.range m).foldl f x=(List.range n).foldl f x
  | 0,x,h,_=>by rw [show n=0 from(by omega)]
  | m+1,x,h,hf=>by
    by_cases hm:n=m+1
    · rw [hm]
    · rw [List.range_succ,List.foldl_append,yL f n m x (by omega) (λy p h1 h2=>hf y p h1 (by omega))]
      exact hf _ _ (by omega) (by omega)
theorem VO (ok:CX S M n dO late calls Good) (hn:n<=16) (hthr:∀ c,c<calls.length->0<=(calls.getD c d0).thread/\(calls.getD c d0).thread<(n:Int)) {s:dS} {st:aP S} (hg:bQ calls st) (hG:Good st) (h:BQ M n calls s st) :
    ∀(l:List Nat) (evs:List EvD),(∀ p∈l,p<n)->(∀ j,(aF evs j).call=(aF st.evs j).call)->evs.length=st.evs.length->l.foldl (jH late calls s) evs=l.foldl (yF S st) evs
  | [],_,_,_,_=>rfl
  | p::ps,evs,hp,hc,hlen=>by
    have hpn:=hp p (List.mem_cons_self ..)
    have H:=h.hand p hpn
    have e1:jH late calls s evs p=yF S st evs p:=by
      unfold jH yF
      cases hx:st.hands.getD p (none,0) with
      | mk x k=>
        cases x with
        | none=>simp only;rw [H.opn,hx];rfl
        | some σ=>
          have hopn:(s.hands.getD p aY).opn=true:=by rw [H.opn,hx];rfl
          have hev:(s.hands.getD p aY).ev=k:=by rw [H.ev hopn,hx]
          simp only
          rw [if_pos hopn,hev]
          unfold dA
          have hl:=ok.late st (calls.getD (aF st.evs k).call d0) p (s.hands.getD p aY) σ s.rw hG (by rw [hev];exact hx) (H.inv hopn) (by have:=(H.rel σ (by rw [hx])).1;rw [hx] at this;exact this) h.rw hpn
          have hck:(evs.getD k iO).call=(aF st.evs k).call:=hc k
          simp only [hck]
          rw [hl]
    simp only [List.foldl_cons]
    rw [e1]
    refine VO ok hn hthr hg hG h ps _ (λq hq=>hp q (List.mem_cons_of_mem _ hq)) (λj=>?_) ?_
    · rw [<-hc j]
      unfold yF
      split
      · rfl
      · rename_i σ k _
        unfold dA
        by_cases hk:k<evs.length
        · rw [jK _ hk]
          split
          · rename_i e;rw [e];rfl
          · rfl
        · rw [List.set_eq_of_length_le (by omega)]
    · rw [<-hlen]
      unfold yF
      split
      · rfl
      · exact gP _ _ _
theorem QM (ok:CX S M n dO late calls Good) (hnow:∀ o wd p s,(S.step o wd p s).2.1.now=wd.now) (hn:n<=16) (hthr:∀ c,c<calls.length->0<=(calls.getD c d0).thread/\(calls.getD c d0).thread<(n:Int)) (o:S.ω) (sz:Nat) (hs0:0<sz) (ho:∀ p,p<n->M.Own o p []) (picks:List Int)
    (hG:∀ k,Good (eF S calls (dG S o (List.replicate sz 0) calls) (picks.take k))):Ld late calls (dL dO calls (gQ n sz calls) picks) n=uY S o (List.replicate sz 0) calls picks:=by
  have hg0:bQ calls (dG S o (List.replicate sz 0) calls):=vR (S:=S) calls o _
  have h16:∀ p,(List.replicate 16 ((none:Option S.σ),0)).getD p (none,0)=(none,0):=λp=>fU 16 p _
  have hr0:∀ p,(List.replicate n aY).getD p aY=aY:=λp=>fU n p _
  have h0:BQ M n calls (gQ n sz calls) (dG S o (List.replicate sz 0) calls):=by
    refine⟨⟨rfl,rfl,List.length_replicate ..,λp hp=>?_,λa=>?_,⟨(by show 0<(List.replicate sz ([]:List Int)).length;rw [List.length_replicate];exact hs0),(by show(List.replicate sz ([]:List Int)).length=(List.replicate sz 0).length;rw [List.length_replicate,List.length_replicate])⟩⟩,⟨List.length_replicate ..,List.length_replicate ..⟩,rfl,rfl,rfl,List.length_replicate ..,λp hp=>?_⟩
    · show(List.replicate n ([]:List Int)).getD p []=(List.replicate 16 ([]:List Int)).getD p []
      rw [fU,fU]
    · unfold gN
      split
      · rfl
      · exact fU sz _ _
    · show vG M calls o (cZ _) _ [] p ((List.replicate n aY).getD p aY) ((List.replicate 16 (none,0)).getD p (none,0))
      rw [hr0,h16]
      exact⟨ho p hp,rfl,λh=>by(cases h),λh=>by(cases h),λσ e=>by cases e⟩
  have h:=LP ok hnow hn hthr picks hg0 hG h0
  have Qd:∀ c,c<calls.length->0<=(calls.getD c d0).thread/\(calls.getD c d0).thread<16:=λc hc=>⟨(hthr c hc).1,by have:=(hthr c hc).2;omega⟩
  have hgE:=(zS (J:=λ_=>True) hnow Qd (λ_ _ _ _ _ _=>trivial) picks hg0 trivial).1
  have hGE:=hG picks.length
  rw [List.take_length] at hGE
  obtain⟨s,hs⟩:∃ s,s=dL dO calls (gQ n sz calls) picks:=⟨_,rfl⟩
  obtain⟨st,hst⟩:∃ st,st=eF S calls (dG S o (List.replicate sz 0) calls) picks:=⟨_,rfl⟩
  rw [<-hs,<-hst] at h
  rw [<-hst] at hgE hGE
  unfold uY
  rw [<-hs,<-hst]
  unfold Ld zO
  have he:rend late calls s n=Je S st:=by
    unfold rend Je
    rw [VO ok hn hthr hgE hGE h (List.range n) s.evs (λp hp=>List.mem_range.1 hp) (λj=>by rw [h.evs]) (by rw [h.evs]),h.evs]
    refine(yL (yF S st) n 16 st.evs hn (λy p h1 h2=>?_)).symm
    unfold yF
    cases hx:st.hands.getD p (none,0) with
    | mk x k=>
      cases x with
      | none=>rfl
      | some σ=>
        exfalso
        have hh:fQ st.hands p=some k:=by unfold fQ;rw [hx];rfl
        obtain⟨_,_,_,k4⟩:=hgE.ev.hand p k hh
        obtain⟨n1,n2,_⟩:=fC k4
        have:=(hthr _ n1).2
        omega
  rw [he,h.rw.mem,h.rw.now,h.idle]
end
section
open Go.RowKit
def QD (op:Bool) (ev:Nat) (bW:Nat) (G K:Value) (t:iZ) (own:Value):List Value:=.bool op::.int .i64 (ev:Int)::(iH bW G K t++[own])
def QV (p now:Nat):iZ:=⟨(p:Int),(now:Int),[],[],0,false,false,.slice none 0 0,0,0,.slice none 0 0,.slice none 0 0⟩
theorem gU {w:World} {b:Nat} {pre X post:List Value} {T:TypeId} (h:w.heap[b]?=some (.cells (pre++(X++post)).toArray T (0,0))) {i:Nat} (hi:i<X.length) (v:Value):(w.setCell ⟨b,pre.length+i,none⟩ v).heap[b]?=some (.cells (pre++(X.set i v++post)).toArray T (0,0)):=by
 rw [aG h,Al hi]
end
section
open Go.RowKit
structure RJ where
 bW:Nat
 bM:Nat
 bT:Nat
 bF:Nat
 bH:Nat
 bO:Nat
 bw:Option Nat
 nt:Nat
 sz:Nat
 nc:Nat
 old:Nat->Prop
abbrev HV:=Value×Value×Nat
def hv0:HV:=(undef,undef,0)
def Ra (EV:Value) (idle:Nat):Array Value:=#[EV,.slice none 0 0,.int .i64 0,.int .i64 0,.int .i64 0,.int .i64 0,.int .i64 0,.int .i64 0,.int .i64 (idle:Int)]
def RMx (J:RJ) (p:Nat) (vs:List HV) (EV:Value) (b:Nat):Prop:=b=J.bF∨(b=J.bO∨J.old b)∨EV.ownBlock=some b∨∃ q,q<J.nt/\((vs.getD q hv0).2.2=b∨(q≠p/\((vs.getD q hv0).1.ownBlock=some b∨(vs.getD q hv0).2.1.ownBlock=some b)))
def eZ (J:RJ) (p:Nat) (hl:List Value) (vs:List HV) (EV:Value):wN:=⟨J.bH,hl.take (16*p+2),hl.drop (16*p+15),100,J.bW,J.bw,J.bM,J.bT,J.nt,J.sz,RMx J p vs EV⟩
def iB (J:RJ) (vs:List HV) (L EV:Value) (b:Nat):Prop:=b=J.bW∨b=J.bM∨b=J.bT∨b=J.bF∨b=J.bH∨(b=J.bO∨J.old b)∨J.bw=some b∨L.ownBlock=some b∨EV.ownBlock=some b∨∃ q,q<J.nt/\((vs.getD q hv0).2.2=b∨(vs.getD q hv0).1.ownBlock=some b∨(vs.getD q hv0).2.1.ownBlock=some b)
structure vW (w:World) (Mut:Nat->Prop) (bW:Nat) (hl:List Value) (p:Nat) (h:dW) (v:HV):Prop where
 opn:h.opn=true->(∃ a f ha PV er vl LV KV pl ll kl,(∀ j,j<13->hl[16*p+2+j]?=(iH bW v.1 v.2.1 ⟨(p:Int),(h.inv:Int),h.got,h.ticks,a,f,ha,PV,er,vl,LV,KV⟩)[j]?)/\a<=h.got.length/\fK w Mut PV pl/\KR w Mut LV ll/\Lst w Mut KV kl)/\w.ownsRow 0 46 1 v.1 h.got.length (h.got.map bI)/\w.ownsRow 0 3 1 v.2.1 h.ticks.length (h.ticks.map Bv)/\h.ticks.length=h.got.length
 cl:h.opn=false->v.1=.slice none 0 0/\v.2.1=.slice none 0 0
structure yY (w0 w:World) (Mut:Nat->Prop) (J:RJ) (P:Nat->Prop) (s:dS) (hl:List Value) (vs:List HV) (ea:Option Addr) (ec:Nat) (ers:List (Value×Value)):Prop where
 below:Below w0.heap.size w0 w
 fin:w.heap[J.bF]?=some (.cells (s.fin.map Value.bool).toArray 4 (0,0))
 flen:s.fin.length=J.nc
 lens:hl.length=16*J.nt/\vs.length=J.nt/\s.hands.length=J.nt/\ers.length=s.evs.length
 c0:∀ q,q<J.nt->hl[16*q]?=some (.bool (s.hands.getD q aY).opn)
 c1:∀ q,q<J.nt->(s.hands.getD q aY).opn=true->hl[16*q+1]?=some (.int .i64 ((s.hands.getD q aY).ev:Int))
 c15:∀ q,q<J.nt->hl[16*q+15]?=some (.slice (some ⟨(vs.getD q hv0).2.2,0,none⟩) 1 1)
 own:∀ q,q<J.nt->∃ OV,w.heap[(vs.getD q hv0).2.2]?=some (.cells #[OV] 28 (0,0))/\fK w Mut OV (s.hands.getD q aY).own
 hand:∀ q,q<J.nt->P q->vW w Mut J.bW hl q (s.hands.getD q aY) (vs.getD q hv0)
 out:w.heap[J.bO]?=some (.cells (Ra (.slice ea s.evs.length ec) s.idle) 32 (0,0))
 evs:w.ownsRow w0.heap.size 52 8 (.slice ea s.evs.length ec) s.evs.length (iP s.evs ers)
 lie:∀ i,i<s.evs.length->fK w Mut (ers.getD i wT).1 (s.evs.getD i iO).ans.list/\Lst w Mut (ers.getD i wT).2 (s.evs.getD i iO).key
 gg:∀ p q,p<J.nt->q<J.nt->P p->P q->p≠q->∀ b,(vs.getD p hv0).1.ownBlock=some b->(vs.getD q hv0).1.ownBlock≠some b
 kk:∀ p q,p<J.nt->q<J.nt->P p->P q->p≠q->∀ b,(vs.getD p hv0).2.1.ownBlock=some b->(vs.getD q hv0).2.1.ownBlock≠some b
 oo:∀ p q,p<J.nt->q<J.nt->p≠q->(vs.getD p hv0).2.2≠(vs.getD q hv0).2.2
 ge:w0.heap.size<=J.bF/\w0.heap.size<=J.bO/\w0.heap.size<=J.bH/\w0.heap.size<=J.bW/\w0.heap.size<=J.bM/\w0.heap.size<=J.bT/\(∀ q,J.bw=some q->w0.heap.size<=q)/\∀ q,q<J.nt->w0.heap.size<=(vs.getD q hv0).2.2/\(P q->(∀ b,(vs.getD q hv0).1.ownBlock=some b->w0.heap.size<=b)/\∀ b,(vs.getD q hv0).2.1.ownBlock=some b->w0.heap.size<=b)
 wb:∀ b,J.bw=some b->∃ cs fz,w.heap[b]?=some (.cells cs 46 fz)
 wg:∀ b,J.bw=some b->∀ q,q<J.nt->P q->(vs.getD q hv0).1.ownBlock≠some b
 res:∀ b,J.old b->b<w0.heap.size
structure fM (w0 w:World) (J:RJ) (s:dS) (hl:List Value) (vs:List HV) (L:Value) (ea:Option Addr) (ec:Nat) (ers:List (Value×Value)):Prop where
 rest:yY w0 w (iB J vs L (.slice ea s.evs.length ec)) J (λ_=>True) s hl vs ea ec ers
 hb:w.heap[J.bH]?=some (.cells hl.toArray 100 (0,0))
 mem:fP w J.bW 93 [.int .i64 (s.rw.now:Int),.slice (some ⟨J.bM,0,none⟩) J.nt J.nt,.slice (some ⟨J.bT,0,none⟩) J.sz J.sz,L] J.bw s.rw.mem
 log:∃ n xs,n<=s.rw.mem.c.all/\w.ownsRow 0 212 6 L n xs
 logge:∀ b,L.ownBlock=some b->w0.heap.size<=b
 marks:iU w (iB J vs L (.slice ea s.evs.length ec)) J.bM J.nt s.rw.marks
 traces:iU w (iB J vs L (.slice ea s.evs.length ec)) J.bT J.sz s.rw.traces
 mt:J.bM≠J.bT
def jA (w0 w:World) (J:RJ) (s:dS):Prop:=∃ hl vs L ea ec ers,fM w0 w J s hl vs L ea ec ers
variable {w0 w w':World} {J:RJ} {s:dS} {hl:List Value} {vs:List HV} {L:Value} {ea:Option Addr} {ec:Nat} {ers:List (Value×Value)} {Mut Mut':Nat->Prop} {P:Nat->Prop} {p:Nat}
theorem vW.keep {S:Nat->Prop} {bW:Nat} {h:dW} {v:HV} (H:vW w Mut bW hl p h v) (hc:Chg S w w') (hS:∀ b,S b->Mut b) (hm:aN Mut w Mut') (hg:∀ b,v.1.ownBlock=some b->¬ S b) (hk:∀ b,v.2.1.ownBlock=some b->¬ S b):vW w' Mut' bW hl p h v:=
 ⟨λe=>by
  obtain⟨⟨a,f,ha,PV,er,vl,LV,KV,pl,ll,kl,h1,h6,h5,h7,h8⟩,h2,h3,h4⟩:=H.opn e
  exact⟨⟨a,f,ha,PV,er,vl,LV,KV,pl,ll,kl,h1,h6,h5.keep hc hS hm,h7.keep hc hS hm,h8.keep hc hS hm⟩,bB h2 hc hg,bB h3 hc hk,h4⟩,H.cl⟩
theorem Chg.old {S:Nat->Prop} (hc:Chg S w w'):Chg (λb=>S b/\b<w.heap.size) w w':=⟨hc.os,hc.tape,hc.output,hc.size,λk hk hn=>hc.block k hk (λhs=>hn ⟨hs,hk⟩)⟩
theorem yY.turn {S:Nat->Prop} {s':dS} {ea':Option Addr} {ec':Nat} {ers':List (Value×Value)} (h:yY w0 w Mut J P s hl vs ea ec ers) (hc:Chg S w w') (hS:∀ b,b<w.heap.size->S b->Mut b) (hm:aN Mut w Mut') (hge:∀ b,S b->w0.heap.size<=b)
  (hd:∀ b,S b->∀ q,q<J.nt->(vs.getD q hv0).2.2≠b/\(P q->(vs.getD q hv0).1.ownBlock≠some b/\(vs.getD q hv0).2.1.ownBlock≠some b)) (hwt:∀ b,S b->J.bw=some b->∃ cs fz,w'.heap[b]?=some (.cells cs 46 fz))
  (eh:s'.hands=s.hands) (hfin:w'.heap[J.bF]?=some (.cells (s'.fin.map Value.bool).toArray 4 (0,0))) (hfl:s'.fin.length=J.nc) (hel:ers'.length=s'.evs.length) (hout:w'.heap[J.bO]?=some (.cells (Ra (.slice ea' s'.evs.length ec') s'.idle) 32 (0,0)))
  (hev:w'.ownsRow w0.heap.size 52 8 (.slice ea' s'.evs.length ec') s'.evs.length (iP s'.evs ers')) (hlie:∀ i,i<s'.evs.length->fK w' Mut' (ers'.getD i wT).1 (s'.evs.getD i iO).ans.list/\Lst w' Mut' (ers'.getD i wT).2 (s'.evs.getD i iO).key) :
  yY w0 w' Mut' J P s' hl vs ea' ec' ers':=by
 have hc':=hc.old
 have hS':∀ b,(S b/\b<w.heap.size)->Mut b:=λb hb=>hS b hb.2 hb.1
 refine⟨h.below.trans (hc.below hge h.below.size),hfin,hfl,⟨h.lens.1,h.lens.2.1,by rw [eh];exact h.lens.2.2.1,hel⟩,by rw [eh];exact h.c0,by rw [eh];exact h.c1,h.c15,λq hq=>?_,λq hq hP=>?_,hout,hev,hlie,h.gg,h.kk,h.oo,h.ge,λb hb=>?_,h.wg,h.res⟩
 ·rw [eh]
  obtain⟨OV,h1,h2⟩:=h.own q hq
  exact⟨OV,(hc.block _ (aC h1) (λhs=>(hd _ hs q hq).1 rfl)).trans h1,h2.keep hc' hS' hm⟩
 ·rw [eh]
  exact(h.hand q hq hP).keep hc' hS' hm (λb e hs=>((hd b hs.1 q hq).2 hP).1 e) (λb e hs=>((hd b hs.1 q hq).2 hP).2 e)
 ·obtain⟨cs,fz,h1⟩:=h.wb b hb
  rcases Classical.em (S b) with hs|hs
  ·exact hwt b hs hb
  ·exact⟨cs,fz,(hc.block _ (aC h1) hs).trans h1⟩
theorem yY.lies {S:Nat->Prop} (h:yY w0 w Mut J P s hl vs ea ec ers) (hc:Chg S w w') (hS:∀ b,b<w.heap.size->S b->Mut b) (hm:aN Mut w Mut'):∀ i,i<s.evs.length->fK w' Mut' (ers.getD i wT).1 (s.evs.getD i iO).ans.list/\Lst w' Mut' (ers.getD i wT).2 (s.evs.getD i iO).key:=
 λi hi=>⟨(h.lie i hi).1.keep hc.old (λb hb=>hS b hb.2 hb.1) hm,(h.lie i hi).2.keep hc.old (λb hb=>hS b hb.2 hb.1) hm⟩
theorem yY.keep {S:Nat->Prop} (h:yY w0 w Mut J P s hl vs ea ec ers) (hc:Chg S w w') (hS:∀ b,b<w.heap.size->S b->Mut b) (hm:aN Mut w Mut') (hge:∀ b,S b->w0.heap.size<=b)
  (hd:∀ b,S b->b≠J.bF/\b≠J.bO/\(Value.slice ea s.evs.length ec).ownBlock≠some b/\∀ q,q<J.nt->(vs.getD q hv0).2.2≠b/\(P q->(vs.getD q hv0).1.ownBlock≠some b/\(vs.getD q hv0).2.1.ownBlock≠some b)) (hwt:∀ b,S b->J.bw=some b->∃ cs fz,w'.heap[b]?=some (.cells cs 46 fz)):yY w0 w' Mut' J P s hl vs ea ec ers:=
 h.turn hc hS hm hge (λb hs=>(hd b hs).2.2.2) hwt rfl ((hc.block _ (aC h.fin) (λhs=>(hd _ hs).1 rfl)).trans h.fin) h.flen h.lens.2.2.2 ((hc.block _ (aC h.out) (λhs=>(hd _ hs).2.1 rfl)).trans h.out) (bB h.evs hc (λb e hs=>(hd b hs).2.2.1 e)) (h.lies hc hS hm)
theorem yY.grown (h:yY w0 w Mut J P s hl vs ea ec ers) (hb:Below w.heap.size w w'):yY w0 w' Mut J P s hl vs ea ec ers:=
 h.keep (S:=noB) (Chg.of_below hb) (λ_ _ h=>h.elim) (aN.refl _ _) (λ_ h=>h.elim) (λ_ h=>h.elim) (λ_ h=>h.elim)
theorem fM.grown (h:fM w0 w J s hl vs L ea ec ers) (hb:Below w.heap.size w w'):fM w0 w' J s hl vs L ea ec ers:=by
 obtain⟨n,xs,hn,ZM⟩:=h.log
 exact⟨h.rest.grown hb,(hb.block _ (aC h.hb)).trans h.hb,h.mem.chg (S:=noB) (Chg.of_below hb) (λh=>h) (λ_ _ h=>h),⟨n,xs,hn,dV ZM hb⟩,h.logge,h.marks.keep (S:=noB) (Chg.of_below hb) (λ_ h=>h.elim) (aN.refl _ _) (λh=>h),h.traces.keep (S:=noB) (Chg.of_below hb) (λ_ h=>h.elim) (aN.refl _ _) (λh=>h),h.mt⟩
theorem jA.grown (h:jA w0 w J s) (hb:Below w.heap.size w w'):jA w0 w' J s:=by obtain⟨hl,vs,L,ea,ec,ers,h1⟩:=h;exact⟨hl,vs,L,ea,ec,ers,h1.grown hb⟩
theorem dB {w:World} {b b':Nat} {c c':Array Value} {T T':TypeId} {fz fz':Nat×Nat} (h:w.heap[b]?=some (.cells c T fz)) (h':w.heap[b']?=some (.cells c' T' fz')) (hT:T≠T'):b≠b':=λe=>by
 rw [e,h'] at h
 simp only [Option.some.injEq,Obj.cells.injEq] at h
 exact hT h.2.1.symm
structure ND (w:World) (J:RJ) (vs:List HV) (L EV:Value) (P:Nat->Prop):Prop where
 W:∃ c,w.heap[J.bW]?=some (.cells c 93 (0,0))
 M:∃ c,w.heap[J.bM]?=some (.cells c 24 (0,0))
 T:∃ c,w.heap[J.bT]?=some (.cells c 24 (0,0))
 F:∃ c,w.heap[J.bF]?=some (.cells c 4 (0,0))
 H:∃ c,w.heap[J.bH]?=some (.cells c 100 (0,0))
 O:∃ c,w.heap[J.bO]?=some (.cells c 32 (0,0))
 U:∀ b,J.bw=some b->∃ c fz,w.heap[b]?=some (.cells c 46 fz)
 L:∀ b,L.ownBlock=some b->∃ c fz,w.heap[b]?=some (.cells c 212 fz)
 E:∀ b,EV.ownBlock=some b->∃ c fz,w.heap[b]?=some (.cells c 52 fz)
 o:∀ q,q<J.nt->∃ c,w.heap[(vs.getD q hv0).2.2]?=some (.cells c 28 (0,0))
 G:∀ q,q<J.nt->P q->∀ b,(vs.getD q hv0).1.ownBlock=some b->∃ c fz,w.heap[b]?=some (.cells c 46 fz)
 K:∀ q,q<J.nt->P q->∀ b,(vs.getD q hv0).2.1.ownBlock=some b->∃ c fz,w.heap[b]?=some (.cells c 3 fz)
theorem vW.ty {bW:Nat} {h:dW} {v:HV} (H:vW w Mut bW hl p h v):(∀ b,v.1.ownBlock=some b->∃ c fz,w.heap[b]?=some (.cells c 46 fz))/\∀ b,v.2.1.ownBlock=some b->∃ c fz,w.heap[b]?=some (.cells c 3 fz):=by
 cases ho:h.opn with
 | true=>
  obtain⟨_,h2,h3,_⟩:=H.opn ho
  exact⟨λb e=>gG h2 e,λb e=>gG h3 e⟩
 | false=>
  obtain⟨h1,h2⟩:=H.cl ho
  exact⟨λb e=>by(rw [h1] at e;cases e),λb e=>by(rw [h2] at e;cases e)⟩
theorem fM.ty (h:fM w0 w J s hl vs L ea ec ers):ND w J vs L (.slice ea s.evs.length ec) (λ_=>True):=by
 obtain⟨_,_,_,hW,_⟩:=h.mem.blk
 obtain⟨_,hM,_⟩:=h.marks.blk
 obtain⟨_,hT,_⟩:=h.traces.blk
 obtain⟨n,xs,hn,hlg⟩:=h.log
 exact⟨⟨_,hW⟩,⟨_,hM⟩,⟨_,hT⟩,⟨_,h.rest.fin⟩,⟨_,h.hb⟩,⟨_,h.rest.out⟩,h.rest.wb,λb e=>gG hlg e,λb e=>gG h.rest.evs e,λq hq=>by obtain⟨_,h1,_⟩:=h.rest.own q hq;exact⟨_,h1⟩,λq hq _=>(h.rest.hand q hq trivial).ty.1,λq hq _=>(h.rest.hand q hq trivial).ty.2⟩
end
end Go.Proofs.YtfkokppncipgnaaGreat
