/- A reference's play in plain numbers; it is the loom's, where each of an object's steps is what the reference's run of its operation comes to. -/
import Derived.Test.YtfkokppncipgnaaGreatV08
import Derived.Test.YtfkokppncipgnaaGreatV15
import Derived.Test.YtfkokppncipgnaaGreatV05
import Derived.Deep.Cut
set_option maxRecDepth 100000
set_option linter.unusedVariables false
set_option linter.unusedSimpArgs false
set_option linter.unnecessarySimpa false
namespace Go.Proofs.YtfkokppncipgnaaGreat
section
open Go.RowKit
structure RHand where
  opn:Bool
  ev:Nat
  inv:Nat
  got:List Nat
  ticks:List Int
  own:List Nat
def rh0:RHand:=⟨false,0,0,[],[],[]⟩
structure RefS where
  rw:RWD
  fin:List Bool
  evs:List EvD
  idle:Nat
  hands:List RHand
def RHand.tape (h:RHand) (p:Nat):TapeP:=⟨p,h.inv,h.got,h.ticks,0,true,false,h.own,0,0,[],[]⟩
def RWD.tick (r:RWD):RWD:={ r with now:=r.now+1 }
def RWD.begin (r:RWD) (p:Nat):RWD:={ r with marks:=r.marks.set p [] }
def rdo (dO:CallD->TapeP->RWD->TapeP×RWD) (c:CallD) (t:TapeP) (r:RWD):TapeP×RWD:=if c.obj≠0 then ({ t with err:=12 },r) else dO c t r
def rkey (r:RWD) (p:Nat) (k:List Int):List Int:=if k=[] then (if r.marks.getD p []=[] then [2*(r.now:Int)] else r.marks.getD p []) else k
def rdone (r:RWD) (p:Nat) (t:TapeP) (e:EvD):EvD:={ e with resp:=r.now,ans:=⟨t.err,t.val,t.list⟩,key:=rkey r p t.key }
def rbegin (s:RefS) (p i:Nat):RefS:={ s with rw:=s.rw.begin p,evs:=s.evs++[⟨i,s.rw.now,0,0,ans0,[]⟩],hands:=s.hands.set p ⟨true,s.evs.length,s.rw.now,[],[],(s.hands.getD p rh0).own⟩ }
def ropen (s:RefS) (p i:Nat):RefS:=if (s.hands.getD p rh0).opn=true then s else rbegin s p i
def rgo (dO:CallD->TapeP->RWD->TapeP×RWD) (s:RefS) (p i:Nat) (c:CallD):RefS:=
  if (rdo dO c ((s.hands.getD p rh0).tape p) s.rw).1.halt=true then
    { s with rw:=(rdo dO c ((s.hands.getD p rh0).tape p) s.rw).2,evs:=modEv s.evs (s.hands.getD p rh0).ev stepEv,hands:=s.hands.set p { s.hands.getD p rh0 with got:=(rdo dO c ((s.hands.getD p rh0).tape p) s.rw).1.got,ticks:=(rdo dO c ((s.hands.getD p rh0).tape p) s.rw).1.ticks } }
  else { s with rw:=(rdo dO c ((s.hands.getD p rh0).tape p) s.rw).2,fin:=s.fin.set i true,
                evs:=modEv (modEv s.evs (s.hands.getD p rh0).ev stepEv) (s.hands.getD p rh0).ev (rdone (rdo dO c ((s.hands.getD p rh0).tape p) s.rw).2 p (rdo dO c ((s.hands.getD p rh0).tape p) s.rw).1),
                hands:=s.hands.set p { s.hands.getD p rh0 with opn:=false,got:=(rdo dO c ((s.hands.getD p rh0).tape p) s.rw).1.got,ticks:=(rdo dO c ((s.hands.getD p rh0).tape p) s.rw).1.ticks,own:=if c.obj=0 then (rdo dO c ((s.hands.getD p rh0).tape p) s.rw).1.priv else (s.hands.getD p rh0).own } }
def rpick (dO:CallD->TapeP->RWD->TapeP×RWD) (calls:List CallD) (s:RefS) (p:Int):RefS:=
  match nowN calls s.fin p with
  | none=>{ s with idle:=s.idle+1 }
  | some i=>rgo dO (ropen { s with rw:=s.rw.tick } p.toNat i) p.toNat i (calls.getD i d0)
def ref0 (n sz:Nat) (calls:List CallD):RefS:=⟨⟨⟨List.replicate sz 0,c0⟩,0,List.replicate n [],List.replicate sz []⟩,List.replicate calls.length false,[],0,List.replicate n rh0⟩
def rpicks (dO:CallD->TapeP->RWD->TapeP×RWD) (calls:List CallD) (s:RefS) (picks:List Int):RefS:=picks.foldl (rpick dO calls) s
def rendEv (late:CallD->Nat->RHand->RWD->List Int) (calls:List CallD) (s:RefS) (evs:List EvD) (p:Nat):List EvD:=
  if (s.hands.getD p rh0).opn=true then modEv evs (s.hands.getD p rh0).ev (λe=>{ e with key:=late (calls.getD e.call d0) p (s.hands.getD p rh0) s.rw }) else evs
def rend (late:CallD->Nat->RHand->RWD->List Int) (calls:List CallD) (s:RefS) (n:Nat):List EvD:=(List.range n).foldl (rendEv late calls s) s.evs
def rrep (late:CallD->Nat->RHand->RWD->List Int) (calls:List CallD) (s:RefS) (n:Nat):RepD:=⟨rend late calls s n,s.rw.mem.ws,s.rw.mem.c,s.rw.now,s.idle⟩
def TlOk (r:RWD):Prop:=0<r.traces.length/\r.traces.length=r.mem.ws.length
theorem TlOk.acc {r:RWD} (h:TlOk r) {m m':MemD} (e:r.mem=m') (hl:m.ws.length=m'.ws.length):TlOk { r with mem:=m }:=⟨h.1,h.2.trans (by rw [e];exact hl.symm)⟩
structure RwSim (n:Nat) (r:RWD) (wd:WD):Prop where
  mem:r.mem=wd.mem
  now:r.now=wd.now
  mlen:r.marks.length=n
  marks:∀ p,p<n->r.marks.getD p []=wd.marks.getD p []
  tr:∀ a,traceP a r=wd.traces a
  tl:TlOk r
structure Wd16 (wd:WD):Prop where
  inv:wd.inv.length=16
  marks:wd.marks.length=16
structure RefSim (S:Sys) where
  Rel:S.ω->RWD->Nat->CallD->RHand->S.σ->Prop
  Own:S.ω->Nat->List Nat->Prop
structure HandSim {S:Sys} (M:RefSim S) (calls:List CallD) (o:S.ω) (wd:WD) (r:RWD) (evs:List EvD) (p:Nat) (h:RHand) (x:Option S.σ×Nat):Prop where
  own:M.Own o p h.own
  opn:h.opn=x.1.isSome
  ev:h.opn=true->h.ev=x.2
  inv:h.opn=true->h.inv=wd.inv.getD p 0
  rel:∀ σ,x.1=some σ->M.Rel o r p (calls.getD (evAt evs x.2).call d0) h σ/\(calls.getD (evAt evs x.2).call d0).obj=0
structure PSim {S:Sys} (M:RefSim S) (n:Nat) (calls:List CallD) (s:RefS) (st:PlayD S):Prop where
  rw:RwSim n s.rw st.wd
  w16:Wd16 st.wd
  fin:s.fin=st.fin
  evs:s.evs=st.evs
  idle:s.idle=st.idle
  hlen:s.hands.length=n
  hand:∀ p,p<n->HandSim M calls st.obj st.wd s.rw st.evs p (s.hands.getD p rh0) (st.hands.getD p (none,0))
structure StepSim {S:Sys} (M:RefSim S) (n:Nat) (p:Nat) (c:CallD) (h:RHand) (o:S.ω) (r:RWD) (σ:S.σ) (wd:WD) (z:TapeP×RWD):Prop where
  rw:RwSim n z.2 (S.step o wd p σ).2.1
  inv:(S.step o wd p σ).2.1.inv=wd.inv
  mkl:(S.step o wd p σ).2.1.marks.length=wd.marks.length
  halt:z.1.halt=!(S.step o wd p σ).2.2.2
  ans:z.1.halt=false->(⟨z.1.err,z.1.val,z.1.list⟩:AnsD)=(S.answer (S.step o wd p σ).2.2.1).1/\rkey z.2 p z.1.key=keyOf (S.step o wd p σ).2.1 p (S.answer (S.step o wd p σ).2.2.1).2/\M.Own (S.step o wd p σ).1 p z.1.priv
  go:z.1.halt=true->M.Rel (S.step o wd p σ).1 z.2 p c { h with got:=z.1.got,ticks:=z.1.ticks } (S.step o wd p σ).2.2.1/\M.Own (S.step o wd p σ).1 p h.own
structure RefOk (S:Sys) (M:RefSim S) (n:Nat) (dO:CallD->TapeP->RWD->TapeP×RWD) (late:CallD->Nat->RHand->RWD->List Int) (calls:List CallD) (Good:PlayD S->Prop):Prop where
  refuse:∀(st:PlayD S) (c:CallD) (p:Nat) (h:RHand) (e:Int) (r:RWD),Good st->c.obj=0->p<n->M.Own st.obj p h.own->S.start st.obj (st.wd.tick.begin p) p c=.refuse e->RwSim n r (st.wd.tick.begin p)->h.got=[]->h.ticks=[]->
    ∃ t',dO c (h.tape p) r=(t',r)/\t'.halt=false/\t'.err=e/\t'.val=0/\t'.list=[]/\t'.key=[]/\M.Own st.obj p t'.priv
  start:∀(st:PlayD S) (c:CallD) (p:Nat) (h:RHand) (σ:S.σ) (r:RWD),Good st->c.obj=0->c.thread=(p:Int)->p<n->M.Own st.obj p h.own->S.start st.obj (st.wd.tick.begin p) p c=.run σ->RwSim n r (st.wd.tick.begin p)->h.got=[]->h.ticks=[]->h.inv=st.wd.now+1->M.Rel st.obj r p c h σ
  step:∀(st:PlayD S) (c:CallD) (p:Nat) (h:RHand) (σ:S.σ) (r:RWD) (wd:WD) (k:Nat) (evs0:List EvD),Good st->From calls st p (evAt evs0 k).call k σ evs0 wd->c=calls.getD (evAt evs0 k).call d0->p<n->h.inv=wd.inv.getD p 0->M.Own st.obj p h.own->M.Rel st.obj r p c h σ->RwSim n r wd->c.obj=0->StepSim M n p c h st.obj r σ wd (dO c (h.tape p) r)
  ownOther:∀(st:PlayD S) (p:Nat) (σ:S.σ) (wd:WD) (k:Nat) (evs0:List EvD) (q:Nat) (own:List Nat),Good st->From calls st p (evAt evs0 k).call k σ evs0 wd->q≠p->M.Own st.obj q own->M.Own (S.step st.obj wd p σ).1 q own
  relOther:∀(st:PlayD S) (p:Nat) (σ:S.σ) (wd:WD) (k:Nat) (evs0:List EvD) (r:RWD) (q:Nat) (c:CallD) (h:RHand) (σ':S.σ) (r':RWD),Good st->From calls st p (evAt evs0 k).call k σ evs0 wd->q≠p->st.hands.getD q (none,0)=(some σ',h.ev)->M.Rel st.obj r q c h σ'->RwSim n r' (S.step st.obj wd p σ).2.1->M.Rel (S.step st.obj wd p σ).1 r' q c h σ'
  relTick:∀(o:S.ω) (r:RWD) (p:Nat) (c:CallD) (h:RHand) (σ:S.σ),M.Rel o r p c h σ->M.Rel o r.tick p c h σ
  relBegin:∀(o:S.ω) (r:RWD) (p:Nat) (c:CallD) (h:RHand) (σ:S.σ) (q:Nat),M.Rel o r p c h σ->M.Rel o (r.begin q) p c h σ
  late:∀(st:PlayD S) (c:CallD) (p:Nat) (h:RHand) (σ:S.σ) (r:RWD),Good st->st.hands.getD p (none,0)=(some σ,h.ev)->h.inv=st.wd.inv.getD p 0->M.Rel st.obj r p c h σ->RwSim n r st.wd->p<n->late c p h r=(S.late st.obj st.wd p σ).getD (st.wd.marks.getD p [])
variable {S:Sys} {M:RefSim S} {n:Nat} {dO:CallD->TapeP->RWD->TapeP×RWD} {late:CallD->Nat->RHand->RWD->List Int} {calls:List CallD} {Good:PlayD S->Prop}
theorem ev1_call (r:S.ω×WD×S.σ×Bool) (q:Nat) (e:EvD):(ev1 S r q e).call=e.call:=by unfold ev1 finishEv stepEv;split<;>rfl
theorem HandSim.evs {o:S.ω} {wd:WD} {r:RWD} {evs evs':List EvD} {p:Nat} {h:RHand} {x:Option S.σ×Nat} (hs:HandSim M calls o wd r evs p h x) (he:(evAt evs' x.2).call=(evAt evs x.2).call):HandSim M calls o wd r evs' p h x:=
  ⟨hs.own,hs.opn,hs.ev,hs.inv,λσ e=>by rw [he];exact hs.rel σ e⟩
theorem rsim_go (ok:RefOk S M n dO late calls Good) {s1:RefS} {st:PlayD S} {q i k:Nat} {σ:S.σ} {evs0:List EvD} {wd0:WD} (hg:StGood calls st) (hG:Good st) (hn:n<=16) (hf:From calls st q i k σ evs0 wd0) (hq:q<n) (hc0:(calls.getD i d0).obj=0)
    (e1:s1.fin=st.fin) (e2:s1.evs=evs0) (e3:s1.idle=st.idle) (hl:s1.hands.length=n) (hrw:RwSim n s1.rw wd0) (hW:Wd16 wd0) (ho:(s1.hands.getD q rh0).opn=true) (hev:(s1.hands.getD q rh0).ev=k) (hinv:(s1.hands.getD q rh0).inv=wd0.inv.getD q 0)
    (hown:M.Own st.obj q (s1.hands.getD q rh0).own) (hrel:M.Rel st.obj s1.rw q (calls.getD i d0) (s1.hands.getD q rh0) σ) (hoth:∀ p,p<n->p≠q->HandSim M calls st.obj wd0 s1.rw evs0 p (s1.hands.getD p rh0) (st.hands.getD p (none,0))) :
    PSim M n calls (rgo dO s1 q i (calls.getD i d0)) (stepTo st (S.step st.obj wd0 q σ) q i k evs0):=by
  have hcall:=hf.call
  have hk:=hf.len
  obtain⟨h,hh⟩:∃ h,h=s1.hands.getD q rh0:=⟨_,rfl⟩
  obtain⟨c,hc⟩:∃ c,c=calls.getD i d0:=⟨_,rfl⟩
  have hz:rdo dO c (h.tape q) s1.rw=dO c (h.tape q) s1.rw:=by unfold rdo;rw [if_neg (by rw [hc];exact λx=>x hc0)]
  rw [<-hh] at ho hev hinv hown hrel
  rw [<-hc] at hrel hc0 ⊢
  have SS:=ok.step st c q h σ s1.rw wd0 k evs0 hG (by rw [hcall];exact hf) (by rw [hcall];exact hc) hq hinv hown hrel hrw hc0
  obtain⟨z,hzz⟩:∃ z,z=dO c (h.tape q) s1.rw:=⟨_,rfl⟩
  obtain⟨y,hy⟩:∃ y,y=S.step st.obj wd0 q σ:=⟨_,rfl⟩
  have hq16:q<st.hands.length:=by rw [hg.h16];omega
  have hql:q<s1.hands.length:=by omega
  have hxe:∀ j,(evAt (evs0.set k (ev1 S y q (evAt evs0 k))) j).call=(evAt evs0 j).call:=λj=>by
    rw [evAt_set _ hk]
    split
    · rename_i e;rw [ev1_call,e]
    · rfl
  have other:∀ p,p<n->p≠q->∀ h',s1.hands.getD p rh0=h'->HandSim M calls y.1 y.2.1 z.2 (evs0.set k (ev1 S y q (evAt evs0 k))) p h' (st.hands.getD p (none,0)):=λp hp hpq h' e=>by
    subst e
    have H:=hoth p hp hpq
    refine⟨by rw [hy];exact ok.ownOther st q σ wd0 k evs0 p _ hG (by rw [hcall];exact hf) hpq H.own,H.opn,H.ev,λh9=>by rw [H.inv h9,hy,SS.inv],λσ' e=>?_⟩
    rw [hxe]
    obtain⟨r1,r2⟩:=H.rel σ' e
    refine⟨?_,r2⟩
    rw [hy]
    have h9:(s1.hands.getD p rh0).opn=true:=by rw [H.opn,e];rfl
    exact ok.relOther st q σ wd0 k evs0 s1.rw p _ _ σ' z.2 hG (by rw [hcall];exact hf) hpq (Prod.ext e (H.ev h9).symm) r1 (by rw [hzz];exact SS.rw)
  have hSS:StepSim M n q c h st.obj s1.rw σ wd0 z:=by rw [hzz];exact SS
  unfold rgo
  rw [<-hh,hz,<-hzz]
  unfold stepTo
  rw [<-hy]
  cases hd:y.2.2.2 with
  | true=>
    have hhalt:z.1.halt=false:=by rw [hSS.halt,<-hy,hd];rfl
    obtain⟨a1,a2,a3⟩:=hSS.ans hhalt
    rw [<-hy] at a1 a2 a3
    rw [if_neg (by rw [hhalt];exact Bool.false_ne_true)]
    refine⟨by rw [hy];exact hSS.rw,⟨by rw [hy,hSS.inv];exact hW.inv,by rw [hy,hSS.mkl];exact hW.marks⟩,?_,?_,e3,by simpa using hl,λp hp=>?_⟩
    · simp only [if_true,e1]
    · have hev1:ev1 S y q (evAt evs0 k)=rdone z.2 q z.1 (stepEv (evAt evs0 k)):=by
        unfold ev1 finishEv rdone stepEv
        rw [if_pos hd,a1,a2,show z.2.now=y.2.1.now from by rw [hy];exact hSS.rw.now]
      show modEv (modEv s1.evs h.ev stepEv) h.ev (rdone z.2 q z.1)=evs0.set k (ev1 S y q (evAt evs0 k))
      rw [e2,hev,hev1]
      have h9:evAt (evs0.set k (stepEv (evAt evs0 k))) k=stepEv (evAt evs0 k):=by rw [evAt_set _ hk,if_pos rfl]
      unfold modEv
      rw [List.set_set]
      exact congrArg (λe=>evs0.set k (rdone z.2 q z.1 e)) h9
    · by_cases hpq:p=q
      · subst hpq
        simp only
        rw [getD_set_eq hql,getD_set_eq hq16]
        exact⟨by simp only;rw [if_pos hc0];exact a3,rfl,λh9=>by(cases h9),λh9=>by(cases h9),λσ' e=>by(cases e)⟩
      · simp only
        rw [getD_set_neq (Ne.symm hpq),getD_set_neq (Ne.symm hpq)]
        exact other p hp hpq _ rfl
  | false=>
    have hhalt:z.1.halt=true:=by rw [hSS.halt,<-hy,hd];rfl
    obtain⟨a1,a2⟩:=hSS.go hhalt
    rw [<-hy] at a1 a2
    rw [if_pos hhalt]
    refine⟨by rw [hy];exact hSS.rw,⟨by rw [hy,hSS.inv];exact hW.inv,by rw [hy,hSS.mkl];exact hW.marks⟩,?_,?_,e3,by simpa using hl,λp hp=>?_⟩
    · simp only [Bool.false_eq_true,if_false,e1]
    · have hev1:ev1 S y q (evAt evs0 k)=stepEv (evAt evs0 k):=by
        unfold ev1
        rw [if_neg (by rw [hd];exact Bool.false_ne_true)]
      show modEv s1.evs h.ev stepEv=evs0.set k (ev1 S y q (evAt evs0 k))
      rw [e2,hev,hev1]
      rfl
    · by_cases hpq:p=q
      · subst hpq
        simp only [Bool.false_eq_true,if_false]
        rw [getD_set_eq hql,getD_set_eq hq16]
        refine⟨a2,by simp only;exact ho,λ_=>hev,λ_=>by rw [hy,hSS.inv];exact hinv,λσ' e=>?_⟩
        cases e
        simp only
        rw [hxe,hcall,<-hc]
        exact⟨a1,hc0⟩
      · simp only [Bool.false_eq_true,if_false]
        rw [getD_set_neq (Ne.symm hpq),getD_set_neq (Ne.symm hpq)]
        exact other p hp hpq _ rfl
theorem marks_begin {l l':List (List Int)} {n:Nat} (hn:n<=l'.length) (hl:l.length=n) (h:∀ p,p<n->l.getD p []=l'.getD p []) (q:Nat) (hq:q<n):∀ p,p<n->(l.set q []).getD p []=(l'.set q []).getD p []:=λp hp=>by
  by_cases hpq:q=p
  · subst hpq;rw [getD_set_eq (by omega),getD_set_eq (by omega)]
  · rw [getD_set_neq hpq,getD_set_neq hpq];exact h p hp
theorem RwSim.tick {r:RWD} {wd:WD} (h:RwSim n r wd):RwSim n r.tick wd.tick:=⟨h.mem,congrArg (·+1) h.now,h.mlen,h.marks,h.tr,h.tl⟩
theorem RwSim.begin {r:RWD} {wd:WD} (h:RwSim n r wd) (hm:n<=wd.marks.length) {q:Nat} (hq:q<n):RwSim n (r.begin q) (wd.begin q):=
  ⟨h.mem,h.now,by show(r.marks.set q []).length=n;rw [List.length_set];exact h.mlen,marks_begin hm h.mlen h.marks q hq,h.tr,h.tl⟩
theorem rsim_pick (ok:RefOk S M n dO late calls Good) (hn:n<=16) (hthr:∀ c,c<calls.length->0<=(calls.getD c d0).thread/\(calls.getD c d0).thread<(n:Int)) {s:RefS} {st:PlayD S} (hg:StGood calls st) (hG:Good st) (h:PSim M n calls s st) (p:Int) :
    PSim M n calls (rpick dO calls s p) (pickD S calls st p):=by
  have hW:=h.w16
  unfold rpick pickD
  rw [show nowN calls s.fin p=nowN calls st.fin p from by rw [h.fin]]
  cases hN:nowN calls st.fin p with
  | none=>exact⟨h.rw,hW,h.fin,h.evs,congrArg (·+1) h.idle,h.hlen,h.hand⟩
  | some i=>
    obtain⟨n1,n2,n3⟩:=nowN_spec hN
    obtain⟨t1,t2⟩:=hthr i n1
    obtain⟨q,rfl⟩:∃ q:Nat,p=(q:Int):=⟨p.toNat,by omega⟩
    have hq:q<n:=by omega
    have hq16:q<st.hands.length:=by rw [hg.h16];omega
    have hql:q<s.hands.length:=by rw [h.hlen];omega
    simp only [Int.toNat_natCast]
    have Hq:=h.hand q hq
    cases hs:(st.hands.getD q (none,0)).1 with
    | some σ=>
      obtain⟨k,hk⟩:∃ k,k=(st.hands.getD q (none,0)).2:=⟨_,rfl⟩
      have hh:hndOf st.hands q=some k:=by unfold hndOf;rw [hs,hk];rfl
      obtain⟨k1,k2,k3,k4⟩:=hg.ev.hand q k hh
      have hci:(evAt st.evs k).call=i:=by rw [hN] at k4;cases k4;rfl
      have hst:stepD S calls st q i=goStep S { st with wd:=st.wd.tick } q k σ:=by unfold stepD;rw [hs];simp only;rw [<-hk]
      have hopn:(s.hands.getD q rh0).opn=true:=by rw [Hq.opn,hs];rfl
      rw [hst,goStep_to (i:=i) (st0:={ st with wd:=st.wd.tick }) (st:=st) (q:=q) (k:=k) (s:=σ) (evs0:=st.evs) rfl rfl rfl (λ_=>rfl) rfl rfl]
      have hro:ropen { s with rw:=s.rw.tick } q i={ s with rw:=s.rw.tick }:=by unfold ropen;rw [if_pos hopn]
      rw [hro]
      obtain⟨r1,r2⟩:=Hq.rel σ hs
      rw [<-hk,hci] at r1 r2
      exact rsim_go ok hg hG hn (.old k σ (Prod.ext hs hk.symm) k1 hci k3) hq r2 h.fin h.evs h.idle h.hlen h.rw.tick ⟨hW.inv,hW.marks⟩ hopn (by rw [Hq.ev hopn,hk]) (Hq.inv hopn) Hq.own (ok.relTick _ _ _ _ _ _ r1)
        (λp hp hpq=>by
          have H:=h.hand p hp
          exact⟨H.own,H.opn,H.ev,H.inv,λσ' e=>⟨ok.relTick _ _ _ _ _ _ (H.rel σ' e).1,(H.rel σ' e).2⟩⟩)
    | none=>
      have hcl:(s.hands.getD q rh0).opn=false:=by rw [Hq.opn,hs];rfl
      have hro:ropen { s with rw:=s.rw.tick } q i=rbegin { s with rw:=s.rw.tick } q i:=by unfold ropen;rw [if_neg (by rw [hcl];exact Bool.false_ne_true)]
      rw [hro]
      have hev0:(⟨i,s.rw.tick.now,0,0,ans0,[]⟩:EvD)=newEv i (st.wd.tick.begin q):=by
        show(⟨i,s.rw.now+1,0,0,ans0,[]⟩:EvD)=⟨i,st.wd.now+1,0,0,ans0,[]⟩
        rw [h.rw.now]
      have hrw1:RwSim n (s.rw.tick.begin q) (st.wd.tick.begin q):=h.rw.tick.begin (by show n<=st.wd.marks.length;rw [hW.marks];exact hn) hq
      have hW1:Wd16 (st.wd.tick.begin q):=⟨by show(st.wd.inv.set q _).length=16;rw [List.length_set];exact hW.inv,by show(st.wd.marks.set q _).length=16;rw [List.length_set];exact hW.marks⟩
      have hother:∀ evs',(∀ j,j<st.evs.length->evAt evs' j=evAt st.evs j)->∀ p,p<n->p≠q->HandSim M calls st.obj (st.wd.tick.begin q) (s.rw.tick.begin q) evs' p (s.hands.getD p rh0) (st.hands.getD p (none,0)):=λevs' he p hp hpq=>by
        have H:=h.hand p hp
        refine⟨H.own,H.opn,H.ev,λh9=>?_,λσ' e=>?_⟩
        · rw [H.inv h9]
          show st.wd.inv.getD p 0=(st.wd.inv.set q _).getD p 0
          rw [getD_set_neq (Ne.symm hpq)]
        · have hh:hndOf st.hands p=some (st.hands.getD p (none,0)).2:=by unfold hndOf;rw [e];rfl
          obtain⟨k1,_⟩:=hg.ev.hand p _ hh
          rw [he _ k1]
          exact⟨ok.relBegin _ _ _ _ _ _ _ (ok.relTick _ _ _ _ _ _ (H.rel σ' e).1),(H.rel σ' e).2⟩
      have happ:∀ j,j<st.evs.length->∀ e,evAt (st.evs++[e]) j=evAt st.evs j:=λj hj e=>by
        unfold evAt;rw [List.getD_eq_getElem?_getD,List.getD_eq_getElem?_getD,List.getElem?_append_left hj]
      have hlast:∀ e,evAt (st.evs++[e]) st.evs.length=e:=λe=>by unfold evAt;rw [List.getD_eq_getElem?_getD,List.getElem?_append_right (Nat.le_refl _),Nat.sub_self];rfl
      have hbh:(rbegin { s with rw:=s.rw.tick } q i).hands.getD q rh0=⟨true,s.evs.length,s.rw.now+1,[],[],(s.hands.getD q rh0).own⟩:=getD_set_eq hql
      have hbo:∀ p,p≠q->(rbegin { s with rw:=s.rw.tick } q i).hands.getD p rh0=s.hands.getD p rh0:=λp hp=>getD_set_neq (Ne.symm hp)
      have hbl:(rbegin { s with rw:=s.rw.tick } q i).hands.length=n:=by show(s.hands.set q _).length=n;rw [List.length_set];exact h.hlen
      have hbe:(rbegin { s with rw:=s.rw.tick } q i).evs=st.evs++[newEv i (st.wd.tick.begin q)]:=by show s.evs++[⟨i,s.rw.tick.now,0,0,ans0,[]⟩]=_;rw [hev0,h.evs]
      have hbinv:(st.wd.tick.begin q).inv.getD q 0=st.wd.now+1:=getD_set_eq (by show q<st.wd.inv.length;rw [hW.inv];omega)
      cases hst:startD S st.obj (st.wd.tick.begin q) q (calls.getD i d0) with
      | run σ=>
        have hst2:stepD S calls st q i=goStep S { st with wd:=st.wd.tick.begin q,hands:=st.hands.set q (some σ,st.evs.length),evs:=st.evs++[newEv i (st.wd.tick.begin q)] } q st.evs.length σ:=by
          unfold stepD;rw [hs];simp only;rw [hst]
        rw [hst2,goStep_to (i:=i) (st0:={ st with wd:=st.wd.tick.begin q,hands:=st.hands.set q (some σ,st.evs.length),evs:=st.evs++[newEv i (st.wd.tick.begin q)] }) (st:=st) (q:=q) (k:=st.evs.length) (s:=σ) (evs0:=st.evs++[newEv i (st.wd.tick.begin q)]) rfl rfl (by simp [List.set_set]) (λ_=>by simp [List.set_set]) rfl rfl]
        have hobj:(calls.getD i d0).obj=0/\S.start st.obj (st.wd.tick.begin q) q (calls.getD i d0)=.run σ:=by
          unfold startD at hst
          split at hst
          · exact⟨by assumption,hst⟩
          · cases hst
        refine rsim_go ok hg hG hn (.new σ hs hst) hq hobj.1 h.fin hbe h.idle hbl hrw1 hW1 (by rw [hbh]) (by rw [hbh,h.evs]) (by rw [hbh,hbinv];exact congrArg (·+1) h.rw.now) (by rw [hbh];exact Hq.own) ?_ (λp hp hpq=>by rw [hbo p hpq];exact hother _ (λj hj=>happ j hj _) p hp hpq)
        rw [hbh]
        exact ok.start st _ q _ σ _ hG hobj.1 n2 hq Hq.own hobj.2 hrw1 rfl rfl (congrArg (·+1) h.rw.now)
      | refuse e=>
        have hst2:stepD S calls st q i=({ st with wd:=st.wd.tick.begin q,hands:=st.hands.set q (none,st.evs.length),evs:=st.evs++[finishEv (st.wd.tick.begin q) q ⟨e,0,[]⟩ [] (newEv i (st.wd.tick.begin q))] },true):=by
          unfold stepD;rw [hs];simp only;rw [hst]
        rw [hst2]
        simp only [if_true]
        obtain⟨c,hc⟩:∃ c,c=calls.getD i d0:=⟨_,rfl⟩
        rw [<-hc] at hst n2 ⊢
        obtain⟨h1,hh1⟩:∃ h1:RHand,h1=⟨true,s.evs.length,s.rw.now+1,[],[],(s.hands.getD q rh0).own⟩:=⟨_,rfl⟩
        rw [<-hh1] at hbh
        have hown1:h1.own=(s.hands.getD q rh0).own:=by rw [hh1]
        obtain⟨t',hd,d1,d2,d3,d4,d5,d6⟩:∃ t',rdo dO c (h1.tape q) (s.rw.tick.begin q)=(t',s.rw.tick.begin q)/\t'.halt=false/\t'.err=e/\t'.val=0/\t'.list=[]/\t'.key=[]/\(c.obj=0->M.Own st.obj q t'.priv):=by
          unfold startD at hst
          by_cases hz:c.obj=0
          · rw [if_pos hz] at hst
            obtain⟨t',g1,g2,g3,g4,g5,g6,g7⟩:=ok.refuse st c q h1 e (s.rw.tick.begin q) hG hz hq (by rw [hown1];exact Hq.own) hst hrw1 (by rw [hh1]) (by rw [hh1])
            exact⟨t',by unfold rdo;rw [if_neg (λx=>x hz)];exact g1,g2,g3,g4,g5,g6,λ_=>g7⟩
          · rw [if_neg hz] at hst
            cases hst
            exact⟨_,by unfold rdo;rw [if_pos hz],rfl,rfl,rfl,rfl,rfl,λx=>absurd x hz⟩
        unfold rgo
        rw [hbh]
        have hrwb:(rbegin { s with rw:=s.rw.tick } q i).rw=s.rw.tick.begin q:=rfl
        rw [hrwb,hd,if_neg (by rw [d1];exact Bool.false_ne_true)]
        refine⟨hrw1,hW1,by show s.fin.set i true=_;rw [h.fin],?_,h.idle,by simpa using hbl,λp hp=>?_⟩
        · show modEv (modEv (rbegin { s with rw:=s.rw.tick } q i).evs h1.ev stepEv) h1.ev (rdone (s.rw.tick.begin q) q t')=_
          rw [hbe]
          have hev1:h1.ev=st.evs.length:=by rw [hh1];exact congrArg List.length h.evs
          rw [hev1]
          unfold modEv
          have e9:∀ x:EvD,(st.evs++[x]).set st.evs.length=λy=>st.evs++[y]:=λx=>by funext y;rw [List.set_append_right _ _ (Nat.le_refl _),Nat.sub_self];rfl
          have e8:∀ x:EvD,(st.evs++[x]).getD st.evs.length ev0=x:=λx=>hlast x
          rw [e9,e9,e8,e8]
          congr 2
          unfold rdone finishEv
          rw [d2,d3,d4,d5]
          have hkey:rkey (s.rw.tick.begin q) q []=keyOf (st.wd.tick.begin q) q []:=by
            unfold rkey keyOf tickKey
            rw [if_pos rfl,if_pos rfl,hrw1.marks q hq,hrw1.now]
          rw [hkey,hrw1.now]
          rfl
        · by_cases hpq:p=q
          · subst hpq
            simp only
            rw [getD_set_eq (by rw [hbl];exact hq),getD_set_eq hq16]
            refine⟨?_,rfl,λh9=>by(cases h9),λh9=>by(cases h9),λσ' e=>by(cases e)⟩
            simp only
            split
            · rename_i hz;exact d6 hz
            · rw [hown1];exact Hq.own
          · simp only
            rw [getD_set_neq (Ne.symm hpq),getD_set_neq (Ne.symm hpq),hbo p hpq]
            exact hother _ (λj hj=>happ j hj _) p hp hpq
theorem rep_getD9 {α:Type} (n p:Nat) (x:α):(List.replicate n x).getD p x=x:=by
  rw [List.getD_eq_getElem?_getD,List.getElem?_replicate]
  split<;>rfl
theorem rsim_picks (ok:RefOk S M n dO late calls Good) (hnow:∀ o wd p s,(S.step o wd p s).2.1.now=wd.now) (hn:n<=16) (hthr:∀ c,c<calls.length->0<=(calls.getD c d0).thread/\(calls.getD c d0).thread<(n:Int)) :
    ∀(picks:List Int) {s:RefS} {st:PlayD S},StGood calls st->(∀ k,Good (picksD S calls st (picks.take k)))->PSim M n calls s st->PSim M n calls (rpicks dO calls s picks) (picksD S calls st picks)
  | [],_,_,_,_,h=>h
  | p::ps,s,st,hg,hG,h=>rsim_picks ok hnow hn hthr ps (pick_good hnow (λc hc=>⟨(hthr c hc).1,by have:=(hthr c hc).2;omega⟩) hg p) (λk=>hG (k+1)) (rsim_pick ok hn hthr hg (hG 0) h p)
theorem foldl_range_id {α:Type} (f:α->Nat->α) (n:Nat):∀(m:Nat) (x:α),n<=m->(∀ y p,n<=p->p<m->f y p=y)->(List.range m).foldl f x=(List.range n).foldl f x
  | 0,x,h,_=>by rw [show n=0 from(by omega)]
  | m+1,x,h,hf=>by
    by_cases hm:n=m+1
    · rw [hm]
    · rw [List.range_succ,List.foldl_append,foldl_range_id f n m x (by omega) (λy p h1 h2=>hf y p h1 (by omega))]
      exact hf _ _ (by omega) (by omega)
theorem rend_end (ok:RefOk S M n dO late calls Good) (hn:n<=16) (hthr:∀ c,c<calls.length->0<=(calls.getD c d0).thread/\(calls.getD c d0).thread<(n:Int)) {s:RefS} {st:PlayD S} (hg:StGood calls st) (hG:Good st) (h:PSim M n calls s st) :
    ∀(l:List Nat) (evs:List EvD),(∀ p∈l,p<n)->(∀ j,(evAt evs j).call=(evAt st.evs j).call)->evs.length=st.evs.length->l.foldl (rendEv late calls s) evs=l.foldl (endEv S st) evs
  | [],_,_,_,_=>rfl
  | p::ps,evs,hp,hc,hlen=>by
    have hpn:=hp p (List.mem_cons_self ..)
    have H:=h.hand p hpn
    have e1:rendEv late calls s evs p=endEv S st evs p:=by
      unfold rendEv endEv
      cases hx:st.hands.getD p (none,0) with
      | mk x k=>
        cases x with
        | none=>simp only;rw [H.opn,hx];rfl
        | some σ=>
          have hopn:(s.hands.getD p rh0).opn=true:=by rw [H.opn,hx];rfl
          have hev:(s.hands.getD p rh0).ev=k:=by rw [H.ev hopn,hx]
          simp only
          rw [if_pos hopn,hev]
          unfold modEv
          have hl:=ok.late st (calls.getD (evAt st.evs k).call d0) p (s.hands.getD p rh0) σ s.rw hG (by rw [hev];exact hx) (H.inv hopn) (by have:=(H.rel σ (by rw [hx])).1;rw [hx] at this;exact this) h.rw hpn
          have hck:(evs.getD k ev0).call=(evAt st.evs k).call:=hc k
          simp only [hck]
          rw [hl]
    simp only [List.foldl_cons]
    rw [e1]
    refine rend_end ok hn hthr hg hG h ps _ (λq hq=>hp q (List.mem_cons_of_mem _ hq)) (λj=>?_) ?_
    · rw [<-hc j]
      unfold endEv
      split
      · rfl
      · rename_i σ k _
        unfold modEv
        by_cases hk:k<evs.length
        · rw [evAt_set _ hk]
          split
          · rename_i e;rw [e];rfl
          · rfl
        · rw [List.set_eq_of_length_le (by omega)]
    · rw [<-hlen]
      unfold endEv
      split
      · rfl
      · exact modEv_length _ _ _
theorem rsim_play (ok:RefOk S M n dO late calls Good) (hnow:∀ o wd p s,(S.step o wd p s).2.1.now=wd.now) (hn:n<=16) (hthr:∀ c,c<calls.length->0<=(calls.getD c d0).thread/\(calls.getD c d0).thread<(n:Int)) (o:S.ω) (sz:Nat) (hs0:0<sz) (ho:∀ p,p<n->M.Own o p []) (picks:List Int)
    (hG:∀ k,Good (picksD S calls (play0 S o (List.replicate sz 0) calls) (picks.take k))):rrep late calls (rpicks dO calls (ref0 n sz calls) picks) n=playD S o (List.replicate sz 0) calls picks:=by
  have hg0:StGood calls (play0 S o (List.replicate sz 0) calls):=play0_good (S:=S) calls o _
  have h16:∀ p,(List.replicate 16 ((none:Option S.σ),0)).getD p (none,0)=(none,0):=λp=>rep_getD9 16 p _
  have hr0:∀ p,(List.replicate n rh0).getD p rh0=rh0:=λp=>rep_getD9 n p _
  have h0:PSim M n calls (ref0 n sz calls) (play0 S o (List.replicate sz 0) calls):=by
    refine⟨⟨rfl,rfl,List.length_replicate ..,λp hp=>?_,λa=>?_,⟨(by show 0<(List.replicate sz ([]:List Int)).length;rw [List.length_replicate];exact hs0),(by show(List.replicate sz ([]:List Int)).length=(List.replicate sz 0).length;rw [List.length_replicate,List.length_replicate])⟩⟩,⟨List.length_replicate ..,List.length_replicate ..⟩,rfl,rfl,rfl,List.length_replicate ..,λp hp=>?_⟩
    · show(List.replicate n ([]:List Int)).getD p []=(List.replicate 16 ([]:List Int)).getD p []
      rw [rep_getD9,rep_getD9]
    · unfold traceP
      split
      · rfl
      · exact rep_getD9 sz _ _
    · show HandSim M calls o (wd0 _) _ [] p ((List.replicate n rh0).getD p rh0) ((List.replicate 16 (none,0)).getD p (none,0))
      rw [hr0,h16]
      exact⟨ho p hp,rfl,λh=>by(cases h),λh=>by(cases h),λσ e=>by cases e⟩
  have h:=rsim_picks ok hnow hn hthr picks hg0 hG h0
  have hthr16:∀ c,c<calls.length->0<=(calls.getD c d0).thread/\(calls.getD c d0).thread<16:=λc hc=>⟨(hthr c hc).1,by have:=(hthr c hc).2;omega⟩
  have hgE:=(picks_ind (J:=λ_=>True) hnow hthr16 (λ_ _ _ _ _ _=>trivial) picks hg0 trivial).1
  have hGE:=hG picks.length
  rw [List.take_length] at hGE
  obtain⟨s,hs⟩:∃ s,s=rpicks dO calls (ref0 n sz calls) picks:=⟨_,rfl⟩
  obtain⟨st,hst⟩:∃ st,st=picksD S calls (play0 S o (List.replicate sz 0) calls) picks:=⟨_,rfl⟩
  rw [<-hs,<-hst] at h
  rw [<-hst] at hgE hGE
  unfold playD
  rw [<-hs,<-hst]
  unfold rrep reportD
  have he:rend late calls s n=endD S st:=by
    unfold rend endD
    rw [rend_end ok hn hthr hgE hGE h (List.range n) s.evs (λp hp=>List.mem_range.1 hp) (λj=>by rw [h.evs]) (by rw [h.evs]),h.evs]
    refine(foldl_range_id (endEv S st) n 16 st.evs hn (λy p h1 h2=>?_)).symm
    unfold endEv
    cases hx:st.hands.getD p (none,0) with
    | mk x k=>
      cases x with
      | none=>rfl
      | some σ=>
        exfalso
        have hh:hndOf st.hands p=some k:=by unfold hndOf;rw [hx];rfl
        obtain⟨_,_,_,k4⟩:=hgE.ev.hand p k hh
        obtain⟨n1,n2,_⟩:=nowN_spec k4
        have:=(hthr _ n1).2
        omega
  rw [he,h.rw.mem,h.rw.now,h.idle]
end
section

/- The reference's play: a thread begins a call: roundelayplain.begin. -/
open Go.RowKit
def handL (op:Bool) (ev:Nat) (bW:Nat) (G K:Value) (t:TapeD) (own:Value):List Value:=.bool op::.int .i64 (ev:Int)::(tapeL bW G K t++[own])
def tapeB (p now:Nat):TapeD:=⟨(p:Int),(now:Int),[],[],0,false,false,.slice none 0 0,0,0,.slice none 0 0,.slice none 0 0⟩
theorem hand_set {w:World} {b:Nat} {pre X post:List Value} {T:TypeId} (h:w.heap[b]?=some (.cells (pre++(X++post)).toArray T (0,0))) {i:Nat} (hi:i<X.length) (v:Value):(w.setCell ⟨b,pre.length+i,none⟩ v).heap[b]?=some (.cells (pre++(X.set i v++post)).toArray T (0,0)):=by
 rw [blk_set h,mid_set hi]
end
end Go.Proofs.YtfkokppncipgnaaGreat
