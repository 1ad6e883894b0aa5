/- A door in the reference's play: plain numbers. -/
import Derived.Test.YteffgpcjfnjlkaaGreatX36
import Derived.Test.YteffgpcjfnjlkaaGreatX32
import Derived.Test.YteffgpcjfnjlkaaGreatX34
import Derived.Test.YteffgpcjfnjlkaaGreatX18
import Derived.Test.YteffgpcjfnjlkaaGreatX15
import Derived.BigQuiet
set_option maxRecDepth 100000
set_option linter.unusedVariables false
set_option linter.unusedSimpArgs false
set_option linter.unnecessarySimpa false
namespace Go.Proofs.YteffgpcjfnjlkaaGreat
section
open Go.RowKit
def Bnd (t:TapeP) (r:RWD):Prop:=(∀ x,x∈t.got->x<=1000000)/\∀ x,x∈r.mem.ws->x<=1000000
theorem memRead_ws (m:MemD) (a:Int):(memRead m a).1.ws=m.ws:=by unfold memRead MemD.fault;split<;>rfl
theorem Bnd.read {t:TapeP} {r:RWD} (h:Bnd t r) (a:Int):(accP 0 a 0 0 t r).1<=1000000/\Bnd (accP 0 a 0 0 t r).2.1 (accP 0 a 0 0 t r).2.2:=by
 have hm:(memRead r.mem a).2<=1000000:=by
  unfold memRead
  split
  ·exact Nat.zero_le _
  ·show r.mem.ws.getD _ 0<=_
   rw [List.getD_eq_getElem?_getD]
   cases hx:r.mem.ws[a.toNat]? with
   | none=>exact Nat.zero_le _
   | some x=>exact h.2 x (List.mem_of_getElem? hx)
 cases hh:t.halt with
 | true=>rw [accP_halt hh];exact⟨Nat.zero_le _,h⟩
 | false=>
  by_cases ha:t.at_<t.got.length
  ·rw [accP_old hh ha]
   refine⟨?_,h⟩
   show t.got.getD t.at_ 0<=_
   rw [List.getD_eq_getElem?_getD,List.getElem?_eq_getElem ha]
   exact h.1 _ (List.getElem_mem ha)
  ·cases hf:t.fresh with
   | false=>rw [accP_end hh ha hf];exact⟨Nat.zero_le _,h⟩
   | true=>
    rw [accP_fresh hh ha hf]
    refine⟨hm,λx hx=>?_,λx hx=>?_⟩
    ·have hx':x∈t.got++[(memRead r.mem a).2]:=hx
     rcases List.mem_append.1 hx' with h9|h9
     ·exact h.1 x h9
     ·rw [List.mem_singleton.1 h9];exact hm
    ·have hx':x∈(memRead r.mem a).1.ws:=hx
     rw [memRead_ws] at hx'
     exact h.2 x hx'
end
section

/- An operation of the reference as a tree of accesses: what its run on a tape comes to. -/
open Go.RowKit
structure OutP where
 err:Int
 val:Nat
 list:List Nat
 key:List Int
 priv:List Nat
def TapeP.out (t:TapeP) (o:OutP):TapeP:={ t with err:=o.err,val:=o.val,list:=o.list,key:=o.key,priv:=o.priv }
def TapeP.outs (t:TapeP):OutP:=⟨t.err,t.val,t.list,t.key,t.priv⟩
inductive Pg where
 | ret (f:TapeP->RWD->OutP)
 | acc (kd a:Int) (x y:Nat) (eff:RWD->RWD) (k:Nat->Pg)
def effP (eff:RWD->RWD) (t:TapeP) (r:RWD):RWD:=if justP t=true then eff r else r
def Pg.run:Pg->TapeP->RWD->TapeP×RWD
 | .ret f,t,r=>(t.out (f t r),r)
 | .acc kd a x y eff k,t,r=>(k (accP kd a x y t r).1).run (accP kd a x y t r).2.1 (effP eff (accP kd a x y t r).2.1 (accP kd a x y t r).2.2)
def Pg.res:Pg->List Nat->Pg
 | P,[]=>P
 | .acc _ _ _ _ _ k,g::gs=>(k g).res gs
 | .ret f,_::_=>.ret f
def Pg.deep:Pg->List Nat->Prop
 | _,[]=>True
 | .acc _ _ _ _ _ k,g::gs=>(k g).deep gs
 | .ret _,_::_=>False
theorem Pg.res_nil (P:Pg):P.res []=P:=by cases P<;>rfl
theorem Pg.deep_nil (P:Pg):P.deep []:=by cases P<;>trivial
theorem Pg.res_snoc:∀(gs:List Nat) (P:Pg) (g:Nat) {kd a:Int} {x y:Nat} {eff:RWD->RWD} {k:Nat->Pg},P.res gs=.acc kd a x y eff k->P.deep gs->P.res (gs++[g])=k g/\P.deep (gs++[g])
 | [],P,g,kd,a,x,y,eff,k,h,_=>by
  rw [Pg.res_nil] at h
  subst h
  exact⟨Pg.res_nil _,Pg.deep_nil _⟩
 | g0::gs,P,g,kd,a,x,y,eff,k,h,hd=>by
  cases P with
  | ret f=>exact hd.elim
  | acc kd' a' x' y' eff' k'=>exact Pg.res_snoc gs (k' g0) g h hd
theorem just_old {t:TapeP} (hf:t.fresh=true):justP t=false:=by unfold justP;rw [hf];simp
theorem just_halt {t:TapeP} (hh:t.halt=true):justP t=false:=by unfold justP;rw [hh];simp
theorem Pg.run_halt:∀(P:Pg) (t:TapeP) (r:RWD),t.halt=true->∃ o,P.run t r=(t.out o,r)
 | .ret f,t,r,_=>⟨_,rfl⟩
 | .acc kd a x y eff k,t,r,hh=>by
  show ∃ o,(k (accP kd a x y t r).1).run (accP kd a x y t r).2.1 (effP eff (accP kd a x y t r).2.1 (accP kd a x y t r).2.2)=_
  rw [accP_halt hh]
  simp only
  have e:effP eff t r=r:=by unfold effP;rw [just_halt hh];rfl
  rw [e]
  exact Pg.run_halt (k 0) t r hh
theorem Pg.run_told:∀(gs:List Nat) (P:Pg) (t:TapeP) (r:RWD),t.halt=false->t.fresh=true->t.at_<=t.got.length->t.got.drop t.at_=gs->P.deep gs->P.run t r=(P.res gs).run { t with at_:=t.got.length } r
 | [],P,t,r,hh,hf,hle,hd,_=>by
  have e:t.at_=t.got.length:=by
   have:=congrArg List.length hd
   rw [List.length_drop] at this
   simp at this
   omega
  rw [Pg.res_nil,<-e]
 | g::gs,.ret f,t,r,hh,hf,hle,hd,hdp=>hdp.elim
 | g::gs,.acc kd a x y eff k,t,r,hh,hf,hle,hd,hdp=>by
  have hlt:t.at_<t.got.length:=by
   have:=congrArg List.length hd
   rw [List.length_drop] at this
   simp at this
   omega
  have hg:t.got.getD t.at_ 0=g:=by
   have h1:=List.drop_eq_getElem_cons hlt
   rw [hd] at h1
   rw [List.getD_eq_getElem?_getD,List.getElem?_eq_getElem hlt]
   exact(List.cons.inj h1).1.symm
  have hd2:t.got.drop (t.at_+1)=gs:=by
   have h1:=List.drop_eq_getElem_cons hlt
   rw [hd] at h1
   exact(List.cons.inj h1).2.symm
  show(k (accP kd a x y t r).1).run (accP kd a x y t r).2.1 (effP eff (accP kd a x y t r).2.1 (accP kd a x y t r).2.2)=_
  rw [accP_old hh hlt,hg]
  simp only
  have e:effP eff { t with at_:=t.at_+1 } r=r:=by unfold effP;rw [just_old (t:={ t with at_:=t.at_+1 }) hf];rfl
  rw [e]
  exact Pg.run_told gs (k g) { t with at_:=t.at_+1 } r hh hf hlt hd2 hdp
def tapeNew (t:TapeP) (v:Nat) (now:Nat):TapeP:={ t with got:=t.got++[v],ticks:=t.ticks++[(now:Int)],at_:=t.at_+1,fresh:=false }
theorem Pg.step {P:Pg} {h:RHand} {p:Nat} {r:RWD} {kd a:Int} {x y:Nat} {eff:RWD->RWD} {k:Nat->Pg} (hdp:P.deep h.got) (hres:P.res h.got=.acc kd a x y eff k) :
  ∃ t1,t1=tapeNew { h.tape p with at_:=h.got.length } (memAcc r.mem kd a x y).2 r.now/\
   (∀ f,k (memAcc r.mem kd a x y).2=.ret f->P.run (h.tape p) r=(t1.out (f t1 (eff { r with mem:=(memAcc r.mem kd a x y).1 })),eff { r with mem:=(memAcc r.mem kd a x y).1 }))/\
   (∀ kd' a' x' y' eff' k',k (memAcc r.mem kd a x y).2=.acc kd' a' x' y' eff' k'->∃ o,P.run (h.tape p) r=(({ t1 with halt:=true }:TapeP).out o,eff { r with mem:=(memAcc r.mem kd a x y).1 })):=by
 obtain⟨t0,ht0⟩:∃ t0:TapeP,t0={ h.tape p with at_:=h.got.length }:=⟨_,rfl⟩
 have e1:P.run (h.tape p) r=(Pg.acc kd a x y eff k).run t0 r:=by
  rw [Pg.run_told h.got P (h.tape p) r rfl rfl (Nat.zero_le _) rfl hdp,hres,ht0];rfl
 have h0:t0.halt=false/\t0.fresh=true/\t0.at_=h.got.length/\t0.got=h.got:=by rw [ht0];exact⟨rfl,rfl,rfl,rfl⟩
 obtain⟨t1,ht1⟩:∃ t1,t1=tapeNew t0 (memAcc r.mem kd a x y).2 r.now:=⟨_,rfl⟩
 obtain⟨r2,hr2⟩:∃ r2:RWD,r2=eff { r with mem:=(memAcc r.mem kd a x y).1 }:=⟨_,rfl⟩
 have e2:(Pg.acc kd a x y eff k).run t0 r=(k (memAcc r.mem kd a x y).2).run t1 r2:=by
  show(k (accP kd a x y t0 r).1).run (accP kd a x y t0 r).2.1 (effP eff (accP kd a x y t0 r).2.1 (accP kd a x y t0 r).2.2)=_
  rw [accP_fresh h0.1 (by rw [h0.2.2.1,h0.2.2.2];exact Nat.lt_irrefl _) h0.2.1]
  simp only
  have hj:justP t1=true:=by
   rw [ht1];unfold justP tapeNew
   simp only [h0.1,h0.2.2.1,h0.2.2.2,List.length_append,List.length_singleton]
   simp
  have e:effP eff t1 { r with mem:=(memAcc r.mem kd a x y).1 }=r2:=by unfold effP;rw [hj,hr2];rfl
  have e3:({ t0 with got:=t0.got++[(memAcc r.mem kd a x y).2],ticks:=t0.ticks++[(r.now:Int)],at_:=t0.at_+1,fresh:=false }:TapeP)=t1:=by rw [ht1];rfl
  rw [e3,e]
 refine⟨t1,by rw [ht1,ht0],λf hf=>?_,λkd' a' x' y' eff' k' hk=>?_⟩
 ·rw [e1,e2,hf,<-hr2];rfl
 ·have t1h:t1.halt=false:=by rw [ht1];exact h0.1
  have t1f:t1.fresh=false:=by rw [ht1];rfl
  have t1a:¬ t1.at_<t1.got.length:=by rw [ht1];show ¬ t0.at_+1<(t0.got++[_]).length;rw [h0.2.2.1,h0.2.2.2,List.length_append];exact Nat.lt_irrefl _
  have e4:(Pg.acc kd' a' x' y' eff' k').run t1 r2=(k' 0).run { t1 with halt:=true } r2:=by
   show(k' (accP kd' a' x' y' t1 r2).1).run (accP kd' a' x' y' t1 r2).2.1 (effP eff' (accP kd' a' x' y' t1 r2).2.1 (accP kd' a' x' y' t1 r2).2.2)=_
   rw [accP_end t1h t1a t1f]
   simp only
   have e:effP eff' { t1 with halt:=true } r2=r2:=by unfold effP;rw [just_halt rfl];rfl
   rw [e]
  obtain⟨o,ho⟩:=Pg.run_halt (k' 0) { t1 with halt:=true } r2 rfl
  exact⟨o,by rw [e1,e2,hk,e4,ho,<-hr2]⟩
def EffOk (eff:RWD->RWD):Prop:=∀ r,(eff r).mem=r.mem/\(eff r).now=r.now/\(eff r).marks.length=r.marks.length/\(eff r).traces.length=r.traces.length
def Pg.effs:Pg->Prop
 | .ret _=>True
 | .acc _ _ _ _ eff k=>EffOk eff/\∀ v,(k v).effs
theorem Runs.eff {t t':TapeP} {r r':RWD} (h:Runs t r t' r') {eff:RWD->RWD} (he:EffOk eff) (u:TapeP):Runs t r t' (effP eff u r'):=by
 unfold effP
 split
 ·obtain⟨h1,h2,_⟩:=he r'
  exact⟨by rw [h1];exact h.ws,h2.trans h.now,by rw [h1];exact h.all,h.got,h.thread,h.inv⟩
 ·exact h
theorem Pg.runs:∀(P:Pg) (t:TapeP) (r:RWD),P.effs->Runs t r (P.run t r).1 (P.run t r).2
 | .ret f,t,r,_=>⟨rfl,rfl,Nat.le_refl _,Nat.le_refl _,rfl,rfl⟩
 | .acc kd a x y eff k,t,r,h=>((Runs.acc kd a x y t r).eff h.1 _).trans (Pg.runs (k _) _ _ (h.2 _))
theorem Pg.ticks:∀(P:Pg) (t:TapeP) (r:RWD),P.effs->∀ z,z∈(P.run t r).1.ticks->z∈t.ticks∨z=(r.now:Int)
 | .ret f,t,r,_,z,hz=>.inl hz
 | .acc kd a x y eff k,t,r,h,z,hz=>by
  have hn:=((Runs.acc kd a x y t r).eff h.1 (accP kd a x y t r).2.1).now
  rcases Pg.ticks (k _) _ _ (h.2 _) z hz with h9|h9
  ·exact accP_ticks _ _ _ _ _ _ _ h9
  ·right;rw [h9,hn]
end
section

/- A tally in the reference's play: plain numbers. -/
open Go.RowKit
theorem Runs.val {t t':TapeP} {r r':RWD} (h:Runs t r t' r') (v:Nat):Runs t r { t' with val:=v } r':=⟨h.ws,h.now,h.all,h.got,h.thread,h.inv⟩
theorem noteP_keep (a:Int) (l:List Int) (t:TapeP) (r:RWD):(noteP a l t r).now=r.now/\(noteP a l t r).mem=r.mem/\(noteP a l t r).marks=r.marks/\(noteP a l t r).traces.length=r.traces.length:=by
 unfold noteP
 split
 ·exact⟨rfl,rfl,rfl,by simp⟩
 ·exact⟨rfl,rfl,rfl,rfl⟩
theorem Runs.note {t t':TapeP} {r r':RWD} (h:Runs t r t' r') (a:Int) (l:List Int) (u:TapeP):Runs t r t' (noteP a l u r'):=by
 obtain⟨h1,h2,_⟩:=noteP_keep a l u r'
 exact⟨by rw [h2];exact h.ws,h1.trans h.now,by rw [h2];exact h.all,h.got,h.thread,h.inv⟩
end
section

/- A max register in the reference's play: what holds of its runs; as a tree of accesses. -/
open Go.RowKit
structure Rn (t:TapeP) (r:RWD) (t':TapeP) (r':RWD):Prop where
 runs:Runs t r t' r'
 priv:t'.priv=t.priv
 ticks:∀ x,x∈t'.ticks->x∈t.ticks∨x=(r.now:Int)
theorem Rn.refl (t:TapeP) (r:RWD):Rn t r t r:=⟨Runs.refl _ _,rfl,λ_ h=>.inl h⟩
theorem Rn.trans {t t1 t2:TapeP} {r r1 r2:RWD} (h:Rn t r t1 r1) (k:Rn t1 r1 t2 r2):Rn t r t2 r2:=
 ⟨h.runs.trans k.runs,k.priv.trans h.priv,λx hx=>by
  rcases k.ticks x hx with h9|h9
  ·exact h.ticks x h9
  ·exact .inr (by rw [h9,h.runs.now])⟩
theorem Rn.acc (kd a:Int) (x y:Nat) (t:TapeP) (r:RWD):Rn t r (accP kd a x y t r).2.1 (accP kd a x y t r).2.2:=⟨Runs.acc _ _ _ _ _ _,accP_priv _ _ _ _ _ _,accP_ticks _ _ _ _ _ _⟩
theorem Rn.note {t t':TapeP} {r r':RWD} (h:Rn t r t' r') (a:Int) (l:List Int) (u:TapeP):Rn t r t' (noteP a l u r'):=⟨h.runs.note a l u,h.priv,h.ticks⟩
theorem rd_rn (b:Nat):∀(n k:Nat) (ts:List (Nat×Bool)) (val:Nat) (t:TapeP) (r:RWD),Rn t r (rdRun b n k ts val t r).2.1 (rdRun b n k ts val t r).2.2
 | 0,_,_,_,t,r=>Rn.refl t r
 | n+1,k,ts,val,t,r=>(Rn.acc 0 ((b+k - 1:Nat):Int) 0 0 t r).trans (rd_rn b n _ _ _ _ _)
theorem dn_rn (b v:Nat):∀(n k:Nat) (ts:List (Nat×Bool)) (last:Int) (t:TapeP) (r:RWD),Rn t r (dnRun b v n k ts last t r).2.1 (dnRun b v n k ts last t r).2.2
 | 0,_,_,_,t,r=>Rn.refl t r
 | n+1,k,ts,last,t,r=>by
  unfold dnRun
  split
  ·exact Rn.refl t r
  ·split
   ·exact dn_rn b v n _ _ _ _ _
   ·split
    ·exact Rn.acc 0 ((b+k - 1:Nat):Int) 0 0 t r
    ·exact(Rn.acc 0 ((b+k - 1:Nat):Int) 0 0 t r).trans (dn_rn b v n _ _ _ _ _)
theorem upAcc_rn (a:Nat) (t:TapeP) (r:RWD):Rn t r (upAcc a t r).1 (upAcc a t r).2:=by
 unfold upAcc
 have h:=Rn.acc 1 (a:Int) 1 0 t r
 show Rn t r _ (if _ then _ else _)
 split
 ·exact h.note _ _ _
 ·exact h
theorem up_rn (b:Nat) (ts:List (Nat×Bool)):∀(n:Nat) (t:TapeP) (r:RWD),Rn t r (upRun b ts n t r).1 (upRun b ts n t r).2
 | 0,t,r=>Rn.refl t r
 | n+1,t,r=>by
  unfold upRun
  split
  ·exact Rn.refl t r
  ·split
   ·exact(upAcc_rn _ t r).trans (up_rn b ts n _ _)
   ·exact up_rn b ts n _ _
theorem Rn.key {t t':TapeP} {r r':RWD} (h:Rn t r t' r') (k:List Int):Rn t r { t' with key:=k } r':=⟨⟨h.runs.ws,h.runs.now,h.runs.all,h.runs.got,h.runs.thread,h.runs.inv⟩,h.priv,h.ticks⟩
theorem rmax_rn (m:Nat) (c:CallD) (t:TapeP) (r:RWD):Rn t r (rmaxDo m c t r).1 (rmaxDo m c t r).2:=by
 unfold rmaxDo
 split
 ·have h:=rd_rn 0 m 1 [] 0 t r
  unfold mxReadP
  have h2:Rn t r (rdEnd 0 (rdRun 0 m 1 [] 0 t r)).2.1 (rdEnd 0 (rdRun 0 m 1 [] 0 t r)).2.2:=by
   unfold rdEnd
   split
   ·exact h
   ·exact h.key _
  exact⟨⟨h2.runs.ws,h2.runs.now,h2.runs.all,h2.runs.got,h2.runs.thread,h2.runs.inv⟩,h2.priv,h2.ticks⟩
 ·split
  ·exact⟨Runs.errP _ _ _,rfl,λ_ h=>.inl h⟩
  ·split
   ·exact⟨Runs.errP _ _ _,rfl,λ_ h=>.inl h⟩
   ·have h:=(dn_rn 0 c.a m 1 [] (t.inv:Int) t r).trans (up_rn 0 (dnRun 0 c.a m 1 [] (t.inv:Int) t r).1.1 (dnRun 0 c.a m 1 [] (t.inv:Int) t r).1.1.length _ _)
    unfold mxWriteP wrMid wrEnd
    split
    ·exact h
    ·exact h.key _
theorem rmax_dob (m:Nat):DoB (rmaxDo m):=⟨λc t r=>(rmax_rn m c t r).runs,λc t r h=>by rw [(rmax_rn m c t r).priv];exact h⟩
theorem rmax_dot (m:Nat):DoT (rmaxDo m):=λc t r x hx=>(rmax_rn m c t r).ticks x hx
def Pg.still:Pg->Prop
 | .ret f=>∀ t r,t.halt=true->f t r=t.outs
 | .acc _ _ _ _ _ k=>∀ g,(k g).still
theorem Pg.run_still:∀(P:Pg) (t:TapeP) (r:RWD),P.still->t.halt=true->P.run t r=(t,r)
 | .ret f,t,r,hs,hh=>by show(t.out (f t r),r)=_;rw [hs t r hh];rfl
 | .acc kd a x y eff k,t,r,hs,hh=>by
  show(k (accP kd a x y t r).1).run (accP kd a x y t r).2.1 (effP eff (accP kd a x y t r).2.1 (accP kd a x y t r).2.2)=_
  rw [accP_halt hh]
  simp only
  have e:effP eff t r=r:=by unfold effP;rw [just_halt hh];rfl
  rw [e]
  exact Pg.run_still (k 0) t r (hs 0) hh
theorem effP_id (t:TapeP) (r:RWD):effP id t r=r:=by unfold effP;split<;>rfl
def rdPg (b:Nat) (K:List (Nat×Bool)->Nat->Pg):Nat->Nat->List (Nat×Bool)->Nat->Pg
 | 0,_,ts,val=>K ts val
 | n+1,k,ts,val=>.acc 0 ((b+k - 1:Nat):Int) 0 0 id λg=>rdPg b K n (2*k+(decide (g=1)).toNat) (ts++[(k,decide (g=1))]) (2*val+g % 2)
theorem rdPg_run (b:Nat) (K:List (Nat×Bool)->Nat->Pg):∀(n k:Nat) (ts:List (Nat×Bool)) (val:Nat) (t:TapeP) (r:RWD),(rdPg b K n k ts val).run t r=(K (rdRun b n k ts val t r).1.1 (rdRun b n k ts val t r).1.2).run (rdRun b n k ts val t r).2.1 (rdRun b n k ts val t r).2.2
 | 0,_,_,_,_,_=>rfl
 | n+1,k,ts,val,t,r=>by
  show(rdPg b K n _ _ _).run (accP 0 ((b+k - 1:Nat):Int) 0 0 t r).2.1 (effP id (accP 0 ((b+k - 1:Nat):Int) 0 0 t r).2.1 (accP 0 ((b+k - 1:Nat):Int) 0 0 t r).2.2)=_
  rw [effP_id,rdPg_run b K n];rfl
def dnPg (b v:Nat) (K:List (Nat×Bool)->Nat->Pg):Nat->Nat->List (Nat×Bool)->Nat->Nat->Pg
 | 0,_,ts,_,d=>K ts d
 | n+1,k,ts,j,d=>if v / 2^n % 2=1 then dnPg b v K n (2*k+1) (ts++[(k,true)]) j d
  else .acc 0 ((b+k - 1:Nat):Int) 0 0 id λg=>if g=1 then K ts (j+1) else dnPg b v K n (2*k) (ts++[(k,false)]) (j+1) (j+1)
def lastAt (d:Nat) (t:TapeP):Int:=if d=0 then (t.inv:Int) else t.ticks.getD (d - 1) 0
structure TpOk (t:TapeP):Prop where
 halt:t.halt=false
 at_le:t.at_<=t.got.length
 tl:t.ticks.length=t.got.length
structure AccOk (t:TapeP) (r:RWD) (t':TapeP) (r':RWD):Prop where
 ok:TpOk t'
 at_:t'.at_=t.at_+1
 last:∀ d,d<=t.at_->lastAt d t'=lastAt d t
 fresh:t'.fresh=true∨(t'.at_=t'.got.length/\lastP t'=(r.now:Int))∨t.fresh=false
 now:r'.now=r.now
 traces:r'.traces=r.traces
theorem accP_next (kd a:Int) (x y:Nat) {t:TapeP} (r:RWD) (h:TpOk t):((accP kd a x y t r).1=0/\(accP kd a x y t r).2.1.halt=true/\(accP kd a x y t r).2.2=r)∨AccOk t r (accP kd a x y t r).2.1 (accP kd a x y t r).2.2:=by
 unfold accP
 rw [if_neg (by rw [h.halt];exact Bool.false_ne_true)]
 split
 ·rename_i h1
  refine .inr ⟨⟨h.halt,h1,h.tl⟩,rfl,λ_ _=>rfl,?_,rfl,rfl⟩
  cases hf:t.fresh with
  | true=>exact .inl rfl
  | false=>exact .inr (.inr rfl)
 ·rename_i h1
  have he:t.at_=t.got.length:=Nat.le_antisymm h.at_le (Nat.le_of_not_lt h1)
  split
  ·refine .inr ⟨⟨h.halt,?_,?_⟩,rfl,λd hd=>?_,.inr (.inl ⟨?_,?_⟩),rfl,rfl⟩
   ·show t.at_+1<=(t.got++[_]).length
    rw [List.length_append,List.length_singleton,he];exact Nat.le_refl _
   ·show(t.ticks++[_]).length=(t.got++[_]).length
    rw [List.length_append,List.length_append,h.tl];rfl
   ·unfold lastAt
    split
    ·rfl
    ·show(t.ticks++[_]).getD (d - 1) 0=_
     rw [List.getD_eq_getElem?_getD,List.getD_eq_getElem?_getD,List.getElem?_append_left (by rw [h.tl];omega)]
   ·show t.at_+1=(t.got++[_]).length
    rw [List.length_append,List.length_singleton,he]
   ·unfold lastP
    rw [if_neg (by show ¬ t.at_+1=0;omega)]
    show(t.ticks++[(r.now:Int)]).getD (t.at_+1 - 1) 0=_
    rw [Nat.add_sub_cancel,he,<-h.tl,List.getD_eq_getElem?_getD,List.getElem?_append_right (Nat.le_refl _),Nat.sub_self];rfl
  ·exact .inl ⟨rfl,rfl,rfl⟩
def TpFr (t:TapeP):Prop:=t.fresh=false->t.at_=t.got.length
theorem acc_fr {kd a:Int} {x y:Nat} {t:TapeP} {r:RWD} (ht:TpOk t) (hf:TpFr t) (hn:AccOk t r (accP kd a x y t r).2.1 (accP kd a x y t r).2.2):(t.fresh=false->False)/\TpFr (accP kd a x y t r).2.1:=by
 have h0:t.fresh=false->False:=λhfr=>by
  have h1:=hf hfr
  have h2:=accP_end ht.halt (by rw [h1];exact Nat.lt_irrefl _) hfr kd a x y r
  have h3:=hn.ok.halt
  rw [h2] at h3
  cases h3
 refine⟨h0,λe=>?_⟩
 rcases hn.fresh with h9|h9|h9
 ·rw [e] at h9;cases h9
 ·exact h9.1
 ·exact(h0 h9).elim
theorem lastP_at (t:TapeP):lastP t=lastAt t.at_ t:=rfl
theorem dnPg_run (b v:Nat) (K:List (Nat×Bool)->Nat->Pg) (hK:∀ ts d,(K ts d).still):∀(n k:Nat) (ts:List (Nat×Bool)) (j d:Nat) (last:Int) (t:TapeP) (r:RWD),TpOk t->t.at_=j->d<=j->last=lastAt d t->
  ((dnRun b v n k ts last t r).2.1.halt=true/\(dnPg b v K n k ts j d).run t r=(dnRun b v n k ts last t r).2)∨
  (∃ d',TpOk (dnRun b v n k ts last t r).2.1/\(TpFr t->TpFr (dnRun b v n k ts last t r).2.1)/\d'<=(dnRun b v n k ts last t r).2.1.at_/\(dnRun b v n k ts last t r).1.2=lastAt d' (dnRun b v n k ts last t r).2.1/\(dnPg b v K n k ts j d).run t r=(K (dnRun b v n k ts last t r).1.1 d').run (dnRun b v n k ts last t r).2.1 (dnRun b v n k ts last t r).2.2)
 | 0,k,ts,j,d,last,t,r,ht,ha,hd,hl=>.inr ⟨d,ht,id,by rw [<-ha] at hd;exact hd,hl,rfl⟩
 | n+1,k,ts,j,d,last,t,r,ht,ha,hd,hl=>by
  unfold dnRun dnPg
  rw [if_neg (by rw [ht.halt];exact Bool.false_ne_true)]
  by_cases hb:v / 2^n % 2=1
  ·rw [if_pos hb,if_pos hb]
   exact dnPg_run b v K hK n _ _ _ _ _ _ _ ht ha hd hl
  ·rw [if_neg hb,if_neg hb]
   obtain⟨A,hA⟩:∃ A,A=accP 0 ((b+k - 1:Nat):Int) 0 0 t r:=⟨_,rfl⟩
   have hrun:(Pg.acc 0 ((b+k - 1:Nat):Int) 0 0 id λg=>if g=1 then K ts (j+1) else dnPg b v K n (2*k) (ts++[(k,false)]) (j+1) (j+1)).run t r=(if A.1=1 then K ts (j+1) else dnPg b v K n (2*k) (ts++[(k,false)]) (j+1) (j+1)).run A.2.1 A.2.2:=by
    show(if (accP 0 ((b+k - 1:Nat):Int) 0 0 t r).1=1 then K ts (j+1) else dnPg b v K n (2*k) (ts++[(k,false)]) (j+1) (j+1)).run (accP 0 ((b+k - 1:Nat):Int) 0 0 t r).2.1 (effP id _ _)=_
    rw [effP_id,hA]
   rw [hrun]
   have hn:=accP_next 0 ((b+k - 1:Nat):Int) 0 0 r ht
   have hfa:=λhf hn=>(acc_fr (kd:=0) (a:=((b+k - 1:Nat):Int)) (x:=0) (y:=0) (r:=r) ht hf hn).2
   rw [<-hA] at hn hfa ⊢
   rcases hn with⟨n1,n2,n3⟩|hn
   ·have h1:¬ A.1=1:=by rw [n1];exact Nat.zero_ne_one
    rw [if_neg h1,if_neg h1,n3]
    have e:dnRun b v n (2*k) (ts++[(k,false)]) (lastP A.2.1) A.2.1 r=((ts++[(k,false)],lastP A.2.1),A.2.1,r):=by
     cases n with
     | zero=>rfl
     | succ n=>unfold dnRun;rw [if_pos n2]
    rw [e]
    refine .inl ⟨n2,Pg.run_still _ _ _ ?_ n2⟩
    have st:∀(n k:Nat) (ts:List (Nat×Bool)) (j d:Nat),(dnPg b v K n k ts j d).still:=by
     intro n
     induction n with
     | zero=>exact λk ts j d=>hK ts d
     | succ n ih=>
      intro k ts j d
      unfold dnPg
      split
      ·exact ih _ _ _ _
      ·intro g
       show(if g=1 then K ts (j+1) else _).still
       split
       ·exact hK _ _
       ·exact ih _ _ _ _
    exact st _ _ _ _ _
   ·by_cases h1:A.1=1
    ·rw [if_pos h1,if_pos h1]
     exact .inr ⟨j+1,hn.ok,λhf=>hfa hf hn,by show j+1<=A.2.1.at_;rw [hn.at_,ha];exact Nat.le_refl _,by show lastP A.2.1=_;rw [lastP_at,hn.at_,ha],rfl⟩
    ·rw [if_neg h1,if_neg h1]
     refine(dnPg_run b v K hK n _ _ _ _ _ _ _ hn.ok (by rw [hn.at_,ha]) (Nat.le_refl _) ?_).imp_right (λ⟨d',q1,q2,q3⟩=>⟨d',q1,λhf=>q2 (hfa hf hn),q3⟩)
     rw [lastP_at,hn.at_,ha]
def mxNote (a:Nat) (r:RWD):RWD:=if traceP (a:Int) r=[] then { r with traces:=r.traces.set a [(r.now:Int)] } else r
def upPg (b:Nat) (K:Pg) (ts:List (Nat×Bool)):Nat->Pg
 | 0=>K
 | n+1=>if (ts.getD n (0,false)).2=true then .acc 1 ((b+(ts.getD n (0,false)).1 - 1:Nat):Int) 1 0 (mxNote (b+(ts.getD n (0,false)).1 - 1)) λ_=>upPg b K ts n else upPg b K ts n
theorem upPg_still (b:Nat) {K:Pg} (hK:K.still) (ts:List (Nat×Bool)):∀ n,(upPg b K ts n).still
 | 0=>hK
 | n+1=>by
  unfold upPg
  split
  ·exact λ_=>upPg_still b hK ts n
  ·exact upPg_still b hK ts n
theorem upAcc_eff {t:TapeP} {r:RWD} (a:Nat) {t':TapeP} {r':RWD} (hf:TpFr t) (ht:TpOk t) (hn:AccOk t r t' r') (h3:t.fresh=false->False):effP (mxNote a) t' r'=if traceP (a:Int) r'=[] then noteP (a:Int) [lastP t'] t' r' else r':=by
 unfold effP mxNote noteP
 by_cases hj:justP t'=true
 ·rw [if_pos hj]
  have hfr:t'.fresh=false:=by
   unfold justP at hj
   cases e:t'.fresh with
   | false=>rfl
   | true=>rw [e] at hj;simp at hj
  have hl:lastP t'=(r'.now:Int):=by
   rcases hn.fresh with h9|h9|h9
   ·rw [hfr] at h9;cases h9
   ·rw [hn.now];exact h9.2
   ·exact(h3 h9).elim
  split
  ·by_cases hlt:(a:Int)<(r'.traces.length:Int)
   ·rw [if_pos ⟨hj,by omega,hlt⟩,hl];rfl
   ·rw [if_neg (λx=>hlt x.2.2),List.set_eq_of_length_le (by omega)]
  ·rfl
 ·rw [if_neg hj]
  split
  ·rw [if_neg (λx=>hj x.1)]
  ·rfl
theorem upPg_run (b:Nat) {K:Pg} (hK:K.still) (ts:List (Nat×Bool)):∀(n:Nat) (t:TapeP) (r:RWD),TpOk t->TpFr t->
  ((upRun b ts n t r).1.halt=true/\(upPg b K ts n).run t r=upRun b ts n t r)∨(TpOk (upRun b ts n t r).1/\(∀ d,d<=t.at_->lastAt d (upRun b ts n t r).1=lastAt d t)/\(upPg b K ts n).run t r=K.run (upRun b ts n t r).1 (upRun b ts n t r).2)
 | 0,t,r,ht,hf=>.inr ⟨ht,λ_ _=>rfl,rfl⟩
 | n+1,t,r,ht,hf=>by
  unfold upRun upPg
  rw [if_neg (by rw [ht.halt];exact Bool.false_ne_true)]
  by_cases hb:(ts.getD n (0,false)).2=true
  ·rw [if_pos hb,if_pos hb]
   obtain⟨a,ha⟩:∃ a,a=b+(ts.getD n (0,false)).1 - 1:=⟨_,rfl⟩
   rw [<-ha]
   have hrun:(Pg.acc 1 (a:Int) 1 0 (mxNote a) λ_=>upPg b K ts n).run t r=(upPg b K ts n).run (accP 1 (a:Int) 1 0 t r).2.1 (effP (mxNote a) (accP 1 (a:Int) 1 0 t r).2.1 (accP 1 (a:Int) 1 0 t r).2.2):=rfl
   rw [hrun]
   have e1:(upAcc a t r).1=(accP 1 (a:Int) 1 0 t r).2.1:=rfl
   have e2:(upAcc a t r).2=if traceP (a:Int) (accP 1 (a:Int) 1 0 t r).2.2=[] then noteP (a:Int) [lastP (accP 1 (a:Int) 1 0 t r).2.1] (accP 1 (a:Int) 1 0 t r).2.1 (accP 1 (a:Int) 1 0 t r).2.2 else (accP 1 (a:Int) 1 0 t r).2.2:=rfl
   rcases accP_next 1 (a:Int) 1 0 r ht with⟨n1,n2,n3⟩|hn
   ·have e3:(upAcc a t r).2=r:=by
     rw [e2,n3]
     split
     ·unfold noteP;rw [if_neg (λx=>by have:=x.1;rw [just_halt n2] at this;cases this)]
     ·rfl
    have e4:effP (mxNote a) (accP 1 (a:Int) 1 0 t r).2.1 (accP 1 (a:Int) 1 0 t r).2.2=r:=by unfold effP;rw [just_halt n2,n3];rfl
    rw [e1,e3,e4]
    have e5:upRun b ts n (accP 1 (a:Int) 1 0 t r).2.1 r=((accP 1 (a:Int) 1 0 t r).2.1,r):=by
     cases n with
     | zero=>rfl
     | succ n=>unfold upRun;rw [if_pos n2]
    rw [e5]
    exact .inl ⟨n2,Pg.run_still _ _ _ (upPg_still b hK ts n) n2⟩
   ·obtain⟨q0,hfr'⟩:=acc_fr ht hf hn
    have e3:=upAcc_eff a hf ht hn q0
    rw [e3,<-e2,e1]
    rcases upPg_run b hK ts n (accP 1 (a:Int) 1 0 t r).2.1 (upAcc a t r).2 hn.ok hfr' with h9|⟨h7,h8,h9⟩
    ·exact .inl h9
    ·exact .inr ⟨h7,λd hd=>(h8 d (by rw [hn.at_];omega)).trans (hn.last d hd),h9⟩
  ·rw [if_neg hb,if_neg hb]
   exact upPg_run b hK ts n t r ht hf
def rdOut (ts:List (Nat×Bool)) (val:Nat) (t:TapeP) (r:RWD):OutP:=if t.halt=true then { t.outs with val:=0 } else ⟨t.err,val,t.list,mxKeyW (rSet r 0) ts (lastP t),t.priv⟩
def rdK (ts:List (Nat×Bool)) (val:Nat):Pg:=.ret (rdOut ts val)
def wrOut (ts:List (Nat×Bool)) (d:Nat) (t:TapeP) (r:RWD):OutP:=if t.halt=true then t.outs else ⟨t.err,t.val,t.list,mxKeyW (rSet r 0) ts (lastAt d t),t.priv⟩
def wrKK (ts:List (Nat×Bool)) (d:Nat):Pg:=.ret (wrOut ts d)
def wrPgK (ts:List (Nat×Bool)) (d:Nat):Pg:=upPg 0 (wrKK ts d) ts ts.length
def ltOut (ts:List (Nat×Bool)) (d:Nat) (t:TapeP) (r:RWD):OutP:=if t.halt=true then t.outs else ⟨t.err,t.val,t.list,if (ts.any λt=>t.2 && decide (rSet r 0 t.1=0))=true then [] else mxKeyW (rSet r 0) ts (lastAt d t),t.priv⟩
def ltK (ts:List (Nat×Bool)) (d:Nat):Pg:=.ret (ltOut ts d)
def mxPg (m:Nat) (c:CallD):Pg:=if c.kind=1 then rdPg 0 rdK m 1 [] 0 else dnPg 0 c.a wrPgK m 1 [] 0 0
theorem wrKK_still (ts:List (Nat×Bool)) (d:Nat):(wrKK ts d).still:=λt r hh=>by unfold wrOut;rw [if_pos hh]
theorem ltK_still (ts:List (Nat×Bool)) (d:Nat):(ltK ts d).still:=λt r hh=>by unfold ltOut;rw [if_pos hh]
theorem rmax_rd {m:Nat} {c:CallD} (h1:c.kind=1) (t:TapeP) (r:RWD):rmaxDo m c t r=(mxPg m c).run t r:=by
 unfold rmaxDo mxPg
 rw [if_pos h1,if_pos h1,rdPg_run]
 unfold mxReadP
 obtain⟨z,hz⟩:∃ z,z=rdRun 0 m 1 [] 0 t r:=⟨_,rfl⟩
 rw [<-hz]
 show _=(z.2.1.out (rdOut z.1.1 z.1.2 z.2.1 z.2.2),z.2.2)
 unfold rdEnd rdOut
 by_cases hh:z.2.1.halt=true
 ·rw [if_pos hh,if_pos hh];rfl
 ·rw [if_neg hh,if_neg hh];rfl
theorem rmax_wr {m:Nat} {c:CallD} (h0:c.kind=0) (hz:c.a / 2^m=0) {t:TapeP} (r:RWD) (ht:TpOk t) (ha:t.at_=0) (hf:t.fresh=true):rmaxDo m c t r=(mxPg m c).run t r:=by
 unfold rmaxDo mxPg
 rw [if_neg (by omega),if_neg (λx=>x h0),if_neg (λx=>x hz),if_neg (by omega)]
 unfold mxWriteP wrMid
 have hf':TpFr t:=λe=>by rw [hf] at e;cases e
 have hst:∀ ts d,(wrPgK ts d).still:=λts d=>upPg_still 0 (wrKK_still ts d) ts _
 rcases dnPg_run 0 c.a wrPgK hst m 1 [] 0 0 (t.inv:Int) t r ht ha (Nat.le_refl _) rfl with⟨d1,d2⟩|⟨d',d1,d2,d3,d4,d5⟩
 ·rw [d2]
  obtain⟨z,hz⟩:∃ z,z=dnRun 0 c.a m 1 [] (t.inv:Int) t r:=⟨_,rfl⟩
  rw [<-hz] at d1 ⊢
  have e5:upRun 0 z.1.1 z.1.1.length z.2.1 z.2.2=z.2:=by
   cases z.1.1.length with
   | zero=>rfl
   | succ n=>unfold upRun;rw [if_pos d1]
  rw [e5]
  unfold wrEnd
  rw [if_pos d1]
 ·rw [d5]
  obtain⟨z,hz⟩:∃ z,z=dnRun 0 c.a m 1 [] (t.inv:Int) t r:=⟨_,rfl⟩
  rw [<-hz] at d1 d2 d3 d4 ⊢
  show _=(upPg 0 (wrKK z.1.1 d') z.1.1 z.1.1.length).run z.2.1 z.2.2
  unfold wrEnd
  rcases upPg_run 0 (wrKK_still z.1.1 d') z.1.1 z.1.1.length z.2.1 z.2.2 d1 (d2 hf') with⟨u1,u2⟩|⟨u1,u2,u3⟩
  ·rw [u2,if_pos u1]
  ·rw [u3,if_neg (by rw [u1.halt];exact Bool.false_ne_true)]
   show _=(TapeP.out _ (wrOut z.1.1 d' _ _),_)
   unfold wrOut
   rw [if_neg (by rw [u1.halt];exact Bool.false_ne_true),u2 d' d3,<-d4]
   rfl
end
section

/- The reference's tape: its last tick, what it marks, and what it notes. -/
open Go.RowKit
variable {B:RBase} {w w':World} {t:TapeP} {r:RWD}
theorem ListsAt.put {Mut:Nat->Prop} {b n p:Nat} {ls:List (List Int)} {v:Value} {l:List Int} (h:ListsAt w Mut b n ls) (hM:Mut b) (hv:Lst w Mut v l):ListsAt (w.setCell ⟨b,p,none⟩ v) Mut b n (ls.set p l):=by
 obtain⟨vs,hb,hn,hvs⟩:=h.blk
 have hc:Chg (λk=>k=b) w (w.setCell ⟨b,p,none⟩ v):=(Chg.refl (λk=>k=b) w).setCell (p:=⟨b,p,none⟩) (.inl rfl) _
 have hS:∀ k,k=b->Mut k:=λk e=>by rw [e];exact hM
 refine⟨by simpa using h.len,vs.set p v,by rw [blk_set hb];simp,by simpa using hn,λi hi=>?_⟩
 by_cases e:p=i
 ·subst e
  rw [getD_set_eq (by omega),getD_set_eq (by rw [h.len];exact hi)]
  exact hv.keep hc hS (MutUp.refl _ _)
 ·rw [getD_set_neq e,getD_set_neq e]
  exact(hvs i hi).keep hc hS (MutUp.refl _ _)
theorem RAtL.putTrace {v:Value} {l:List Int} (h:RAtL B w t r v l) (p:Nat):RAt B (w.setCell ⟨B.I.bT,p,none⟩ v) t { r with traces:=r.traces.set p l }:=by
 obtain⟨G,K,L,h1,h2,h9⟩:=h
 obtain⟨PV,LV,KV,ht,hpv,hl,hk⟩:=h1.tape
 obtain⟨bm,bt⟩:=h1.bm
 have hc:Chg (λk=>k=B.I.bT) w (w.setCell ⟨B.I.bT,p,none⟩ v):=(Chg.refl (λk=>k=B.I.bT) w).setCell (p:=⟨B.I.bT,p,none⟩) (.inl rfl) _
 have hS:∀ k,k=B.I.bT->RMut B.I G K L k:=λk e=>.inl (.inr (.inr e))
 have rto:RTo w _ B.I G K L G K L:=⟨hc.mono (λ_ _ e=>.inr (.inr e)),KeepB.refl _ _,KeepB.refl _ _,KeepB.refl _ _⟩
 exact⟨G,K,L,⟨⟨PV,LV,KV,ht.chg hc (λk hk hs=>by rw [hs] at hk;exact bt hk),hpv.keep hc hS (MutUp.refl _ _),hl.keep hc hS (MutUp.refl _ _),hk.keep hc hS (MutUp.refl _ _)⟩,h1.marks.keep hc hS (MutUp.refl _ _) h1.sep.1,h1.traces.put (hS _ rfl) h9,h1.sep,h1.dis,λb hb=>Nat.lt_of_lt_of_le (h1.low b hb) hc.size,h1.at_le,h1.tl,h1.room⟩,h2.trans rto⟩
theorem RAt.world (h:RAt B w t r):(∃ bW,bW=B.I.bW/\w.cell? ⟨B.I.tb,B.I.pre.length,none⟩=some (.pointer (some ⟨bW,0,none⟩))/\w.cell? ⟨bW,7,none⟩=some (.slice (some ⟨B.I.bM,0,none⟩) r.marks.length r.marks.length)/\w.cell? ⟨bW,8,none⟩=some (.slice (some ⟨B.I.bT,0,none⟩) r.traces.length r.traces.length))/\
  (∀ p,p<r.marks.length->(∃ v,w.cell? ⟨B.I.bM,p,none⟩=some v/\RAtL B w t r v (r.marks.getD p []))/\w.frozen? ⟨B.I.bM,p,none⟩=false)/\(∀ p,p<r.traces.length->(∃ v,w.cell? ⟨B.I.bT,p,none⟩=some v/\RAtL B w t r v (r.traces.getD p []))/\w.frozen? ⟨B.I.bT,p,none⟩=false):=by
 obtain⟨G,K,L,h1,h2⟩:=h
 obtain⟨PV,LV,KV,ht,_⟩:=h1.tape
 obtain⟨ms,hM,hmn,hms⟩:=h1.marks.blk
 obtain⟨ts,hT,htn,hts⟩:=h1.traces.blk
 obtain⟨wa,cap,_,hW,_⟩:=ht.mem.blk
 have hW':w.heap[B.I.bW]?=_:=hW
 have e1:=h1.marks.len
 have e2:=h1.traces.len
 refine⟨⟨B.I.bW,rfl,ht.cell0,?_,?_⟩,λp hp=>⟨⟨ms.getD p undef,?_,G,K,L,h1,h2,hms p (by omega)⟩,frozen_blk hM _⟩,λp hp=>⟨⟨ts.getD p undef,?_,G,K,L,h1,h2,hts p (by omega)⟩,frozen_blk hT _⟩⟩
 ·rw [cell_blk hW',e1];rfl
 ·rw [cell_blk hW',e2];rfl
 ·rw [cell_blk hM];simp [List.getD_eq_getElem?_getD,show p<ms.length by omega]
 ·rw [cell_blk hT];simp [List.getD_eq_getElem?_getD,show p<ts.length by omega]
theorem RAt.lists (h:RAt B w t r):(∃ gc ga,w.cell? ⟨B.I.tb,B.I.pre.length+3,none⟩=some (.slice ga t.got.length gc))/\(∃ ka kc,w.cell? ⟨B.I.tb,B.I.pre.length+4,none⟩=some (.slice ka t.ticks.length kc)/\∀ i,i<t.ticks.length->∃ b o,ka=some ⟨b,o,none⟩/\w.cell? ⟨b,o+i,none⟩=some (.int .i64 (t.ticks.getD i 0)))/\t.at_<=t.got.length/\t.ticks.length=t.got.length/\t.got.length<=100000000:=by
 obtain⟨G,K,L,h1,h2⟩:=h
 obtain⟨PV,LV,KV,ht,_⟩:=h1.tape
 have hgl:t.got.length<=100000000:=ht.glen
 obtain⟨ga,gc,rfl⟩:=row_form ht.got
 obtain⟨ka,kc,rfl⟩:=row_form ht.ticks
 have htl:=h1.tl
 refine⟨⟨gc,ga,ht.cell (i:=3) (by omega)⟩,⟨ka,kc,ht.cell (i:=4) (by omega),λi hi=>?_⟩,h1.at_le,htl,hgl⟩
 have hkr:w.ownsRow 0 3 1 (.slice ka t.ticks.length kc) t.ticks.length (t.ticks.map intV):=ht.ticks
 obtain⟨hsl,_⟩:=row_sl hkr (by unfold maxLen;omega) (g:=intG t.ticks) (λj hj=>by simp [intG,intV,List.getD_eq_getElem?_getD,hj])
 obtain⟨b,o,rfl,_,hc⟩:=hsl.2 i hi
 have:=hc 0 (by omega)
 rw [Nat.mul_one,Nat.add_zero] at this
 exact⟨b,o,rfl,this⟩
theorem last_r (h:RAt B w t r):Calls Tryz.prog 107 #[.pointer (some ⟨B.I.tb,B.I.pre.length,none⟩)] w λe w'=>e=.returned (.int .i64 (lastP t))/\Below w.heap.size w w':=by
 have c5:=h.cAt
 have c2:=h.cInv
 obtain⟨_,⟨ka,kc,c4,hk⟩,h1,h2,h3⟩:=h.lists
 obtain⟨l,hl⟩:∃ l,l=lastP t:=⟨_,rfl⟩
 rw [<-hl]
 by_cases h0:t.at_=0
 ·have hl':l=(t.inv:Int):=by rw [hl];unfold lastP;rw [if_pos h0]
  subst hl'
  rw [h0] at c5
  clear hl hk c4 h1 h2 h3 h h0
  go_enter Tryz.func107,Tryz.ntmps107
  go_wp2
  go_ret
  exact⟨rfl,Gr.refl _⟩
 ·have hl':l=t.ticks.getD (t.at_ - 1) 0:=by rw [hl];unfold lastP;rw [if_neg h0]
  obtain⟨b,o,rfl,hc⟩:=hk (t.at_ - 1) (by omega)
  rw [<-hl'] at hc
  obtain⟨n,hn⟩:∃ n,n=t.ticks.length:=⟨_,rfl⟩
  obtain⟨a,ha⟩:∃ a,a=t.at_ - 1:=⟨_,rfl⟩
  have ha1:t.at_=a+1:=by omega
  rw [<-hn] at c4
  rw [<-ha] at hc
  rw [ha1] at c5
  have c5':w.cell? ⟨B.I.tb,B.I.pre.length+5,none⟩=some (.int .i64 ((a:Int)+1)):=c5
  have l1:(a:Int)<(n:Int):=by omega
  have l2:¬ ((a:Int)+1)=0:=by omega
  have l3:(((a:Int)+1) == 0)=false:=by simp;omega
  have l4:IntKind.i64.wrap ((a:Int)+1 - 1)=(a:Int):=by rw [IntKind.wrap_i64];omega
  have l5:IntKind.i64.wrap (a:Int)=(a:Int):=by rw [IntKind.wrap_i64];omega
  have l6:¬ (a:Int)<0:=by omega
  have C5:=grown_cell c5';have C4:=grown_cell c4;have HC:=grown_cell hc
  clear hl hl' hk c4 h1 h2 h3 h h0 c5 hc ha hn ha1 c2
  go_enter Tryz.func107,Tryz.ntmps107
  go_upto_region 3 with fail
  ((with_reducible refine wp_region_grown_lit (by kernel_rfl) (by kernel_rfl) ?_);(repeat ((with_reducible refine wpQuiet_step (λK hK=>?_));go_simp;((with_reducible refine hK _ ?_);clear hK K)));(with_reducible refine wpQuiet_nil ?_);intro _ hw';obtain⟨nq,hw''⟩:=hw';subst hw'')
  have hb:=nq.below
  go_wp2
  go_ret
  exact⟨rfl,hb⟩
end
end Go.Proofs.YteffgpcjfnjlkaaGreat
