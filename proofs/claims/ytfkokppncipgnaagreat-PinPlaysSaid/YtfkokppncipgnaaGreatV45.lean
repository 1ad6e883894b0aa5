/- A register of many words in the reference's play: RefOk, whole. -/
import Derived.Test.YtfkokppncipgnaaGreatV42
import Derived.Test.YtfkokppncipgnaaGreatV44
import Derived.Test.YtfkokppncipgnaaGreatV34
import Derived.Test.YtfkokppncipgnaaGreatV33
import Derived.Test.YtfkokppncipgnaaGreatV41
import Derived.Test.YtfkokppncipgnaaGreatV20
set_option maxRecDepth 100000
set_option linter.unusedVariables false
set_option linter.unusedSimpArgs false
set_option linter.unnecessarySimpa false
namespace Go.Proofs.YtfkokppncipgnaaGreat
section
open Go.RowKit
variable {n k:Nat} {calls:List CallD}
def PiGood9 (n k:Nat) (calls:List CallD) (st:PlayD (pinS n k)):Prop:=StGood calls st/\PiInv n k calls st/\st.wd.now<=65536
theorem piPg_rd {c:CallD} (h:c.kind=1) (p:Nat) (own:List Nat):piPg n k c p own=.acc 3 0 1 0 id λg=>piRdPg n k (g / 4294967296) k []:=if_pos h
theorem piPg_wr {c:CallD} (h:c.kind=0) (own:List Nat):piPg n k c 0 own=piLkPg n k c.a (piPad n own) (n+1):=by
 unfold piPg
 rw [if_neg (by omega),if_neg (λx=>x h),if_neg (λx=>x rfl)]
theorem piRd_acc (q:Nat):∀ m l,∃ kd a x y eff K,piRdPg n k q m l=.acc kd a x y eff K
 | 0,_=>⟨_,_,_,_,_,_,rfl⟩
 | _+1,_=>⟨_,_,_,_,_,_,rfl⟩
theorem piFl_acc (a q:Nat) (own:List Nat):∀ m,∃ kd a' x y eff K,piFlPg n k a q own m=.acc kd a' x y eff K
 | 0=>⟨_,_,_,_,_,_,rfl⟩
 | _+1=>⟨_,_,_,_,_,_,rfl⟩
theorem piLk_acc {a q now:Nat} {own:List Nat} (ho:own.getD (n+2) 0=now) (hq:q<=n) (hne:q≠now):piLkPg n k a own (n+1 - q)=.acc 0 ((1+q:Nat):Int) 0 0 id λg=>if g=own.getD q 0 then piFlPg n k a q own k else piLkPg n k a own (n - q):=by
 rw [show n+1 - q=(n - q)+1 by omega]
 show(if n - (n - q)=own.getD (n+2) 0 then _ else _)=_
 rw [show n - (n - q)=q by omega,if_neg (by rw [ho];exact hne)]
theorem tape_key {h:RHand} {p v now:Nat} (h1:1<=h.ticks.length):(tapeNew { h.tape p with at_:=h.got.length } v now).ticks.getD 0 0=h.ticks.getD 0 0:=by
 show(h.ticks++[(now:Int)]).getD 0 0=_
 rw [List.getD_eq_getElem?_getD,List.getD_eq_getElem?_getD,List.getElem?_append_left h1]
theorem piOwn_change {o:PinO} {own:List Nat} {q c:Nat} (hcl:o.come.length=n+1) (hnl:o.now<=n) (hq:q<=n) (hc:c<18446744073709551616) (hl:o.last<=c) (hcm:o.come.getD o.now 0<=o.last) (ho:own=o.come++[o.last,o.now]) :
  piOwn n own q c=(piCome o c)++[c,q]:=by
 have e1:own.getD (n+1) 0=o.last:=by rw [ho,List.getD_eq_getElem?_getD,List.getElem?_append_right (by omega),hcl,Nat.sub_self];rfl
 have e2:own.getD (n+2) 0=o.now:=by rw [ho,List.getD_eq_getElem?_getD,List.getElem?_append_right (by omega),hcl,show n+2 - (n+1)=1 by omega];rfl
 have e3:own.getD o.now 0=o.come.getD o.now 0:=by rw [ho,List.getD_eq_getElem?_getD,List.getD_eq_getElem?_getD,List.getElem?_append_left (by omega)]
 unfold piOwn
 rw [e2,e1,e3]
 have e4:((o.come.getD o.now 0+c) % 18446744073709551616+18446744073709551616 - o.last) % 18446744073709551616=(o.come.getD o.now 0+(c+18446744073709551616 - o.last) % 18446744073709551616) % 18446744073709551616:=by omega
 rw [e4,ho]
 unfold piCome
 rw [List.set_append_left _ _ (by omega),List.set_append_right _ _ (by rw [List.length_set];omega),List.set_append_right _ _ (by rw [List.length_set];omega),List.length_set,hcl,Nat.sub_self,show n+2 - (n+1)=1 by omega]
 rfl
set_option maxHeartbeats 1000000 in
theorem pin_ref_ok (hn:1<=n) (hn16:n<=16) (hk1:1<=k) (hk8:k<=8) (hthr:∀ c,c<calls.length->0<=(calls.getD c d0).thread/\(calls.getD c d0).thread<n):RefOk (pinS n k) (pinSim n k) n (rpinDo n k) lateM calls (PiGood9 n k calls) where
 refuse:=by
  intro st c p h e r hG hob hp hown hs hrw hgot htk
  have h9:(if c.kind=1 then Mc.run (PiS.rd 0 0 [] []) else if c.kind≠0 then .refuse 9 else if p≠0 then .refuse 11 else .run (.wr c.a (piNext st.obj.now 0) 0 0))=Mc.refuse e:=hs
  have fin:∀ e',piPg n k c p h.own=piErr e'->e'=e->∃ t',rpinDo n k c (h.tape p) r=(t',r)/\t'.halt=false/\t'.err=e/\t'.val=0/\t'.list=[]/\t'.key=[]/\(pinSim n k).Own st.obj p t'.priv:=λe' hP he=>by
   refine⟨{ h.tape p with err:=e' },?_,rfl,he,rfl,rfl,rfl,hown⟩
   show(piPg n k c p h.own).run (h.tape p) r=_
   rw [hP];rfl
  split at h9
  ·cases h9
  ·rename_i h1
   split at h9
   ·rename_i h0
    cases h9
    exact fin 9 (by unfold piPg;rw [if_neg h1,if_pos h0]) rfl
   ·rename_i h0
    split at h9
    ·rename_i h2
     cases h9
     exact fin 11 (by unfold piPg;rw [if_neg h1,if_neg h0,if_pos h2]) rfl
    ·cases h9
 start:=by
  intro st c p h σ r hG hob hth hp hown hs hrw hgot htk hinv
  have h9:(if c.kind=1 then Mc.run (PiS.rd 0 0 [] []) else if c.kind≠0 then .refuse 9 else if p≠0 then .refuse 11 else .run (.wr c.a (piNext st.obj.now 0) 0 0))=Mc.run σ:=hs
  have e0:h.ticks.length=h.got.length:=by rw [hgot,htk];rfl
  have e1:(piPg n k c p h.own).deep h.got:=by rw [hgot];exact Pg.deep_nil _
  refine⟨e0,e1,?_⟩
  rw [hgot,Pg.res_nil]
  split at h9
  ·rename_i h1
   cases h9
   exact⟨h1,rfl,htk,piPg_rd h1 _ _⟩
  ·split at h9
   ·cases h9
   ·rename_i h0
    split at h9
    ·cases h9
    ·rename_i h2
     have h0':c.kind=0:=by simpa using h0
     obtain rfl:p=0:=by simpa using h2
     cases h9
     have hpad:=(piPad_at (hown rfl) hG.2.1.w.cl).2.1
     refine⟨h0',rfl,rfl,?_⟩
     rw [piPg_wr h0',<-piLk_next hpad (Nat.zero_le n)]
     rfl
 step:=by
  intro st c p h σ r wd kk evs0 hG hf hc hp hinv hown hrel hrw hob
  obtain⟨hSt,hI,hnow⟩:=hG
  obtain⟨g1,g2,_,_⟩:=pi_pre hn hthr hSt hI hf
  have hmem:wd.mem=st.wd.mem:=from_mem hf
  obtain⟨htl,hdp,hT⟩:=hrel
  obtain⟨cc,c1,c2,c3,c4⟩:=hI.w.cell
  have hnl:=hI.w.nl
  have h0l:0<wd.mem.ws.length:=by rw [hmem,hI.w.wl];omega
  show StepSim (pinSim n k) n p c h st.obj r σ wd ((piPg n k c p h.own).run (h.tape p) r)
  match σ,g2,hT with
  | .rd q 0 l key,g2,hT=>
   obtain⟨t1,rfl,ht0,t3⟩:=hT
   obtain⟨a1,a2⟩:=acc_add hrw 0 1
   obtain⟨d1,d2⟩:=doAdd_ws h0l 1
   refine Pg.sim (h:=h) hdp t3 a1 rfl (o':=st.obj) (wd':=doAdd wd 0 1) (σ':=.rd (adGot wd 0 1 / 4294967296) 1 [] (tickKey wd)) (b:=false) rfl a2 rfl rfl (λe=>by cases e) (λ_=>⟨piRd_acc _ _ _,λhd hr=>⟨?_,hd,t1,Nat.zero_le _,?_,?_,?_,?_⟩,hown⟩)
   ·show(h.ticks++[_]).length=(h.got++[_]).length
    rw [List.length_append,List.length_append,htl];rfl
   ·rw [Nat.sub_zero];exact hr
   ·show tickKey wd=[2*(h.ticks++[(r.now:Int)]).getD 0 0]
    rw [ht0,hrw.now];rfl
   ·show 1<=(h.ticks++[_]).length
    rw [List.length_append,List.length_singleton];omega
   ·have hg0:h.got=[]:=List.eq_nil_of_length_eq_zero (by rw [<-htl,ht0];rfl)
    show(h.got++[adGot wd 0 1]).getD 0 0 / 4294967296=_
    rw [hg0];rfl
  | .rd q (j+1) l key,g2,hT=>
   obtain⟨t1,t2,t3,t4,t5,t6⟩:=hT
   obtain⟨_,_,_,_,b5⟩:=g2
   have hqn:=(b5 (by omega)).1
   by_cases hj:j<k
   ·rw [show k - j=(k - j - 1)+1 by omega] at t3
    have t3':(piPg n k c p h.own).res h.got=.acc 0 ((piWord n k q j:Nat):Int) 0 0 id λg=>piRdPg n k q (k - j - 1) (l++[g]):=by
     rw [t3]
     show Pg.acc 0 ((piWord n k q (k - ((k - j - 1)+1)):Nat):Int) 0 0 id _=_
     rw [show k - ((k - j - 1)+1)=j by omega]
    obtain⟨a1,a2⟩:=acc_read hrw (piWord n k q j)
    have hst:(pinS n k).step st.obj wd p (.rd q (j+1) l key)=(st.obj,taRead wd (piWord n k q j),.rd q (j+2) (l++[taGot wd (piWord n k q j)]) key,false):=if_pos hj
    refine Pg.sim (h:=h) hdp t3' a1 rfl hst a2 rfl rfl (λe=>by cases e) (λ_=>⟨piRd_acc _ _ _,λhd hr=>⟨?_,hd,t1,by omega,?_,?_,?_,?_⟩,hown⟩)
    ·show(h.ticks++[_]).length=(h.got++[_]).length
     rw [List.length_append,List.length_append,htl];rfl
    ·rw [show k - (j+1)=k - j - 1 by omega];exact hr
    ·rw [t4]
     show _=[2*(h.ticks++[(r.now:Int)]).getD 0 0]
     rw [List.getD_eq_getElem?_getD (l:=h.ticks++_),List.getElem?_append_left t5,<-List.getD_eq_getElem?_getD]
    ·show 1<=(h.ticks++[_]).length
     rw [List.length_append,List.length_singleton];omega
    ·show(h.got++[_]).getD 0 0 / 4294967296=_
     rw [List.getD_eq_getElem?_getD,List.getElem?_append_left (by rw [<-htl];exact t5),<-List.getD_eq_getElem?_getD]
     exact t6
   ·obtain rfl:j=k:=by omega
    rw [Nat.sub_self] at t3
    obtain⟨a1,a2⟩:=acc_add hrw (piLeft q) 1
    have hst:(pinS n j).step st.obj wd p (.rd q (j+1) l key)=(st.obj,doAdd wd (piLeft q) 1,.rd q (j+2) l key,true):=if_neg hj
    refine Pg.sim (h:=h) (a:=((piLeft q:Nat):Int)) hdp t3 a1 rfl hst a2 rfl rfl (λ_=>⟨_,rfl,λt1 ht1=>⟨?_,?_,?_⟩⟩) (λe=>by cases e)
    ·rw [ht1];rfl
    ·show rkey _ p [2*t1.ticks.getD 0 0]=keyOf _ p key
     rw [ht1,tape_key t5,<-t4]
     exact rkey_same a2 hp _
    ·rw [ht1];exact hown
  | .wr v q i 0,g2,hT=>
   obtain⟨t1,rfl,rfl,t4⟩:=hT
   obtain⟨rfl,_,_,hqne,b5⟩:=g2
   rcases b5 with⟨_,_,s1,s2⟩|⟨b1,_⟩
   case inr=>omega
   have hqn:=pi_look hqne s1 s2
   obtain⟨o1,o2,o3,o4⟩:=piPad_at (hown rfl) hI.w.cl
   rw [piLk_acc o2 hqn hqne,o3 q hqn] at t4
   obtain⟨a1,a2⟩:=acc_read hrw (piLeft q)
   have hgot:taGot wd (piLeft q)=st.wd.mem.ws.getD (1+q) 0:=by
    rw [taGot_in (by rw [hmem,hI.w.wl];exact piLeft_lt hqn),hmem];rfl
   have hbal:=c4 q hqn
   rw [if_neg hqne,Nat.add_zero] at hbal
   by_cases hcm:taGot wd (piLeft q)=st.obj.come.getD q 0
   ·have hst:(pinS n k).step st.obj wd 0 (.wr c.a q 0 0)=(st.obj,taRead wd (piLeft q),.wr c.a q 0 1,false):=if_pos hcm
    refine Pg.sim (h:=h) (a:=((piLeft q:Nat):Int)) hdp t4 a1 rfl hst a2 rfl rfl (λe=>by cases e) (λ_=>⟨?_,λhd hr=>⟨?_,hd,t1,rfl,hk1,?_⟩,hown⟩)
    ·rw [if_pos hcm];exact piFl_acc _ _ _ _
    ·show(h.ticks++[_]).length=(h.got++[_]).length
     rw [List.length_append,List.length_append,htl];rfl
    ·rw [if_pos hcm] at hr;rw [Nat.sub_zero];exact hr
   ·have hst:(pinS n k).step st.obj wd 0 (.wr c.a q 0 0)=(st.obj,taRead wd (piLeft q),.wr c.a (piNext st.obj.now (q+1)) 0 0,false):=if_neg hcm
    have h1:=piFar_less (now:=st.obj.now) (q:=q) hqne st.hands
    have hq1:q+1<=n/\piNext st.obj.now (q+1)<=n/\piNext st.obj.now (q+1)≠st.obj.now:=by
     rw [hgot] at hcm
     unfold piNext
     split at s1<;>split<;>omega
    have hnx:=piLk_next (k:=k) (a:=c.a) o2 hq1.1
    rw [show n+1 - (q+1)=n - q by omega] at hnx
    refine Pg.sim (h:=h) (a:=((piLeft q:Nat):Int)) hdp t4 a1 rfl hst a2 rfl rfl (λe=>by cases e) (λ_=>⟨?_,λhd hr=>⟨?_,hd,t1,rfl,rfl,?_⟩,hown⟩)
    ·rw [if_neg hcm,hnx,piLk_acc o2 hq1.2.1 hq1.2.2]
     exact⟨_,_,_,_,_,_,rfl⟩
    ·show(h.ticks++[_]).length=(h.got++[_]).length
     rw [List.length_append,List.length_append,htl];rfl
    ·rw [if_neg hcm,hnx] at hr;exact hr
  | .wr v q i 1,g2,hT=>
   obtain⟨t1,rfl,t3,t4⟩:=hT
   obtain⟨rfl,_,_,hqne,b5⟩:=g2
   rcases b5 with⟨b1,_⟩|⟨_,_,s1,s2,s3,s4,s5,s6,s7⟩
   ·omega
   have t4':(piPg n k c 0 h.own).res h.got=.acc 1 ((piWord n k q i:Nat):Int) ((c.a+i) % 18446744073709551616) 0 id λ_=>piFlPg n k c.a q (piPad n h.own) (k - i - 1):=by
    obtain⟨m',hm'⟩:∃ m',k - i=m'+1:=⟨k - i - 1,by omega⟩
    rw [t4,show k - i - 1=m' by omega,hm']
    show Pg.acc 1 ((piWord n k q (k - (m'+1)):Nat):Int) ((c.a+(k - (m'+1))) % _) 0 id _=_
    rw [show k - (m'+1)=i by omega]
   have a2:=acc_write hrw (piWord n k q i) ((c.a+i) % 18446744073709551616)
   have hst:(pinS n k).step st.obj wd 0 (.wr c.a q i 1)=(st.obj,doWrite wd (piWord n k q i) ((c.a+i) % 18446744073709551616),.wr c.a q (i+1) (if i+1=k then 2 else 1),false):=rfl
   refine Pg.sim (h:=h) hdp t4' rfl rfl hst a2 rfl rfl (λe=>by cases e) (λ_=>⟨piFl_acc _ _ _ _,λhd hr=>⟨?_,hd,?_⟩,hown⟩)
   ·show(h.ticks++[_]).length=(h.got++[_]).length
    rw [List.length_append,List.length_append,htl];rfl
   ·by_cases hl:i+1=k
    ·rw [if_pos hl]
     refine⟨t1,rfl,?_⟩
     rw [show k - i - 1=0 by omega] at hr;exact hr
    ·rw [if_neg hl]
     refine⟨t1,rfl,by omega,?_⟩
     rw [show k - (i+1)=k - i - 1 by omega];exact hr
  | .wr v q i (ph+2),g2,hT=>
   obtain⟨t1,rfl,t4⟩:=hT
   obtain⟨rfl,_,_,hqne,b5⟩:=g2
   rcases b5 with⟨b1,_⟩|⟨_,_,s1,s2,s3,s4,s5,s6,s7⟩
   ·omega
   obtain⟨o1,o2,o3,o4⟩:=piPad_at (hown rfl) hI.w.cl
   have hdf:piDiff q ((piPad n h.own).getD (n+2) 0)=piDiff q st.obj.now:=by rw [o2]
   unfold piChPg at t4
   rw [hdf] at t4
   obtain⟨a1,a2⟩:=acc_add hrw 0 (piDiff q st.obj.now)
   obtain⟨d1,d2⟩:=doAdd_ws h0l (piDiff q st.obj.now)
   have hx:adGot wd 0 (piDiff q st.obj.now) % 4294967296=cc:=by rw [d2,hmem,c1];omega
   have hst:(pinS n k).step st.obj wd 0 (.wr c.a q i (ph+2))=(⟨piCome st.obj (adGot wd 0 (piDiff q st.obj.now) % 4294967296),adGot wd 0 (piDiff q st.obj.now) % 4294967296,q⟩,doAdd wd 0 (piDiff q st.obj.now),.wr c.a q i (ph+2),true):=rfl
   rw [hx] at hst
   have hch:=piOwn_change (own:=piPad n h.own) (q:=q) (c:=cc) hI.w.cl hnl s1 (by omega) c3 (hI.w.cm _ hnl) (hown rfl).pad
   refine Pg.sim (h:=h) hdp t4 a1 rfl hst a2 rfl rfl (λ_=>⟨_,rfl,λt1 ht1=>⟨?_,?_,λ_=>⟨?_,?_⟩⟩⟩) (λe=>by cases e)
   ·rw [ht1];rfl
   ·rw [ht1];exact rkey_same a2 hp _
   ·right
    show(piOwn n (piPad n h.own) q _).length=n+3
    rw [piOwn_len];exact o4
   ·show piPad n (piOwn n (piPad n h.own) q (adGot wd 0 (piDiff q st.obj.now) % 4294967296))=_
    rw [hx]
    have hl':(piOwn n (piPad n h.own) q cc).length=n+3:=by rw [piOwn_len];exact o4
    have e:piPad n (piOwn n (piPad n h.own) q cc)=piOwn n (piPad n h.own) q cc++List.replicate (n+3 - (piOwn n (piPad n h.own) q cc).length) 0:=rfl
    rw [e,hl',Nat.sub_self]
    exact(List.append_nil _).trans hch
 ownOther:=by
  intro st p σ wd kk evs0 q own hG hf hqp h
  obtain⟨hSt,hI,hnow⟩:=hG
  obtain⟨g1,g2,_,_⟩:=pi_pre hn hthr hSt hI hf
  have keep:((pinS n k).step st.obj wd p σ).1=st.obj∨p=0:=by
   match σ,g2 with
   | .wr v q' i 0,_=>
    left
    show(if _ then _ else _:PinO×WD×PiS×Bool).1=_
    split<;>rfl
   | .wr v q' i 1,_=>exact .inl rfl
   | .wr v q' i (ph+2),g2=>exact .inr g2.1
   | .rd q' 0 l key,_=>exact .inl rfl
   | .rd q' (j+1) l key,_=>
    left
    show(if _ then _ else _:PinO×WD×PiS×Bool).1=_
    split<;>rfl
  intro hq
  rcases keep with e|e
  ·rw [e];exact h hq
  ·omega
 relOther:=by
  intro st p σ wd kk evs0 r q c h σ' r' hG hf hqp hh hrel hrw
  exact hrel
 relTick:=λ_ _ _ _ _ _ h=>h
 relBegin:=λ_ _ _ _ _ _ _ h=>h
 late:=by
  intro st c p h σ r hG hh hinv hrel hrw hp
  exact hrw.marks p hp
end
section

/- The reference's play of a register of many words. -/
open Go.RowKit
structure PinPre (n:Nat) (c:CallD) (t:TapeP) (r:RWD):Prop where
 tick:TickPre c t r
 list:t.list=[]
 halt:t.halt=false
 fresh:t.fresh=true
 at0:t.at_=0
 got:c.kind=1->t.got.getD 0 0<18446744073709551616
 own:t.thread=0->t.priv.length<=n+3/\(∀ x,x∈t.priv->x<18446744073709551616)/\(piPad n t.priv).getD (n+2) 0<=n
theorem pin_first {B:RBase} {w:World} {t:TapeP} {r:RWD} (h:RAt B w t r) {n:Nat} {c:CallD} (hp:PinPre n c t r) (hk:c.kind=1):(accP 3 0 1 0 t r).1<18446744073709551616/\(accP 3 0 1 0 t r).2.1.ticks.getD 0 0<=1000000/\0<=(accP 3 0 1 0 t r).2.1.ticks.getD 0 0:=by
 obtain⟨_,_,_,htl,_⟩:=h.lists
 obtain⟨G,K,L,h1,_⟩:=h
 obtain⟨PV,LV,KV,ht,_⟩:=h1.tape
 have hv:=ht.mem.val
 unfold accP
 rw [if_neg (by rw [hp.halt];exact Bool.false_ne_true)]
 by_cases h5:t.at_<t.got.length
 ·rw [if_pos h5]
  rw [hp.at0] at h5 ⊢
  refine⟨hp.got hk,?_⟩
  show t.ticks.getD 0 0<=1000000/\0<=t.ticks.getD 0 0
  have e:t.ticks.getD 0 0=t.ticks[0]'(by omega):=by rw [List.getD_eq_getElem?_getD,List.getElem?_eq_getElem (by omega)];rfl
  have h9:=hp.tick.2.2.1 _ (List.getElem_mem (show 0<t.ticks.length by omega))
  rw [e];exact⟨h9.2,h9.1⟩
 ·rw [if_neg h5,if_pos hp.fresh]
  rw [hp.at0] at h5
  have e0:t.ticks=[]:=List.eq_nil_of_length_eq_zero (by omega)
  refine⟨?_,?_⟩
  ·show(memAdd r.mem 0 1).2<_
   unfold memAdd
   split
   ·exact(by decide:(0:Nat)<18446744073709551616)
   ·show r.mem.ws.getD _ 0<_
    rw [List.getD_eq_getElem?_getD]
    cases hx:r.mem.ws[(0:Int).toNat]? with
    | none=>exact(by decide:(0:Nat)<18446744073709551616)
    | some x=>exact hv x (List.mem_of_getElem? hx)
  ·show(t.ticks++[(r.now:Int)]).getD 0 0<=1000000/\0<=(t.ticks++[(r.now:Int)]).getD 0 0
   rw [e0]
   show(r.now:Int)<=1000000/\0<=(r.now:Int)
   have:=hp.tick.2.1
   omega
section err
variable {B:RBase} {w:World} {t:TapeP} {r:RWD}
set_option maxHeartbeats 4000000 in
theorem rpin_err (n k:Nat) (hn:n<=16) (hk:k<=8) (th kd:Int) (xa xb xc:Nat) (h:RAt B w t r) (h1:¬ kd=1) (h2:kd=0->t.thread≠0) (hthr:t.thread<1000000) :
  Calls Tryz.prog 69 #[.pointer (some ⟨B.I.tb,B.I.pre.length,none⟩),.int .i64 (n:Int),.int .i64 0,.agg #[.int .i64 9,.int .i64 (k:Int),.int .i64 0],.agg #[.int .i64 th,.int .i64 0,.int .i64 kd,.int .u64 (xa:Int),.int .u64 (xb:Int),.int .u64 (xc:Int)]] w λe u=>e=.returned (.tuple #[])/\RAt B u (rpinDo n k ⟨th,0,kd,xa,xb,xc⟩ t r).1 (rpinDo n k ⟨th,0,kd,xa,xb,xc⟩ t r).2:=by
 obtain⟨wb,hwb,hg,hS,hC⟩:=do_boxes w 9 (k:Int) 0 th kd xa xb xc
 have hA:=h.grown hg
 have p1:wb.cell? ⟨w.heap.size,1,none⟩=some (.int .i64 (k:Int)):=by rw [cell_blk hS];rfl
 have q2:wb.cell? ⟨w.heap.size+1,2,none⟩=some (.int .i64 kd):=by rw [cell_blk hC];rfl
 obtain⟨p,hp⟩:∃ p,p=t.thread:=⟨_,rfl⟩
 have x1:wb.cell? ⟨B.I.tb,B.I.pre.length+1,none⟩=some (.int .i64 (p:Int)):=by rw [hA.cThread,hp]
 have e9:wb.cell? ⟨B.I.tb,B.I.pre.length+9,none⟩=some (.int .i64 t.err):=hA.cErr
 have f9:wb.frozen? ⟨B.I.tb,B.I.pre.length+9,none⟩=false:=hA.frozen _
 have l1:(kd == 1)=false:=by simp [h1]
 have Hwb:=Lib.hid hwb
 by_cases h0:kd=0
 ·have hT:rpinDo n k ⟨th,0,kd,xa,xb,xc⟩ t r=({ t with err:=11 },r):=by
   show(piPg n k ⟨th,0,kd,xa,xb,xc⟩ t.thread t.priv).run t r=_
   unfold piPg
   rw [if_neg (show ¬ kd=1 from h1),if_neg (show ¬ kd≠0 from λx=>x h0),if_pos (h2 h0)]
   rfl
  rw [hT]
  have Fin:=Lib.hid (hA.putErr 11)
  have l3:¬ (p:Int)=0:=by have:=h2 h0;omega
  have l4:((p:Int) == 0)=false:=by simp;have:=h2 h0;omega
  have l5:((p:Int) != 0)=true:=by simp;have:=h2 h0;omega
  subst h0
  clear hwb hg hS hC h hA hp hT h2 h1 l1
  go_enter Tryz.func69,Tryz.ntmps69
  go_upto_region 1 with fail
  rw [<-Hwb.out]
  go_wp2
  (first|go_end0|((try simp only [Exit.inBlock,Exit.then]);refine bodyPost_ret (results_none rfl _ _ _) rfl ?_))
  exact⟨rfl,Fin.out⟩
 ·have hT:rpinDo n k ⟨th,0,kd,xa,xb,xc⟩ t r=({ t with err:=9 },r):=by
   show(piPg n k ⟨th,0,kd,xa,xb,xc⟩ t.thread t.priv).run t r=_
   unfold piPg
   rw [if_neg (show ¬ kd=1 from h1),if_pos (show kd≠0 from h0)]
   rfl
  rw [hT]
  have Fin:=Lib.hid (hA.putErr 9)
  have l0:(kd == 0)=false:=by simp [h0]
  have l5:(kd != 0)=true:=by simp [h0]
  clear hwb hg hS hC h hA hp hT h2 x1
  go_enter Tryz.func69,Tryz.ntmps69
  go_upto_region 1 with fail
  rw [<-Hwb.out]
  go_wp2
  (first|go_end0|((try simp only [Exit.inBlock,Exit.then]);refine bodyPost_ret (results_none rfl _ _ _) rfl ?_))
  exact⟨rfl,Fin.out⟩
end err
theorem rpin_do (n k:Nat) (hn:n<=16) (hk1:1<=k) (hk:k<=8):DoC 9 (k:Int) 0 n (PinPre n) (rpinDo n k):=by
 intro B u c t r hok hob hpre hA
 obtain⟨th,ob,kd,xa,xb,xc⟩:=c
 obtain rfl:ob=0:=hob
 have R:=(rpin_dob n k hn).runs ⟨th,0,kd,xa,xb,xc⟩ t r
 refine(do_pin (B:=B) (w:=u) (t:=t) (r:=r) (λu'=>∃ t',RAt B u' t' (rpinDo n k ⟨th,0,kd,xa,xb,xc⟩ t r).2/\DoEq ⟨th,0,kd,xa,xb,xc⟩ t t' (rpinDo n k ⟨th,0,kd,xa,xb,xc⟩ t r).1) n (k:Int) 0 th kd xa xb xc hA (λu' h'=>?_)).mono (λe u' h=>h)
 by_cases h1:kd=1
 ·subst h1
  obtain⟨a,b⟩:=pin_first h' hpre rfl
  exact(rpin_read n k hn hk1 hk th xa xb xc h' hpre.list hpre.halt hpre.fresh hpre.at0 a b).mono (λe u'' h=>⟨h.1,_,h.2,DoEq.same R.thread R.inv⟩)
 ·by_cases h0:kd=0/\t.thread=0
  ·obtain⟨h0,hth⟩:=h0
   subst h0
   obtain⟨a,b,d⟩:=hpre.own hth
   exact rpin_write n k hn hk1 hk _ th xa xb xc hok.a h' hth a b d
  ·exact(rpin_err n k hn hk th kd xa xb xc h' h1 (λe=>λx=>h0 ⟨e,x⟩) (by have h8:=hpre.tick.2.2.2;omega)).mono (λe u'' h=>⟨h.1,_,h.2,DoEq.same R.thread R.inv⟩)
theorem beside9 (n:Nat) (P Q:Int) {R:Int} (hR:R=-1) (u:World):Calls Tryz.prog 63 #[.int .i64 (n:Int),.agg #[.int .i64 9,.int .i64 P,.int .i64 Q]] u λe w'=>e=.returned (.int .i64 R)/\Below u.heap.size u w':=by
 subst hR
 go_enter Tryz.func63,Tryz.ntmps63
 go_wp2
 go_ret
 exact⟨rfl,Gr.new _ _⟩
theorem size_pin (n:Nat) (P Q R:Int) (w:World) (hn:n<=16) (hR:R=if 1<=P/\P<=8 then 1+((n:Int)+1)*(P+1) else -1):Calls Tryz.prog 55 #[.int .i64 (n:Int),.agg #[.int .i64 9,.int .i64 P,.int .i64 Q]] w λe w'=>e=.returned (.int .i64 R)/\Below w.heap.size w w':=by
 by_cases h1:1<=P
 ·by_cases h2:P<=8
  ·rw [if_pos ⟨h1,h2⟩] at hR
   have hle:((n:Int)+1)*(P+1)<=17*9:=Int.mul_le_mul (by omega) (by omega) (by omega) (by omega)
   have hge:0<=((n:Int)+1)*(P+1):=Int.mul_nonneg (by omega) (by omega)
   have w1:IntKind.i64.wrap ((n:Int)+1)=(n:Int)+1:=by rw [IntKind.wrap_i64];omega
   have w2:IntKind.i64.wrap (P+1)=P+1:=by rw [IntKind.wrap_i64];omega
   have w3:IntKind.i64.wrap (((n:Int)+1)*(P+1))=((n:Int)+1)*(P+1):=by rw [IntKind.wrap_i64];omega
   have hw:IntKind.i64.wrap (1+((n:Int)+1)*(P+1))=R:=by rw [hR,IntKind.wrap_i64];omega
   clear hR hle hge
   go_enter Tryz.func55,Tryz.ntmps55
   go_wp2
   go_ret
   exact⟨rfl,Gr.new _ _⟩
  ·rw [if_neg (λh=>h2 h.2)] at hR
   have HB:=Lib.hid (beside9 n P Q hR)
   clear hR
   go_enter Tryz.func55,Tryz.ntmps55
   go_wp2_with (go_at_call 63;refine(HB.out _).mono ?_;rintro e w' ⟨rfl,hb⟩)
   go_ret
   exact⟨rfl,Gr.trans (Gr.new _ _) hb⟩
 ·rw [if_neg (λh=>h1 h.1)] at hR
  have HB:=Lib.hid (beside9 n P Q hR)
  clear hR
  go_enter Tryz.func55,Tryz.ntmps55
  go_wp2_with (go_at_call 63;refine(HB.out _).mono ?_;rintro e w' ⟨rfl,hb⟩)
  go_ret
  exact⟨rfl,Gr.trans (Gr.new _ _) hb⟩
theorem mem_pad {n:Nat} {l:List Nat} {x:Nat} (h:x∈l):x∈piPad n l:=by unfold piPad;exact List.mem_append.2 (.inl h)
theorem pin_pre {n k sz:Nat} {calls:List CallD} {s:RefS} {st:PlayD (pinS n k)} {q i:Nat} (hn:1<=n) (hn16:n<=16) (hP:PSim (pinSim n k) n calls s st) (hg:StGood calls st) (hG:PiGood9 n k calls st) (hR:RGood n sz calls s) (hT:RTick n s) (hnow:s.rw.now<=65536) (hq:q<n) (hN:nowN calls s.fin (q:Int)=some i) (s1:RefS) (hs1:s1=ropen { s with rw:=s.rw.tick } q i) :
  PinPre n (calls.getD i d0) ((s1.hands.getD q rh0).tape q) s1.rw:=by
 have H:=hand_pre hP hg hR hT hnow hq hN s1 hs1
 obtain⟨h,hh⟩:∃ h,h=s1.hands.getD q rh0:=⟨_,rfl⟩
 rw [<-hh] at H ⊢
 obtain⟨hSt,hI,hn9⟩:=hG
 obtain⟨cc,c1,c2,c3,c4⟩:=hI.w.cell
 refine⟨⟨?_,?_,?_,?_,?_⟩,rfl,rfl,rfl,rfl,λhk=>?_,λhp=>?_⟩
 ·show h.inv<=1000000
  have:=H.inv;omega
 ·have:=H.now;omega
 ·intro x hx
  have:=H.ticks x hx;omega
 ·show q<s1.rw.marks.length
  rw [H.mlen];exact hq
 ·rw [H.mlen];exact hn16
 ·show h.got.getD 0 0<_
  rcases H.how with⟨e1,_⟩|⟨σ,hs,hr,_⟩
  ·rw [e1];exact(by decide:(0:Nat)<18446744073709551616)
  ·obtain⟨htl,_,hT⟩:=hr
   have g2:=(hI.hand q σ h.ev hs).2
   match σ,g2,hT with
   | .rd q' 0 l key,g2,hT=>
    have e1:h.got=[]:=List.eq_nil_of_length_eq_zero (by rw [<-htl,hT.2.2.1];rfl)
    rw [e1];exact(by decide:(0:Nat)<18446744073709551616)
   | .rd q' (j+1) l key,g2,hT=>
    obtain⟨_,_,_,_,_,t6⟩:=hT
    obtain⟨_,_,_,_,b5⟩:=g2
    have:=(b5 (by omega)).1
    omega
   | .wr v q' i' 0,g2,hT=>have:=hT.1;omega
   | .wr v q' i' 1,g2,hT=>have:=hT.1;omega
   | .wr v q' i' (ph+2),g2,hT=>have:=hT.1;omega
 ·obtain rfl:q=0:=hp
  have hown:PiOwn n st.obj (s.hands.getD 0 rh0).own:=(hP.hand 0 hq).own rfl
  show h.own.length<=n+3/\(∀ x,x∈h.own->x<18446744073709551616)/\(piPad n h.own).getD (n+2) 0<=n
  rw [H.own]
  refine⟨?_,λx hx=>?_,?_⟩
  ·rcases hown.len with h9|h9<;>omega
  ·have h9:=mem_pad (n:=n) hx
   rw [hown.pad] at h9
   have hnl:=hI.w.nl
   rcases List.mem_append.1 h9 with h8|h8
   ·obtain⟨j,hj,rfl⟩:=List.getElem_of_mem h8
    have h7:=hI.w.cm j (by have:=hI.w.cl;omega)
    rw [List.getD_eq_getElem?_getD,List.getElem?_eq_getElem hj] at h7
    have h6:st.obj.come[j]<=st.obj.last:=h7
    omega
   ·rcases List.mem_cons.1 h8 with rfl|h8
    ·omega
    ·rcases List.mem_cons.1 h8 with rfl|h8
     ·omega
     ·cases h8
  ·rw [(piPad_at hown hI.w.cl).2.1];exact hI.w.nl
theorem pin_now {n k:Nat}:∀ o wd p s,((pinS n k).step o wd p s).2.1.now=wd.now:=by
 intro o wd p s
 match s with
 | .wr v q i 0=>
  show(if _ then _ else _:PinO×WD×PiS×Bool).2.1.now=_
  split<;>rfl
 | .wr v q i 1=>rfl
 | .wr v q i (j+2)=>rfl
 | .rd q 0 l key=>rfl
 | .rd q (j+1) l key=>
  show(if _ then _ else _:PinO×WD×PiS×Bool).2.1.now=_
  split<;>rfl
theorem piOwn0 (n:Nat):PiOwn n (pinO0 n) []:=by
 refine⟨.inl rfl,?_⟩
 show []++List.replicate (n+3 - 0) 0=List.replicate (n+1) 0++[0,0]
 rw [List.nil_append,Nat.sub_zero]
 exact(List.replicate_append_replicate (n:=n+1) (m:=2) (a:=0)).symm
theorem rpin_play (X:Nat->Prop) (q0 q1:Int) (calls:List CallD) (picks:List Int) (ca pa:Option Addr) (cc pc bS:Nat) (w:World) (hX:∀ b,X b->b<w.heap.size) (hS:SpecAt w bS 9 q1 0) (hc:CallsAt noB w ca calls) (hp:PicksAt w pa picks) :
  Calls Tryz.prog 10 #[.int .i64 q0,.slice (some ⟨bS,0,none⟩) 1 1,.slice ca calls.length cc,.slice pa picks.length pc] w λe w'=>RefAny X w w' (piCheck q0 q1 calls picks.length) (playD (pinS q0.toNat q1.toNat) (pinO0 q0.toNat) (List.replicate (1+(q0.toNat+1)*(q1.toNat+1)) 0) calls picks) true e:=by
 by_cases hck:checkN q0 calls picks.length=0
 ·obtain⟨z1,z2,z3,_⟩:=wrongN_zero (checkN_zero hck).1
  obtain⟨n,rfl⟩:∃ n:Nat,q0=(n:Int):=⟨q0.toNat,by omega⟩
  have hnp:=(checkN_zero hck).2
  have hn16:n<=16:=by omega
  by_cases hb:q1<1∨8<q1
  ·have er:piCheck (n:Int) q1 calls picks.length=10:=by unfold piCheck;rw [if_neg (λh=>h hck),if_pos hb]
   rw [er]
   refine rplay_of X (n:Int) _ _ _ _ _ w (λu hu hul=>?_)
   exact rlog_bad _ (n:Int) 9 q1 0 calls picks ca pa cc pc bS _ u hck (hS.grown hu) (hc.grown hu) (hp.grown hu) (λv=>size_pin n q1 0 (-1) v hn16 (by rw [if_neg (by omega)]))
  ·obtain⟨k,rfl⟩:∃ k:Nat,q1=(k:Int):=⟨q1.toNat,by omega⟩
   have er:piCheck (n:Int) (k:Int) calls picks.length=0:=by unfold piCheck;rw [if_neg (λh=>h hck),if_neg hb]
   have hk1:1<=k:=by omega
   have hk8:k<=8:=by omega
   have hnk:(n+1)*(k+1)<=17*9:=Nat.mul_le_mul (by omega) (by omega)
   have hthr:∀ c,c<calls.length->0<=(calls.getD c d0).thread/\(calls.getD c d0).thread<n:=λc hc=>by have:=thr_ok hck c hc;omega
   rw [er,Int.toNat_natCast,Int.toNat_natCast]
   exact rplay_any (S:=pinS n k) (M:=pinSim n k) X (1+(n+1)*(k+1)) 9 (k:Int) 0 picks ca pa cc pc bS w (pinO0 n) (PinPre n) hX (by decide) (by omega) (by omega) hck hS hc hp (λv=>size_pin n (k:Int) 0 _ v hn16 (by rw [if_pos (by omega)];push_cast;rfl)) (rpin_dob n k hn16) (rpin_dot n k) (rpin_do n k hn16 hk1 hk8) (late_marks 9 (k:Int) 0 n (by decide)) (pin_ref_ok (by omega) hn16 hk1 hk8 hthr) pin_now (λ_ _ _=>piOwn0 n)
    (λj=>by
     obtain⟨a,b⟩:=pi_picks hk1 hck hk8 (picks.take j)
     have htk:=picks_ticks (S:=pinS n k) pin_now (play0 (pinS n k) (pinO0 n) (List.replicate (1+(n+1)*(k+1)) 0) calls) (picks.take j) (calls:=calls)
     rw [show(play0 (pinS n k) (pinO0 n) (List.replicate (1+(n+1)*(k+1)) 0) calls).wd.now=0 from rfl,show(play0 (pinS n k) (pinO0 n) (List.replicate (1+(n+1)*(k+1)) 0) calls).idle=0 from rfl,List.length_take] at htk
     have hw:(picksD (pinS n k) calls (play0 (pinS n k) (pinO0 n) (List.replicate (1+(n+1)*(k+1)) 0) calls) (picks.take j)).wd.now<=65536:=by omega
     exact⟨a,b (by omega),hw⟩) (λs st q i h1 h2 h3 h4 h5 h6 h7 h8 _ s1 hs1=>pin_pre (by omega) hn16 h1 h2 h3 h4 h5 h6 h7 h8 s1 hs1)
 ·have er:piCheck q0 q1 calls picks.length=checkN q0 calls picks.length:=by unfold piCheck;rw [if_pos hck]
  rw [er]
  refine rplay_of X q0 _ _ _ _ _ w (λu hu hul=>?_)
  exact rlog_wrong _ q0 calls picks ca pa cc pc _ _ u hck (hc.grown hu) (hp.grown hu)
theorem rpin_len {q0 q1:Int} {calls:List CallD} {picks:List Int} (h:piCheck q0 q1 calls picks.length=0):(playD (pinS q0.toNat q1.toNat) (pinO0 q0.toNat) (List.replicate (1+(q0.toNat+1)*(q1.toNat+1)) 0) calls picks).evs.length<1000000/\(playD (pinS q0.toNat q1.toNat) (pinO0 q0.toNat) (List.replicate (1+(q0.toNat+1)*(q1.toNat+1)) 0) calls picks).words.length<1000000:=by
 have hck:checkN q0 calls picks.length=0:=by
  by_cases hck:checkN q0 calls picks.length=0
  ·exact hck
  ·unfold piCheck at h;rw [if_pos hck] at h;exact absurd h hck
 obtain⟨z1,z2,z3,_⟩:=wrongN_zero (checkN_zero hck).1
 have hnp:=(checkN_zero hck).2
 obtain⟨n,rfl⟩:∃ n:Nat,q0=(n:Int):=⟨q0.toNat,by omega⟩
 have hn16:n<=16:=by omega
 have hb:¬ (q1<1∨8<q1):=λhb=>by unfold piCheck at h;rw [if_neg (λh=>h hck),if_pos hb] at h;cases h
 obtain⟨k,rfl⟩:∃ k:Nat,q1=(k:Int):=⟨q1.toNat,by omega⟩
 have hk1:1<=k:=by omega
 have hk8:k<=8:=by omega
 have hnk:(n+1)*(k+1)<=17*9:=Nat.mul_le_mul (by omega) (by omega)
 have hthr:∀ c,c<calls.length->0<=(calls.getD c d0).thread/\(calls.getD c d0).thread<n:=λc hc=>by have:=thr_ok hck c hc;omega
 rw [Int.toNat_natCast,Int.toNat_natCast]
 obtain⟨a1,a2⟩:=rlen_any (S:=pinS n k) (M:=pinSim n k) (1+(n+1)*(k+1)) picks (pinO0 n) (by omega) hck (rpin_dob n k hn16) (pin_ref_ok (by omega) hn16 hk1 hk8 hthr) pin_now (λ_ _ _=>piOwn0 n) (λj=>by
  obtain⟨a,b⟩:=pi_picks hk1 hck hk8 (picks.take j)
  have htk:=picks_ticks (S:=pinS n k) pin_now (play0 (pinS n k) (pinO0 n) (List.replicate (1+(n+1)*(k+1)) 0) calls) (picks.take j) (calls:=calls)
  rw [show(play0 (pinS n k) (pinO0 n) (List.replicate (1+(n+1)*(k+1)) 0) calls).wd.now=0 from rfl,show(play0 (pinS n k) (pinO0 n) (List.replicate (1+(n+1)*(k+1)) 0) calls).idle=0 from rfl,List.length_take] at htk
  have hw:(picksD (pinS n k) calls (play0 (pinS n k) (pinO0 n) (List.replicate (1+(n+1)*(k+1)) 0) calls) (picks.take j)).wd.now<=65536:=by omega
  exact⟨a,b (by omega),hw⟩)
 omega
end
section

/- Layer 14: what a play of a register reports, in plain numbers. -/
open Go.RowKit
variable {n k:Nat} {calls:List CallD}
structure PinGood (n k:Nat) (calls:List CallD) (evs:List EvD):Prop where
 call:∀ i,i<evs.length->(evAt evs i).call<calls.length
 steps:∀ i,i<evs.length->(evAt evs i).steps<=n+k+1/\(kindOf calls (evAt evs i)=1->(evAt evs i).steps<=k+2)
 list:∀ i,i<evs.length->(evAt evs i).resp≠0->objOf calls (evAt evs i)=0->kindOf calls (evAt evs i)=1->(evAt evs i).ans.list.length=k/\piGood k calls (λa=>(evAt evs i).ans.list.getD a 0)
end
section

/- Layer 14: a thread that reads while another one writes. -/
open Go.RowKit
theorem pinPlay_safe (X:Nat->Prop) (w:World) (n k:Int) (calls:List CallD) (picks:List Int) (ca pa:Option Addr) (cc pc:Nat) (hX:∀ b,X b->b<w.heap.size) (hc:CallsAt X w ca calls) (hp:PicksAt w pa picks) :
  Calls Tryz.prog 13 #[.int .i64 n,.int .i64 k,.slice ca calls.length cc,.slice pa picks.length pc] w λe w'=>PlayRet X w w' (piCheck n k calls picks.length) (playD (pinS n.toNat k.toNat) (pinO0 n.toNat) (List.replicate (1+(n.toNat+1)*(k.toNat+1)) 0) calls picks) e:=by
 refine pinPlay_any X w n k calls picks ca pa cc pc hX hc hp (λh0 h1 h2=>?_)
 have hn:=n_ok h0
 exact pi_safe (by omega) (by omega) (by rw [show((n.toNat:Nat):Int)=n by omega];exact h0)
def slowCalls14:List CallD:=[⟨0,0,0,7,0,0⟩,⟨1,0,1,0,0,0⟩]
theorem slow_rep14:playD (pinS 2 1) (pinO0 2) (List.replicate (1+(2+1)*(1+1)) 0) slowCalls14 [1,0,0,0,1,1]=⟨[⟨1,1,6,3,⟨0,0,[0]⟩,[2]⟩,⟨0,2,4,3,⟨0,0,[]⟩,[8]⟩],[4294967297,1,0,0,0,7,0],⟨2,1,0,3,0⟩,6,0⟩:=by rfl
theorem slow_check14:piCheck 2 1 slowCalls14 6=0:=by rfl
set_option maxHeartbeats 4000000 in
theorem pin_slow (w:World):Calls Tryz.prog 12 #[] w λe w'=>e=.returned (.bool true)/\Below w.heap.size w w':=by
 obtain⟨wa,hwa⟩:∃ wa,wa=(w.alloc (.cells #[.int .i64 0,.int .i64 0,.int .i64 0,.int .u64 7,.int .u64 0,.int .u64 0,.int .i64 1,.int .i64 0,.int .i64 1,.int .u64 0,.int .u64 0,.int .u64 0] 48)).alloc (.cells #[.int .i64 1,.int .i64 0,.int .i64 0,.int .i64 0,.int .i64 1,.int .i64 1] 3):=⟨_,rfl⟩
 have hga:Below w.heap.size w wa:=by rw [hwa];exact Gr.alloc (Gr.new _ _) _
 have h1:wa.heap[w.heap.size]?=some (.cells (slowCalls14.flatMap callL).toArray 48 (0,0)):=by rw [hwa,Below.heap_alloc _ _ _ (by simp),heap_alloc_new];rfl
 have h2:wa.heap[w.heap.size+1]?=some (.cells (([1,0,0,0,1,1]:List Int).map (Value.int .i64)).toArray 3 (0,0)):=by
  rw [hwa]
  have:=heap_alloc_new (w.alloc (.cells #[.int .i64 0,.int .i64 0,.int .i64 0,.int .u64 7,.int .u64 0,.int .u64 0,.int .i64 1,.int .i64 0,.int .i64 1,.int .u64 0,.int .u64 0,.int .u64 0] 48)) (.cells #[.int .i64 1,.int .i64 0,.int .i64 0,.int .i64 0,.int .i64 1,.int .i64 1] 3 (0,0))
  simp only [World.size_alloc] at this
  exact this
 have P:=pinPlay_safe noB wa 2 1 slowCalls14 [1,0,0,0,1,1] (some ⟨w.heap.size,0,none⟩) (some ⟨w.heap.size+1,0,none⟩) 2 6 (λb hb=>hb.elim) ⟨calls_block h1 (by decide),(by
   intro x hx
   simp only [slowCalls14,List.mem_cons,List.not_mem_nil,or_false] at hx
   rcases hx with rfl|rfl<;>exact callOk_small (by decide) (by decide) (by decide) (by decide) (by decide) (by decide) (by decide)),λ_ _ _ _ h=>h⟩ ⟨ints_block h2 (by decide),by intro x hx;simp only [List.mem_cons,List.not_mem_nil,or_false] at hx;rcases hx with rfl|rfl|rfl|rfl|rfl|rfl<;>rfl⟩
 rw [show([1,0,0,0,1,1]:List Int).length=6 from rfl,slow_check14,show(2:Int).toNat=2 from rfl,show(1:Int).toNat=1 from rfl,slow_rep14,show slowCalls14.length=2 from rfl] at P
 have HP:=Lib.hid P;have Hwa:=Lib.hid hwa;have Hga:=Lib.hid hga
 clear P h1 h2 hwa hga
 go_enter Tryz.func12,Tryz.ntmps12
 go_wp2_with fail
 rw [<-Hwa.out]
 refine HP.out.mono ?_
 rintro e w1 ⟨ea,en,ec,va,vn,vc,rp,rfl,hb,hr⟩
 rcases hr with⟨h0,_⟩|⟨_,hrp,hen,hvn,ers,hrep⟩
 ·exact absurd rfl h0
 subst hrp
 obtain⟨g,la,lc,ka,kc,rfl,hg,_,_,_,_,_,_,e6,_,hls,_,_⟩:=hrep.ev8 hen (k:=0) (by rw [hen];decide) (Gr.refl _)
 obtain⟨g2,hgg,_,hev⟩:=hrep.event hen (by rw [hen];decide)
 cases hgg
 obtain⟨q,rfl,hq,hwd⟩:=hrep.word hvn (by rw [hvn];decide)
 have hen2:en=2:=hen
 have hvn2:vn=7:=hvn
 subst hen2 hvn2
 have c6:w1.cell? ⟨g,6,none⟩=some (.slice la 1 lc):=e6
 obtain⟨lb,lo,rfl,hlb,hlc⟩:=hls.2 0 (by decide)
 have c60:w1.cell? ⟨lb,lo,none⟩=some (.int .u64 0):=hlc 0 (by omega)
 have c10:w1.cell? ⟨g,10,none⟩=some (.int .i64 4):=hev 1 2 (by omega) (by omega)
 have d0:w1.cell? ⟨q,0,none⟩=some (.int .u64 4294967297):=hwd 0 (by omega)
 have d1:w1.cell? ⟨q,1,none⟩=some (.int .u64 1):=hwd 1 (by omega)
 have d5:w1.cell? ⟨q,5,none⟩=some (.int .u64 7):=hwd 5 (by omega)
 have Hb:=Lib.hid hb
 clear hrep hev hwd hb hen hvn hls hlc e6
 unfold repV
 go_wp2
 go_ret
 exact⟨rfl,Gr.trans Hga.out (Gr.trans Hb.out (Gr.new _ _))⟩
end
end Go.Proofs.YtfkokppncipgnaaGreat
