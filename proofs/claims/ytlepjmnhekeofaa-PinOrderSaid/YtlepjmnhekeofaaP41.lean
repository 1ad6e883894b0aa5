/- Layer 14: what every play of a register keeps: what was written last: each turn keeps it. -/
import Derived.Test.YtlepjmnhekeofaaP40
set_option maxRecDepth 100000
set_option linter.unusedVariables false
set_option linter.unusedSimpArgs false
set_option linter.unnecessarySimpa false
namespace Go.Proofs.Ytlepjmnhekeofaa
open Go.RowKit
variable {n k:Nat} {calls:List CallD}
theorem taRead_c {wd:WD} {a:Nat} (h:a<wd.mem.ws.length):(taRead wd a).mem.c.fault=wd.mem.c.fault/\(taRead wd a).mem.c.all=wd.mem.c.all+1:=by
 have ho:memOut wd.mem (a:Int)=false:=by unfold memOut;simp;omega
 unfold taRead memRead
 rw [if_neg (by rw [ho];simp)]
 refine⟨rfl,?_⟩
 unfold CountsD.all
 simp only
 omega
theorem doWrite_c {wd:WD} {a v:Nat} (h:a<wd.mem.ws.length):(doWrite wd a v).mem.c.fault=wd.mem.c.fault/\(doWrite wd a v).mem.c.all=wd.mem.c.all+1:=by
 have ho:memOut wd.mem (a:Int)=false:=by unfold memOut;simp;omega
 unfold doWrite memWrite
 simp only
 rw [if_neg (by rw [ho];simp)]
 refine⟨rfl,?_⟩
 unfold CountsD.all
 simp only
 omega
theorem doAdd_c {wd:WD} {a v:Nat} (h:a<wd.mem.ws.length):(doAdd wd a v).mem.c.fault=wd.mem.c.fault/\(doAdd wd a v).mem.c.all=wd.mem.c.all+1:=by
 have ho:memOut wd.mem (a:Int)=false:=by unfold memOut;simp;omega
 unfold doAdd memAdd
 simp only
 rw [if_neg (by rw [ho];simp)]
 refine⟨rfl,?_⟩
 unfold CountsD.all
 simp only
 omega
theorem piW_open {e:EvD} (h:e.resp=0):¬ piW calls e:=λhp=>hp.2.2.2 h
theorem pi_hist_refuse {st:PlayD (pinS n k)} {q i:Nat} {er:Int} (hg:StGood calls st) (h:PiHist n k calls st) (hq:q<16) (hN:nowN calls st.fin (q:Int)=some i) (hs:startD (pinS n k) st.obj (st.wd.tick.begin q) q (calls.getD i d0)=.refuse er):PiHist n k calls (refuseTo st q i er):=by
 obtain⟨e,he⟩:∃ e,e=finishEv (st.wd.tick.begin q) q ⟨er,0,[]⟩ [] (newEv i (st.wd.tick.begin q)):=⟨_,rfl⟩
 have hst:refuseTo st q i er={ wd:=st.wd.tick.begin q,obj:=st.obj,fin:=st.fin.set i true,hands:=st.hands.set q (none,st.evs.length),evs:=st.evs++[e],idle:=st.idle }:=by rw [he];rfl
 have hnx:=refuse_next hg hN e (by rw [he];rfl)
 have hresp:e.resp=st.wd.now+1:=by rw [he];rfl
 have hmk:=begin_marks (q:=q) h.marks
 have e1:objOf calls e=(calls.getD i d0).obj:=by rw [he];rfl
 have e2:kindOf calls e=(calls.getD i d0).kind:=by rw [he];rfl
 have e3:tn calls e=q:=hnx.thr
 have hkey:e.key=[2*(e.resp:Int)]:=by
  rw [he]
  show keyOf (st.wd.tick.begin q) q []=_
  rw [keyOf_none hmk,if_pos rfl];rfl
 have hans:e.ans=⟨er,0,[]⟩:=by rw [he];rfl
 have htold:er≠0/\¬ (objOf calls e=0/\kindOf calls e=1)/\e.ans=(if objOf calls e≠0 then ⟨12,0,[]⟩ else if kindOf calls e≠0 then ⟨9,0,[]⟩ else if tn calls e≠0 then ⟨11,0,[]⟩ else ⟨0,0,[]⟩):=by
  rw [hans,e1,e2,e3]
  unfold startD at hs
  by_cases h0:(calls.getD i d0).obj=0
  ·rw [if_pos h0] at hs
   have hs':(if (calls.getD i d0).kind=1 then Mc.run (PiS.rd 0 0 [] []) else if (calls.getD i d0).kind≠0 then .refuse 9 else if q≠0 then .refuse 11 else .run (.wr (calls.getD i d0).a (piNext st.obj.now 0) 0 0))=Mc.refuse er:=hs
   split at hs'
   ·cases hs'
   ·rename_i k1
    split at hs'
    ·rename_i k0
     cases hs'
     exact⟨by decide,λx=>k1 x.2,by rw [if_neg (λx=>x h0),if_pos k0]⟩
    ·rename_i k0
     split at hs'
     ·rename_i q0
      cases hs'
      exact⟨by decide,λx=>k1 x.2,by rw [if_neg (λx=>x h0),if_neg k0,if_pos q0]⟩
     ·cases hs'
  ·rw [if_neg h0] at hs
   cases hs
   exact⟨by decide,λx=>h0 x.1,by rw [if_pos h0]⟩
 have hnw:¬ piW calls e:=λhp=>htold.1 (by have:=hp.2.2.1;rw [hans] at this;exact this)
 rw [hst]
 refine pi_hist_rest hg h hq hnx rfl (.inr hresp) hmk h.cf (Nat.le_succ_of_le h.ca) (h.cell.up hg hnx hnw) (λ_ _ _ _ _ _ _ _ _ _ _=>rfl) (λ_ _ _ _ _ hx _=>by cases hx) (λ_=>⟨λh0 h1=>absurd ⟨h0,h1⟩ htold.2.1,λ_=>⟨hkey,htold.2.2⟩⟩)
theorem pi_hist_step {st:PlayD (pinS n k)} {q i j:Nat} {s:PiS} {evs0:List EvD} {wd0:WD} (hn:1<=n) (hn16:n<=16) (hk1:1<=k) (ht:st.wd.now<=1000000) (hthr:∀ c,c<calls.length->0<=(calls.getD c d0).thread/\(calls.getD c d0).thread<n) (hg:StGood calls st) (hI:PiInv n k calls st) (h:PiHist n k calls st) (hq:q<16) (hN:nowN calls st.fin (q:Int)=some i) (hf:From calls st q i j s evs0 wd0) :
  PiHist n k calls (stepTo st ((pinS n k).step st.obj wd0 q s) q i j evs0):=by
 obtain⟨g1,g2,g3,g4⟩:=pi_pre hn hthr hg hI hf
 have hmem:wd0.mem=st.wd.mem:=hf.mem
 have hws:wd0.mem.ws=st.wd.mem.ws:=by rw [hmem]
 have hmk0:=hf.mark0 h.marks
 have hnow0:=hf.now
 obtain⟨e0,he0⟩:∃ e0,e0=evAt evs0 j:=⟨_,rfl⟩
 have hopen:e0.resp=0:=by rw [he0];exact hf.open_
 rw [<-he0] at g1 g2
 obtain⟨c,c1,c2,c3,c4⟩:=hI.w.cell
 have hnl:=hI.w.nl
 have h0l:0<st.wd.mem.ws.length:=by rw [hI.w.wl];omega
 have go:∀(wd':WD) (s':PiS),(pinS n k).step st.obj wd0 q s=(st.obj,wd',s',false)->wd'.marks=wd0.marks->wd'.now=wd0.now->wd'.mem.c.fault=wd0.mem.c.fault->wd'.mem.c.all=wd0.mem.c.all+1->
   (∀ a,a<k->wd'.mem.ws.getD (piWord n k st.obj.now a) 0=st.wd.mem.ws.getD (piWord n k st.obj.now a) 0)->
   (∀ p q' jj l key i,p≠q->st.hands.getD p (none,0)=(some (.rd q' jj l key),i)->1<=jj->∀ a,a<k->wd'.mem.ws.getD (piWord n k q' a) 0=st.wd.mem.ws.getD (piWord n k q' a) 0)->
   (∀ q' jj l key evs',s'=.rd q' jj l key->1<=jj->Next calls st q evs' j (stepEv e0)->PiAtT k calls evs' e0.inv (λa=>wd'.mem.ws.getD (piWord n k q' a) 0)/\key=[2*(e0.inv:Int)])->
   PiHist n k calls (stepTo st ((pinS n k).step st.obj wd0 q s) q i j evs0):=by
  intro wd' s' hst m1 m2 m3 m4 hC hO hS
  have hnx:=hf.next hg hN (stepEv e0) (by rw [he0];rfl)
  have hto:stepTo st ((pinS n k).step st.obj wd0 q s) q i j evs0={ wd:=wd',obj:=st.obj,fin:=st.fin,hands:=st.hands.set q (some s',j),evs:=evs0.set j (stepEv e0),idle:=st.idle }:=by rw [hst,he0];rfl
  rw [hto]
  refine pi_hist_rest hg h hq hnx rfl (.inl hopen) (m1.trans hmk0) (by show wd'.mem.c.fault=0;rw [m3,hmem];exact h.cf) ?_ ?_ hO (λq' jj l key i' hx hj=>?_) (λh0=>absurd hopen h0)
  ·show wd'.mem.c.all<=wd'.now
   have:=h.ca
   rw [m4,m2,hnow0,hmem];omega
  ·show PiAtT k calls (evs0.set j (stepEv e0)) (wd'.now+1) _
   rw [m2,hnow0]
   exact(h.cell.up hg hnx (piW_open hopen)).congr hC
  ·cases hx
   exact⟨rfl,hS q' jj l key _ rfl hj hnx⟩
 match s,g2 with
 | .wr v q' iw 0,⟨p1,p2,p3,p4,p5⟩=>
  rcases p5 with⟨_,a2,a3,a4⟩|⟨a1,_⟩
  case inr=>omega
  have hqn:=pi_look p4 a3 a4
  have hlt:piLeft q'<wd0.mem.ws.length:=by rw [hws,hI.w.wl];exact piLeft_lt hqn
  obtain⟨r1,r2⟩:=taRead_c hlt
  have hw':=(taRead_ws wd0 (piLeft q')).trans hws
  by_cases hc:taGot wd0 (piLeft q')=st.obj.come.getD q' 0
  ·exact go _ (.wr v q' iw 1) (if_pos hc) rfl rfl r1 r2 (λ_ _=>by rw [hw']) (λ_ _ _ _ _ _ _ _ _ _ _=>by rw [hw']) (λ_ _ _ _ _ e=>by cases e)
  ·exact go _ (.wr v (piNext st.obj.now (q'+1)) iw 0) (if_neg hc) rfl rfl r1 r2 (λ_ _=>by rw [hw']) (λ_ _ _ _ _ _ _ _ _ _ _=>by rw [hw']) (λ_ _ _ _ _ e=>by cases e)
 | .wr v q' iw 1,⟨p1,p2,p3,p4,p5⟩=>
  rcases p5 with⟨a1,_⟩|⟨_,_,a3,a4,a5,a6,a7,_,a9⟩
  ·omega
  have hik:=a7 rfl
  have hlt:piWord n k q' iw<wd0.mem.ws.length:=by rw [hws,hI.w.wl];exact piWord_lt a3 hik
  obtain⟨r1,r2⟩:=doWrite_c (v:=(v+iw) % 18446744073709551616) hlt
  have d1:=doWrite_ws hlt ((v+iw) % 18446744073709551616)
  rw [hws] at d1
  have hword:∀ q2 a,a<k->q2≠q'->(doWrite wd0 (piWord n k q' iw) ((v+iw) % 18446744073709551616)).mem.ws.getD (piWord n k q2 a) 0=st.wd.mem.ws.getD (piWord n k q2 a) 0:=λq2 a ha hne=>by
   rw [d1];exact getD_set_neq (λe=>hne (piWord_inj ha hik e.symm).1)
  refine go (doWrite wd0 (piWord n k q' iw) ((v+iw) % 18446744073709551616)) (.wr v q' (iw+1) (if iw+1=k then 2 else 1)) rfl rfl rfl r1 r2 (λa ha=>hword _ a ha (Ne.symm p4)) (λp q2 jj l key i2 hpq hp hj a ha=>hword q2 a ha (λe=>?_)) (λ_ _ _ _ _ e=>by cases e)
  have:=piH_pos (q:=q2) hp (by simp [piAt];exact hj)
  rw [e,a4] at this;omega
 | .wr v q' iw (ph+2),⟨p1,p2,p3,p4,p5⟩=>
  rcases p5 with⟨a1,_⟩|⟨_,b2,a3,a4,a5,a6,_,a8,a9⟩
  ·omega
  have hik:iw=k:=a8 (by omega)
  obtain⟨r1,r2⟩:=doAdd_c (wd:=wd0) (a:=0) (v:=piDiff q' st.obj.now) (by rw [hws];exact h0l)
  obtain⟨d1,d2⟩:=doAdd_ws (wd:=wd0) (a:=0) (by rw [hws];exact h0l) (piDiff q' st.obj.now)
  rw [hws] at d1
  obtain⟨wd',hwd'⟩:∃ wd',wd'=doAdd wd0 0 (piDiff q' st.obj.now):=⟨_,rfl⟩
  rw [<-hwd'] at d1 r1 r2
  have hnow':wd'.now=st.wd.now+1:=by rw [hwd'];exact hf.now
  obtain⟨o',ho'⟩:∃ o':PinO,o'=⟨piCome st.obj (adGot wd0 0 (piDiff q' st.obj.now) % 4294967296),adGot wd0 0 (piDiff q' st.obj.now) % 4294967296,q'⟩:=⟨_,rfl⟩
  have hst:(pinS n k).step st.obj wd0 q (.wr v q' iw (ph+2))=(o',wd',.wr v q' iw (ph+2),true):=by rw [ho',hwd'];rfl
  have hmk':wd'.marks=List.replicate 16 []:=by rw [hwd'];exact hmk0
  obtain⟨e1,he1⟩:∃ e1,e1=finishEv wd' q ⟨0,0,[]⟩ [] e0:=⟨_,rfl⟩
  have hto:stepTo st ((pinS n k).step st.obj wd0 q (.wr v q' iw (ph+2))) q i j evs0={ wd:=wd',obj:=o',fin:=st.fin.set i true,hands:=st.hands.set q (none,j),evs:=evs0.set j e1,idle:=st.idle }:=by rw [hst,he1,he0];rfl
  have hnx:=hf.next hg hN e1 (by rw [he1,he0];rfl)
  have hresp:e1.resp=st.wd.now+1:=by rw [he1];exact hnow'
  have hob:objOf calls e1=0:=by rw [he1];exact g1
  have hkd:kindOf calls e1=0:=by rw [he1];exact p2
  have hkey:e1.key=[2*(e1.resp:Int)]:=by
   rw [hresp,<-hnow',he1]
   show keyOf wd' q []=_
   rw [keyOf_none hmk',if_pos rfl];rfl
  have hans:e1.ans=⟨0,0,[]⟩:=by rw [he1];rfl
  have hpw:piW calls e1:=⟨hob,hkd,by rw [hans],by rw [hresp];omega⟩
  have hword:∀ q2 a,wd'.mem.ws.getD (piWord n k q2 a) 0=st.wd.mem.ws.getD (piWord n k q2 a) 0:=λq2 a=>by
   rw [d1];exact getD_set_neq (Ne.symm (piWord_far (q':=0) (Nat.zero_le n)).1)
  have htn:tn calls e1=0:=by rw [hnx.thr];exact p1
  rw [hto]
  refine pi_hist_rest hg h hq hnx rfl (.inr hresp) hmk' (by show wd'.mem.c.fault=0;rw [r1,hmem];exact h.cf) ?_ ?_ (λ_ q2 _ _ _ _ _ _ _ a _=>hword q2 a) (λ_ _ _ _ _ hx _=>by cases hx) (λ_=>⟨λ_ h1=>by omega,λ_=>⟨hkey,?_⟩⟩)
  ·show wd'.mem.c.all<=wd'.now
   have:=h.ca
   rw [r2,hnow',hmem];omega
  ·show PiAtT k calls (evs0.set j e1) (wd'.now+1) (λa=>wd'.mem.ws.getD (piWord n k o'.now a) 0)
   rw [hnow']
   refine PiAtT.new hg hnx hpw hresp (λa ha=>?_)
   have ec:e1.call=e0.call:=by rw [he1];rfl
   rw [ho']
   show wd'.mem.ws.getD (piWord n k q' a) 0=_
   rw [hword,ec,<-p3]
   exact a9 a (by omega)
  ·rw [hans,if_neg (λx=>x hob),if_neg (λx=>x hkd),if_neg (λx=>x htn)]
 | .rd q' 0 l key,⟨p1,p2,p3,p4,_⟩=>
  obtain⟨r1,r2⟩:=doAdd_c (wd:=wd0) (a:=0) (v:=1) (by rw [hws];exact h0l)
  obtain⟨d1,d2⟩:=doAdd_ws (wd:=wd0) (a:=0) (by rw [hws];exact h0l) 1
  rw [hws] at d1 d2
  have hbuf:adGot wd0 0 1 / 4294967296=st.obj.now:=by rw [d2,c1];omega
  have hword:∀ q2 a,(doAdd wd0 0 1).mem.ws.getD (piWord n k q2 a) 0=st.wd.mem.ws.getD (piWord n k q2 a) 0:=λq2 a=>by
   rw [d1];exact getD_set_neq (Ne.symm (piWord_far (q':=0) (Nat.zero_le n)).1)
  have hl:=p4 rfl
  subst hl
  have hinv:e0.inv=st.wd.now+1:=by
   by_cases hj:j<st.evs.length
   ·exfalso
    have h1:=(hg.ev.tick j hj).2.2.1
    have h2:=hf.obj.2 j hj
    rw [<-h2,<-he0] at h1;omega
   ·rw [he0];exact hf.invs.1 (by omega)
  refine go (doAdd wd0 0 1) (.rd st.obj.now 1 [] (tickKey wd0)) ?_ rfl rfl r1 r2 (λa _=>hword _ a) (λ_ q2 _ _ _ _ _ _ _ a _=>hword q2 a) (λq2 jj l2 key2 evs' e hj hnx=>?_)
  ·exact congrArg (λz=>(st.obj,doAdd wd0 0 1,PiS.rd z 1 [] (tickKey wd0),false)) hbuf
  ·cases e
   refine⟨?_,by unfold tickKey;rw [hnow0,hinv]⟩
   rw [hinv]
   exact(h.cell.keep hnx (.inl hopen) (Nat.le_refl _)).congr (λa _=>hword _ a)
 | .rd q' (jj+1) l key,⟨p1,p2,p3,_,p5⟩=>
  obtain⟨hqn,hll,hlg⟩:=p5 (by omega)
  have hold:st.hands.getD q (none,0)=(some (.rd q' (jj+1) l key),j)/\evAt st.evs j=e0/\j<st.evs.length:=by
   rcases hf.or with⟨hh,hk,hc,hr,rfl,rfl⟩|⟨hh,hs,rfl,rfl,rfl⟩
   ·exact⟨hh,he0.symm,hk⟩
   ·exfalso
    rw [evAt_last] at he0
    rw [he0] at p3
    have:(newEv i (st.wd.tick.begin q)).steps=0:=rfl
    omega
  obtain⟨hh,hev,hjl⟩:=hold
  obtain⟨k1,k2⟩:=h.hand q q' (jj+1) l key j hh (by omega)
  rw [hev] at k1 k2
  have hti:=(hg.ev.tick j hjl).2.1
  rw [hev] at hti
  by_cases hj:jj<k
  ·have hlt:piWord n k q' jj<wd0.mem.ws.length:=by rw [hws,hI.w.wl];exact piWord_lt hqn hj
   obtain⟨r1,r2⟩:=taRead_c hlt
   have hw':=(taRead_ws wd0 (piWord n k q' jj)).trans hws
   refine go (taRead wd0 (piWord n k q' jj)) (.rd q' (jj+2) (l++[taGot wd0 (piWord n k q' jj)]) key) (if_pos hj) rfl rfl r1 r2 (λ_ _=>by rw [hw']) (λ_ _ _ _ _ _ _ _ _ _ _=>by rw [hw']) (λq2 j2 l2 key2 evs' e _ hnx=>?_)
   cases e
   exact⟨(k1.keep hnx (.inl hopen) (by omega)).congr (λa _=>by rw [hw']),k2⟩
  ·obtain rfl:jj=k:=by omega
   have hlt:piLeft q'<wd0.mem.ws.length:=by rw [hws,hI.w.wl];exact piLeft_lt hqn
   obtain⟨r1,r2⟩:=doAdd_c (wd:=wd0) (a:=piLeft q') (v:=1) hlt
   obtain⟨d1,d2⟩:=doAdd_ws (wd:=wd0) hlt 1
   rw [hws] at d1
   obtain⟨wd',hwd'⟩:∃ wd',wd'=doAdd wd0 (piLeft q') 1:=⟨_,rfl⟩
   rw [<-hwd'] at d1 r1 r2
   have hnow':wd'.now=st.wd.now+1:=by rw [hwd'];exact hf.now
   have hmk':wd'.marks=List.replicate 16 []:=by rw [hwd'];exact hmk0
   have hst:(pinS n jj).step st.obj wd0 q (.rd q' (jj+1) l key)=(st.obj,wd',.rd q' (jj+2) l key,true):=by rw [hwd'];exact if_neg hj
   obtain⟨e1,he1⟩:∃ e1,e1=finishEv wd' q ⟨0,0,l⟩ key e0:=⟨_,rfl⟩
   have hto:stepTo st ((pinS n jj).step st.obj wd0 q (.rd q' (jj+1) l key)) q i j evs0={ wd:=wd',obj:=st.obj,fin:=st.fin.set i true,hands:=st.hands.set q (none,j),evs:=evs0.set j e1,idle:=st.idle }:=by rw [hst,he1,he0];rfl
   have hnx:=hf.next hg hN e1 (by rw [he1,he0];rfl)
   have hresp:e1.resp=st.wd.now+1:=by rw [he1];exact hnow'
   have hkd:kindOf calls e1=1:=by rw [he1];exact p1
   have hinv:e1.inv=e0.inv:=by rw [he1];rfl
   have hword:∀ q2 a,q2<=n->wd'.mem.ws.getD (piWord n jj q2 a) 0=st.wd.mem.ws.getD (piWord n jj q2 a) 0:=λq2 a h2=>by
    rw [d1];exact getD_set_neq (Ne.symm (piWord_far (q':=q') hqn).2)
   rw [hto]
   refine pi_hist_rest hg h hq hnx rfl (.inr hresp) hmk' (by show wd'.mem.c.fault=0;rw [r1,hmem];exact h.cf) ?_ ?_ (λp q2 j2 l2 key2 i2 hpq hp hj2 a _=>?_) (λ_ _ _ _ _ hx _=>by cases hx) (λ_=>⟨λ_ _=>⟨?_,by rw [he1];rfl,by rw [he1];rfl,?_⟩,λhne=>absurd ⟨by rw [he1];exact g1,hkd⟩ hne⟩)
   ·show wd'.mem.c.all<=wd'.now
    have:=h.ca
    rw [r2,hnow',hmem];omega
   ·show PiAtT jj calls (evs0.set j e1) (wd'.now+1) (λa=>wd'.mem.ws.getD (piWord n jj st.obj.now a) 0)
    rw [hnow']
    exact(h.cell.up hg hnx (λhp=>by have:=hp.2.1;omega)).congr (λa _=>hword _ a hnl)
   ·exact hword q2 a ((hI.hand p _ i2 hp).2.2.2.2.2 hj2).1
   ·rw [hinv]
    refine(k1.keep hnx (.inr hresp) (by omega)).congr (λa ha=>?_)
    rw [he1]
    exact hlg a (by omega)
   ·rw [hinv,he1]
    show keyOf wd' q key=_
    rw [keyOf_none hmk',if_neg (by rw [k2];simp),k2]
theorem pi_hist_turn (hn:1<=n) (hn16:n<=16) (hk1:1<=k) (hthr:∀ c,c<calls.length->0<=(calls.getD c d0).thread/\(calls.getD c d0).thread<n) {st st':PlayD (pinS n k)} (ht:st.wd.now<=1000000) (hg:StGood calls st) (hI:PiInv n k calls st) (h:PiHist n k calls st) (hT:Turn calls st st'):PiHist n k calls st':=by
 cases hT with
 | idle=>exact⟨h.marks,h.cf,h.ca,h.cell,h.hand,h.told⟩
 | refuse q i er hq hN hh hs=>exact pi_hist_refuse hg h hq hN hs
 | step q i j s evs0 wd0 hq hN hf=>exact pi_hist_step hn hn16 hk1 ht hthr hg hI h hq hN hf
theorem pi_hist0 (n k:Nat) (calls:List CallD):PiHist n k calls (play0 (pinS n k) (pinO0 n) (List.replicate (1+(n+1)*(k+1)) 0) calls):=by
 refine⟨rfl,rfl,Nat.le_refl _,.inl ⟨λj hj=>absurd hj (Nat.not_lt_zero _),λa _=>getD_rep'⟩,λp q j l key i hp=>?_,λj hj=>absurd hj (Nat.not_lt_zero _)⟩
 rw [show(play0 (pinS n k) (pinO0 n) (List.replicate (1+(n+1)*(k+1)) 0) calls).hands.getD p (none,0)=(none,0) from getD_rep'] at hp;cases hp
theorem pi_all {np:Nat} (hk1:1<=k) (hck:checkN n calls np=0) (hk:k<=8) (l:List Int):StGood calls (picksD (pinS n k) calls (play0 (pinS n k) (pinO0 n) (List.replicate (1+(n+1)*(k+1)) 0) calls) l)/\TickApart (picksD (pinS n k) calls (play0 (pinS n k) (pinO0 n) (List.replicate (1+(n+1)*(k+1)) 0) calls) l)/\((picksD (pinS n k) calls (play0 (pinS n k) (pinO0 n) (List.replicate (1+(n+1)*(k+1)) 0) calls) l).wd.now<=1000000->PiInv n k calls (picksD (pinS n k) calls (play0 (pinS n k) (pinO0 n) (List.replicate (1+(n+1)*(k+1)) 0) calls) l)/\PiHist n k calls (picksD (pinS n k) calls (play0 (pinS n k) (pinO0 n) (List.replicate (1+(n+1)*(k+1)) 0) calls) l)):=by
 obtain⟨hn1,hn16⟩:=n_ok hck
 have hthr':=thr_16 hck
 have hthr:∀ c,c<calls.length->0<=(calls.getD c d0).thread/\(calls.getD c d0).thread<n:=λc hc=>by have:=thr_ok hck c hc;omega
 have hnow:=(pin_ok n k 0 1 (by omega) hk (by decide)).now
 refine picks_ind (S:=pinS n k) hnow hthr' (J:=λst=>TickApart st/\(st.wd.now<=1000000->PiInv n k calls st/\PiHist n k calls st)) (λst st' hg _ hj hT=>⟨turn_apart hnow hg hj.1 hT,λht=>?_⟩) l (play0_good (S:=pinS n k) calls (pinO0 n) (List.replicate (1+(n+1)*(k+1)) 0)) ⟨λi j hi=>absurd hi (Nat.not_lt_zero _),λ_=>⟨pi_play0 n k calls,pi_hist0 n k calls⟩⟩
 have hm:st.wd.now<=st'.wd.now:=by
  cases hT with
  | idle=>exact Nat.le_refl _
  | refuse q i er hq hN hh hs=>exact Nat.le_succ _
  | step q i j s evs0 wd0 hq hN hf=>
   have h1:=hnow st.obj wd0 q s
   have h2:=hf.now
   show st.wd.now<=((pinS n k).step st.obj wd0 q s).2.1.now
   omega
 obtain⟨a,b⟩:=hj.2 (by omega)
 exact⟨pi_turn (by omega) (by omega) hk1 hthr (by omega) hg a hT,pi_hist_turn (by omega) (by omega) hk1 hthr (by omega) hg a b hT⟩
end Go.Proofs.Ytlepjmnhekeofaa
