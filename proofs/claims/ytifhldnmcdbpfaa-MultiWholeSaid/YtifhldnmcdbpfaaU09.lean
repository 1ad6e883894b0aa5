/- Layer 6: a thread's step: (*Player).step. -/
import Derived.Test.YtifhldnmcdbpfaaU08
import Derived.Deep.Cut
set_option maxRecDepth 100000
set_option linter.unusedVariables false
set_option linter.unusedSimpArgs false
set_option linter.unnecessarySimpa false
namespace Go.Proofs.Ytifhldnmcdbpfaa
open Go.RowKit
variable {S:Sys} {R:Real S}
structure JB (S:Sys) where
 wd:WD
 o:S.ω
 hands:List (Option (Mh S.σ)×Nat)
 evs:List EvD
 done:Bool
def goH (S:Sys) (wd:WD) (o:S.ω) (hands:List (Option (Mh S.σ)×Nat)) (evs:List EvD) (p k:Nat) (m:Mh S.σ):JB S:=
 let r:=aQ S o wd p m
 if r.2.2.2 then ⟨r.2.1,r.1,hands.set p (none,k),bZ evs k (bL r.2.1 p (aZ S r.2.2.1).1 (aZ S r.2.2.1).2),true⟩
 else ⟨r.2.1,r.1,hands.set p (some r.2.2.1,k),bZ evs k aV,false⟩
def qA (S:Sys) (calls:List aF) (wd:WD) (o:S.ω) (hands:List (Option (Mh S.σ)×Nat)) (evs:List EvD) (p i:Nat):JB S:=
 match (hands.getD p (none,0)).1 with
 | some m=>goH S wd.tick o hands evs p (hands.getD p (none,0)).2 m
 | none=>goH S (wd.tick.begin p) o (hands.set p (some (Mh.of (dB S o (wd.tick.begin p) p (calls.getD i d0))),evs.length)) (evs++[eB i (wd.tick.begin p)]) p evs.length (Mh.of (dB S o (wd.tick.begin p) p (calls.getD i d0)))
def RN (R:Real S) (calls:List aF) (w w':World) (J:kC) (ov cv:Value) (B0:Nat) (fin:List Bool) (idle:Nat) (r:JB S):Prop:=
 Chg (PB R B0) w w'/\∃ G',aI R calls w' J ov cv B0 G' r.wd r.o fin r.hands r.evs idle
theorem aI.hand_some {calls:List aF} {w:World} {J:kC} {ov cv:Value} {B0:Nat} {G:PG} {wd:WD} {o:S.ω} {fin:List Bool} {hands:List (Option (Mh S.σ)×Nat)} {evs:List EvD} {idle p k:Nat} {m:Mh S.σ}
  (h:aI R calls w J ov cv B0 G wd o fin hands evs idle) (hp:p<16) (hd:hands.getD p (none,0)=(some m,k)):∃ T x,G.hs.getD p (undef,0)=(.iface T x,k)/\lD R w G.Mut (G.MB p) T x p m:=by
 obtain⟨h1,h2⟩:=h.hand p hp
 rw [hd] at h1 h2
 obtain⟨T,x,h3,h4⟩:=h2
 exact⟨T,x,Prod.ext h3 h1,h4⟩
theorem aI.ev_some {calls:List aF} {w:World} {J:kC} {ov cv:Value} {B0:Nat} {G:PG} {wd:WD} {o:S.ω} {fin:List Bool} {hands:List (Option (Mh S.σ)×Nat)} {evs:List EvD} {idle k:Nat}
  (h:aI R calls w J ov cv B0 G wd o fin hands evs idle) (hk:k<evs.length):∃ g c,G.ev=.slice (some ⟨g,0,none⟩) evs.length c/\∀ f,f<8->w.cell? ⟨g,k*8+f,none⟩=(dL (evs.getD k lG) (G.ers.getD k sI))[f]?/\w.frozen? ⟨g,k*8+f,none⟩=false:=by
 obtain⟨g,c,h1,h2,h3⟩:=h.eva.row.form (by omega)
 refine⟨g,c,h1,λf hf=>?_⟩
 have hr:=h.eva.row
 rw [h1] at hr
 exact⟨by rw [hr.cellAt _ (by omega),qP _ _ _ _ h.eva.elen.symm hk hf],hr.frozenAt _⟩
theorem aI.store (ok:dO R) {calls:List aF} {w:World} {J:kC} {ov cv:Value} {B0:Nat} {G:PG} {wd:WD} {o:S.ω} {fin:List Bool} {hands:List (Option (Mh S.σ)×Nat)} {evs:List EvD} {idle k g n c f:Nat} {u:Value} {e':EvD} {v':Value×Value}
  (h:aI R calls w J ov cv B0 G wd o fin hands evs idle) (hk:k<evs.length) (hev:G.ev=.slice (some ⟨g,0,none⟩) n c) (hf:f<8) (hs:(dL (evs.getD k lG) (G.ers.getD k sI)).set f u=dL e' v')
  (hl:jQ w G.Mut v'.1 e'.ans.list) (hkk:Lst w G.Mut v'.2 e'.key) (hsp:e'.steps<=wd.now) :
  aI R calls (w.setCell ⟨g,k*8+f,none⟩ u) J ov cv B0 { G with ers:=G.ers.set k v' } wd o fin hands (evs.set k e') idle:=by
 have hch:Chg (λb=>b=g) w (w.setCell ⟨g,k*8+f,none⟩ u):=(Chg.refl (λb=>b=g) w).setCell (p:=⟨g,k*8+f,none⟩) (.inl rfl) u
 have hgm:∀ b,(λb=>b=g) b->G.Mut b:=by rintro b rfl;exact(h.pmut _ (.inr (.inr (.inr (by rw [hev];rfl))))).1
 obtain⟨g',c',h1,h2,h3⟩:=h.eva.row.form (by omega)
 rw [h1] at hev
 simp only [Value.slice.injEq,Option.some.injEq,Addr.mk.injEq,and_true,true_and] at hev
 obtain⟨rfl,rfl,rfl⟩:=hev
 refine aI.evset ok h h1 hk hch ?_ (hl.keep hch hgm (bE.refl _ _)) (hkk.keep hch hgm (bE.refl _ _)) hsp
 have hr:=h.eva.row
 rw [h1] at hr
 rw [<-vY _ _ _ _ u _ _ h.eva.elen.symm hk hf hs,h1]
 exact(hr.stored _ _).1
theorem aI.answered (ok:dO R) {calls:List aF} {w:World} {J:kC} {ov cv:Value} {B0:Nat} {G:PG} {wd:WD} {o:S.ω} {fin:List Bool} {hands:List (Option (Mh S.σ)×Nat)} {evs:List EvD} {idle k g n c:Nat} {er:Int} {vl r:Nat} {la:Option Addr} {lc:Nat} {li:List Nat} {kv:Value} {ky:List Int}
  (h:aI R calls w J ov cv B0 G wd o fin hands evs idle) (hk:k<evs.length) (hev:G.ev=.slice (some ⟨g,0,none⟩) n c) (hl:jQ w G.Mut (.slice la li.length lc) li) (hky:Lst w G.Mut kv ky) :
  ∃ ers',aI R calls (((((w.setCell ⟨g,k*8+4,none⟩ (.int .i64 er)).setCell ⟨g,k*8+4+1,none⟩ (.int .u64 (vl:Int))).setCell ⟨g,k*8+4+2,none⟩ (.slice la li.length lc)).setCell ⟨g,k*8+7,none⟩ kv).setCell ⟨g,k*8+2,none⟩ (.int .i64 (r:Int))) J ov cv B0 { G with ers:=ers' } wd o fin hands
   (evs.set k { evs.getD k lG with ans:=⟨er,vl,li⟩,key:=ky,resp:=r }) idle:=by
 obtain⟨e,he⟩:∃ e,e=evs.getD k lG:=⟨_,rfl⟩
 obtain⟨v,hv⟩:∃ v,v=G.ers.getD k sI:=⟨_,rfl⟩
 have hkr:k<G.ers.length:=by rw [h.eva.elen];exact hk
 have hgm:∀ b,(λb=>b=g) b->G.Mut b:=by rintro b rfl;exact(h.pmut _ (.inr (.inr (.inr (by rw [hev];rfl))))).1
 have hsp:=h.stp k
 rw [<-he] at hsp
 have ha:=h.eva.ans k hk
 rw [<-he,<-hv] at ha
 have kp:∀ {u u':World} {q:Addr} {x:Value},q.block=g->u'=u.setCell q x->Chg (λb=>b=g) u u':=λhq hu=>by rw [hu];exact(Chg.refl _ _).setCell (.inl hq) _
 have s1:=aI.store ok h hk hev (f:=4) (u:=.int .i64 er) (e':={ e with ans:={ e.ans with err:=er } }) (v':=v) (by omega) (by rw [<-he,<-hv];rfl) ha.1 ha.2 hsp
 have c1:=kp (u:=w) (q:=⟨g,k*8+4,none⟩) (x:=.int .i64 er) rfl rfl
 have a1:=ha.1.keep c1 hgm (bE.refl _ _);have b1:=ha.2.keep c1 hgm (bE.refl _ _)
 have l1:=hl.keep c1 hgm (bE.refl _ _);have k1:=hky.keep c1 hgm (bE.refl _ _)
 have s2:=aI.store ok s1 (by simpa using hk) hev (f:=5) (u:=.int .u64 (vl:Int)) (e':={ e with ans:={ e.ans with err:=er,val:=vl } }) (v':=v) (by omega) (by rw [aK hk];simp only;rw [aK hkr];rfl) a1 b1 hsp
 rw [List.set_set] at s2
 simp only [List.set_set] at s2
 have c2:=kp (u:=w.setCell ⟨g,k*8+4,none⟩ (.int .i64 er)) (q:=⟨g,k*8+5,none⟩) (x:=.int .u64 (vl:Int)) rfl rfl
 have a2:=a1.keep c2 hgm (bE.refl _ _);have b2:=b1.keep c2 hgm (bE.refl _ _)
 have l2:=l1.keep c2 hgm (bE.refl _ _);have k2:=k1.keep c2 hgm (bE.refl _ _)
 have s3:=aI.store ok s2 (by simpa using hk) hev (f:=6) (u:=.slice la li.length lc) (e':={ e with ans:=⟨er,vl,li⟩ }) (v':=(.slice la li.length lc,v.2)) (by omega) (by rw [aK hk];simp only;rw [aK hkr];rfl) l2 b2 hsp
 simp only [List.set_set] at s3
 have c3:=kp (u:=(w.setCell ⟨g,k*8+4,none⟩ (.int .i64 er)).setCell ⟨g,k*8+5,none⟩ (.int .u64 (vl:Int))) (q:=⟨g,k*8+6,none⟩) (x:=.slice la li.length lc) rfl rfl
 have l3:=l2.keep c3 hgm (bE.refl _ _);have k3:=k2.keep c3 hgm (bE.refl _ _)
 have s4:=aI.store ok s3 (by simpa using hk) hev (f:=7) (u:=kv) (e':={ e with ans:=⟨er,vl,li⟩,key:=ky }) (v':=(.slice la li.length lc,kv)) (by omega) (by rw [aK hk];simp only;rw [aK hkr];rfl) l3 k3 hsp
 simp only [List.set_set] at s4
 have c4:=kp (u:=((w.setCell ⟨g,k*8+4,none⟩ (.int .i64 er)).setCell ⟨g,k*8+5,none⟩ (.int .u64 (vl:Int))).setCell ⟨g,k*8+6,none⟩ (.slice la li.length lc)) (q:=⟨g,k*8+7,none⟩) (x:=kv) rfl rfl
 have l4:=l3.keep c4 hgm (bE.refl _ _);have k4:=k3.keep c4 hgm (bE.refl _ _)
 have s5:=aI.store ok s4 (by simpa using hk) hev (f:=2) (u:=.int .i64 (r:Int)) (e':={ e with ans:=⟨er,vl,li⟩,key:=ky,resp:=r }) (v':=(.slice la li.length lc,kv)) (by omega) (by rw [aK hk];simp only;rw [aK hkr];rfl) l4 k4 hsp
 simp only [List.set_set] at s5
 rw [<-he]
 exact⟨_,s5⟩
theorem aI.keyed (ok:dO R) {calls:List aF} {w:World} {J:kC} {ov cv:Value} {B0:Nat} {G:PG} {wd:WD} {o:S.ω} {fin:List Bool} {hands:List (Option (Mh S.σ)×Nat)} {evs:List EvD} {idle k g n c:Nat} {kv:Value} {ky:List Int}
  (h:aI R calls w J ov cv B0 G wd o fin hands evs idle) (hk:k<evs.length) (hev:G.ev=.slice (some ⟨g,0,none⟩) n c) (hky:Lst w G.Mut kv ky) :
  ∃ ers',(ers'.getD k sI).2=kv/\aI R calls (w.setCell ⟨g,k*8+7,none⟩ kv) J ov cv B0 { G with ers:=ers' } wd o fin hands (evs.set k { evs.getD k lG with key:=ky }) idle:=by
 have hgm:∀ b,(λb=>b=g) b->G.Mut b:=by rintro b rfl;exact(h.pmut _ (.inr (.inr (.inr (by rw [hev];rfl))))).1
 have c1:Chg (λb=>b=g) w (w.setCell ⟨g,k*8+7,none⟩ kv):=(Chg.refl _ _).setCell (by exact .inl rfl) _
 have ha:=h.eva.ans k hk
 exact⟨_,by rw [aK (by rw [h.eva.elen];exact hk)],aI.store ok h hk hev (f:=7) (u:=kv) (e':={ evs.getD k lG with key:=ky }) (v':=((G.ers.getD k sI).1,kv)) (by omega) rfl ha.1 hky (h.stp k)⟩
set_option maxHeartbeats 8000000 in
theorem MR (ok:dO R) (calls:List aF) (w:World) (J:kC) (ov cv:Value) (B0:Nat) (G:PG) (wd:WD) (o:S.ω) (fin:List Bool) (hands:List (Option (Mh S.σ)×Nat)) (evs:List EvD) (idle p i:Nat)
  (h:aI R calls w J ov cv B0 G wd o fin hands evs idle) (hp:p<16) (hi:i<calls.length) (hrun:∀ m k,hands.getD p (none,0)=(some m,k)->∃ s,m=.run s) (hl1:∀ s k,hands.getD p (none,0)=(some (.run s),k)->R.live o wd.tick p s) (hl2:(hands.getD p (none,0)).1=none->∀ s,dB S o (wd.tick.begin p) p (calls.getD i d0)=.run s->R.live o (wd.tick.begin p) p s) (hnow:wd.now<69999) (hdN:R.dN<=1000) :
  Calls Try.prog 59 #[.pointer (some ⟨J.bP,0,none⟩),.int .i64 (p:Int),.int .i64 (i:Int)] w λe w'=>e=.returned (.bool (qA S calls wd o hands evs p i).done)/\RN R calls w w' J ov cv B0 fin idle (qA S calls wd o hands evs p i):=by
 have hT:=aI.tick ok h hnow
 obtain⟨mks,hwb,hmk,_⟩:=h.world.blk
 have p0:w.cell? ⟨J.bP,0,none⟩=some (.pointer (some ⟨J.W.bW,0,none⟩)):=by rw [aA h.blk];exact cO
 have p1:w.cell? ⟨J.W.bW,1,none⟩=some (.int .i64 (wd.now:Int)):=by rw [aA hwb];exact fP
 have p2:w.frozen? ⟨J.W.bW,1,none⟩=false:=aC hwb _
 have hPW:J.bP≠J.W.bW:=λe=>(h.pmut J.bP (.inl rfl)).2.1 (by rw [e];exact .inl rfl)
 have hWP:=Ne.symm hPW
 have hpi:(p:Int)<16:=by omega
 have hn1:(wd.now:Int)<69999:=by omega
 have hnd:R.dN*wd.now<=R.dN*wd.tick.now:=Nat.mul_le_mul_left _ (Nat.le_succ _)
 have hnk:R.dN*wd.tick.now<=1000*70000:=Nat.mul_le_mul hdN (by simp [WD.tick];omega)
 have hsucc:R.dN*wd.tick.now=R.dN*wd.now+R.dN:=Nat.mul_succ _ _
 obtain⟨om,k0,hd⟩:∃ om k0,hands.getD p (none,0)=(om,k0):=⟨_,_,rfl⟩
 cases om with
 | none=>
  have hv:(G.hs.getD p (undef,0)).1=.nilIface:=by
   have:=(h.hand p hp).2
   rw [hd] at this;exact this
  have p3:w.cell? ⟨J.bP,5+p*2,none⟩=some .nilIface:=by rw [aA h.blk,(bK h.h1 hp).1,hv]
  have A:=Lib.hid (FB ok calls _ J ov cv B0 G wd.tick o fin hands evs idle p i hT hp hi (by rw [hd]) (by have:=h.ele;simp [WD.tick];omega))
  have Hh:=Lib.hid h;have Hd:=Lib.hid hd;have Hrun:=Lib.hid hrun;have HT:=Lib.hid hT
  have hnn:∀ u:World,(binOp .eql 123 .nilIface .nilIface).run Try.prog u=.ok (.bool true) u:=λu=>by first|rfl|kernel_rfl
  clear h hd hrun hT hv hwb hmk
  go_enter Try.func59,Try.ntmps59
  go_wp2_with fail
  refine A.out.mono ?_
  rintro e w2 ⟨rfl,rW,G2,hGN,h2⟩
  have hres:(qA S calls wd o hands evs p i=goH S (wd.tick.begin p) o (hands.set p (some (Mh.of (dB S o (wd.tick.begin p) p (calls.getD i d0))),evs.length)) (evs++[eB i (wd.tick.begin p)]) p evs.length (Mh.of (dB S o (wd.tick.begin p) p (calls.getD i d0)))):=by
   unfold qA;rw [Hd.out]
  obtain⟨mX,hmX⟩:∃ mX,mX=Mh.of (dB S o (wd.tick.begin p) p (calls.getD i d0)):=⟨_,rfl⟩
  have BO:∀ e,mX≠.refused e:=λe he=>by rw [hmX] at he;cases hs:dB S o (wd.tick.begin p) p (calls.getD i d0)<;>(rw [hs] at he;cases he)
  have hlv:∀ s,mX=.run s->R.live o (wd.tick.begin p) p s:=λs he=>hl2 (by rw [Hd.out]) s (by rw [hmX] at he;cases hs:dB S o (wd.tick.begin p) p (calls.getD i d0)<;>(rw [hs] at he;cases he);rfl)
  clear hl1 hl2
  have hd2:(hands.set p (some mX,evs.length)).getD p (none,0)=(some mX,evs.length):=aK (by rw [Hh.out.h2];exact hp)
  rw [<-hmX] at h2 hres
  have hN2:G2.N+R.dN<1000000000:=by have:=Hh.out.nb;omega
  have hNb:G2.N+R.dN<=R.dN*(wd.tick.begin p).now:=by have:=Hh.out.nb;show _<=R.dN*wd.tick.now;omega
  have hcn:(wd.tick.begin p).mem.c.all+1<=(wd.tick.begin p).now:=by have:=Hh.out.cnt;simp [WD.tick,WD.begin];omega
  have hc2:(wd.tick.begin p).mem.c.all+1<1000000000000:=by have:(wd.tick.begin p).now<=70000:=(by simp [WD.tick,WD.begin];omega);omega
  have zP:Chg (PB R B0) w w2:=((Chg.refl (PB R B0) w).setCell (p:=⟨J.W.bW,1,none⟩) (.inl (.inl (Hh.out.base.2.2.1 _ (.inl rfl)))) _).trans (rW.mono (λb _ h=>.inl h))
  have Hch0:=Lib.hid zP
  have hstp:((evs++[eB i (wd.tick.begin p)]).getD evs.length lG).steps+1<=(wd.tick.begin p).now:=by rw [dS];simp [eB,WD.tick,WD.begin]
  obtain⟨handsX,hhX⟩:∃ handsX,handsX=hands.set p (some mX,evs.length):=⟨_,rfl⟩
  obtain⟨evsX,heX⟩:∃ evsX,evsX=evs++[eB i (wd.tick.begin p)]:=⟨_,rfl⟩
  obtain⟨wdX,hwX⟩:∃ wdX,wdX=wd.tick.begin p:=⟨_,rfl⟩
  obtain⟨kX,hkX⟩:∃ kX,kX=evs.length:=⟨_,rfl⟩
  rw [<-hhX,<-heX,<-hwX,<-hkX] at hres
  rw [<-heX,<-hhX,<-hwX] at h2
  rw [<-hwX] at hlv
  have Hlv:=Lib.hid hlv
  clear hlv
  rw [<-hhX,<-hkX] at hd2
  rw [<-hwX] at hNb hcn hc2
  rw [<-heX,<-hwX,<-hkX] at hstp
  clear hmX hhX heX hwX hkX rW zP hGN p0 p1 p2 p3 hnd hnk hsucc A HT Hd Hrun hnn
  have Hres:=Lib.hid hres
  clear hres
  have b0:w2.cell? ⟨J.bP,0,none⟩=some (.pointer (some ⟨J.W.bW,0,none⟩)):=by rw [aA h2.blk];exact cO
  replace h2:=aI.grown ok h2 (Gr.refl w2).drew
  obtain⟨T,x,hv2,hm2⟩:=aI.hand_some h2 hp hd2
  have hk2:=h2.at_ p hp _ (by rw [hd2])
  rw [hd2] at hk2
  simp only at hk2
  obtain⟨K,recv,hM,hC⟩:=DI ok h2.world h2.obj hm2 h2.inv hp hN2 hc2 (λb hb=>⟨(h2.mb p b hp hb).1,(h2.mb p b hp hb).2.1,(h2.mb p b hp hb).2.2.1⟩) BO h2.ow Hlv.out
  have m1:=hM.ahead;have m2:=hM.meth;have m3:=hM.enter
  have b1:w2.cell? ⟨J.bP,5+p*2,none⟩=some (.iface T x):=by
   have:=aA h2.blk (5+p*2)
   rw [(bK h2.h1 hp).1,hv2] at this;exact this
  have HC:=Lib.hid hC;have H2:=Lib.hid h2;have Hv2:=Lib.hid hv2;have Hd2:=Lib.hid hd2;have Hk2:=Lib.hid hk2;have Hnr2:=Lib.hid BO;have HNb:=Lib.hid hNb;have Hcn:=Lib.hid hcn;have Hstp:=Lib.hid hstp
  clear hC hM h2 hm2 hv2 hd2 BO hk2 hNb hcn hN2 hc2 hstp
  go_wp2_with fail
  go_still_tail 10,(by kernel_rfl)
  change wpList _ _ _ _ _ w2.drew
  go_wp2_with fail
  refine HC.out.mono ?_
  rintro e w3 hpost
  obtain⟨B',h3⟩:=aI.stepped ok H2.out hp Hd2.out Hv2.out HNb.out Hcn.out hpost
  obtain⟨rfl,zC,_⟩:=hpost
  have Hch3:=Lib.hid (show Chg (PB R B0) w w3 from(Hch0.out.drew).trans (zC.mono (λb _ hb=>by
   rcases hb with hb|hb|hb
   ·exact .inl (H2.out.base.2.2.1 b hb)
   ·exact H2.out.base.2.2.2.2.2.1 b hb
   ·exact .inl (H2.out.base.2.2.2.2.2.2 p b hp hb))))
  obtain⟨g,c,CP,hrow3⟩:=aI.ev_some h3 Hk2.out
  have a0:w3.cell? ⟨J.bP,0,none⟩=some (.pointer (some ⟨J.W.bW,0,none⟩)):=by rw [aA h3.blk];exact cO
  have a37:w3.cell? ⟨J.bP,37,none⟩=some (.slice (some ⟨g,0,none⟩) evsX.length c):=by rw [aA h3.blk,<-CP];exact iQ h3.h1
  have aat:w3.cell? ⟨J.bP,5+p*2+1,none⟩=some (.int .i64 (kX:Int)):=by
   rw [aA h3.blk,(bK h3.h1 hp).2]
   show some (dW ((G2.hs.getD p (undef,0)).2))=_
   rw [Hv2.out];rfl
  obtain⟨sX,hsX⟩:∃ sX,sX=(evsX.getD kX lG).steps:=⟨_,rfl⟩
  have a3:w3.cell? ⟨g,kX*8+3,none⟩=some (.int .i64 (sX:Int)):=by rw [(hrow3 3 (by omega)).1,hsX];rfl
  have f3:=(hrow3 3 (by omega)).2
  have hkl:(kX:Int)<(evsX.length:Int):=by have:=Hk2.out;omega
  have H3:=Lib.hid h3;have Hev3:=Lib.hid CP;have Hrow3:=Lib.hid hrow3;have HsX:=Lib.hid hsX
  obtain⟨bX,hbX⟩:∃ bX,bX=(aQ S o wdX p mX).2.2.2:=⟨_,rfl⟩
  rw [<-hbX]
  have HbX:=Lib.hid hbX
  have Ab:(sX:Int)<100000:=by have h8:=Hstp.out;have h7:=H2.out.nowb;rw [<-hsX] at h8;omega
  clear h3 zC CP hrow3 hsX hbX m1 m2 m3 b0 b1
  go_wp2_with fail
  go_quiet (fail)
  have c3:(w3.drewN nq).cell? ⟨g,kX*8+3,none⟩=some (.int .i64 (sX:Int)):=a3
  have d3:(w3.drewN nq).frozen? ⟨g,kX*8+3,none⟩=false:=f3
  have h3d:=aI.grown ok H3.out (below_drewN (Gr.refl w3) nq)
  have hnw:(aQ S o wdX p mX).2.1.now=wdX.now:=by cases mX<;>first|rfl|exact ok.now _ _ _ _
  have h4:=aI.store ok h3d Hk2.out Hev3.out (f:=3) (u:=.int .i64 ((sX:Int)+1)) (e':=aV (evsX.getD kX lG)) (v':=G2.ers.getD kX sI) (by omega)
   (by rw [show((sX:Int)+1)=((sX+1:Nat):Int) by omega,HsX.out];rfl) (h3d.eva.ans kX Hk2.out).1 (h3d.eva.ans kX Hk2.out).2 (by rw [hnw];exact Hstp.out)
  obtain⟨w4,hw4⟩:∃ w4,w4=(w3.drewN nq).setCell ⟨g,kX*8+3,none⟩ (.int .i64 ((sX:Int)+1)):=⟨_,rfl⟩
  rw [<-hw4] at h4
  have hgB:PB R B0 g:=by
   have h9:=(H3.out.eva.row.lt g (by rw [Hev3.out];rfl)).1
   exact .inl h9
  have Hch4:=Lib.hid (show Chg (PB R B0) w w4 from by rw [hw4];exact(Hch3.out.drewN nq).setCell (p:=⟨g,kX*8+3,none⟩) (.inl hgB) _)
  have H4:=Lib.hid h4;have Hw4:=Lib.hid hw4;have Hnw:=Lib.hid hnw
  clear h3d h4 hw4 hnw
  cases bX with
  | false=>
   go_wp2
   rw [<-Hw4.out]
   go_ret
   have hg:goH S wdX o handsX evsX p kX mX=⟨(aQ S o wdX p mX).2.1,(aQ S o wdX p mX).1,handsX.set p (some (aQ S o wdX p mX).2.2.1,kX),bZ evsX kX aV,false⟩:=by
    unfold goH;rw [if_neg (by rw [<-HbX.out];simp)]
   rw [Hres.out,hg]
   exact⟨rfl,Hch4.out,_,H4.out⟩
  | true=>
   have hd4:(handsX.set p (some (aQ S o wdX p mX).2.2.1,kX)).getD p (none,0)=(some (aQ S o wdX p mX).2.2.1,kX):=aK (by rw [H2.out.h2];exact hp)
   obtain⟨T4,x4,hv4,NL⟩:=aI.hand_some H4.out hp hd4
   have KM:∀ e,(aQ S o wdX p mX).2.2.1≠.refuse e:=λe he=>by cases mX<;>cases he
   obtain⟨K4,TP,hM4,hC4⟩:=vV ok NL KM (λs hs=>KE ok HbX.out.symm hs)
   have n1:=hM4.ahead;have n2:=hM4.meth;have n3:=hM4.enter
   have q1:w4.cell? ⟨J.bP,5+p*2,none⟩=some (.iface T4 x4):=by rw [aA H4.out.blk,(bK H4.out.h1 hp).1,hv4]
   have HC4:=Lib.hid hC4;have Hv4:=Lib.hid hv4
   clear hC4 hM4 NL hv4 hd4 KM
   rw [Hw4.out] at q1 HC4
   go_wp2_with fail
   refine HC4.out.mono ?_
   rintro e w5 ⟨la,lc,kv,rfl,hl,hk,hb⟩
   rw [<-Hw4.out] at hb
   have h5:=aI.grown ok H4.out hb
   have hk5:kX<(evsX.set kX (aV (evsX.getD kX lG))).length:=by rw [List.length_set];exact Hk2.out
   obtain⟨er,her⟩:∃ er,er=(aZ S (aQ S o wdX p mX).2.2.1).1.err:=⟨_,rfl⟩
   obtain⟨vl,hvl⟩:∃ vl,vl=(aZ S (aQ S o wdX p mX).2.2.1).1.val:=⟨_,rfl⟩
   obtain⟨li,hli⟩:∃ li,li=(aZ S (aQ S o wdX p mX).2.2.1).1.list:=⟨_,rfl⟩
   obtain⟨ky,hky⟩:∃ ky,ky=(aZ S (aQ S o wdX p mX).2.2.1).2:=⟨_,rfl⟩
   rw [<-her,<-hvl,<-hli]
   rw [<-hli] at hl
   rw [<-hky] at hk
   have Her:=Lib.hid her;have Hvl:=Lib.hid hvl;have Hli:=Lib.hid hli;have Hky:=Lib.hid hky
   clear her hvl hli hky
   obtain⟨ka,kc,rfl,hkn,hksl,hkm⟩:=hk
   obtain⟨g',c',iN,eD⟩:=aI.ev_some h5 hk5
   obtain rfl:g=g':=by
    have e9:=Hev3.out.symm.trans iN
    simp only [Value.slice.injEq,Option.some.injEq,Addr.mk.injEq] at e9
    exact e9.1.1
   have r2:=(eD 2 (by omega)).1;have r4:=(eD 4 (by omega)).1;have r5:=(eD 5 (by omega)).1;have r6:=(eD 6 (by omega)).1;have r7:=(eD 7 (by omega)).1
   have t2:=(eD 2 (by omega)).2;have t4:=(eD 4 (by omega)).2;have t5:=(eD 5 (by omega)).2;have t6:=(eD 6 (by omega)).2;have t7:=(eD 7 (by omega)).2
   simp only [dL,List.getElem?_cons_succ,List.getElem?_cons_zero,dW] at r2 r4 r5 r6 r7
   obtain⟨QK,tJ,hmk5,oQ⟩:=h5.world.blk
   have q0:w5.cell? ⟨J.bP,0,none⟩=some (.pointer (some ⟨J.W.bW,0,none⟩)):=by rw [aA h5.blk];exact cO
   have q5:w5.cell? ⟨J.bP,5+p*2,none⟩=some (.iface T4 x4):=by rw [aA h5.blk,(bK h5.h1 hp).1,Hv4.out]
   have q5f:w5.frozen? ⟨J.bP,5+p*2,none⟩=false:=aC h5.blk _
   have qn:w5.cell? ⟨J.W.bW,1,none⟩=some (.int .i64 (wdX.now:Int)):=by rw [aA tJ,fP,Hnw.out]
   have qm:w5.cell? ⟨J.W.bW,18+p,none⟩=some (QK.getD p undef):=by rw [aA tJ];exact lY h5.world.inv16 hmk5 hp
   have hgP:g≠J.bP:=λe=>h5.psep.2.2.1 (by rw [iN,e];rfl)
   have hPg:J.bP≠g:=Ne.symm hgP
   have hgW:g≠J.W.bW:=λe=>h5.pW J.W.bW (.inl rfl) (.inr (.inr (.inr (by rw [iN,e];rfl))))
   have hWg:J.W.bW≠g:=Ne.symm hgW
   have hnl:∀(a:Option Addr) (n c:Nat) (u:World),(binOp .eql 24 (.slice a n c) (.slice none 0 0)).run Try.prog u=.ok (.bool a.isNone) u:=λa n c u=>Lib.run_eql_slice_nil u _ 3 _ _ _ _ _ Try.underlying24
   unfold gF
   by_cases CS:ky=[]
   ·subst CS
    have BX:=hkn rfl
    simp only [Value.slice.injEq] at BX
    obtain⟨rfl,_,rfl⟩:=BX
    have hmk:=oQ p hp
    obtain⟨ma,mc,hmv,hmn,hmsl,hmm⟩:=hmk
    rw [hmv] at qm
    have hn1:=hnl none 0 0
    simp only [Option.isNone_none] at hn1
    have hg:goH S wdX o handsX evsX p kX mX=⟨(aQ S o wdX p mX).2.1,(aQ S o wdX p mX).1,handsX.set p (none,kX),bZ evsX kX (bL (aQ S o wdX p mX).2.1 p (aZ S (aQ S o wdX p mX).2.2.1).1 (aZ S (aQ S o wdX p mX).2.2.1).2),true⟩:=by
     unfold goH;rw [if_pos (by rw [<-HbX.out])]
    obtain⟨mk,hmkd⟩:∃ mk,mk=(aQ S o wdX p mX).2.1.marks.getD p []:=⟨_,rfl⟩
    rw [<-hmkd] at qm hmv hmn hmsl
    have Hmkd:=Lib.hid hmkd
    clear hmkd
    have hmlst:Lst w5 _ (.slice ma mk.length mc) mk:=⟨ma,mc,rfl,(λe=>by rw [<-hmv];exact hmn e),hmsl,hmm⟩
    obtain⟨ers',ha⟩:=aI.answered ok (er:=er) (vl:=vl) (r:=wdX.now) h5 (by rw [List.length_set];exact Hk2.out) iN hl (Lst.nil w5 _)
    have Hg:=Lib.hid hg
    have sV:bZ evsX kX (bL (aQ S o wdX p mX).2.1 p (aZ S (aQ S o wdX p mX).2.2.1).1 (aZ S (aQ S o wdX p mX).2.2.1).2)=evsX.set kX { aV (evsX.getD kX lG) with ans:=⟨er,vl,li⟩,key:=if mk=[] then iW (aQ S o wdX p mX).2.1 else mk,resp:=wdX.now }:=by
     unfold bZ bL keyOf aV
     rw [<-Hky.out,if_pos rfl,Hnw.out,Her.out,Hvl.out,Hli.out,<-Hmkd.out]
    have Hev9:=Lib.hid sV
    have hka:kX<((evsX.set kX (aV (evsX.getD kX lG))).set kX { (evsX.set kX (aV (evsX.getD kX lG))).getD kX lG with ans:=⟨er,vl,li⟩,key:=[],resp:=wdX.now }).length:=by rw [List.length_set,List.length_set];exact Hk2.out
    have hgM:=(ha.pmut g (.inr (.inr (.inr (by exact congrArg Value.ownBlock iN))))).1
    have hgm:=(λ(P:Nat->Prop) (hP:P g) (b:Nat) (hb:(λb=>b=g) b)=>(show P b from by rw [show b=g from hb];exact hP)) _ hgM
    have Hka:=Lib.hid hka;have Hgm:=Lib.hid hgm
    clear hka hgm hgM sV
    by_cases qM:mk=[]
    ·have hm0:=hmn qM
     rw [hmv] at hm0
     simp only [Value.slice.injEq] at hm0
     obtain⟨rfl,JJ,rfl⟩:=hm0
     rw [JJ] at qm
     obtain⟨RD,hkv,hb2⟩:=aI.keyed ok ha (k:=kX) Hka.out iN (Lst.nil _ _)
     obtain⟨w6,dR⟩:∃ w6,w6=((((((w5.setCell ⟨g,kX*8+4,none⟩ (.int .i64 er)).setCell ⟨g,kX*8+4+1,none⟩ (.int .u64 (vl:Int))).setCell ⟨g,kX*8+4+2,none⟩ (.slice la li.length lc)).setCell ⟨g,kX*8+7,none⟩ (.slice none 0 0)).setCell ⟨g,kX*8+2,none⟩ (.int .i64 (wdX.now:Int))).setCell ⟨g,kX*8+7,none⟩ (.slice none 0 0)):=⟨_,rfl⟩
     rw [<-dR] at hb2
     obtain⟨g8,c8,uE,gW⟩:=aI.ev_some hb2 (k:=kX) (by rw [List.length_set];exact Hka.out)
     obtain rfl:g=g8:=by
      have e9:=iN.symm.trans uE
      simp only [Value.slice.injEq,Option.some.injEq,Addr.mk.injEq] at e9
      exact e9.1.1
     have y7f:=(gW 7 (by omega)).2
     have y7:w6.cell? ⟨g,kX*8+7,none⟩=some (.slice none 0 0):=by
      rw [(gW 7 (by omega)).1]
      simp only [dL,List.getElem?_cons_succ,List.getElem?_cons_zero]
      exact congrArg some hkv
     have y0:w6.cell? ⟨J.bP,0,none⟩=some (.pointer (some ⟨J.W.bW,0,none⟩)):=by rw [aA hb2.blk];exact cO
     have y5:w6.cell? ⟨J.bP,5+p*2,none⟩=some (.iface T4 x4):=by rw [aA hb2.blk,(bK hb2.h1 hp).1];exact congrArg (λz=>some z.1) Hv4.out
     have y5f:w6.frozen? ⟨J.bP,5+p*2,none⟩=false:=aC hb2.blk _
     have Hw6:=Lib.hid dR
     clear uE gW dR hkv
     have A:=Lib.hid (AA _ _ _ _ _ hb2.world)
     have H5:=Lib.hid h5;have Hev5:=Lib.hid iN;have Hb5:=Lib.hid hb;have Hb2:=Lib.hid hb2;have Hmk0:=Lib.hid qM
     clear h5 hl iN hkn hksl hkm eD tJ oQ hnl hb hmv hmn hmsl hmm hmlst ha hg hb2 qM
     clear JJ
     go_upto_region 14 with fail
     rw [<-Hw6.out]
     go_wp2_with fail
     refine A.out.mono ?_
     rintro e w7 ⟨rfl,rT,hb6⟩
     have h6:=aI.grown ok Hb2.out hb6
     obtain⟨g9,c9,JQ,oD⟩:=aI.ev_some h6 (k:=kX) (by rw [List.length_set];exact Hka.out)
     obtain rfl:g=g9:=by
      have e9:=Hev5.out.symm.trans JQ
      simp only [Value.slice.injEq,Option.some.injEq,Addr.mk.injEq] at e9
      exact e9.1.1
     have s7:=(oD 7 (by omega)).1;have u7:=(oD 7 (by omega)).2
     simp only [dL,List.getElem?_cons_succ,List.getElem?_cons_zero,dW] at s7
     have s5:w7.cell? ⟨J.bP,5+p*2,none⟩=some (.iface T4 x4):=by rw [aA h6.blk,(bK h6.h1 hp).1];exact congrArg (λz=>some z.1) Hv4.out
     have s5f:w7.frozen? ⟨J.bP,5+p*2,none⟩=false:=aC h6.blk _
     have H6:=Lib.hid h6;have Hl6:=Lib.hid rT;have Hb6:=Lib.hid hb6
     clear h6 rT hb6 JQ oD
     go_wp2
     go_ret
     obtain⟨VV,_,hc3⟩:=aI.keyed ok H6.out (k:=kX) (by rw [List.length_set];exact Hka.out) Hev5.out Hl6.out
     have hcl:=aI.cleared ok hc3 hp (k:=kX) (by show(G2.hs.getD p (undef,0)).2=kX;rw [Hv2.out])
     have hg1:∀(v d:EvD),(evsX.set kX v).getD kX d=v:=λv d=>aK Hk2.out
     simp only [List.set_set,hg1] at hcl
     rw [Hres.out,Hg.out,Hev9.out,if_pos Hmk0.out]
     refine⟨rfl,?_,_,hcl⟩
     have h9:=H5.out.base
     have hgB5:PB R B0 g:=hgB
     have jZ:Chg (PB R B0) w w6:=by
      rw [Hw6.out]
      exact(((((((Hch4.out.trans (Chg.of_below Hb5.out)).setCell (by exact .inl hgB5) _).setCell (by exact .inl hgB5) _).setCell (by exact .inl hgB5) _).setCell (by exact .inl hgB5) _).setCell (by exact .inl hgB5) _).setCell (by exact .inl hgB5) _)
     exact((jZ.trans (Chg.of_below Hb6.out)).setCell (by exact .inl hgB5) _).setCell (by exact .inl (.inl h9.2.1)) _
    ·obtain⟨mad,rfl⟩:∃ mad,ma=some mad:=by
      cases ma with
      | some a=>exact⟨a,rfl⟩
      | none=>
       obtain⟨b9,o9,e9,_⟩:=hmsl.lt (List.length_pos_iff.2 qM)
       cases e9
     have hn2:=hnl (some mad) mk.length mc
     simp only [Option.isNone_some] at hn2
     have LA:=hmlst.keep (((((((Chg.refl (λb=>b=g) w5).setCell (p:=⟨g,kX*8+4,none⟩) (by exact .inl rfl) (.int .i64 er)).setCell (p:=⟨g,kX*8+4+1,none⟩) (by exact .inl rfl) (.int .u64 (vl:Int))).setCell (p:=⟨g,kX*8+4+2,none⟩) (by exact .inl rfl) (.slice la li.length lc)).setCell (p:=⟨g,kX*8+7,none⟩) (by exact .inl rfl) (.slice none 0 0)).setCell (p:=⟨g,kX*8+2,none⟩) (by exact .inl rfl) (.int .i64 (wdX.now:Int)))) Hgm.out (bE.refl _ _)
     obtain⟨RD,hkv,hb2⟩:=aI.keyed ok ha (k:=kX) Hka.out iN LA
     obtain⟨w6,dR⟩:∃ w6,w6=((((((w5.setCell ⟨g,kX*8+4,none⟩ (.int .i64 er)).setCell ⟨g,kX*8+4+1,none⟩ (.int .u64 (vl:Int))).setCell ⟨g,kX*8+4+2,none⟩ (.slice la li.length lc)).setCell ⟨g,kX*8+7,none⟩ (.slice none 0 0)).setCell ⟨g,kX*8+2,none⟩ (.int .i64 (wdX.now:Int))).setCell ⟨g,kX*8+7,none⟩ (.slice (some mad) mk.length mc)):=⟨_,rfl⟩
     rw [<-dR] at hb2
     obtain⟨g8,c8,uE,gW⟩:=aI.ev_some hb2 (k:=kX) (by rw [List.length_set];exact Hka.out)
     obtain rfl:g=g8:=by
      have e9:=iN.symm.trans uE
      simp only [Value.slice.injEq,Option.some.injEq,Addr.mk.injEq] at e9
      exact e9.1.1
     have y7f:=(gW 7 (by omega)).2
     have y7:w6.cell? ⟨g,kX*8+7,none⟩=some (.slice (some mad) mk.length mc):=by
      rw [(gW 7 (by omega)).1]
      simp only [dL,List.getElem?_cons_succ,List.getElem?_cons_zero]
      exact congrArg some hkv
     have y0:w6.cell? ⟨J.bP,0,none⟩=some (.pointer (some ⟨J.W.bW,0,none⟩)):=by rw [aA hb2.blk];exact cO
     have y5:w6.cell? ⟨J.bP,5+p*2,none⟩=some (.iface T4 x4):=by rw [aA hb2.blk,(bK hb2.h1 hp).1];exact congrArg (λz=>some z.1) Hv4.out
     have y5f:w6.frozen? ⟨J.bP,5+p*2,none⟩=false:=aC hb2.blk _
     have Hw6:=Lib.hid dR
     clear uE gW dR hkv
     have H5:=Lib.hid h5;have Hb5:=Lib.hid hb;have Hb2:=Lib.hid hb2;have Hmk0:=Lib.hid qM
     clear h5 hl iN hkn hksl hkm eD tJ oQ hnl hb hmv hmn hmsl hmm hmlst ha hg qM LA hb2
     go_upto_region 14 with fail
     rw [<-Hw6.out]
     go_wp2
     go_ret
     have hcl:=aI.cleared ok Hb2.out hp (k:=kX) (by show(G2.hs.getD p (undef,0)).2=kX;rw [Hv2.out])
     have hg1:∀(v d:EvD),(evsX.set kX v).getD kX d=v:=λv d=>aK Hk2.out
     simp only [List.set_set,hg1] at hcl
     rw [Hres.out,Hg.out,Hev9.out,if_neg Hmk0.out]
     refine⟨rfl,?_,_,hcl⟩
     have h9:=H5.out.base
     have hgB5:PB R B0 g:=hgB
     have jZ:Chg (PB R B0) w w6:=by
      rw [Hw6.out]
      exact(((((((Hch4.out.trans (Chg.of_below Hb5.out)).setCell (by exact .inl hgB5) _).setCell (by exact .inl hgB5) _).setCell (by exact .inl hgB5) _).setCell (by exact .inl hgB5) _).setCell (by exact .inl hgB5) _).setCell (by exact .inl hgB5) _)
     exact jZ.setCell (by exact .inl (.inl h9.2.1)) _
   ·obtain⟨kad,rfl⟩:∃ kad,ka=some kad:=by
     cases ka with
     | some a=>exact⟨a,rfl⟩
     | none=>
      obtain⟨b9,o9,e9,_⟩:=hksl.lt (List.length_pos_iff.2 CS)
      cases e9
    have hnk:=hnl (some kad) ky.length kc
    simp only [Option.isNone_some] at hnk
    have H5:=Lib.hid h5;have Hl:=Lib.hid hl;have Hev5:=Lib.hid iN;have Hks:=Lib.hid (show Lst w5 _ (.slice (some kad) ky.length kc) ky from⟨some kad,kc,rfl,hkn,hksl,hkm⟩)
    clear h5 hl iN hkn hksl hkm eD tJ oQ hnl
    have Hb5:=Lib.hid hb
    clear hb
    go_wp2
    go_ret
    obtain⟨ers',ha⟩:=aI.answered ok (er:=er) (vl:=vl) (r:=wdX.now) H5.out (by rw [List.length_set];exact Hk2.out) Hev5.out Hl.out Hks.out
    have hcl:=aI.cleared ok ha hp (k:=kX) (by show(G2.hs.getD p (undef,0)).2=kX;rw [Hv2.out])
    rw [List.set_set,List.set_set,aK Hk2.out] at hcl
    have hg:goH S wdX o handsX evsX p kX mX=⟨(aQ S o wdX p mX).2.1,(aQ S o wdX p mX).1,handsX.set p (none,kX),bZ evsX kX (bL (aQ S o wdX p mX).2.1 p (aZ S (aQ S o wdX p mX).2.2.1).1 (aZ S (aQ S o wdX p mX).2.2.1).2),true⟩:=by
     unfold goH;rw [if_pos (by rw [<-HbX.out])]
    rw [Hres.out,hg]
    have sV:bZ evsX kX (bL (aQ S o wdX p mX).2.1 p (aZ S (aQ S o wdX p mX).2.2.1).1 (aZ S (aQ S o wdX p mX).2.2.1).2)=evsX.set kX { aV (evsX.getD kX lG) with ans:=⟨er,vl,li⟩,key:=ky,resp:=wdX.now }:=by
     unfold bZ bL keyOf aV
     rw [<-Hky.out,if_neg CS,Hnw.out,Her.out,Hvl.out,Hli.out]
    refine⟨rfl,?_,_,by rw [sV];exact hcl⟩
    have h9:=H5.out.base
    have hgB5:PB R B0 g:=hgB
    refine(((((((Hch4.out.trans ?_).setCell (by exact .inl hgB5) _).setCell (by exact .inl hgB5) _).setCell (by exact .inl hgB5) _).setCell (by exact .inl hgB5) _).setCell (by exact .inl hgB5) _).setCell (by exact .inl (.inl h9.2.1)) _)
    exact Chg.of_below Hb5.out
 | some m=>
  obtain⟨sm,rfl⟩:=hrun m k0 hd
  have hd2:hands.getD p (none,0)=(some (Mh.run sm),k0):=hd
  obtain⟨T0,x0,hv0,_⟩:=aI.hand_some h hp hd
  have p3:w.cell? ⟨J.bP,5+p*2,none⟩=some (.iface T0 x0):=by rw [aA h.blk,(bK h.h1 hp).1,hv0]
  have hnn:∀ u:World,(binOp .eql 123 (.iface T0 x0) .nilIface).run Try.prog u=.ok (.bool false) u:=λu=>by first|rfl|kernel_rfl
  obtain⟨mX,hmX⟩:∃ mX,mX=Mh.run sm:=⟨_,rfl⟩
  have BO:∀ e,mX≠.refused e:=λe he=>by rw [hmX] at he;cases he
  have hlv:∀ s,mX=.run s->R.live o wd.tick p s:=λs he=>hl1 s k0 (by rw [hd,<-hmX,he])
  clear hl1 hl2
  rw [<-hmX] at hd2
  have hres:qA S calls wd o hands evs p i=goH S wd.tick o hands evs p k0 mX:=by unfold qA;rw [hd,hmX]
  have hN2:G.N+R.dN<1000000000:=by have:=h.nb;omega
  have hNb:G.N+R.dN<=R.dN*wd.tick.now:=by have:=h.nb;omega
  have hcn:wd.tick.mem.c.all+1<=wd.tick.now:=by have:=h.cnt;simp [WD.tick];omega
  have hc2:wd.tick.mem.c.all+1<1000000000000:=by have:wd.tick.now<=70000:=(by simp [WD.tick];omega);omega
  have hstp:(evs.getD k0 lG).steps+1<=wd.tick.now:=by have:=h.stp k0;show _<=wd.now+1;omega
  have hB0:=h.base.2.2.1 _ (.inl rfl)
  obtain⟨w2,hw2⟩:∃ w2,w2=w.setCell ⟨J.W.bW,1,none⟩ (.int .i64 ((wd.now:Int)+1)):=⟨_,rfl⟩
  have zP:Chg (PB R B0) w w2:=by rw [hw2];exact(Chg.refl (PB R B0) w).setCell (p:=⟨J.W.bW,1,none⟩) (.inl (.inl hB0)) _
  have h2:aI R calls w2 J ov cv B0 G wd.tick o fin hands evs idle:=by rw [hw2];exact hT
  have Hch0:=Lib.hid zP;have Hw2:=Lib.hid hw2
  obtain⟨G2,hG2⟩:∃ G2,G2=G:=⟨_,rfl⟩
  obtain⟨handsX,hhX⟩:∃ handsX,handsX=hands:=⟨_,rfl⟩
  obtain⟨evsX,heX⟩:∃ evsX,evsX=evs:=⟨_,rfl⟩
  obtain⟨wdX,hwX⟩:∃ wdX,wdX=wd.tick:=⟨_,rfl⟩
  obtain⟨kX,hkX⟩:∃ kX,kX=k0:=⟨_,rfl⟩
  have hres2:qA S calls wd o hands evs p i=goH S wdX o handsX evsX p kX mX:=by rw [hhX,heX,hwX,hkX];exact hres
  rw [<-heX,<-hhX,<-hwX,<-hG2] at h2
  rw [<-hhX,<-hkX] at hd2
  rw [<-hG2] at hN2
  rw [<-hG2,<-hwX] at hNb
  rw [<-hwX] at hlv
  have Hlv:=Lib.hid hlv
  clear hlv
  rw [<-hwX] at hcn hc2
  rw [<-heX,<-hwX,<-hkX] at hstp
  have Hres0:=Lib.hid hres2
  clear hmX hhX heX hwX hkX hG2 zP hnd hnk hsucc hd hrun hT hv0 hwb hmk hB0 h hw2 hres hres2
  go_enter Try.func59,Try.ntmps59
  go_wp2_with fail
  rw [<-Hw2.out]
  have hres:=Hres0.out
  have Hres:=Lib.hid hres
  clear hres
  have b0:w2.cell? ⟨J.bP,0,none⟩=some (.pointer (some ⟨J.W.bW,0,none⟩)):=by rw [aA h2.blk];exact cO
  replace h2:=aI.grown ok h2 (Gr.refl w2).drew
  obtain⟨T,x,hv2,hm2⟩:=aI.hand_some h2 hp hd2
  have hk2:=h2.at_ p hp _ (by rw [hd2])
  rw [hd2] at hk2
  simp only at hk2
  obtain⟨K,recv,hM,hC⟩:=DI ok h2.world h2.obj hm2 h2.inv hp hN2 hc2 (λb hb=>⟨(h2.mb p b hp hb).1,(h2.mb p b hp hb).2.1,(h2.mb p b hp hb).2.2.1⟩) BO h2.ow Hlv.out
  have m1:=hM.ahead;have m2:=hM.meth;have m3:=hM.enter
  have b1:w2.cell? ⟨J.bP,5+p*2,none⟩=some (.iface T x):=by
   have:=aA h2.blk (5+p*2)
   rw [(bK h2.h1 hp).1,hv2] at this;exact this
  have HC:=Lib.hid hC;have H2:=Lib.hid h2;have Hv2:=Lib.hid hv2;have Hd2:=Lib.hid hd2;have Hk2:=Lib.hid hk2;have Hnr2:=Lib.hid BO;have HNb:=Lib.hid hNb;have Hcn:=Lib.hid hcn;have Hstp:=Lib.hid hstp
  clear hC hM h2 hm2 hv2 hd2 BO hk2 hNb hcn hN2 hc2 hstp
  go_wp2_with fail
  go_still_tail 10,(by kernel_rfl)
  change wpList _ _ _ _ _ w2.drew
  go_wp2_with fail
  refine HC.out.mono ?_
  rintro e w3 hpost
  obtain⟨B',h3⟩:=aI.stepped ok H2.out hp Hd2.out Hv2.out HNb.out Hcn.out hpost
  obtain⟨rfl,zC,_⟩:=hpost
  have Hch3:=Lib.hid (show Chg (PB R B0) w w3 from(Hch0.out.drew).trans (zC.mono (λb _ hb=>by
   rcases hb with hb|hb|hb
   ·exact .inl (H2.out.base.2.2.1 b hb)
   ·exact H2.out.base.2.2.2.2.2.1 b hb
   ·exact .inl (H2.out.base.2.2.2.2.2.2 p b hp hb))))
  obtain⟨g,c,CP,hrow3⟩:=aI.ev_some h3 Hk2.out
  have a0:w3.cell? ⟨J.bP,0,none⟩=some (.pointer (some ⟨J.W.bW,0,none⟩)):=by rw [aA h3.blk];exact cO
  have a37:w3.cell? ⟨J.bP,37,none⟩=some (.slice (some ⟨g,0,none⟩) evsX.length c):=by rw [aA h3.blk,<-CP];exact iQ h3.h1
  have aat:w3.cell? ⟨J.bP,5+p*2+1,none⟩=some (.int .i64 (kX:Int)):=by
   rw [aA h3.blk,(bK h3.h1 hp).2]
   show some (dW ((G2.hs.getD p (undef,0)).2))=_
   rw [Hv2.out];rfl
  obtain⟨sX,hsX⟩:∃ sX,sX=(evsX.getD kX lG).steps:=⟨_,rfl⟩
  have a3:w3.cell? ⟨g,kX*8+3,none⟩=some (.int .i64 (sX:Int)):=by rw [(hrow3 3 (by omega)).1,hsX];rfl
  have f3:=(hrow3 3 (by omega)).2
  have hkl:(kX:Int)<(evsX.length:Int):=by have:=Hk2.out;omega
  have H3:=Lib.hid h3;have Hev3:=Lib.hid CP;have Hrow3:=Lib.hid hrow3;have HsX:=Lib.hid hsX
  obtain⟨bX,hbX⟩:∃ bX,bX=(aQ S o wdX p mX).2.2.2:=⟨_,rfl⟩
  rw [<-hbX]
  have HbX:=Lib.hid hbX
  have Ab:(sX:Int)<100000:=by have h8:=Hstp.out;have h7:=H2.out.nowb;rw [<-hsX] at h8;omega
  clear h3 zC CP hrow3 hsX hbX m1 m2 m3 b0 b1
  go_wp2_with fail
  go_quiet (fail)
  have c3:(w3.drewN nq).cell? ⟨g,kX*8+3,none⟩=some (.int .i64 (sX:Int)):=a3
  have d3:(w3.drewN nq).frozen? ⟨g,kX*8+3,none⟩=false:=f3
  have h3d:=aI.grown ok H3.out (below_drewN (Gr.refl w3) nq)
  have hnw:(aQ S o wdX p mX).2.1.now=wdX.now:=by cases mX<;>first|rfl|exact ok.now _ _ _ _
  have h4:=aI.store ok h3d Hk2.out Hev3.out (f:=3) (u:=.int .i64 ((sX:Int)+1)) (e':=aV (evsX.getD kX lG)) (v':=G2.ers.getD kX sI) (by omega)
   (by rw [show((sX:Int)+1)=((sX+1:Nat):Int) by omega,HsX.out];rfl) (h3d.eva.ans kX Hk2.out).1 (h3d.eva.ans kX Hk2.out).2 (by rw [hnw];exact Hstp.out)
  obtain⟨w4,hw4⟩:∃ w4,w4=(w3.drewN nq).setCell ⟨g,kX*8+3,none⟩ (.int .i64 ((sX:Int)+1)):=⟨_,rfl⟩
  rw [<-hw4] at h4
  have hgB:PB R B0 g:=by
   have h9:=(H3.out.eva.row.lt g (by rw [Hev3.out];rfl)).1
   exact .inl h9
  have Hch4:=Lib.hid (show Chg (PB R B0) w w4 from by rw [hw4];exact(Hch3.out.drewN nq).setCell (p:=⟨g,kX*8+3,none⟩) (.inl hgB) _)
  have H4:=Lib.hid h4;have Hw4:=Lib.hid hw4;have Hnw:=Lib.hid hnw
  clear h3d h4 hw4 hnw
  cases bX with
  | false=>
   go_wp2
   rw [<-Hw4.out]
   go_ret
   have hg:goH S wdX o handsX evsX p kX mX=⟨(aQ S o wdX p mX).2.1,(aQ S o wdX p mX).1,handsX.set p (some (aQ S o wdX p mX).2.2.1,kX),bZ evsX kX aV,false⟩:=by
    unfold goH;rw [if_neg (by rw [<-HbX.out];simp)]
   rw [Hres.out,hg]
   exact⟨rfl,Hch4.out,_,H4.out⟩
  | true=>
   have hd4:(handsX.set p (some (aQ S o wdX p mX).2.2.1,kX)).getD p (none,0)=(some (aQ S o wdX p mX).2.2.1,kX):=aK (by rw [H2.out.h2];exact hp)
   obtain⟨T4,x4,hv4,NL⟩:=aI.hand_some H4.out hp hd4
   have KM:∀ e,(aQ S o wdX p mX).2.2.1≠.refuse e:=λe he=>by cases mX<;>cases he
   obtain⟨K4,TP,hM4,hC4⟩:=vV ok NL KM (λs hs=>KE ok HbX.out.symm hs)
   have n1:=hM4.ahead;have n2:=hM4.meth;have n3:=hM4.enter
   have q1:w4.cell? ⟨J.bP,5+p*2,none⟩=some (.iface T4 x4):=by rw [aA H4.out.blk,(bK H4.out.h1 hp).1,hv4]
   have HC4:=Lib.hid hC4;have Hv4:=Lib.hid hv4
   clear hC4 hM4 NL hv4 hd4 KM
   rw [Hw4.out] at q1 HC4
   go_wp2_with fail
   refine HC4.out.mono ?_
   rintro e w5 ⟨la,lc,kv,rfl,hl,hk,hb⟩
   rw [<-Hw4.out] at hb
   have h5:=aI.grown ok H4.out hb
   have hk5:kX<(evsX.set kX (aV (evsX.getD kX lG))).length:=by rw [List.length_set];exact Hk2.out
   obtain⟨er,her⟩:∃ er,er=(aZ S (aQ S o wdX p mX).2.2.1).1.err:=⟨_,rfl⟩
   obtain⟨vl,hvl⟩:∃ vl,vl=(aZ S (aQ S o wdX p mX).2.2.1).1.val:=⟨_,rfl⟩
   obtain⟨li,hli⟩:∃ li,li=(aZ S (aQ S o wdX p mX).2.2.1).1.list:=⟨_,rfl⟩
   obtain⟨ky,hky⟩:∃ ky,ky=(aZ S (aQ S o wdX p mX).2.2.1).2:=⟨_,rfl⟩
   rw [<-her,<-hvl,<-hli]
   rw [<-hli] at hl
   rw [<-hky] at hk
   have Her:=Lib.hid her;have Hvl:=Lib.hid hvl;have Hli:=Lib.hid hli;have Hky:=Lib.hid hky
   clear her hvl hli hky
   obtain⟨ka,kc,rfl,hkn,hksl,hkm⟩:=hk
   obtain⟨g',c',iN,eD⟩:=aI.ev_some h5 hk5
   obtain rfl:g=g':=by
    have e9:=Hev3.out.symm.trans iN
    simp only [Value.slice.injEq,Option.some.injEq,Addr.mk.injEq] at e9
    exact e9.1.1
   have r2:=(eD 2 (by omega)).1;have r4:=(eD 4 (by omega)).1;have r5:=(eD 5 (by omega)).1;have r6:=(eD 6 (by omega)).1;have r7:=(eD 7 (by omega)).1
   have t2:=(eD 2 (by omega)).2;have t4:=(eD 4 (by omega)).2;have t5:=(eD 5 (by omega)).2;have t6:=(eD 6 (by omega)).2;have t7:=(eD 7 (by omega)).2
   simp only [dL,List.getElem?_cons_succ,List.getElem?_cons_zero,dW] at r2 r4 r5 r6 r7
   obtain⟨QK,tJ,hmk5,oQ⟩:=h5.world.blk
   have q0:w5.cell? ⟨J.bP,0,none⟩=some (.pointer (some ⟨J.W.bW,0,none⟩)):=by rw [aA h5.blk];exact cO
   have q5:w5.cell? ⟨J.bP,5+p*2,none⟩=some (.iface T4 x4):=by rw [aA h5.blk,(bK h5.h1 hp).1,Hv4.out]
   have q5f:w5.frozen? ⟨J.bP,5+p*2,none⟩=false:=aC h5.blk _
   have qn:w5.cell? ⟨J.W.bW,1,none⟩=some (.int .i64 (wdX.now:Int)):=by rw [aA tJ,fP,Hnw.out]
   have qm:w5.cell? ⟨J.W.bW,18+p,none⟩=some (QK.getD p undef):=by rw [aA tJ];exact lY h5.world.inv16 hmk5 hp
   have hgP:g≠J.bP:=λe=>h5.psep.2.2.1 (by rw [iN,e];rfl)
   have hPg:J.bP≠g:=Ne.symm hgP
   have hgW:g≠J.W.bW:=λe=>h5.pW J.W.bW (.inl rfl) (.inr (.inr (.inr (by rw [iN,e];rfl))))
   have hWg:J.W.bW≠g:=Ne.symm hgW
   have hnl:∀(a:Option Addr) (n c:Nat) (u:World),(binOp .eql 24 (.slice a n c) (.slice none 0 0)).run Try.prog u=.ok (.bool a.isNone) u:=λa n c u=>Lib.run_eql_slice_nil u _ 3 _ _ _ _ _ Try.underlying24
   unfold gF
   by_cases CS:ky=[]
   ·subst CS
    have BX:=hkn rfl
    simp only [Value.slice.injEq] at BX
    obtain⟨rfl,_,rfl⟩:=BX
    have hmk:=oQ p hp
    obtain⟨ma,mc,hmv,hmn,hmsl,hmm⟩:=hmk
    rw [hmv] at qm
    have hn1:=hnl none 0 0
    simp only [Option.isNone_none] at hn1
    have hg:goH S wdX o handsX evsX p kX mX=⟨(aQ S o wdX p mX).2.1,(aQ S o wdX p mX).1,handsX.set p (none,kX),bZ evsX kX (bL (aQ S o wdX p mX).2.1 p (aZ S (aQ S o wdX p mX).2.2.1).1 (aZ S (aQ S o wdX p mX).2.2.1).2),true⟩:=by
     unfold goH;rw [if_pos (by rw [<-HbX.out])]
    obtain⟨mk,hmkd⟩:∃ mk,mk=(aQ S o wdX p mX).2.1.marks.getD p []:=⟨_,rfl⟩
    rw [<-hmkd] at qm hmv hmn hmsl
    have Hmkd:=Lib.hid hmkd
    clear hmkd
    have hmlst:Lst w5 _ (.slice ma mk.length mc) mk:=⟨ma,mc,rfl,(λe=>by rw [<-hmv];exact hmn e),hmsl,hmm⟩
    obtain⟨ers',ha⟩:=aI.answered ok (er:=er) (vl:=vl) (r:=wdX.now) h5 (by rw [List.length_set];exact Hk2.out) iN hl (Lst.nil w5 _)
    have Hg:=Lib.hid hg
    have sV:bZ evsX kX (bL (aQ S o wdX p mX).2.1 p (aZ S (aQ S o wdX p mX).2.2.1).1 (aZ S (aQ S o wdX p mX).2.2.1).2)=evsX.set kX { aV (evsX.getD kX lG) with ans:=⟨er,vl,li⟩,key:=if mk=[] then iW (aQ S o wdX p mX).2.1 else mk,resp:=wdX.now }:=by
     unfold bZ bL keyOf aV
     rw [<-Hky.out,if_pos rfl,Hnw.out,Her.out,Hvl.out,Hli.out,<-Hmkd.out]
    have Hev9:=Lib.hid sV
    have hka:kX<((evsX.set kX (aV (evsX.getD kX lG))).set kX { (evsX.set kX (aV (evsX.getD kX lG))).getD kX lG with ans:=⟨er,vl,li⟩,key:=[],resp:=wdX.now }).length:=by rw [List.length_set,List.length_set];exact Hk2.out
    have hgM:=(ha.pmut g (.inr (.inr (.inr (by exact congrArg Value.ownBlock iN))))).1
    have hgm:=(λ(P:Nat->Prop) (hP:P g) (b:Nat) (hb:(λb=>b=g) b)=>(show P b from by rw [show b=g from hb];exact hP)) _ hgM
    have Hka:=Lib.hid hka;have Hgm:=Lib.hid hgm
    clear hka hgm hgM sV
    by_cases qM:mk=[]
    ·have hm0:=hmn qM
     rw [hmv] at hm0
     simp only [Value.slice.injEq] at hm0
     obtain⟨rfl,JJ,rfl⟩:=hm0
     rw [JJ] at qm
     obtain⟨RD,hkv,hb2⟩:=aI.keyed ok ha (k:=kX) Hka.out iN (Lst.nil _ _)
     obtain⟨w6,dR⟩:∃ w6,w6=((((((w5.setCell ⟨g,kX*8+4,none⟩ (.int .i64 er)).setCell ⟨g,kX*8+4+1,none⟩ (.int .u64 (vl:Int))).setCell ⟨g,kX*8+4+2,none⟩ (.slice la li.length lc)).setCell ⟨g,kX*8+7,none⟩ (.slice none 0 0)).setCell ⟨g,kX*8+2,none⟩ (.int .i64 (wdX.now:Int))).setCell ⟨g,kX*8+7,none⟩ (.slice none 0 0)):=⟨_,rfl⟩
     rw [<-dR] at hb2
     obtain⟨g8,c8,uE,gW⟩:=aI.ev_some hb2 (k:=kX) (by rw [List.length_set];exact Hka.out)
     obtain rfl:g=g8:=by
      have e9:=iN.symm.trans uE
      simp only [Value.slice.injEq,Option.some.injEq,Addr.mk.injEq] at e9
      exact e9.1.1
     have y7f:=(gW 7 (by omega)).2
     have y7:w6.cell? ⟨g,kX*8+7,none⟩=some (.slice none 0 0):=by
      rw [(gW 7 (by omega)).1]
      simp only [dL,List.getElem?_cons_succ,List.getElem?_cons_zero]
      exact congrArg some hkv
     have y0:w6.cell? ⟨J.bP,0,none⟩=some (.pointer (some ⟨J.W.bW,0,none⟩)):=by rw [aA hb2.blk];exact cO
     have y5:w6.cell? ⟨J.bP,5+p*2,none⟩=some (.iface T4 x4):=by rw [aA hb2.blk,(bK hb2.h1 hp).1];exact congrArg (λz=>some z.1) Hv4.out
     have y5f:w6.frozen? ⟨J.bP,5+p*2,none⟩=false:=aC hb2.blk _
     have Hw6:=Lib.hid dR
     clear uE gW dR hkv
     have A:=Lib.hid (AA _ _ _ _ _ hb2.world)
     have H5:=Lib.hid h5;have Hev5:=Lib.hid iN;have Hb5:=Lib.hid hb;have Hb2:=Lib.hid hb2;have Hmk0:=Lib.hid qM
     clear h5 hl iN hkn hksl hkm eD tJ oQ hnl hb hmv hmn hmsl hmm hmlst ha hg hb2 qM
     clear JJ
     go_upto_region 14 with fail
     rw [<-Hw6.out]
     go_wp2_with fail
     refine A.out.mono ?_
     rintro e w7 ⟨rfl,rT,hb6⟩
     have h6:=aI.grown ok Hb2.out hb6
     obtain⟨g9,c9,JQ,oD⟩:=aI.ev_some h6 (k:=kX) (by rw [List.length_set];exact Hka.out)
     obtain rfl:g=g9:=by
      have e9:=Hev5.out.symm.trans JQ
      simp only [Value.slice.injEq,Option.some.injEq,Addr.mk.injEq] at e9
      exact e9.1.1
     have s7:=(oD 7 (by omega)).1;have u7:=(oD 7 (by omega)).2
     simp only [dL,List.getElem?_cons_succ,List.getElem?_cons_zero,dW] at s7
     have s5:w7.cell? ⟨J.bP,5+p*2,none⟩=some (.iface T4 x4):=by rw [aA h6.blk,(bK h6.h1 hp).1];exact congrArg (λz=>some z.1) Hv4.out
     have s5f:w7.frozen? ⟨J.bP,5+p*2,none⟩=false:=aC h6.blk _
     have H6:=Lib.hid h6;have Hl6:=Lib.hid rT;have Hb6:=Lib.hid hb6
     clear h6 rT hb6 JQ oD
     go_wp2
     go_ret
     obtain⟨VV,_,hc3⟩:=aI.keyed ok H6.out (k:=kX) (by rw [List.length_set];exact Hka.out) Hev5.out Hl6.out
     have hcl:=aI.cleared ok hc3 hp (k:=kX) (by show(G2.hs.getD p (undef,0)).2=kX;rw [Hv2.out])
     have hg1:∀(v d:EvD),(evsX.set kX v).getD kX d=v:=λv d=>aK Hk2.out
     simp only [List.set_set,hg1] at hcl
     rw [Hres.out,Hg.out,Hev9.out,if_pos Hmk0.out]
     refine⟨rfl,?_,_,hcl⟩
     have h9:=H5.out.base
     have hgB5:PB R B0 g:=hgB
     have jZ:Chg (PB R B0) w w6:=by
      rw [Hw6.out]
      exact(((((((Hch4.out.trans (Chg.of_below Hb5.out)).setCell (by exact .inl hgB5) _).setCell (by exact .inl hgB5) _).setCell (by exact .inl hgB5) _).setCell (by exact .inl hgB5) _).setCell (by exact .inl hgB5) _).setCell (by exact .inl hgB5) _)
     exact((jZ.trans (Chg.of_below Hb6.out)).setCell (by exact .inl hgB5) _).setCell (by exact .inl (.inl h9.2.1)) _
    ·obtain⟨mad,rfl⟩:∃ mad,ma=some mad:=by
      cases ma with
      | some a=>exact⟨a,rfl⟩
      | none=>
       obtain⟨b9,o9,e9,_⟩:=hmsl.lt (List.length_pos_iff.2 qM)
       cases e9
     have hn2:=hnl (some mad) mk.length mc
     simp only [Option.isNone_some] at hn2
     have LA:=hmlst.keep (((((((Chg.refl (λb=>b=g) w5).setCell (p:=⟨g,kX*8+4,none⟩) (by exact .inl rfl) (.int .i64 er)).setCell (p:=⟨g,kX*8+4+1,none⟩) (by exact .inl rfl) (.int .u64 (vl:Int))).setCell (p:=⟨g,kX*8+4+2,none⟩) (by exact .inl rfl) (.slice la li.length lc)).setCell (p:=⟨g,kX*8+7,none⟩) (by exact .inl rfl) (.slice none 0 0)).setCell (p:=⟨g,kX*8+2,none⟩) (by exact .inl rfl) (.int .i64 (wdX.now:Int)))) Hgm.out (bE.refl _ _)
     obtain⟨RD,hkv,hb2⟩:=aI.keyed ok ha (k:=kX) Hka.out iN LA
     obtain⟨w6,dR⟩:∃ w6,w6=((((((w5.setCell ⟨g,kX*8+4,none⟩ (.int .i64 er)).setCell ⟨g,kX*8+4+1,none⟩ (.int .u64 (vl:Int))).setCell ⟨g,kX*8+4+2,none⟩ (.slice la li.length lc)).setCell ⟨g,kX*8+7,none⟩ (.slice none 0 0)).setCell ⟨g,kX*8+2,none⟩ (.int .i64 (wdX.now:Int))).setCell ⟨g,kX*8+7,none⟩ (.slice (some mad) mk.length mc)):=⟨_,rfl⟩
     rw [<-dR] at hb2
     obtain⟨g8,c8,uE,gW⟩:=aI.ev_some hb2 (k:=kX) (by rw [List.length_set];exact Hka.out)
     obtain rfl:g=g8:=by
      have e9:=iN.symm.trans uE
      simp only [Value.slice.injEq,Option.some.injEq,Addr.mk.injEq] at e9
      exact e9.1.1
     have y7f:=(gW 7 (by omega)).2
     have y7:w6.cell? ⟨g,kX*8+7,none⟩=some (.slice (some mad) mk.length mc):=by
      rw [(gW 7 (by omega)).1]
      simp only [dL,List.getElem?_cons_succ,List.getElem?_cons_zero]
      exact congrArg some hkv
     have y0:w6.cell? ⟨J.bP,0,none⟩=some (.pointer (some ⟨J.W.bW,0,none⟩)):=by rw [aA hb2.blk];exact cO
     have y5:w6.cell? ⟨J.bP,5+p*2,none⟩=some (.iface T4 x4):=by rw [aA hb2.blk,(bK hb2.h1 hp).1];exact congrArg (λz=>some z.1) Hv4.out
     have y5f:w6.frozen? ⟨J.bP,5+p*2,none⟩=false:=aC hb2.blk _
     have Hw6:=Lib.hid dR
     clear uE gW dR hkv
     have H5:=Lib.hid h5;have Hb5:=Lib.hid hb;have Hb2:=Lib.hid hb2;have Hmk0:=Lib.hid qM
     clear h5 hl iN hkn hksl hkm eD tJ oQ hnl hb hmv hmn hmsl hmm hmlst ha hg qM LA hb2
     go_upto_region 14 with fail
     rw [<-Hw6.out]
     go_wp2
     go_ret
     have hcl:=aI.cleared ok Hb2.out hp (k:=kX) (by show(G2.hs.getD p (undef,0)).2=kX;rw [Hv2.out])
     have hg1:∀(v d:EvD),(evsX.set kX v).getD kX d=v:=λv d=>aK Hk2.out
     simp only [List.set_set,hg1] at hcl
     rw [Hres.out,Hg.out,Hev9.out,if_neg Hmk0.out]
     refine⟨rfl,?_,_,hcl⟩
     have h9:=H5.out.base
     have hgB5:PB R B0 g:=hgB
     have jZ:Chg (PB R B0) w w6:=by
      rw [Hw6.out]
      exact(((((((Hch4.out.trans (Chg.of_below Hb5.out)).setCell (by exact .inl hgB5) _).setCell (by exact .inl hgB5) _).setCell (by exact .inl hgB5) _).setCell (by exact .inl hgB5) _).setCell (by exact .inl hgB5) _).setCell (by exact .inl hgB5) _)
     exact jZ.setCell (by exact .inl (.inl h9.2.1)) _
   ·obtain⟨kad,rfl⟩:∃ kad,ka=some kad:=by
     cases ka with
     | some a=>exact⟨a,rfl⟩
     | none=>
      obtain⟨b9,o9,e9,_⟩:=hksl.lt (List.length_pos_iff.2 CS)
      cases e9
    have hnk:=hnl (some kad) ky.length kc
    simp only [Option.isNone_some] at hnk
    have H5:=Lib.hid h5;have Hl:=Lib.hid hl;have Hev5:=Lib.hid iN;have Hks:=Lib.hid (show Lst w5 _ (.slice (some kad) ky.length kc) ky from⟨some kad,kc,rfl,hkn,hksl,hkm⟩)
    clear h5 hl iN hkn hksl hkm eD tJ oQ hnl
    have Hb5:=Lib.hid hb
    clear hb
    go_wp2
    go_ret
    obtain⟨ers',ha⟩:=aI.answered ok (er:=er) (vl:=vl) (r:=wdX.now) H5.out (by rw [List.length_set];exact Hk2.out) Hev5.out Hl.out Hks.out
    have hcl:=aI.cleared ok ha hp (k:=kX) (by show(G2.hs.getD p (undef,0)).2=kX;rw [Hv2.out])
    rw [List.set_set,List.set_set,aK Hk2.out] at hcl
    have hg:goH S wdX o handsX evsX p kX mX=⟨(aQ S o wdX p mX).2.1,(aQ S o wdX p mX).1,handsX.set p (none,kX),bZ evsX kX (bL (aQ S o wdX p mX).2.1 p (aZ S (aQ S o wdX p mX).2.2.1).1 (aZ S (aQ S o wdX p mX).2.2.1).2),true⟩:=by
     unfold goH;rw [if_pos (by rw [<-HbX.out])]
    rw [Hres.out,hg]
    have sV:bZ evsX kX (bL (aQ S o wdX p mX).2.1 p (aZ S (aQ S o wdX p mX).2.2.1).1 (aZ S (aQ S o wdX p mX).2.2.1).2)=evsX.set kX { aV (evsX.getD kX lG) with ans:=⟨er,vl,li⟩,key:=ky,resp:=wdX.now }:=by
     unfold bZ bL keyOf aV
     rw [<-Hky.out,if_neg CS,Hnw.out,Her.out,Hvl.out,Hli.out]
    refine⟨rfl,?_,_,by rw [sV];exact hcl⟩
    have h9:=H5.out.base
    have hgB5:PB R B0 g:=hgB
    refine(((((((Hch4.out.trans ?_).setCell (by exact .inl hgB5) _).setCell (by exact .inl hgB5) _).setCell (by exact .inl hgB5) _).setCell (by exact .inl hgB5) _).setCell (by exact .inl hgB5) _).setCell (by exact .inl (.inl h9.2.1)) _)
    exact Chg.of_below Hb5.out
end Go.Proofs.Ytifhldnmcdbpfaa
