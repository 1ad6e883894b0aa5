/- Layer 6: a thread's step: (*Player).step. -/
import Derived.Test.YtifhldnmcdbpfaaW10
import Derived.Deep.Cut
set_option maxRecDepth 100000
set_option linter.unusedVariables false
set_option linter.unusedSimpArgs false
set_option linter.unnecessarySimpa false
namespace Go.Proofs.Ytifhldnmcdbpfaa
open Go.RowKit
variable {S:Sys} {R:Real S}
structure IG (S:Sys) where
 wd:WD
 o:S.ω
 hands:List (Option (Mh S.σ)×Nat)
 evs:List EvD
 done:Bool
def goH (S:Sys) (wd:WD) (o:S.ω) (hands:List (Option (Mh S.σ)×Nat)) (evs:List EvD) (p k:Nat) (m:Mh S.σ):IG S:=
 let r:=aP S o wd p m
 if r.2.2.2 then ⟨r.2.1,r.1,hands.set p (none,k),cO evs k (bK r.2.1 p (bE S r.2.2.1).1 (bE S r.2.2.1).2),true⟩
 else ⟨r.2.1,r.1,hands.set p (some r.2.2.1,k),cO evs k aZ,false⟩
def mZ (S:Sys) (calls:List aF) (wd:WD) (o:S.ω) (hands:List (Option (Mh S.σ)×Nat)) (evs:List EvD) (p i:Nat):IG S:=
 match (hands.getD p (none,0)).1 with
 | some m=>goH S wd.tick o hands evs p (hands.getD p (none,0)).2 m
 | none=>goH S (wd.tick.begin p) o (hands.set p (some (Mh.of (dI S o (wd.tick.begin p) p (calls.getD i d0))),evs.length)) (evs++[dC i (wd.tick.begin p)]) p evs.length (Mh.of (dI S o (wd.tick.begin p) p (calls.getD i d0)))
def OD (R:Real S) (calls:List aF) (w w':World) (J:iZ) (ov cv:Value) (B0:Nat) (fin:List Bool) (idle:Nat) (r:IG S):Prop:=
 Chg (PB R B0) w w'/\∃ G',aK R calls w' J ov cv B0 G' r.wd r.o fin r.hands r.evs idle
theorem aK.hand_some {calls:List aF} {w:World} {J:iZ} {ov cv:Value} {B0:Nat} {G:PG} {wd:WD} {o:S.ω} {fin:List Bool} {hands:List (Option (Mh S.σ)×Nat)} {evs:List EvD} {idle p k:Nat} {m:Mh S.σ}
  (h:aK R calls w J ov cv B0 G wd o fin hands evs idle) (hp:p<16) (hd:hands.getD p (none,0)=(some m,k)):∃ T x,G.hs.getD p (undef,0)=(.iface T x,k)/\jN R w G.Mut (G.MB p) T x p m:=by
 obtain⟨h1,h2⟩:=h.hand p hp
 rw [hd] at h1 h2
 obtain⟨T,x,h3,h4⟩:=h2
 exact⟨T,x,Prod.ext h3 h1,h4⟩
theorem aK.ev_some {calls:List aF} {w:World} {J:iZ} {ov cv:Value} {B0:Nat} {G:PG} {wd:WD} {o:S.ω} {fin:List Bool} {hands:List (Option (Mh S.σ)×Nat)} {evs:List EvD} {idle k:Nat}
  (h:aK R calls w J ov cv B0 G wd o fin hands evs idle) (hk:k<evs.length):∃ g c,G.ev=.slice (some ⟨g,0,none⟩) evs.length c/\∀ f,f<8->w.cell? ⟨g,k*8+f,none⟩=(dM (evs.getD k jY) (G.ers.getD k tQ))[f]?/\w.frozen? ⟨g,k*8+f,none⟩=false:=by
 obtain⟨g,c,h1,h2,h3⟩:=h.eva.row.form (by omega)
 refine⟨g,c,h1,λf hf=>?_⟩
 have hr:=h.eva.row
 rw [h1] at hr
 exact⟨by rw [hr.cellAt _ (by omega),oQ _ _ _ _ h.eva.elen.symm hk hf],hr.frozenAt _⟩
theorem aK.store (ok:dP R) {calls:List aF} {w:World} {J:iZ} {ov cv:Value} {B0:Nat} {G:PG} {wd:WD} {o:S.ω} {fin:List Bool} {hands:List (Option (Mh S.σ)×Nat)} {evs:List EvD} {idle k g n c f:Nat} {u:Value} {e':EvD} {v':Value×Value}
  (h:aK R calls w J ov cv B0 G wd o fin hands evs idle) (hk:k<evs.length) (hev:G.ev=.slice (some ⟨g,0,none⟩) n c) (hf:f<8) (hs:(dM (evs.getD k jY) (G.ers.getD k tQ)).set f u=dM e' v')
  (hl:jK w G.Mut v'.1 e'.ans.list) (hkk:Lst w G.Mut v'.2 e'.key) (hsp:e'.steps<=wd.now) :
  aK R calls (w.setCell ⟨g,k*8+f,none⟩ u) J ov cv B0 { G with ers:=G.ers.set k v' } wd o fin hands (evs.set k e') idle:=by
 have hch:Chg (λb=>b=g) w (w.setCell ⟨g,k*8+f,none⟩ u):=(Chg.refl (λb=>b=g) w).setCell (p:=⟨g,k*8+f,none⟩) (.inl rfl) u
 have hgm:∀ b,(λb=>b=g) b->G.Mut b:=by rintro b rfl;exact(h.pmut _ (.inr (.inr (.inr (by rw [hev];rfl))))).1
 obtain⟨g',c',h1,h2,h3⟩:=h.eva.row.form (by omega)
 rw [h1] at hev
 simp only [Value.slice.injEq,Option.some.injEq,Addr.mk.injEq,and_true,true_and] at hev
 obtain⟨rfl,rfl,rfl⟩:=hev
 refine aK.evset ok h h1 hk hch ?_ (hl.keep hch hgm (aV.refl _ _)) (hkk.keep hch hgm (aV.refl _ _)) hsp
 have hr:=h.eva.row
 rw [h1] at hr
 rw [<-vD _ _ _ _ u _ _ h.eva.elen.symm hk hf hs,h1]
 exact(hr.stored _ _).1
theorem aK.answered (ok:dP R) {calls:List aF} {w:World} {J:iZ} {ov cv:Value} {B0:Nat} {G:PG} {wd:WD} {o:S.ω} {fin:List Bool} {hands:List (Option (Mh S.σ)×Nat)} {evs:List EvD} {idle k g n c:Nat} {er:Int} {vl r:Nat} {la:Option Addr} {lc:Nat} {li:List Nat} {kv:Value} {ky:List Int}
  (h:aK R calls w J ov cv B0 G wd o fin hands evs idle) (hk:k<evs.length) (hev:G.ev=.slice (some ⟨g,0,none⟩) n c) (hl:jK w G.Mut (.slice la li.length lc) li) (hky:Lst w G.Mut kv ky) :
  ∃ ers',aK R calls (((((w.setCell ⟨g,k*8+4,none⟩ (.int .i64 er)).setCell ⟨g,k*8+4+1,none⟩ (.int .u64 (vl:Int))).setCell ⟨g,k*8+4+2,none⟩ (.slice la li.length lc)).setCell ⟨g,k*8+7,none⟩ kv).setCell ⟨g,k*8+2,none⟩ (.int .i64 (r:Int))) J ov cv B0 { G with ers:=ers' } wd o fin hands
   (evs.set k { evs.getD k jY with ans:=⟨er,vl,li⟩,key:=ky,resp:=r }) idle:=by
 obtain⟨e,he⟩:∃ e,e=evs.getD k jY:=⟨_,rfl⟩
 obtain⟨v,hv⟩:∃ v,v=G.ers.getD k tQ:=⟨_,rfl⟩
 have hkr:k<G.ers.length:=by rw [h.eva.elen];exact hk
 have hgm:∀ b,(λb=>b=g) b->G.Mut b:=by rintro b rfl;exact(h.pmut _ (.inr (.inr (.inr (by rw [hev];rfl))))).1
 have hsp:=h.stp k
 rw [<-he] at hsp
 have ha:=h.eva.ans k hk
 rw [<-he,<-hv] at ha
 have kp:∀ {u u':World} {q:Addr} {x:Value},q.block=g->u'=u.setCell q x->Chg (λb=>b=g) u u':=λhq hu=>by rw [hu];exact(Chg.refl _ _).setCell (.inl hq) _
 have s1:=aK.store ok h hk hev (f:=4) (u:=.int .i64 er) (e':={ e with ans:={ e.ans with err:=er } }) (v':=v) (by omega) (by rw [<-he,<-hv];rfl) ha.1 ha.2 hsp
 have c1:=kp (u:=w) (q:=⟨g,k*8+4,none⟩) (x:=.int .i64 er) rfl rfl
 have a1:=ha.1.keep c1 hgm (aV.refl _ _);have b1:=ha.2.keep c1 hgm (aV.refl _ _)
 have l1:=hl.keep c1 hgm (aV.refl _ _);have k1:=hky.keep c1 hgm (aV.refl _ _)
 have s2:=aK.store ok s1 (by simpa using hk) hev (f:=5) (u:=.int .u64 (vl:Int)) (e':={ e with ans:={ e.ans with err:=er,val:=vl } }) (v':=v) (by omega) (by rw [aL hk];simp only;rw [aL hkr];rfl) a1 b1 hsp
 rw [List.set_set] at s2
 simp only [List.set_set] at s2
 have c2:=kp (u:=w.setCell ⟨g,k*8+4,none⟩ (.int .i64 er)) (q:=⟨g,k*8+5,none⟩) (x:=.int .u64 (vl:Int)) rfl rfl
 have a2:=a1.keep c2 hgm (aV.refl _ _);have b2:=b1.keep c2 hgm (aV.refl _ _)
 have l2:=l1.keep c2 hgm (aV.refl _ _);have k2:=k1.keep c2 hgm (aV.refl _ _)
 have s3:=aK.store ok s2 (by simpa using hk) hev (f:=6) (u:=.slice la li.length lc) (e':={ e with ans:=⟨er,vl,li⟩ }) (v':=(.slice la li.length lc,v.2)) (by omega) (by rw [aL hk];simp only;rw [aL hkr];rfl) l2 b2 hsp
 simp only [List.set_set] at s3
 have c3:=kp (u:=(w.setCell ⟨g,k*8+4,none⟩ (.int .i64 er)).setCell ⟨g,k*8+5,none⟩ (.int .u64 (vl:Int))) (q:=⟨g,k*8+6,none⟩) (x:=.slice la li.length lc) rfl rfl
 have l3:=l2.keep c3 hgm (aV.refl _ _);have k3:=k2.keep c3 hgm (aV.refl _ _)
 have s4:=aK.store ok s3 (by simpa using hk) hev (f:=7) (u:=kv) (e':={ e with ans:=⟨er,vl,li⟩,key:=ky }) (v':=(.slice la li.length lc,kv)) (by omega) (by rw [aL hk];simp only;rw [aL hkr];rfl) l3 k3 hsp
 simp only [List.set_set] at s4
 have c4:=kp (u:=((w.setCell ⟨g,k*8+4,none⟩ (.int .i64 er)).setCell ⟨g,k*8+5,none⟩ (.int .u64 (vl:Int))).setCell ⟨g,k*8+6,none⟩ (.slice la li.length lc)) (q:=⟨g,k*8+7,none⟩) (x:=kv) rfl rfl
 have l4:=l3.keep c4 hgm (aV.refl _ _);have k4:=k3.keep c4 hgm (aV.refl _ _)
 have s5:=aK.store ok s4 (by simpa using hk) hev (f:=2) (u:=.int .i64 (r:Int)) (e':={ e with ans:=⟨er,vl,li⟩,key:=ky,resp:=r }) (v':=(.slice la li.length lc,kv)) (by omega) (by rw [aL hk];simp only;rw [aL hkr];rfl) l4 k4 hsp
 simp only [List.set_set] at s5
 rw [<-he]
 exact⟨_,s5⟩
theorem aK.keyed (ok:dP R) {calls:List aF} {w:World} {J:iZ} {ov cv:Value} {B0:Nat} {G:PG} {wd:WD} {o:S.ω} {fin:List Bool} {hands:List (Option (Mh S.σ)×Nat)} {evs:List EvD} {idle k g n c:Nat} {kv:Value} {ky:List Int}
  (h:aK R calls w J ov cv B0 G wd o fin hands evs idle) (hk:k<evs.length) (hev:G.ev=.slice (some ⟨g,0,none⟩) n c) (hky:Lst w G.Mut kv ky) :
  ∃ ers',(ers'.getD k tQ).2=kv/\aK R calls (w.setCell ⟨g,k*8+7,none⟩ kv) J ov cv B0 { G with ers:=ers' } wd o fin hands (evs.set k { evs.getD k jY with key:=ky }) idle:=by
 have hgm:∀ b,(λb=>b=g) b->G.Mut b:=by rintro b rfl;exact(h.pmut _ (.inr (.inr (.inr (by rw [hev];rfl))))).1
 have c1:Chg (λb=>b=g) w (w.setCell ⟨g,k*8+7,none⟩ kv):=(Chg.refl _ _).setCell (by exact .inl rfl) _
 have ha:=h.eva.ans k hk
 exact⟨_,by rw [aL (by rw [h.eva.elen];exact hk)],aK.store ok h hk hev (f:=7) (u:=kv) (e':={ evs.getD k jY with key:=ky }) (v':=((G.ers.getD k tQ).1,kv)) (by omega) rfl ha.1 hky (h.stp k)⟩
set_option maxHeartbeats 8000000 in
theorem JU (ok:dP R) (calls:List aF) (w:World) (J:iZ) (ov cv:Value) (B0:Nat) (G:PG) (wd:WD) (o:S.ω) (fin:List Bool) (hands:List (Option (Mh S.σ)×Nat)) (evs:List EvD) (idle p i:Nat)
  (h:aK R calls w J ov cv B0 G wd o fin hands evs idle) (hp:p<16) (hi:i<calls.length) (hrun:∀ m k,hands.getD p (none,0)=(some m,k)->∃ s,m=.run s) (hl1:∀ s k,hands.getD p (none,0)=(some (.run s),k)->R.live o wd.tick p s) (hl2:(hands.getD p (none,0)).1=none->∀ s,dI S o (wd.tick.begin p) p (calls.getD i d0)=.run s->R.live o (wd.tick.begin p) p s) (hnow:wd.now<69999) (hdN:R.dN<=1000) (hthr:R.thr p) :
  Calls Try.prog 59 #[.pointer (some ⟨J.bP,0,none⟩),.int .i64 (p:Int),.int .i64 (i:Int)] w λe w'=>e=.returned (.bool (mZ S calls wd o hands evs p i).done)/\OD R calls w w' J ov cv B0 fin idle (mZ S calls wd o hands evs p i):=by
 have hT:=aK.tick ok h hnow
 obtain⟨mks,hwb,hmk,_⟩:=h.world.blk
 have p0:w.cell? ⟨J.bP,0,none⟩=some (.pointer (some ⟨J.W.bW,0,none⟩)):=by rw [aA h.blk];exact dA
 have p1:w.cell? ⟨J.W.bW,1,none⟩=some (.int .i64 (wd.now:Int)):=by rw [aA hwb];exact eO
 have p2:w.frozen? ⟨J.W.bW,1,none⟩=false:=aB hwb _
 have hPW:J.bP≠J.W.bW:=λe=>(h.pmut J.bP (.inl rfl)).2.1 (by rw [e];exact .inl rfl)
 have hWP:=Ne.symm hPW
 have hpi:(p:Int)<16:=by omega
 have hn1:(wd.now:Int)<69999:=by omega
 have hnd:R.dN*wd.now<=R.dN*wd.tick.now:=Nat.mul_le_mul_left _ (Nat.le_succ _)
 have hnk:R.dN*wd.tick.now<=1000*70000:=Nat.mul_le_mul hdN (by simp [WD.tick];omega)
 have hsucc:R.dN*wd.tick.now=R.dN*wd.now+R.dN:=Nat.mul_succ _ _
 obtain⟨om,k0,hd⟩:∃ om k0,hands.getD p (none,0)=(om,k0):=⟨_,_,rfl⟩
 cases om with
 | none=>
  have hv:(G.hs.getD p (undef,0)).1=.nilIface:=by
   have:=(h.hand p hp).2
   rw [hd] at this;exact this
  have p3:w.cell? ⟨J.bP,5+p*2,none⟩=some .nilIface:=by rw [aA h.blk,(bI h.h1 hp).1,hv]
  have A:=Lib.hid (DU ok calls _ J ov cv B0 G wd.tick o fin hands evs idle p i hT hp hthr hi (by rw [hd]) (by have:=h.ele;simp [WD.tick];omega))
  have Hh:=Lib.hid h;have Hd:=Lib.hid hd;have Hrun:=Lib.hid hrun;have HT:=Lib.hid hT
  have hnn:∀ u:World,(binOp .eql 123 .nilIface .nilIface).run Try.prog u=.ok (.bool true) u:=λu=>by first|rfl|kernel_rfl
  clear h hd hrun hT hv hwb hmk
  go_enter Try.func59,Try.ntmps59
  go_wp2_with fail
  refine A.out.mono ?_
  rintro e w2 ⟨rfl,wV,G2,hGN,h2⟩
  have hres:(mZ S calls wd o hands evs p i=goH S (wd.tick.begin p) o (hands.set p (some (Mh.of (dI S o (wd.tick.begin p) p (calls.getD i d0))),evs.length)) (evs++[dC i (wd.tick.begin p)]) p evs.length (Mh.of (dI S o (wd.tick.begin p) p (calls.getD i d0)))):=by
   unfold mZ;rw [Hd.out]
  obtain⟨mX,hmX⟩:∃ mX,mX=Mh.of (dI S o (wd.tick.begin p) p (calls.getD i d0)):=⟨_,rfl⟩
  have AX:∀ e,mX≠.refused e:=λe he=>by rw [hmX] at he;cases hs:dI S o (wd.tick.begin p) p (calls.getD i d0)<;>(rw [hs] at he;cases he)
  have hlv:∀ s,mX=.run s->R.live o (wd.tick.begin p) p s:=λs he=>hl2 (by rw [Hd.out]) s (by rw [hmX] at he;cases hs:dI S o (wd.tick.begin p) p (calls.getD i d0)<;>(rw [hs] at he;cases he);rfl)
  clear hl1 hl2
  have hd2:(hands.set p (some mX,evs.length)).getD p (none,0)=(some mX,evs.length):=aL (by rw [Hh.out.h2];exact hp)
  rw [<-hmX] at h2 hres
  have hN2:G2.N+R.dN<1000000000:=by have:=Hh.out.nb;omega
  have hNb:G2.N+R.dN<=R.dN*(wd.tick.begin p).now:=by have:=Hh.out.nb;show _<=R.dN*wd.tick.now;omega
  have hcn:(wd.tick.begin p).mem.c.all+1<=(wd.tick.begin p).now:=by have:=Hh.out.cnt;simp [WD.tick,WD.begin];omega
  have hc2:(wd.tick.begin p).mem.c.all+1<1000000000000:=by have:(wd.tick.begin p).now<=70000:=(by simp [WD.tick,WD.begin];omega);omega
  have yQ:Chg (PB R B0) w w2:=((Chg.refl (PB R B0) w).setCell (p:=⟨J.W.bW,1,none⟩) (.inl (.inl (Hh.out.base.2.2.1 _ (.inl rfl)))) _).trans (wV.mono (λb _ h=>.inl h))
  have Hch0:=Lib.hid yQ
  have hstp:((evs++[dC i (wd.tick.begin p)]).getD evs.length jY).steps+1<=(wd.tick.begin p).now:=by rw [dW];simp [dC,WD.tick,WD.begin]
  obtain⟨handsX,hhX⟩:∃ handsX,handsX=hands.set p (some mX,evs.length):=⟨_,rfl⟩
  obtain⟨evsX,heX⟩:∃ evsX,evsX=evs++[dC i (wd.tick.begin p)]:=⟨_,rfl⟩
  obtain⟨wdX,hwX⟩:∃ wdX,wdX=wd.tick.begin p:=⟨_,rfl⟩
  obtain⟨kX,hkX⟩:∃ kX,kX=evs.length:=⟨_,rfl⟩
  rw [<-hhX,<-heX,<-hwX,<-hkX] at hres
  rw [<-heX,<-hhX,<-hwX] at h2
  rw [<-hwX] at hlv
  have Hlv:=Lib.hid hlv
  clear hlv
  rw [<-hhX,<-hkX] at hd2
  rw [<-hwX] at hNb hcn hc2
  rw [<-heX,<-hwX,<-hkX] at hstp
  clear hmX hhX heX hwX hkX wV yQ hGN p0 p1 p2 p3 hnd hnk hsucc A HT Hd Hrun hnn
  have Hres:=Lib.hid hres
  clear hres
  have b0:w2.cell? ⟨J.bP,0,none⟩=some (.pointer (some ⟨J.W.bW,0,none⟩)):=by rw [aA h2.blk];exact dA
  replace h2:=aK.grown ok h2 (Gr.refl w2).drew
  obtain⟨T,x,hv2,hm2⟩:=aK.hand_some h2 hp hd2
  have hk2:=h2.at_ p hp _ (by rw [hd2])
  rw [hd2] at hk2
  simp only at hk2
  obtain⟨K,recv,hM,hC⟩:=CP ok h2.world h2.obj hm2 h2.inv hp hN2 hc2 (λb hb=>⟨(h2.mb p b hp hb).1,(h2.mb p b hp hb).2.1,(h2.mb p b hp hb).2.2.1⟩) AX h2.ow Hlv.out
  have m1:=hM.ahead;have m2:=hM.meth;have m3:=hM.enter
  have b1:w2.cell? ⟨J.bP,5+p*2,none⟩=some (.iface T x):=by
   have:=aA h2.blk (5+p*2)
   rw [(bI h2.h1 hp).1,hv2] at this;exact this
  have HC:=Lib.hid hC;have H2:=Lib.hid h2;have Hv2:=Lib.hid hv2;have Hd2:=Lib.hid hd2;have Hk2:=Lib.hid hk2;have Hnr2:=Lib.hid AX;have HNb:=Lib.hid hNb;have Hcn:=Lib.hid hcn;have Hstp:=Lib.hid hstp
  clear hC hM h2 hm2 hv2 hd2 AX hk2 hNb hcn hN2 hc2 hstp
  go_wp2_with fail
  go_still_tail 10,(by kernel_rfl)
  change wpList _ _ _ _ _ w2.drew
  go_wp2_with fail
  refine HC.out.mono ?_
  rintro e w3 hpost
  obtain⟨B',h3⟩:=aK.stepped ok H2.out hp Hd2.out Hv2.out HNb.out Hcn.out hpost
  obtain⟨rfl,wQ,_⟩:=hpost
  have Hch3:=Lib.hid (show Chg (PB R B0) w w3 from(Hch0.out.drew).trans (wQ.mono (λb _ hb=>by
   rcases hb with hb|hb|hb
   ·exact .inl (H2.out.base.2.2.1 b hb)
   ·exact H2.out.base.2.2.2.2.2.1 b hb
   ·exact .inl (H2.out.base.2.2.2.2.2.2 p b hp hb))))
  obtain⟨g,c,BA,hrow3⟩:=aK.ev_some h3 Hk2.out
  have a0:w3.cell? ⟨J.bP,0,none⟩=some (.pointer (some ⟨J.W.bW,0,none⟩)):=by rw [aA h3.blk];exact dA
  have a37:w3.cell? ⟨J.bP,37,none⟩=some (.slice (some ⟨g,0,none⟩) evsX.length c):=by rw [aA h3.blk,<-BA];exact iE h3.h1
  have aat:w3.cell? ⟨J.bP,5+p*2+1,none⟩=some (.int .i64 (kX:Int)):=by
   rw [aA h3.blk,(bI h3.h1 hp).2]
   show some (fG ((G2.hs.getD p (undef,0)).2))=_
   rw [Hv2.out];rfl
  obtain⟨sX,hsX⟩:∃ sX,sX=(evsX.getD kX jY).steps:=⟨_,rfl⟩
  have a3:w3.cell? ⟨g,kX*8+3,none⟩=some (.int .i64 (sX:Int)):=by rw [(hrow3 3 (by omega)).1,hsX];rfl
  have f3:=(hrow3 3 (by omega)).2
  have hkl:(kX:Int)<(evsX.length:Int):=by have:=Hk2.out;omega
  have H3:=Lib.hid h3;have Hev3:=Lib.hid BA;have Hrow3:=Lib.hid hrow3;have HsX:=Lib.hid hsX
  obtain⟨bX,hbX⟩:∃ bX,bX=(aP S o wdX p mX).2.2.2:=⟨_,rfl⟩
  rw [<-hbX]
  have HbX:=Lib.hid hbX
  have FH:(sX:Int)<100000:=by have h8:=Hstp.out;have h7:=H2.out.nowb;rw [<-hsX] at h8;omega
  clear h3 wQ BA hrow3 hsX hbX m1 m2 m3 b0 b1
  go_wp2_with fail
  go_quiet (fail)
  have c3:(w3.drewN nq).cell? ⟨g,kX*8+3,none⟩=some (.int .i64 (sX:Int)):=a3
  have d3:(w3.drewN nq).frozen? ⟨g,kX*8+3,none⟩=false:=f3
  have h3d:=aK.grown ok H3.out (below_drewN (Gr.refl w3) nq)
  have hnw:(aP S o wdX p mX).2.1.now=wdX.now:=by cases mX<;>first|rfl|exact ok.now _ _ _ _
  have h4:=aK.store ok h3d Hk2.out Hev3.out (f:=3) (u:=.int .i64 ((sX:Int)+1)) (e':=aZ (evsX.getD kX jY)) (v':=G2.ers.getD kX tQ) (by omega)
   (by rw [show((sX:Int)+1)=((sX+1:Nat):Int) by omega,HsX.out];rfl) (h3d.eva.ans kX Hk2.out).1 (h3d.eva.ans kX Hk2.out).2 (by rw [hnw];exact Hstp.out)
  obtain⟨w4,hw4⟩:∃ w4,w4=(w3.drewN nq).setCell ⟨g,kX*8+3,none⟩ (.int .i64 ((sX:Int)+1)):=⟨_,rfl⟩
  rw [<-hw4] at h4
  have hgB:PB R B0 g:=by
   have h9:=(H3.out.eva.row.lt g (by rw [Hev3.out];rfl)).1
   exact .inl h9
  have Hch4:=Lib.hid (show Chg (PB R B0) w w4 from by rw [hw4];exact(Hch3.out.drewN nq).setCell (p:=⟨g,kX*8+3,none⟩) (.inl hgB) _)
  have H4:=Lib.hid h4;have Hw4:=Lib.hid hw4;have Hnw:=Lib.hid hnw
  clear h3d h4 hw4 hnw
  cases bX with
  | false=>
   go_wp2
   rw [<-Hw4.out]
   go_ret
   have hg:goH S wdX o handsX evsX p kX mX=⟨(aP S o wdX p mX).2.1,(aP S o wdX p mX).1,handsX.set p (some (aP S o wdX p mX).2.2.1,kX),cO evsX kX aZ,false⟩:=by
    unfold goH;rw [if_neg (by rw [<-HbX.out];simp)]
   rw [Hres.out,hg]
   exact⟨rfl,Hch4.out,_,H4.out⟩
  | true=>
   have hd4:(handsX.set p (some (aP S o wdX p mX).2.2.1,kX)).getD p (none,0)=(some (aP S o wdX p mX).2.2.1,kX):=aL (by rw [H2.out.h2];exact hp)
   obtain⟨T4,x4,hv4,NE⟩:=aK.hand_some H4.out hp hd4
   have FX:∀ e,(aP S o wdX p mX).2.2.1≠.refuse e:=λe he=>by cases mX<;>cases he
   obtain⟨K4,QO,hM4,hC4⟩:=uO ok NE FX (λs hs=>JL ok HbX.out.symm hs)
   have n1:=hM4.ahead;have n2:=hM4.meth;have n3:=hM4.enter
   have q1:w4.cell? ⟨J.bP,5+p*2,none⟩=some (.iface T4 x4):=by rw [aA H4.out.blk,(bI H4.out.h1 hp).1,hv4]
   have HC4:=Lib.hid hC4;have Hv4:=Lib.hid hv4
   clear hC4 hM4 NE hv4 hd4 FX
   rw [Hw4.out] at q1 HC4
   go_wp2_with fail
   refine HC4.out.mono ?_
   rintro e w5 ⟨la,lc,kv,rfl,hl,hk,hb⟩
   rw [<-Hw4.out] at hb
   have h5:=aK.grown ok H4.out hb
   have hk5:kX<(evsX.set kX (aZ (evsX.getD kX jY))).length:=by rw [List.length_set];exact Hk2.out
   obtain⟨er,her⟩:∃ er,er=(bE S (aP S o wdX p mX).2.2.1).1.err:=⟨_,rfl⟩
   obtain⟨vl,hvl⟩:∃ vl,vl=(bE S (aP S o wdX p mX).2.2.1).1.val:=⟨_,rfl⟩
   obtain⟨li,hli⟩:∃ li,li=(bE S (aP S o wdX p mX).2.2.1).1.list:=⟨_,rfl⟩
   obtain⟨ky,hky⟩:∃ ky,ky=(bE S (aP S o wdX p mX).2.2.1).2:=⟨_,rfl⟩
   rw [<-her,<-hvl,<-hli]
   rw [<-hli] at hl
   rw [<-hky] at hk
   have Her:=Lib.hid her;have Hvl:=Lib.hid hvl;have Hli:=Lib.hid hli;have Hky:=Lib.hid hky
   clear her hvl hli hky
   obtain⟨ka,kc,rfl,hkn,hksl,hkm⟩:=hk
   obtain⟨g',c',gW,eU⟩:=aK.ev_some h5 hk5
   obtain rfl:g=g':=by
    have e9:=Hev3.out.symm.trans gW
    simp only [Value.slice.injEq,Option.some.injEq,Addr.mk.injEq] at e9
    exact e9.1.1
   have r2:=(eU 2 (by omega)).1;have r4:=(eU 4 (by omega)).1;have r5:=(eU 5 (by omega)).1;have r6:=(eU 6 (by omega)).1;have r7:=(eU 7 (by omega)).1
   have t2:=(eU 2 (by omega)).2;have t4:=(eU 4 (by omega)).2;have t5:=(eU 5 (by omega)).2;have t6:=(eU 6 (by omega)).2;have t7:=(eU 7 (by omega)).2
   simp only [dM,List.getElem?_cons_succ,List.getElem?_cons_zero,fG] at r2 r4 r5 r6 r7
   obtain⟨NK,tC,hmk5,oJ⟩:=h5.world.blk
   have q0:w5.cell? ⟨J.bP,0,none⟩=some (.pointer (some ⟨J.W.bW,0,none⟩)):=by rw [aA h5.blk];exact dA
   have q5:w5.cell? ⟨J.bP,5+p*2,none⟩=some (.iface T4 x4):=by rw [aA h5.blk,(bI h5.h1 hp).1,Hv4.out]
   have q5f:w5.frozen? ⟨J.bP,5+p*2,none⟩=false:=aB h5.blk _
   have qn:w5.cell? ⟨J.W.bW,1,none⟩=some (.int .i64 (wdX.now:Int)):=by rw [aA tC,eO,Hnw.out]
   have qm:w5.cell? ⟨J.W.bW,18+p,none⟩=some (NK.getD p undef):=by rw [aA tC];exact kD h5.world.inv16 hmk5 hp
   have hgP:g≠J.bP:=λe=>h5.psep.2.2.1 (by rw [gW,e];rfl)
   have hPg:J.bP≠g:=Ne.symm hgP
   have hgW:g≠J.W.bW:=λe=>h5.pW J.W.bW (.inl rfl) (.inr (.inr (.inr (by rw [gW,e];rfl))))
   have hWg:J.W.bW≠g:=Ne.symm hgW
   have hnl:∀(a:Option Addr) (n c:Nat) (u:World),(binOp .eql 24 (.slice a n c) (.slice none 0 0)).run Try.prog u=.ok (.bool a.isNone) u:=λa n c u=>Lib.run_eql_slice_nil u _ 3 _ _ _ _ _ Try.underlying24
   unfold mD
   by_cases AJ:ky=[]
   ·subst AJ
    have JF:=hkn rfl
    simp only [Value.slice.injEq] at JF
    obtain⟨rfl,_,rfl⟩:=JF
    have hmk:=oJ p hp
    obtain⟨ma,mc,hmv,hmn,hmsl,hmm⟩:=hmk
    rw [hmv] at qm
    have hn1:=hnl none 0 0
    simp only [Option.isNone_none] at hn1
    have hg:goH S wdX o handsX evsX p kX mX=⟨(aP S o wdX p mX).2.1,(aP S o wdX p mX).1,handsX.set p (none,kX),cO evsX kX (bK (aP S o wdX p mX).2.1 p (bE S (aP S o wdX p mX).2.2.1).1 (bE S (aP S o wdX p mX).2.2.1).2),true⟩:=by
     unfold goH;rw [if_pos (by rw [<-HbX.out])]
    obtain⟨mk,hmkd⟩:∃ mk,mk=(aP S o wdX p mX).2.1.marks.getD p []:=⟨_,rfl⟩
    rw [<-hmkd] at qm hmv hmn hmsl
    have Hmkd:=Lib.hid hmkd
    clear hmkd
    have hmlst:Lst w5 _ (.slice ma mk.length mc) mk:=⟨ma,mc,rfl,(λe=>by rw [<-hmv];exact hmn e),hmsl,hmm⟩
    obtain⟨ers',ha⟩:=aK.answered ok (er:=er) (vl:=vl) (r:=wdX.now) h5 (by rw [List.length_set];exact Hk2.out) gW hl (Lst.nil w5 _)
    have Hg:=Lib.hid hg
    have sH:cO evsX kX (bK (aP S o wdX p mX).2.1 p (bE S (aP S o wdX p mX).2.2.1).1 (bE S (aP S o wdX p mX).2.2.1).2)=evsX.set kX { aZ (evsX.getD kX jY) with ans:=⟨er,vl,li⟩,key:=if mk=[] then jF (aP S o wdX p mX).2.1 else mk,resp:=wdX.now }:=by
     unfold cO bK keyOf aZ
     rw [<-Hky.out,if_pos rfl,Hnw.out,Her.out,Hvl.out,Hli.out,<-Hmkd.out]
    have Hev9:=Lib.hid sH
    have hka:kX<((evsX.set kX (aZ (evsX.getD kX jY))).set kX { (evsX.set kX (aZ (evsX.getD kX jY))).getD kX jY with ans:=⟨er,vl,li⟩,key:=[],resp:=wdX.now }).length:=by rw [List.length_set,List.length_set];exact Hk2.out
    have hgM:=(ha.pmut g (.inr (.inr (.inr (by exact congrArg Value.ownBlock gW))))).1
    have hgm:=(λ(P:Nat->Prop) (hP:P g) (b:Nat) (hb:(λb=>b=g) b)=>(show P b from by rw [show b=g from hb];exact hP)) _ hgM
    have Hka:=Lib.hid hka;have Hgm:=Lib.hid hgm
    clear hka hgm hgM sH
    by_cases oW:mk=[]
    ·have hm0:=hmn oW
     rw [hmv] at hm0
     simp only [Value.slice.injEq] at hm0
     obtain⟨rfl,GI,rfl⟩:=hm0
     rw [GI] at qm
     obtain⟨NF,hkv,hb2⟩:=aK.keyed ok ha (k:=kX) Hka.out gW (Lst.nil _ _)
     obtain⟨w6,iR⟩:∃ w6,w6=((((((w5.setCell ⟨g,kX*8+4,none⟩ (.int .i64 er)).setCell ⟨g,kX*8+4+1,none⟩ (.int .u64 (vl:Int))).setCell ⟨g,kX*8+4+2,none⟩ (.slice la li.length lc)).setCell ⟨g,kX*8+7,none⟩ (.slice none 0 0)).setCell ⟨g,kX*8+2,none⟩ (.int .i64 (wdX.now:Int))).setCell ⟨g,kX*8+7,none⟩ (.slice none 0 0)):=⟨_,rfl⟩
     rw [<-iR] at hb2
     obtain⟨g8,c8,tL,jD⟩:=aK.ev_some hb2 (k:=kX) (by rw [List.length_set];exact Hka.out)
     obtain rfl:g=g8:=by
      have e9:=gW.symm.trans tL
      simp only [Value.slice.injEq,Option.some.injEq,Addr.mk.injEq] at e9
      exact e9.1.1
     have y7f:=(jD 7 (by omega)).2
     have y7:w6.cell? ⟨g,kX*8+7,none⟩=some (.slice none 0 0):=by
      rw [(jD 7 (by omega)).1]
      simp only [dM,List.getElem?_cons_succ,List.getElem?_cons_zero]
      exact congrArg some hkv
     have y0:w6.cell? ⟨J.bP,0,none⟩=some (.pointer (some ⟨J.W.bW,0,none⟩)):=by rw [aA hb2.blk];exact dA
     have y5:w6.cell? ⟨J.bP,5+p*2,none⟩=some (.iface T4 x4):=by rw [aA hb2.blk,(bI hb2.h1 hp).1];exact congrArg (λz=>some z.1) Hv4.out
     have y5f:w6.frozen? ⟨J.bP,5+p*2,none⟩=false:=aB hb2.blk _
     have Hw6:=Lib.hid iR
     clear tL jD iR hkv
     have A:=Lib.hid (yU _ _ _ _ _ hb2.world)
     have H5:=Lib.hid h5;have Hev5:=Lib.hid gW;have Hb5:=Lib.hid hb;have Hb2:=Lib.hid hb2;have Hmk0:=Lib.hid oW
     clear h5 hl gW hkn hksl hkm eU tC oJ hnl hb hmv hmn hmsl hmm hmlst ha hg hb2 oW
     clear GI
     go_upto_region 14 with fail
     rw [<-Hw6.out]
     go_wp2_with fail
     refine A.out.mono ?_
     rintro e w7 ⟨rfl,JZ,hb6⟩
     have h6:=aK.grown ok Hb2.out hb6
     obtain⟨g9,c9,FO,mF⟩:=aK.ev_some h6 (k:=kX) (by rw [List.length_set];exact Hka.out)
     obtain rfl:g=g9:=by
      have e9:=Hev5.out.symm.trans FO
      simp only [Value.slice.injEq,Option.some.injEq,Addr.mk.injEq] at e9
      exact e9.1.1
     have s7:=(mF 7 (by omega)).1;have u7:=(mF 7 (by omega)).2
     simp only [dM,List.getElem?_cons_succ,List.getElem?_cons_zero,fG] at s7
     have s5:w7.cell? ⟨J.bP,5+p*2,none⟩=some (.iface T4 x4):=by rw [aA h6.blk,(bI h6.h1 hp).1];exact congrArg (λz=>some z.1) Hv4.out
     have s5f:w7.frozen? ⟨J.bP,5+p*2,none⟩=false:=aB h6.blk _
     have H6:=Lib.hid h6;have Hl6:=Lib.hid JZ;have Hb6:=Lib.hid hb6
     clear h6 JZ hb6 FO mF
     go_wp2
     go_ret
     obtain⟨UC,_,hc3⟩:=aK.keyed ok H6.out (k:=kX) (by rw [List.length_set];exact Hka.out) Hev5.out Hl6.out
     have hcl:=aK.cleared ok hc3 hp (k:=kX) (by show(G2.hs.getD p (undef,0)).2=kX;rw [Hv2.out])
     have hg1:∀(v d:EvD),(evsX.set kX v).getD kX d=v:=λv d=>aL Hk2.out
     simp only [List.set_set,hg1] at hcl
     rw [Hres.out,Hg.out,Hev9.out,if_pos Hmk0.out]
     refine⟨rfl,?_,_,hcl⟩
     have h9:=H5.out.base
     have hgB5:PB R B0 g:=hgB
     have jA:Chg (PB R B0) w w6:=by
      rw [Hw6.out]
      exact(((((((Hch4.out.trans (Chg.of_below Hb5.out)).setCell (by exact .inl hgB5) _).setCell (by exact .inl hgB5) _).setCell (by exact .inl hgB5) _).setCell (by exact .inl hgB5) _).setCell (by exact .inl hgB5) _).setCell (by exact .inl hgB5) _)
     exact((jA.trans (Chg.of_below Hb6.out)).setCell (by exact .inl hgB5) _).setCell (by exact .inl (.inl h9.2.1)) _
    ·obtain⟨mad,rfl⟩:∃ mad,ma=some mad:=by
      cases ma with
      | some a=>exact⟨a,rfl⟩
      | none=>
       obtain⟨b9,o9,e9,_⟩:=hmsl.lt (List.length_pos_iff.2 oW)
       cases e9
     have hn2:=hnl (some mad) mk.length mc
     simp only [Option.isNone_some] at hn2
     have IX:=hmlst.keep (((((((Chg.refl (λb=>b=g) w5).setCell (p:=⟨g,kX*8+4,none⟩) (by exact .inl rfl) (.int .i64 er)).setCell (p:=⟨g,kX*8+4+1,none⟩) (by exact .inl rfl) (.int .u64 (vl:Int))).setCell (p:=⟨g,kX*8+4+2,none⟩) (by exact .inl rfl) (.slice la li.length lc)).setCell (p:=⟨g,kX*8+7,none⟩) (by exact .inl rfl) (.slice none 0 0)).setCell (p:=⟨g,kX*8+2,none⟩) (by exact .inl rfl) (.int .i64 (wdX.now:Int)))) Hgm.out (aV.refl _ _)
     obtain⟨NF,hkv,hb2⟩:=aK.keyed ok ha (k:=kX) Hka.out gW IX
     obtain⟨w6,iR⟩:∃ w6,w6=((((((w5.setCell ⟨g,kX*8+4,none⟩ (.int .i64 er)).setCell ⟨g,kX*8+4+1,none⟩ (.int .u64 (vl:Int))).setCell ⟨g,kX*8+4+2,none⟩ (.slice la li.length lc)).setCell ⟨g,kX*8+7,none⟩ (.slice none 0 0)).setCell ⟨g,kX*8+2,none⟩ (.int .i64 (wdX.now:Int))).setCell ⟨g,kX*8+7,none⟩ (.slice (some mad) mk.length mc)):=⟨_,rfl⟩
     rw [<-iR] at hb2
     obtain⟨g8,c8,tL,jD⟩:=aK.ev_some hb2 (k:=kX) (by rw [List.length_set];exact Hka.out)
     obtain rfl:g=g8:=by
      have e9:=gW.symm.trans tL
      simp only [Value.slice.injEq,Option.some.injEq,Addr.mk.injEq] at e9
      exact e9.1.1
     have y7f:=(jD 7 (by omega)).2
     have y7:w6.cell? ⟨g,kX*8+7,none⟩=some (.slice (some mad) mk.length mc):=by
      rw [(jD 7 (by omega)).1]
      simp only [dM,List.getElem?_cons_succ,List.getElem?_cons_zero]
      exact congrArg some hkv
     have y0:w6.cell? ⟨J.bP,0,none⟩=some (.pointer (some ⟨J.W.bW,0,none⟩)):=by rw [aA hb2.blk];exact dA
     have y5:w6.cell? ⟨J.bP,5+p*2,none⟩=some (.iface T4 x4):=by rw [aA hb2.blk,(bI hb2.h1 hp).1];exact congrArg (λz=>some z.1) Hv4.out
     have y5f:w6.frozen? ⟨J.bP,5+p*2,none⟩=false:=aB hb2.blk _
     have Hw6:=Lib.hid iR
     clear tL jD iR hkv
     have H5:=Lib.hid h5;have Hb5:=Lib.hid hb;have Hb2:=Lib.hid hb2;have Hmk0:=Lib.hid oW
     clear h5 hl gW hkn hksl hkm eU tC oJ hnl hb hmv hmn hmsl hmm hmlst ha hg oW IX hb2
     go_upto_region 14 with fail
     rw [<-Hw6.out]
     go_wp2
     go_ret
     have hcl:=aK.cleared ok Hb2.out hp (k:=kX) (by show(G2.hs.getD p (undef,0)).2=kX;rw [Hv2.out])
     have hg1:∀(v d:EvD),(evsX.set kX v).getD kX d=v:=λv d=>aL Hk2.out
     simp only [List.set_set,hg1] at hcl
     rw [Hres.out,Hg.out,Hev9.out,if_neg Hmk0.out]
     refine⟨rfl,?_,_,hcl⟩
     have h9:=H5.out.base
     have hgB5:PB R B0 g:=hgB
     have jA:Chg (PB R B0) w w6:=by
      rw [Hw6.out]
      exact(((((((Hch4.out.trans (Chg.of_below Hb5.out)).setCell (by exact .inl hgB5) _).setCell (by exact .inl hgB5) _).setCell (by exact .inl hgB5) _).setCell (by exact .inl hgB5) _).setCell (by exact .inl hgB5) _).setCell (by exact .inl hgB5) _)
     exact jA.setCell (by exact .inl (.inl h9.2.1)) _
   ·obtain⟨kad,rfl⟩:∃ kad,ka=some kad:=by
     cases ka with
     | some a=>exact⟨a,rfl⟩
     | none=>
      obtain⟨b9,o9,e9,_⟩:=hksl.lt (List.length_pos_iff.2 AJ)
      cases e9
    have hnk:=hnl (some kad) ky.length kc
    simp only [Option.isNone_some] at hnk
    have H5:=Lib.hid h5;have Hl:=Lib.hid hl;have Hev5:=Lib.hid gW;have Hks:=Lib.hid (show Lst w5 _ (.slice (some kad) ky.length kc) ky from⟨some kad,kc,rfl,hkn,hksl,hkm⟩)
    clear h5 hl gW hkn hksl hkm eU tC oJ hnl
    have Hb5:=Lib.hid hb
    clear hb
    go_wp2
    go_ret
    obtain⟨ers',ha⟩:=aK.answered ok (er:=er) (vl:=vl) (r:=wdX.now) H5.out (by rw [List.length_set];exact Hk2.out) Hev5.out Hl.out Hks.out
    have hcl:=aK.cleared ok ha hp (k:=kX) (by show(G2.hs.getD p (undef,0)).2=kX;rw [Hv2.out])
    rw [List.set_set,List.set_set,aL Hk2.out] at hcl
    have hg:goH S wdX o handsX evsX p kX mX=⟨(aP S o wdX p mX).2.1,(aP S o wdX p mX).1,handsX.set p (none,kX),cO evsX kX (bK (aP S o wdX p mX).2.1 p (bE S (aP S o wdX p mX).2.2.1).1 (bE S (aP S o wdX p mX).2.2.1).2),true⟩:=by
     unfold goH;rw [if_pos (by rw [<-HbX.out])]
    rw [Hres.out,hg]
    have sH:cO evsX kX (bK (aP S o wdX p mX).2.1 p (bE S (aP S o wdX p mX).2.2.1).1 (bE S (aP S o wdX p mX).2.2.1).2)=evsX.set kX { aZ (evsX.getD kX jY) with ans:=⟨er,vl,li⟩,key:=ky,resp:=wdX.now }:=by
     unfold cO bK keyOf aZ
     rw [<-Hky.out,if_neg AJ,Hnw.out,Her.out,Hvl.out,Hli.out]
    refine⟨rfl,?_,_,by rw [sH];exact hcl⟩
    have h9:=H5.out.base
    have hgB5:PB R B0 g:=hgB
    refine(((((((Hch4.out.trans ?_).setCell (by exact .inl hgB5) _).setCell (by exact .inl hgB5) _).setCell (by exact .inl hgB5) _).setCell (by exact .inl hgB5) _).setCell (by exact .inl hgB5) _).setCell (by exact .inl (.inl h9.2.1)) _)
    exact Chg.of_below Hb5.out
 | some m=>
  obtain⟨sm,rfl⟩:=hrun m k0 hd
  have hd2:hands.getD p (none,0)=(some (Mh.run sm),k0):=hd
  obtain⟨T0,x0,hv0,_⟩:=aK.hand_some h hp hd
  have p3:w.cell? ⟨J.bP,5+p*2,none⟩=some (.iface T0 x0):=by rw [aA h.blk,(bI h.h1 hp).1,hv0]
  have hnn:∀ u:World,(binOp .eql 123 (.iface T0 x0) .nilIface).run Try.prog u=.ok (.bool false) u:=λu=>by first|rfl|kernel_rfl
  obtain⟨mX,hmX⟩:∃ mX,mX=Mh.run sm:=⟨_,rfl⟩
  have AX:∀ e,mX≠.refused e:=λe he=>by rw [hmX] at he;cases he
  have hlv:∀ s,mX=.run s->R.live o wd.tick p s:=λs he=>hl1 s k0 (by rw [hd,<-hmX,he])
  clear hl1 hl2
  rw [<-hmX] at hd2
  have hres:mZ S calls wd o hands evs p i=goH S wd.tick o hands evs p k0 mX:=by unfold mZ;rw [hd,hmX]
  have hN2:G.N+R.dN<1000000000:=by have:=h.nb;omega
  have hNb:G.N+R.dN<=R.dN*wd.tick.now:=by have:=h.nb;omega
  have hcn:wd.tick.mem.c.all+1<=wd.tick.now:=by have:=h.cnt;simp [WD.tick];omega
  have hc2:wd.tick.mem.c.all+1<1000000000000:=by have:wd.tick.now<=70000:=(by simp [WD.tick];omega);omega
  have hstp:(evs.getD k0 jY).steps+1<=wd.tick.now:=by have:=h.stp k0;show _<=wd.now+1;omega
  have hB0:=h.base.2.2.1 _ (.inl rfl)
  obtain⟨w2,hw2⟩:∃ w2,w2=w.setCell ⟨J.W.bW,1,none⟩ (.int .i64 ((wd.now:Int)+1)):=⟨_,rfl⟩
  have yQ:Chg (PB R B0) w w2:=by rw [hw2];exact(Chg.refl (PB R B0) w).setCell (p:=⟨J.W.bW,1,none⟩) (.inl (.inl hB0)) _
  have h2:aK R calls w2 J ov cv B0 G wd.tick o fin hands evs idle:=by rw [hw2];exact hT
  have Hch0:=Lib.hid yQ;have Hw2:=Lib.hid hw2
  obtain⟨G2,hG2⟩:∃ G2,G2=G:=⟨_,rfl⟩
  obtain⟨handsX,hhX⟩:∃ handsX,handsX=hands:=⟨_,rfl⟩
  obtain⟨evsX,heX⟩:∃ evsX,evsX=evs:=⟨_,rfl⟩
  obtain⟨wdX,hwX⟩:∃ wdX,wdX=wd.tick:=⟨_,rfl⟩
  obtain⟨kX,hkX⟩:∃ kX,kX=k0:=⟨_,rfl⟩
  have hres2:mZ S calls wd o hands evs p i=goH S wdX o handsX evsX p kX mX:=by rw [hhX,heX,hwX,hkX];exact hres
  rw [<-heX,<-hhX,<-hwX,<-hG2] at h2
  rw [<-hhX,<-hkX] at hd2
  rw [<-hG2] at hN2
  rw [<-hG2,<-hwX] at hNb
  rw [<-hwX] at hlv
  have Hlv:=Lib.hid hlv
  clear hlv
  rw [<-hwX] at hcn hc2
  rw [<-heX,<-hwX,<-hkX] at hstp
  have Hres0:=Lib.hid hres2
  clear hmX hhX heX hwX hkX hG2 yQ hnd hnk hsucc hd hrun hT hv0 hwb hmk hB0 h hw2 hres hres2
  go_enter Try.func59,Try.ntmps59
  go_wp2_with fail
  rw [<-Hw2.out]
  have hres:=Hres0.out
  have Hres:=Lib.hid hres
  clear hres
  have b0:w2.cell? ⟨J.bP,0,none⟩=some (.pointer (some ⟨J.W.bW,0,none⟩)):=by rw [aA h2.blk];exact dA
  replace h2:=aK.grown ok h2 (Gr.refl w2).drew
  obtain⟨T,x,hv2,hm2⟩:=aK.hand_some h2 hp hd2
  have hk2:=h2.at_ p hp _ (by rw [hd2])
  rw [hd2] at hk2
  simp only at hk2
  obtain⟨K,recv,hM,hC⟩:=CP ok h2.world h2.obj hm2 h2.inv hp hN2 hc2 (λb hb=>⟨(h2.mb p b hp hb).1,(h2.mb p b hp hb).2.1,(h2.mb p b hp hb).2.2.1⟩) AX h2.ow Hlv.out
  have m1:=hM.ahead;have m2:=hM.meth;have m3:=hM.enter
  have b1:w2.cell? ⟨J.bP,5+p*2,none⟩=some (.iface T x):=by
   have:=aA h2.blk (5+p*2)
   rw [(bI h2.h1 hp).1,hv2] at this;exact this
  have HC:=Lib.hid hC;have H2:=Lib.hid h2;have Hv2:=Lib.hid hv2;have Hd2:=Lib.hid hd2;have Hk2:=Lib.hid hk2;have Hnr2:=Lib.hid AX;have HNb:=Lib.hid hNb;have Hcn:=Lib.hid hcn;have Hstp:=Lib.hid hstp
  clear hC hM h2 hm2 hv2 hd2 AX hk2 hNb hcn hN2 hc2 hstp
  go_wp2_with fail
  go_still_tail 10,(by kernel_rfl)
  change wpList _ _ _ _ _ w2.drew
  go_wp2_with fail
  refine HC.out.mono ?_
  rintro e w3 hpost
  obtain⟨B',h3⟩:=aK.stepped ok H2.out hp Hd2.out Hv2.out HNb.out Hcn.out hpost
  obtain⟨rfl,wQ,_⟩:=hpost
  have Hch3:=Lib.hid (show Chg (PB R B0) w w3 from(Hch0.out.drew).trans (wQ.mono (λb _ hb=>by
   rcases hb with hb|hb|hb
   ·exact .inl (H2.out.base.2.2.1 b hb)
   ·exact H2.out.base.2.2.2.2.2.1 b hb
   ·exact .inl (H2.out.base.2.2.2.2.2.2 p b hp hb))))
  obtain⟨g,c,BA,hrow3⟩:=aK.ev_some h3 Hk2.out
  have a0:w3.cell? ⟨J.bP,0,none⟩=some (.pointer (some ⟨J.W.bW,0,none⟩)):=by rw [aA h3.blk];exact dA
  have a37:w3.cell? ⟨J.bP,37,none⟩=some (.slice (some ⟨g,0,none⟩) evsX.length c):=by rw [aA h3.blk,<-BA];exact iE h3.h1
  have aat:w3.cell? ⟨J.bP,5+p*2+1,none⟩=some (.int .i64 (kX:Int)):=by
   rw [aA h3.blk,(bI h3.h1 hp).2]
   show some (fG ((G2.hs.getD p (undef,0)).2))=_
   rw [Hv2.out];rfl
  obtain⟨sX,hsX⟩:∃ sX,sX=(evsX.getD kX jY).steps:=⟨_,rfl⟩
  have a3:w3.cell? ⟨g,kX*8+3,none⟩=some (.int .i64 (sX:Int)):=by rw [(hrow3 3 (by omega)).1,hsX];rfl
  have f3:=(hrow3 3 (by omega)).2
  have hkl:(kX:Int)<(evsX.length:Int):=by have:=Hk2.out;omega
  have H3:=Lib.hid h3;have Hev3:=Lib.hid BA;have Hrow3:=Lib.hid hrow3;have HsX:=Lib.hid hsX
  obtain⟨bX,hbX⟩:∃ bX,bX=(aP S o wdX p mX).2.2.2:=⟨_,rfl⟩
  rw [<-hbX]
  have HbX:=Lib.hid hbX
  have FH:(sX:Int)<100000:=by have h8:=Hstp.out;have h7:=H2.out.nowb;rw [<-hsX] at h8;omega
  clear h3 wQ BA hrow3 hsX hbX m1 m2 m3 b0 b1
  go_wp2_with fail
  go_quiet (fail)
  have c3:(w3.drewN nq).cell? ⟨g,kX*8+3,none⟩=some (.int .i64 (sX:Int)):=a3
  have d3:(w3.drewN nq).frozen? ⟨g,kX*8+3,none⟩=false:=f3
  have h3d:=aK.grown ok H3.out (below_drewN (Gr.refl w3) nq)
  have hnw:(aP S o wdX p mX).2.1.now=wdX.now:=by cases mX<;>first|rfl|exact ok.now _ _ _ _
  have h4:=aK.store ok h3d Hk2.out Hev3.out (f:=3) (u:=.int .i64 ((sX:Int)+1)) (e':=aZ (evsX.getD kX jY)) (v':=G2.ers.getD kX tQ) (by omega)
   (by rw [show((sX:Int)+1)=((sX+1:Nat):Int) by omega,HsX.out];rfl) (h3d.eva.ans kX Hk2.out).1 (h3d.eva.ans kX Hk2.out).2 (by rw [hnw];exact Hstp.out)
  obtain⟨w4,hw4⟩:∃ w4,w4=(w3.drewN nq).setCell ⟨g,kX*8+3,none⟩ (.int .i64 ((sX:Int)+1)):=⟨_,rfl⟩
  rw [<-hw4] at h4
  have hgB:PB R B0 g:=by
   have h9:=(H3.out.eva.row.lt g (by rw [Hev3.out];rfl)).1
   exact .inl h9
  have Hch4:=Lib.hid (show Chg (PB R B0) w w4 from by rw [hw4];exact(Hch3.out.drewN nq).setCell (p:=⟨g,kX*8+3,none⟩) (.inl hgB) _)
  have H4:=Lib.hid h4;have Hw4:=Lib.hid hw4;have Hnw:=Lib.hid hnw
  clear h3d h4 hw4 hnw
  cases bX with
  | false=>
   go_wp2
   rw [<-Hw4.out]
   go_ret
   have hg:goH S wdX o handsX evsX p kX mX=⟨(aP S o wdX p mX).2.1,(aP S o wdX p mX).1,handsX.set p (some (aP S o wdX p mX).2.2.1,kX),cO evsX kX aZ,false⟩:=by
    unfold goH;rw [if_neg (by rw [<-HbX.out];simp)]
   rw [Hres.out,hg]
   exact⟨rfl,Hch4.out,_,H4.out⟩
  | true=>
   have hd4:(handsX.set p (some (aP S o wdX p mX).2.2.1,kX)).getD p (none,0)=(some (aP S o wdX p mX).2.2.1,kX):=aL (by rw [H2.out.h2];exact hp)
   obtain⟨T4,x4,hv4,NE⟩:=aK.hand_some H4.out hp hd4
   have FX:∀ e,(aP S o wdX p mX).2.2.1≠.refuse e:=λe he=>by cases mX<;>cases he
   obtain⟨K4,QO,hM4,hC4⟩:=uO ok NE FX (λs hs=>JL ok HbX.out.symm hs)
   have n1:=hM4.ahead;have n2:=hM4.meth;have n3:=hM4.enter
   have q1:w4.cell? ⟨J.bP,5+p*2,none⟩=some (.iface T4 x4):=by rw [aA H4.out.blk,(bI H4.out.h1 hp).1,hv4]
   have HC4:=Lib.hid hC4;have Hv4:=Lib.hid hv4
   clear hC4 hM4 NE hv4 hd4 FX
   rw [Hw4.out] at q1 HC4
   go_wp2_with fail
   refine HC4.out.mono ?_
   rintro e w5 ⟨la,lc,kv,rfl,hl,hk,hb⟩
   rw [<-Hw4.out] at hb
   have h5:=aK.grown ok H4.out hb
   have hk5:kX<(evsX.set kX (aZ (evsX.getD kX jY))).length:=by rw [List.length_set];exact Hk2.out
   obtain⟨er,her⟩:∃ er,er=(bE S (aP S o wdX p mX).2.2.1).1.err:=⟨_,rfl⟩
   obtain⟨vl,hvl⟩:∃ vl,vl=(bE S (aP S o wdX p mX).2.2.1).1.val:=⟨_,rfl⟩
   obtain⟨li,hli⟩:∃ li,li=(bE S (aP S o wdX p mX).2.2.1).1.list:=⟨_,rfl⟩
   obtain⟨ky,hky⟩:∃ ky,ky=(bE S (aP S o wdX p mX).2.2.1).2:=⟨_,rfl⟩
   rw [<-her,<-hvl,<-hli]
   rw [<-hli] at hl
   rw [<-hky] at hk
   have Her:=Lib.hid her;have Hvl:=Lib.hid hvl;have Hli:=Lib.hid hli;have Hky:=Lib.hid hky
   clear her hvl hli hky
   obtain⟨ka,kc,rfl,hkn,hksl,hkm⟩:=hk
   obtain⟨g',c',gW,eU⟩:=aK.ev_some h5 hk5
   obtain rfl:g=g':=by
    have e9:=Hev3.out.symm.trans gW
    simp only [Value.slice.injEq,Option.some.injEq,Addr.mk.injEq] at e9
    exact e9.1.1
   have r2:=(eU 2 (by omega)).1;have r4:=(eU 4 (by omega)).1;have r5:=(eU 5 (by omega)).1;have r6:=(eU 6 (by omega)).1;have r7:=(eU 7 (by omega)).1
   have t2:=(eU 2 (by omega)).2;have t4:=(eU 4 (by omega)).2;have t5:=(eU 5 (by omega)).2;have t6:=(eU 6 (by omega)).2;have t7:=(eU 7 (by omega)).2
   simp only [dM,List.getElem?_cons_succ,List.getElem?_cons_zero,fG] at r2 r4 r5 r6 r7
   obtain⟨NK,tC,hmk5,oJ⟩:=h5.world.blk
   have q0:w5.cell? ⟨J.bP,0,none⟩=some (.pointer (some ⟨J.W.bW,0,none⟩)):=by rw [aA h5.blk];exact dA
   have q5:w5.cell? ⟨J.bP,5+p*2,none⟩=some (.iface T4 x4):=by rw [aA h5.blk,(bI h5.h1 hp).1,Hv4.out]
   have q5f:w5.frozen? ⟨J.bP,5+p*2,none⟩=false:=aB h5.blk _
   have qn:w5.cell? ⟨J.W.bW,1,none⟩=some (.int .i64 (wdX.now:Int)):=by rw [aA tC,eO,Hnw.out]
   have qm:w5.cell? ⟨J.W.bW,18+p,none⟩=some (NK.getD p undef):=by rw [aA tC];exact kD h5.world.inv16 hmk5 hp
   have hgP:g≠J.bP:=λe=>h5.psep.2.2.1 (by rw [gW,e];rfl)
   have hPg:J.bP≠g:=Ne.symm hgP
   have hgW:g≠J.W.bW:=λe=>h5.pW J.W.bW (.inl rfl) (.inr (.inr (.inr (by rw [gW,e];rfl))))
   have hWg:J.W.bW≠g:=Ne.symm hgW
   have hnl:∀(a:Option Addr) (n c:Nat) (u:World),(binOp .eql 24 (.slice a n c) (.slice none 0 0)).run Try.prog u=.ok (.bool a.isNone) u:=λa n c u=>Lib.run_eql_slice_nil u _ 3 _ _ _ _ _ Try.underlying24
   unfold mD
   by_cases AJ:ky=[]
   ·subst AJ
    have JF:=hkn rfl
    simp only [Value.slice.injEq] at JF
    obtain⟨rfl,_,rfl⟩:=JF
    have hmk:=oJ p hp
    obtain⟨ma,mc,hmv,hmn,hmsl,hmm⟩:=hmk
    rw [hmv] at qm
    have hn1:=hnl none 0 0
    simp only [Option.isNone_none] at hn1
    have hg:goH S wdX o handsX evsX p kX mX=⟨(aP S o wdX p mX).2.1,(aP S o wdX p mX).1,handsX.set p (none,kX),cO evsX kX (bK (aP S o wdX p mX).2.1 p (bE S (aP S o wdX p mX).2.2.1).1 (bE S (aP S o wdX p mX).2.2.1).2),true⟩:=by
     unfold goH;rw [if_pos (by rw [<-HbX.out])]
    obtain⟨mk,hmkd⟩:∃ mk,mk=(aP S o wdX p mX).2.1.marks.getD p []:=⟨_,rfl⟩
    rw [<-hmkd] at qm hmv hmn hmsl
    have Hmkd:=Lib.hid hmkd
    clear hmkd
    have hmlst:Lst w5 _ (.slice ma mk.length mc) mk:=⟨ma,mc,rfl,(λe=>by rw [<-hmv];exact hmn e),hmsl,hmm⟩
    obtain⟨ers',ha⟩:=aK.answered ok (er:=er) (vl:=vl) (r:=wdX.now) h5 (by rw [List.length_set];exact Hk2.out) gW hl (Lst.nil w5 _)
    have Hg:=Lib.hid hg
    have sH:cO evsX kX (bK (aP S o wdX p mX).2.1 p (bE S (aP S o wdX p mX).2.2.1).1 (bE S (aP S o wdX p mX).2.2.1).2)=evsX.set kX { aZ (evsX.getD kX jY) with ans:=⟨er,vl,li⟩,key:=if mk=[] then jF (aP S o wdX p mX).2.1 else mk,resp:=wdX.now }:=by
     unfold cO bK keyOf aZ
     rw [<-Hky.out,if_pos rfl,Hnw.out,Her.out,Hvl.out,Hli.out,<-Hmkd.out]
    have Hev9:=Lib.hid sH
    have hka:kX<((evsX.set kX (aZ (evsX.getD kX jY))).set kX { (evsX.set kX (aZ (evsX.getD kX jY))).getD kX jY with ans:=⟨er,vl,li⟩,key:=[],resp:=wdX.now }).length:=by rw [List.length_set,List.length_set];exact Hk2.out
    have hgM:=(ha.pmut g (.inr (.inr (.inr (by exact congrArg Value.ownBlock gW))))).1
    have hgm:=(λ(P:Nat->Prop) (hP:P g) (b:Nat) (hb:(λb=>b=g) b)=>(show P b from by rw [show b=g from hb];exact hP)) _ hgM
    have Hka:=Lib.hid hka;have Hgm:=Lib.hid hgm
    clear hka hgm hgM sH
    by_cases oW:mk=[]
    ·have hm0:=hmn oW
     rw [hmv] at hm0
     simp only [Value.slice.injEq] at hm0
     obtain⟨rfl,GI,rfl⟩:=hm0
     rw [GI] at qm
     obtain⟨NF,hkv,hb2⟩:=aK.keyed ok ha (k:=kX) Hka.out gW (Lst.nil _ _)
     obtain⟨w6,iR⟩:∃ w6,w6=((((((w5.setCell ⟨g,kX*8+4,none⟩ (.int .i64 er)).setCell ⟨g,kX*8+4+1,none⟩ (.int .u64 (vl:Int))).setCell ⟨g,kX*8+4+2,none⟩ (.slice la li.length lc)).setCell ⟨g,kX*8+7,none⟩ (.slice none 0 0)).setCell ⟨g,kX*8+2,none⟩ (.int .i64 (wdX.now:Int))).setCell ⟨g,kX*8+7,none⟩ (.slice none 0 0)):=⟨_,rfl⟩
     rw [<-iR] at hb2
     obtain⟨g8,c8,tL,jD⟩:=aK.ev_some hb2 (k:=kX) (by rw [List.length_set];exact Hka.out)
     obtain rfl:g=g8:=by
      have e9:=gW.symm.trans tL
      simp only [Value.slice.injEq,Option.some.injEq,Addr.mk.injEq] at e9
      exact e9.1.1
     have y7f:=(jD 7 (by omega)).2
     have y7:w6.cell? ⟨g,kX*8+7,none⟩=some (.slice none 0 0):=by
      rw [(jD 7 (by omega)).1]
      simp only [dM,List.getElem?_cons_succ,List.getElem?_cons_zero]
      exact congrArg some hkv
     have y0:w6.cell? ⟨J.bP,0,none⟩=some (.pointer (some ⟨J.W.bW,0,none⟩)):=by rw [aA hb2.blk];exact dA
     have y5:w6.cell? ⟨J.bP,5+p*2,none⟩=some (.iface T4 x4):=by rw [aA hb2.blk,(bI hb2.h1 hp).1];exact congrArg (λz=>some z.1) Hv4.out
     have y5f:w6.frozen? ⟨J.bP,5+p*2,none⟩=false:=aB hb2.blk _
     have Hw6:=Lib.hid iR
     clear tL jD iR hkv
     have A:=Lib.hid (yU _ _ _ _ _ hb2.world)
     have H5:=Lib.hid h5;have Hev5:=Lib.hid gW;have Hb5:=Lib.hid hb;have Hb2:=Lib.hid hb2;have Hmk0:=Lib.hid oW
     clear h5 hl gW hkn hksl hkm eU tC oJ hnl hb hmv hmn hmsl hmm hmlst ha hg hb2 oW
     clear GI
     go_upto_region 14 with fail
     rw [<-Hw6.out]
     go_wp2_with fail
     refine A.out.mono ?_
     rintro e w7 ⟨rfl,JZ,hb6⟩
     have h6:=aK.grown ok Hb2.out hb6
     obtain⟨g9,c9,FO,mF⟩:=aK.ev_some h6 (k:=kX) (by rw [List.length_set];exact Hka.out)
     obtain rfl:g=g9:=by
      have e9:=Hev5.out.symm.trans FO
      simp only [Value.slice.injEq,Option.some.injEq,Addr.mk.injEq] at e9
      exact e9.1.1
     have s7:=(mF 7 (by omega)).1;have u7:=(mF 7 (by omega)).2
     simp only [dM,List.getElem?_cons_succ,List.getElem?_cons_zero,fG] at s7
     have s5:w7.cell? ⟨J.bP,5+p*2,none⟩=some (.iface T4 x4):=by rw [aA h6.blk,(bI h6.h1 hp).1];exact congrArg (λz=>some z.1) Hv4.out
     have s5f:w7.frozen? ⟨J.bP,5+p*2,none⟩=false:=aB h6.blk _
     have H6:=Lib.hid h6;have Hl6:=Lib.hid JZ;have Hb6:=Lib.hid hb6
     clear h6 JZ hb6 FO mF
     go_wp2
     go_ret
     obtain⟨UC,_,hc3⟩:=aK.keyed ok H6.out (k:=kX) (by rw [List.length_set];exact Hka.out) Hev5.out Hl6.out
     have hcl:=aK.cleared ok hc3 hp (k:=kX) (by show(G2.hs.getD p (undef,0)).2=kX;rw [Hv2.out])
     have hg1:∀(v d:EvD),(evsX.set kX v).getD kX d=v:=λv d=>aL Hk2.out
     simp only [List.set_set,hg1] at hcl
     rw [Hres.out,Hg.out,Hev9.out,if_pos Hmk0.out]
     refine⟨rfl,?_,_,hcl⟩
     have h9:=H5.out.base
     have hgB5:PB R B0 g:=hgB
     have jA:Chg (PB R B0) w w6:=by
      rw [Hw6.out]
      exact(((((((Hch4.out.trans (Chg.of_below Hb5.out)).setCell (by exact .inl hgB5) _).setCell (by exact .inl hgB5) _).setCell (by exact .inl hgB5) _).setCell (by exact .inl hgB5) _).setCell (by exact .inl hgB5) _).setCell (by exact .inl hgB5) _)
     exact((jA.trans (Chg.of_below Hb6.out)).setCell (by exact .inl hgB5) _).setCell (by exact .inl (.inl h9.2.1)) _
    ·obtain⟨mad,rfl⟩:∃ mad,ma=some mad:=by
      cases ma with
      | some a=>exact⟨a,rfl⟩
      | none=>
       obtain⟨b9,o9,e9,_⟩:=hmsl.lt (List.length_pos_iff.2 oW)
       cases e9
     have hn2:=hnl (some mad) mk.length mc
     simp only [Option.isNone_some] at hn2
     have IX:=hmlst.keep (((((((Chg.refl (λb=>b=g) w5).setCell (p:=⟨g,kX*8+4,none⟩) (by exact .inl rfl) (.int .i64 er)).setCell (p:=⟨g,kX*8+4+1,none⟩) (by exact .inl rfl) (.int .u64 (vl:Int))).setCell (p:=⟨g,kX*8+4+2,none⟩) (by exact .inl rfl) (.slice la li.length lc)).setCell (p:=⟨g,kX*8+7,none⟩) (by exact .inl rfl) (.slice none 0 0)).setCell (p:=⟨g,kX*8+2,none⟩) (by exact .inl rfl) (.int .i64 (wdX.now:Int)))) Hgm.out (aV.refl _ _)
     obtain⟨NF,hkv,hb2⟩:=aK.keyed ok ha (k:=kX) Hka.out gW IX
     obtain⟨w6,iR⟩:∃ w6,w6=((((((w5.setCell ⟨g,kX*8+4,none⟩ (.int .i64 er)).setCell ⟨g,kX*8+4+1,none⟩ (.int .u64 (vl:Int))).setCell ⟨g,kX*8+4+2,none⟩ (.slice la li.length lc)).setCell ⟨g,kX*8+7,none⟩ (.slice none 0 0)).setCell ⟨g,kX*8+2,none⟩ (.int .i64 (wdX.now:Int))).setCell ⟨g,kX*8+7,none⟩ (.slice (some mad) mk.length mc)):=⟨_,rfl⟩
     rw [<-iR] at hb2
     obtain⟨g8,c8,tL,jD⟩:=aK.ev_some hb2 (k:=kX) (by rw [List.length_set];exact Hka.out)
     obtain rfl:g=g8:=by
      have e9:=gW.symm.trans tL
      simp only [Value.slice.injEq,Option.some.injEq,Addr.mk.injEq] at e9
      exact e9.1.1
     have y7f:=(jD 7 (by omega)).2
     have y7:w6.cell? ⟨g,kX*8+7,none⟩=some (.slice (some mad) mk.length mc):=by
      rw [(jD 7 (by omega)).1]
      simp only [dM,List.getElem?_cons_succ,List.getElem?_cons_zero]
      exact congrArg some hkv
     have y0:w6.cell? ⟨J.bP,0,none⟩=some (.pointer (some ⟨J.W.bW,0,none⟩)):=by rw [aA hb2.blk];exact dA
     have y5:w6.cell? ⟨J.bP,5+p*2,none⟩=some (.iface T4 x4):=by rw [aA hb2.blk,(bI hb2.h1 hp).1];exact congrArg (λz=>some z.1) Hv4.out
     have y5f:w6.frozen? ⟨J.bP,5+p*2,none⟩=false:=aB hb2.blk _
     have Hw6:=Lib.hid iR
     clear tL jD iR hkv
     have H5:=Lib.hid h5;have Hb5:=Lib.hid hb;have Hb2:=Lib.hid hb2;have Hmk0:=Lib.hid oW
     clear h5 hl gW hkn hksl hkm eU tC oJ hnl hb hmv hmn hmsl hmm hmlst ha hg oW IX hb2
     go_upto_region 14 with fail
     rw [<-Hw6.out]
     go_wp2
     go_ret
     have hcl:=aK.cleared ok Hb2.out hp (k:=kX) (by show(G2.hs.getD p (undef,0)).2=kX;rw [Hv2.out])
     have hg1:∀(v d:EvD),(evsX.set kX v).getD kX d=v:=λv d=>aL Hk2.out
     simp only [List.set_set,hg1] at hcl
     rw [Hres.out,Hg.out,Hev9.out,if_neg Hmk0.out]
     refine⟨rfl,?_,_,hcl⟩
     have h9:=H5.out.base
     have hgB5:PB R B0 g:=hgB
     have jA:Chg (PB R B0) w w6:=by
      rw [Hw6.out]
      exact(((((((Hch4.out.trans (Chg.of_below Hb5.out)).setCell (by exact .inl hgB5) _).setCell (by exact .inl hgB5) _).setCell (by exact .inl hgB5) _).setCell (by exact .inl hgB5) _).setCell (by exact .inl hgB5) _).setCell (by exact .inl hgB5) _)
     exact jA.setCell (by exact .inl (.inl h9.2.1)) _
   ·obtain⟨kad,rfl⟩:∃ kad,ka=some kad:=by
     cases ka with
     | some a=>exact⟨a,rfl⟩
     | none=>
      obtain⟨b9,o9,e9,_⟩:=hksl.lt (List.length_pos_iff.2 AJ)
      cases e9
    have hnk:=hnl (some kad) ky.length kc
    simp only [Option.isNone_some] at hnk
    have H5:=Lib.hid h5;have Hl:=Lib.hid hl;have Hev5:=Lib.hid gW;have Hks:=Lib.hid (show Lst w5 _ (.slice (some kad) ky.length kc) ky from⟨some kad,kc,rfl,hkn,hksl,hkm⟩)
    clear h5 hl gW hkn hksl hkm eU tC oJ hnl
    have Hb5:=Lib.hid hb
    clear hb
    go_wp2
    go_ret
    obtain⟨ers',ha⟩:=aK.answered ok (er:=er) (vl:=vl) (r:=wdX.now) H5.out (by rw [List.length_set];exact Hk2.out) Hev5.out Hl.out Hks.out
    have hcl:=aK.cleared ok ha hp (k:=kX) (by show(G2.hs.getD p (undef,0)).2=kX;rw [Hv2.out])
    rw [List.set_set,List.set_set,aL Hk2.out] at hcl
    have hg:goH S wdX o handsX evsX p kX mX=⟨(aP S o wdX p mX).2.1,(aP S o wdX p mX).1,handsX.set p (none,kX),cO evsX kX (bK (aP S o wdX p mX).2.1 p (bE S (aP S o wdX p mX).2.2.1).1 (bE S (aP S o wdX p mX).2.2.1).2),true⟩:=by
     unfold goH;rw [if_pos (by rw [<-HbX.out])]
    rw [Hres.out,hg]
    have sH:cO evsX kX (bK (aP S o wdX p mX).2.1 p (bE S (aP S o wdX p mX).2.2.1).1 (bE S (aP S o wdX p mX).2.2.1).2)=evsX.set kX { aZ (evsX.getD kX jY) with ans:=⟨er,vl,li⟩,key:=ky,resp:=wdX.now }:=by
     unfold cO bK keyOf aZ
     rw [<-Hky.out,if_neg AJ,Hnw.out,Her.out,Hvl.out,Hli.out]
    refine⟨rfl,?_,_,by rw [sH];exact hcl⟩
    have h9:=H5.out.base
    have hgB5:PB R B0 g:=hgB
    refine(((((((Hch4.out.trans ?_).setCell (by exact .inl hgB5) _).setCell (by exact .inl hgB5) _).setCell (by exact .inl hgB5) _).setCell (by exact .inl hgB5) _).setCell (by exact .inl hgB5) _).setCell (by exact .inl (.inl h9.2.1)) _)
    exact Chg.of_below Hb5.out
end Go.Proofs.Ytifhldnmcdbpfaa
