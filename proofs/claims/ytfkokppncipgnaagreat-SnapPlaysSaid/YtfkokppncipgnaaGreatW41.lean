/- Layer 15: the snapshot as the loom's object: to start. -/
import Derived.Test.YtfkokppncipgnaaGreatW40
import Derived.Test.YtfkokppncipgnaaGreatW33
set_option maxRecDepth 100000
set_option linter.unusedVariables false
set_option linter.unusedSimpArgs false
set_option linter.unnecessarySimpa false
namespace Go.Proofs.YtfkokppncipgnaaGreat
section
open Go.RowKit
def snM (bP:Nat) (w:World) (Mut B:Nat->Prop) (T:TypeId) (x:Value) (_:Nat):SnS->Prop
 | .rd s key=>T=264/\∃ b bs lv kv,x=.pointer (some ⟨b,0,none⟩)/\w.heap[b]?=some (.cells (YQ bs kv) 268 (0,0))/\B b/\B bs/\b≠bs/\Lst w Mut kv key/\
  ((s.pc≠3/\yK w bs bP lv s/\∀ g,lv.ownBlock=some g->B g/\g≠bs/\g≠b)∨(s.pc=3/\aR w bs bP s lv/\fK w Mut lv s.list))
 | .up s p r nx v sc=>T=269/\∃ b bs lv,x=.pointer (some ⟨b,0,none⟩)/\w.heap[b]?=some (.cells (vN bs p r nx v sc) 271 (0,0))/\B b/\B bs/\b≠bs/\yK w bs bP lv s/\(∀ g,lv.ownBlock=some g->B g/\g≠bs/\g≠b)/\v<18446744073709551616
def Ee (n:Nat) (o:List Nat) (wd:WD):SnS->Prop
 | .rd s _=>FH n wd s/\((bE n wd s).pc=3->0<=(bE n wd s).moment/\(bE n wd s).moment<1000000000)
 | .up s _ _ _ _ false=>FH n wd s
 | .up s p r nx _ true=>s.list.length=n/\r<1000000/\nx<=n+1/\p<16/\o.getD p 0<1000000
def zG (n k bP:Nat):Real (aV n k) where
 T:=67
 x:=.pointer (some ⟨bP,0,none⟩)
 OB:=λb=>b=bP
 ORep:=λw Mut o=>w.heap[bP]?=some (.cells (jB n k o).toArray 114 (0,0))/\List.length (α:=Nat) o=16/\Mut bP
 MRep:=snM bP
 inv:=λ_ _=>True
 dN:=1
 live:=λo wd _ s=>Ee n o wd s
 done:=λs=>match s with
  | .rd s _=>s.pc=3
  | .up _ _ _ _ _ _=>True
theorem La {w:World} {bs bP:Nat} (h:w.heap[bs]?=some (.cells (uX bP AQ (.slice none 0 0)).toArray 276 (0,0))):yK w bs bP (.slice none 0 0) AQ:=
 ⟨⟨h,rfl,rfl,rfl⟩,World.ownsRow_nil _ _ _ _,λ_=>rfl,λx hx=>by cases hx⟩
set_option maxHeartbeats 8000000 in
theorem YT (n k bP:Nat) (hn:n<=16) (hk:k<=64) (w:World) (Mut:Nat->Prop) (I:iM) (N:Nat) (wd:WD) (o:List Nat) (p:Nat) (c:aD) (hw:bJ w Mut I N wd) (ho:w.heap[bP]?=some (.cells (jB n k o).toArray 114 (0,0))/\o.length=16/\Mut bP) (hp:p<16) (hc:lF c) :
  Calls Tryz.prog 175 #[.pointer (some ⟨bP,0,none⟩),.pointer (some ⟨I.bW,0,none⟩),.int .i64 (p:Int),KZ c] w (PT (zG n k bP) w Mut I wd o p c):=by
 obtain⟨th,ob,kd,ca,cb,cc⟩:=c
 have hca:ca<18446744073709551616:=hc.a
 have hlow:=hw.low
 obtain⟨hP,Sr,hm1⟩:=ho
 unfold KZ
 simp only
 have hPl:=hlow _ hm1
 have nm:∀(d k:Nat),w.heap.size<=k->k≠d->¬ (jE Mut noB (λb=>b=d) k):=λd k hk hkd=>by
  rintro(⟨hx,_⟩|hx)
  ·have:=hlow _ hx;omega
  ·exact hkd hx
 have Nm:=Lib.hid nm
 obtain⟨wa,hwa,hga,hsz,ha1⟩:=Jd w th ob kd (ca:Int) (cb:Int) (cc:Int)
 have f2:wa.cell? ⟨w.heap.size,2,none⟩=some (.int .i64 kd):=by rw [aA ha1];rfl
 have f3:wa.cell? ⟨w.heap.size,3,none⟩=some (.int .u64 (ca:Int)):=by rw [aA ha1];rfl
 have hPa:=(hga.block bP hPl).trans hP
 obtain⟨q,hq⟩:∃ q,q=o.getD p 0:=⟨_,rfl⟩
 have STh:=Lib.hid (show(aV n k).start o wd p ⟨th,ob,kd,ca,cb,cc⟩=(if kd=1 then Mc.run (SnS.rd AQ []) else if kd≠0 then .refuse 9 else if k<=o.getD p 0 then .refuse 6 else .run (.up AQ p (bG n k p (o.getD p 0)) 0 ca false)) from rfl)
 rw [<-hq] at STh
 have u3:wa.cell? ⟨bP,3+p,none⟩=some (.int .i64 (q:Int)):=by rw [aA hPa,hq];simpa using PW (n:=n) (k:=k) Sr hp
 have u2:wa.cell? ⟨bP,2,none⟩=some (.int .i64 (k:Int)):=by rw [aA hPa];rfl
 have l16:(p:Int)<16:=by omega
 have Hwa:=Lib.hid hwa;have Hga:=Lib.hid hga;have Hsz:=Lib.hid hsz;have HPa:=Lib.hid hPa;have Hca:=Lib.hid hca;have Hp:=Lib.hid hp
 clear hw hc hlow hP hm1 hca Sr hq nm hwa hga hsz ha1 hPa hp
 by_cases h1:kd=1
 ·have Hst:=Lib.hid (show(aV n k).start o wd p ⟨th,ob,kd,ca,cb,cc⟩=.run (.rd AQ []) by rw [STh.out,if_pos h1];rfl)
  subst h1
  go_enter Tryz.func175,Tryz.ntmps175
  go_upto_region 1 with fail
  rw [<-Hwa.out]
  go_wp2_with fail
  refine(VP bP _).mono ?_
  rintro e w3 ⟨rfl,hb3,hz3,hk3⟩
  have Hb3:=Lib.hid hb3;have Hz3:=Lib.hid hz3;have Hk3:=Lib.hid hk3
  clear hb3 hz3 hk3
  go_wp2
  go_ret
  have hblk:=heap_alloc_new w3 (.cells (YQ wa.heap.size (.slice none 0 0)) 268 (0,0))
  have hk4:=((Gr.new w3 (.cells (YQ wa.heap.size (.slice none 0 0)) 268 (0,0))).block wa.heap.size (aC Hk3.out)).trans Hk3.out
  have h5:=Hsz.out;have h6:=Hz3.out
  refine⟨_,_,λb=>b=wa.heap.size∨b=w3.heap.size,rfl,Gr.trans (Gr.trans Hga.out Hb3.out) (Gr.new _ _),λb hb=>?_,?_⟩
  ·rcases hb with rfl|rfl
   ·exact⟨by omega,by simp;omega⟩
   ·exact⟨by omega,by simp⟩
  rw [Hst.out]
  exact⟨rfl,w3.heap.size,wa.heap.size,.slice none 0 0,.slice none 0 0,rfl,hblk,.inr rfl,.inl rfl,by omega,Lst.nil _ _,.inl ⟨by decide,La hk4,λg hg=>by cases hg⟩⟩
 by_cases h0:kd=0
 ·by_cases hf:k<=q
  ·have Hst:=Lib.hid (show(aV n k).start o wd p ⟨th,ob,kd,ca,cb,cc⟩=.refuse 6 by rw [STh.out,if_neg h1,if_neg (by simpa using h0),if_pos hf];rfl)
   have Rf:=Lib.hid (BC 6)
   have l1:(k:Int)<=(q:Int):=by omega
   subst h0
   clear h1 hf STh
   go_enter Tryz.func175,Tryz.ntmps175
   go_upto_region 1 with fail
   rw [<-Hwa.out]
   go_wp2_with fail
   go_quiet (fail)
   have Hq:=Lib.hid (below_drewN (Gr.refl wa) nq)
   go_wp2_with (go_at_call 85;refine(Rf.out _).mono ?_;rintro e w' ⟨rfl,hrf,hbr⟩)
   go_ret
   have hsw:=Hsz.out
   refine⟨_,_,λb=>b=wa.heap.size+1,rfl,Gr.trans Hga.out (Gr.trans Hq.out hbr),λb hb=>by subst hb;exact⟨by omega,aC hrf.1⟩,?_⟩
   rw [Hst.out]
   exact⟨rfl,wa.heap.size+1,wa.heap.size,rfl,hrf,rfl,Nm.out _ _ (by omega) (by omega)⟩
  ·have Hst:=Lib.hid (show(aV n k).start o wd p ⟨th,ob,kd,ca,cb,cc⟩=.run (.up AQ p (bG n k p q) 0 ca false) by rw [STh.out,if_neg h1,if_neg (by simpa using h0),if_neg hf];rfl)
   have l1:¬ (k:Int)<=(q:Int):=by omega
   have Rc:=Lib.hid (λ(u:World) (h:Below wa.heap.size wa u)=>VZ bP n k p q o hn hk Hp.out (by omega) u ((h.block bP (aC HPa.out)).trans HPa.out))
   obtain⟨rr,hrr⟩:∃ rr,rr=bG n k p q:=⟨_,rfl⟩
   rw [<-hrr] at Rc Hst
   have hwl:w.heap.size<wa.heap.size:=by have:=Hsz.out;omega
   have hPl2:=aC HPa.out
   have Hwl:=Lib.hid hwl;have HPl2:=Lib.hid hPl2
   subst h0
   clear h1 hf STh hrr hwl hPl2
   go_enter Tryz.func175,Tryz.ntmps175
   go_upto_region 1 with fail
   rw [<-Hwa.out]
   go_wp2_with fail
   go_quiet (fail)
   have hgq:=below_drewN (Gr.refl wa) nq
   have v3:(wa.drewN nq).cell? ⟨bP,3+p,none⟩=some (.int .i64 (q:Int)):=u3
   have v4:(wa.drewN nq).cell? ⟨w.heap.size,3,none⟩=some (.int .u64 (ca:Int)):=f3
   obtain⟨wb,hwb⟩:∃ wb,wb=wa.drewN nq:=⟨_,rfl⟩
   have hbz:wb.heap.size=wa.heap.size:=by rw [hwb];rfl
   rw [<-hwb] at v3 v4 hgq ⊢
   have Hgq:=Lib.hid hgq;have Hbz:=Lib.hid hbz
   clear hwb hgq hbz u2 u3 f2 f3
   go_upto_region 7 with fail
   go_region_held3 (λu=>u.cell? ⟨bP,3+p,none⟩=some (.int .i64 (q:Int))/\u.cell? ⟨w.heap.size,3,none⟩=some (.int .u64 (ca:Int)))
    (first|exact⟨v3,v4⟩|exact⟨z3,z4⟩|exact⟨t3,t4⟩|go_keep)
    (first|(go_at_call 177;refine(VP bP _).mono ?_;rintro e w3 ⟨rfl,hb3,hz3,hk3⟩;have Ri:Below wa.heap.size wa w3:=Gr.trans Hgq.out (Gr.trans (Gr.refl wb).drew hb3);have z3:=(hb3.cell (p:=⟨bP,3+p,none⟩) (by show bP<wb.heap.size;rw [Hbz.out];exact HPl2.out)).trans v3;have z4:=(hb3.cell (p:=⟨w.heap.size,3,none⟩) (by show w.heap.size<wb.heap.size;rw [Hbz.out];exact Hwl.out)).trans v4)|(go_at_call 176;refine(Rc.out _ ?_).mono ?_;(exact Ri);rintro e w4 ⟨rfl,hb4⟩;have t3:=(hb4.cell (p:=⟨bP,3+p,none⟩) (World.block_lt_of_cell? _ _ z3)).trans z3;have t4:=(hb4.cell (p:=⟨w.heap.size,3,none⟩) (World.block_lt_of_cell? _ _ z4)).trans z4))
   have Hk3:=Lib.hid (show w3.heap[wb.heap.size]?=some (.cells (uX bP AQ (.slice none 0 0)).toArray 276 (0,0)) from hk3)
   have Hz3:=Lib.hid (show w3.heap.size=wb.heap.size+1 from hz3);have Hb3:=Lib.hid Ri;have Hb4:=Lib.hid hb4
   clear hk3 hz3 hb3 Ri hb4 z3 z4 t3 t4 v3 v4
   go_wp2
   go_ret
   have hblk:=heap_alloc_new w4 (.cells (vN wb.heap.size p rr 0 ca false) 271 (0,0))
   have hk4:=(Hb4.out.block wb.heap.size (aC Hk3.out)).trans Hk3.out
   have hk5:=((Gr.new w4 (.cells (vN wb.heap.size p rr 0 ca false) 271 (0,0))).block wb.heap.size (aC hk4)).trans hk4
   have h5:=Hsz.out;have h6:=Hz3.out;have h7:=Hbz.out;have h8:=Hb4.out.size
   refine⟨_,_,λb=>b=wb.heap.size∨b=w4.heap.size,rfl,Gr.trans (Gr.trans (Gr.trans Hga.out Hb3.out) Hb4.out) (Gr.new _ _),λb hb=>?_,?_⟩
   ·rcases hb with rfl|rfl
    ·exact⟨by omega,by simp;omega⟩
    ·exact⟨by omega,by simp⟩
   rw [Hst.out]
   exact⟨rfl,w4.heap.size,wb.heap.size,.slice none 0 0,rfl,hblk,.inr rfl,.inl rfl,by omega,La hk5,(λg hg=>by cases hg),Hca.out⟩
 ·have Hst:=Lib.hid (show(aV n k).start o wd p ⟨th,ob,kd,ca,cb,cc⟩=.refuse 9 by rw [STh.out,if_neg h1,if_pos h0];rfl)
  have Rf:=Lib.hid (BC 9)
  have q1:(kd != 0)=true:=by simp [h0]
  have q0:(kd == 1)=false:=by simp [h1]
  go_enter Tryz.func175,Tryz.ntmps175
  go_upto_region 1 with fail
  rw [<-Hwa.out]
  go_wp2_with (go_at_call 85;refine(Rf.out _).mono ?_;rintro e w' ⟨rfl,hrf,hbr⟩)
  go_ret
  have hsw:=Hsz.out
  refine⟨_,_,λb=>b=wa.heap.size+1,rfl,Gr.trans Hga.out hbr,λb hb=>by subst hb;exact⟨by omega,aC hrf.1⟩,?_⟩
  rw [Hst.out]
  exact⟨rfl,wa.heap.size+1,wa.heap.size,rfl,hrf,rfl,Nm.out _ _ (by omega) (by omega)⟩
end
section
open Go.RowKit
theorem MF {w':World} {Mut B B':Nat->Prop} {I:iM} {N:Nat} {wd':WD} {lv':Value} (hf:mW w' Mut I N wd' lv') (h1:∀ c,B' c->B c∨lv'.ownBlock=some c) (h2:∀ c,B' c->c<w'.heap.size) (hB:∀ b,B b->Mut b/\¬ cK I b) (hN:N+1<1000000000):bJ w' (jE Mut B B') I (N+1) wd':=by
 have h9:=hf.toAt
 refine(hf.up ?_ ?_ ?_).more (Nat.le_succ _) hN
 ·rintro b (⟨h,_⟩|h)
  ·exact .inl h
  ·exact(h1 b h).elim (λh=>.inl (hB b h).1) .inr
 ·rintro b (⟨h,_⟩|h)
  ·exact h9.low b h
  ·exact h2 b h
 ·intro b hb
  by_cases hbB:B b
  ·exact absurd hb (hB b hbB).2
  ·exact .inl ⟨h9.muts b hb,hbB⟩
theorem Lf {w:World} {lv:Value} {l:List Nat} (h:w.ownsRow 0 46 1 lv l.length (l.map bI)):l.length<=maxLen:=by
 rcases h.2 with⟨_,h0⟩|⟨g,cap,cur,_,_,_,h1,h2,_⟩
 ·unfold maxLen;omega
 ·omega
theorem Gp {w:World} {M:Nat->Prop} {lv:Value} {l:List Nat} (h:w.ownsRow 0 46 1 lv l.length (l.map bI)) (hm:∀ g,lv.ownBlock=some g->¬ M g):fK w M lv l:=by
 obtain⟨la,lc,rfl⟩:∃ la lc,lv=.slice la l.length lc:=by obtain⟨a,c,e⟩:=dX h;exact⟨a,c,e⟩
 refine⟨la,lc,rfl,?_,λh0 b0 off e=>?_⟩
 ·exact(wR (g:=fE l) h (Lf h) (λi hi=>by simp [fE,bI,List.getD_eq_getElem?_getD,hi])).1
 ·exact hm b0 (by rw [e];rfl)
theorem Iy {n k bP:Nat} {w w':World} {Mut B:Nat->Prop} {I:iM} {N:Nat} {wd wd':WD} {o:List Nat} {b bs p p' r nx nx' v:Nat} {s s':ScD} {sc sc':Bool} {lv:Value}
  (hst:(aV n k).step o wd p (.up s p' r nx v sc)=(o,wd',.up s' p' r nx' v sc',false)) (hP:w.heap[bP]?=some (.cells (jB n k o).toArray 114 (0,0))) (h16:o.length=16) (m1:Mut bP) (hlow:∀ b,Mut b->b<w.heap.size)
  (hB:∀ b,B b->Mut b/\¬ cK I b/\¬ b=bP) (hW:¬ cK I bP) (hb:B b) (hbs:B bs) (hbne:b≠bs) (hlB:∀ g,lv.ownBlock=some g->B g/\g≠bs/\g≠b) (hv:v<18446744073709551616) (hN:N+1<1000000000) {e:Ending}
  (h:WL w w' Mut I N wd' b bs bP lv (vN bs p' r nx' v sc') s' false e):wX (zG n k bP) w Mut B I N wd o 269 (.pointer (some ⟨b,0,none⟩)) p (.up s p' r nx v sc) e w':=by
 obtain⟨rfl,hc,lv',hf,hbk,hsa,ho⟩:=h
 have hs:∀ c,(c=b∨c=bs∨lv'.ownBlock=some c)->B c∨w.heap.size<=c:=by
  rintro c (rfl|rfl|h)
  ·exact .inl hb
  ·exact .inl hbs
  ·exact((ho c h).1).elim (λh=>.inl (hlB c h).1) .inr
 have hnP:¬ (cK I bP∨bP=b∨bP=bs∨lv.ownBlock=some bP):=by
  rintro(h|h|h|h)
  ·exact hW h
  ·exact(hB b hb).2.2 h.symm
  ·exact(hB bs hbs).2.2 h.symm
  ·exact(hB bP (hlB bP h).1).2.2 rfl
 have hPlt:=aC hP
 unfold wX
 rw [hst]
 refine⟨rfl,hc.mono (λj _ h=>?_),λc=>c=b∨c=bs∨lv'.ownBlock=some c,hs,?_,MF hf ?_ ?_ (λb hb=>⟨(hB b hb).1,(hB b hb).2.1⟩) hN,⟨(hc.block bP hPlt hnP).trans hP,h16,.inl ⟨m1,λh=>(hB bP h).2.2 rfl⟩⟩,rfl,b,bs,lv',rfl,hbk,.inl rfl,.inr (.inl rfl),hbne,hsa,λg hg=>⟨.inr (.inr hg),(ho g hg).2.1,(ho g hg).2.2.1⟩,hv⟩
 ·rcases h with h|rfl|rfl|h
  ·exact .inl h
  ·exact .inr (.inr hb)
  ·exact .inr (.inr hbs)
  ·exact .inr (.inr (hlB j h).1)
 ·rintro c (rfl|rfl|h)
  ·exact aC hbk
  ·exact hsa.blk.lt
  ·exact(ho c h).2.2.2
 ·rintro c (rfl|rfl|h)
  ·exact .inl hb
  ·exact .inl hbs
  ·exact .inr h
 ·rintro c (rfl|rfl|h)
  ·exact aC hbk
  ·exact hsa.blk.lt
  ·exact(ho c h).2.2.2
theorem LB (n k bP:Nat) (hn:n<=16) (hk:k<=64):gL (zG n k bP) where
 keepM:=by
  intro w w' Q Mut Mut' B T x p s h hc hQ hB hm
  match s with
  | .rd s key=>
   obtain⟨h1,b,bs,lv,kv,h2,h3,h4,h5,h6,h7,h8⟩:=h
   refine⟨h1,b,bs,lv,kv,h2,(hc.block _ (aC h3) (hB b h4)).trans h3,h4,h5,h6,h7.keep hc hQ hm,?_⟩
   rcases h8 with⟨e1,e2,e3⟩|⟨e1,e2,e3⟩
   ·exact .inl ⟨e1,e2.chg hc (hB bs h5) (λg hg=>hB g (e3 g hg).1),e3⟩
   ·exact .inr ⟨e1,e2.chg hc (hB bs h5),e3.keep hc hQ hm⟩
  | .up s p' r nx v sc=>
   obtain⟨h1,b,bs,lv,h2,h3,h4,h5,h6,h7,h8,h9⟩:=h
   exact⟨h1,b,bs,lv,h2,(hc.block _ (aC h3) (hB b h4)).trans h3,h4,h5,h6,h7.chg hc (hB bs h5) (λg hg=>hB g (h8 g hg).1),h8,h9⟩
 keepO:=λ_ _ _ _ _ _ h hc _ hB _ hM=>⟨(hc.block bP (aC h.1) (hB bP rfl)).trans h.1,h.2.1,hM bP rfl⟩
 lowO:=by
  rintro w Mut o ⟨_,_,h1⟩ b rfl
  exact h1
 start:=⟨_,_,TT _,λw Mut I N wd o p c hw ho _ hp hc=>YT n k bP hn hk w Mut I N wd o p c hw ho hp hc⟩
 step:=by
  intro w Mut B I N wd o T' x' p s hw ho hm _ hp hN hcn hB hOW hlv
  obtain⟨hP,h16,m1⟩:=ho
  have hB2:∀ b,B b->Mut b/\¬ cK I b:=λb hb=>⟨(hB b hb).1,(hB b hb).2.1⟩
  have hB3:∀ b,B b->Mut b/\¬ cK I b/\¬ b=bP:=hB
  have hWP:¬ cK I bP:=hOW bP rfl
  have hN2:N+1<1000000000:=hN
  have hPlt:=aC hP
  match s with
  | .rd s key=>
   obtain⟨rfl,b,bs,lv,kv,rfl,hbk,hb,hbs,hbne,hkv,hrow⟩:=hm
   obtain⟨hl1,hl2⟩:=hlv
   rcases hrow with⟨_,hsa,hlB⟩|⟨h9,_⟩
   case inr=>have:=hl1.1;omega
   refine⟨_,_,XB _,(Ig n k o hn w Mut I N wd b bs bP s lv kv hw hbk (hB2 b hb) (hB2 bs hbs) (λg hg=>⟨(hB3 g (hlB g hg).1).1,(hB3 g (hlB g hg).1).2.1,(hB3 g (hlB g hg).1).2.2,(hlB g hg).2.1,(hlB g hg).2.2⟩) hsa ⟨λe=>(hB3 b hb).2.2 e.symm,λe=>(hB3 bs hbs).2.2 e.symm,hbne⟩ hWP hP hl1 hl2 hcn).mono ?_⟩
   rintro e w' ⟨rfl,hc,lv',kv',hf,hbk',hsa',ho',hkk⟩
   have hnP:¬ (cK I bP∨bP=b∨bP=bs∨lv.ownBlock=some bP):=by
    rintro(h|h|h|h)
    ·exact hWP h
    ·exact(hB3 b hb).2.2 h.symm
    ·exact(hB3 bs hbs).2.2 h.symm
    ·exact(hB3 bP (hlB bP h).1).2.2 rfl
   have hch:Chg (λj=>cK I j∨(zG n k bP).OB j∨B j) w w':=hc.mono (λj _ h=>by
    rcases h with h|rfl|rfl|h
    ·exact .inl h
    ·exact .inr (.inr hb)
    ·exact .inr (.inr hbs)
    ·exact .inr (.inr (hlB j h).1))
   have hcM:∀ j,(cK I j∨j=b∨j=bs∨lv.ownBlock=some j)->Mut j:=by
    rintro j (h|rfl|rfl|h)
    ·exact hw.muts j h
    ·exact(hB3 _ hb).1
    ·exact(hB3 _ hbs).1
    ·exact(hB3 _ (hlB j h).1).1
   have obj:∀ B':Nat->Prop,w'.heap[bP]?=some (.cells (jB n k o).toArray 114 (0,0))/\o.length=16/\jE Mut B B' bP:=λB'=>⟨(hc.block bP hPlt hnP).trans hP,h16,.inl ⟨m1,λh=>(hB3 bP h).2.2 rfl⟩⟩
   by_cases h3:(bE n wd s).pc=3
   ·rw [if_pos h3] at hkk
    have hst:(aV n k).step o wd p (.rd s key)=(o,vQ wd s,.rd (bE n wd s) [2*(bE n wd s).moment,2*(wd.now:Int)],true):=by
     show(o,vQ wd s,SnS.rd (bE n wd s) (if (bE n wd s).pc=3 then _ else _),decide ((bE n wd s).pc=3))=_
     rw [if_pos h3,decide_eq_true h3];rfl
    unfold wX
    rw [hst,decide_eq_true h3]
    have hsub:∀ c,(c=b∨c=bs)->B c:=by
     rintro c (rfl|rfl)
     ·exact hb
     ·exact hbs
    have hlt:∀ c,(c=b∨c=bs)->c<w'.heap.size:=by
     rintro c (rfl|rfl)
     ·exact aC hbk'
     ·exact hsa'.blk.lt
    refine⟨rfl,hch,λc=>c=b∨c=bs,λc hc=>.inl (hsub c hc),hlt,MF hf (λc hc=>.inl (hsub c hc)) hlt hB2 hN2,obj _,rfl,b,bs,lv',kv',rfl,hbk',.inl rfl,.inr rfl,hbne,hkk.keep (S:=noB) (Chg.refl _ _) (λ_ h=>h.elim) (zN (λc hc=>.inl (hsub c hc)) (λb hb=>(hB3 b hb).1)),.inr ⟨h3,hsa'.blk,Gp hsa'.row ?_⟩⟩
    rintro g hg (⟨h5,h6⟩|h5)
    ·rcases(ho' g hg).1 with h|h
     ·exact h6 (hlB g h).1
     ·have:=hw.low g h5;omega
    ·rcases h5 with h5|h5
     ·exact(ho' g hg).2.2.1 h5
     ·exact(ho' g hg).2.1 h5
   ·rw [if_neg h3] at hkk
    subst hkk
    have hst:(aV n k).step o wd p (.rd s key)=(o,vQ wd s,.rd (bE n wd s) key,false):=by
     show(o,vQ wd s,SnS.rd (bE n wd s) (if (bE n wd s).pc=3 then _ else _),decide ((bE n wd s).pc=3))=_
     rw [if_neg h3,decide_eq_false h3];rfl
    unfold wX
    rw [hst,decide_eq_false h3]
    have hs:∀ c,(c=b∨c=bs∨lv'.ownBlock=some c)->B c∨w.heap.size<=c:=by
     rintro c (rfl|rfl|h)
     ·exact .inl hb
     ·exact .inl hbs
     ·exact((ho' c h).1).elim (λh=>.inl (hlB c h).1) .inr
    have hlt:∀ c,(c=b∨c=bs∨lv'.ownBlock=some c)->c<w'.heap.size:=by
     rintro c (rfl|rfl|h)
     ·exact aC hbk'
     ·exact hsa'.blk.lt
     ·exact(ho' c h).2.2.2
    refine⟨rfl,hch,λc=>c=b∨c=bs∨lv'.ownBlock=some c,hs,hlt,MF hf (λc hc=>?_) hlt hB2 hN2,obj _,rfl,b,bs,lv',kv',rfl,hbk',.inl rfl,.inr (.inl rfl),hbne,hkv.keep hc hcM (zN hs (λb hb=>(hB3 b hb).1)),.inl ⟨h3,hsa',λg hg=>⟨.inr (.inr hg),(ho' g hg).2.1,(ho' g hg).2.2.1⟩⟩⟩
    rcases hc with rfl|rfl|h
    ·exact .inl hb
    ·exact .inl hbs
    ·exact .inr h
  | .up s p' r nx v sc=>
   obtain⟨rfl,b,bs,lv,rfl,hbk,hb,hbs,hbne,hsa,hlB,hv⟩:=hm
   have hlM:∀ g,lv.ownBlock=some g->Mut g/\¬ cK I g/\g≠bP/\g≠bs/\g≠b:=λg hg=>⟨(hB3 g (hlB g hg).1).1,(hB3 g (hlB g hg).1).2.1,(hB3 g (hlB g hg).1).2.2,(hlB g hg).2.1,(hlB g hg).2.2⟩
   have hne:bP≠b/\bP≠bs/\b≠bs:=⟨λe=>(hB3 b hb).2.2 e.symm,λe=>(hB3 bs hbs).2.2 e.symm,hbne⟩
   match sc,nx with
   | false,nx=>
    exact⟨_,_,xR _,(Fg n k o hn w Mut I N wd b bs bP s lv p' r nx v hw hbk (hB2 b hb) (hB2 bs hbs) hlM hsa hne hWP hP hlv hcn).mono λe w' h=>Iy rfl hP h16 m1 hw.low hB3 hWP hb hbs hbne hlB hv hN2 h⟩
   | true,0=>
    exact⟨_,_,xR _,(Co w Mut I N wd b bs bP s lv p' r v hw hbk (hB2 b hb) (hB2 bs hbs) hlM hsa hne hv hcn).mono λe w' h=>Iy rfl hP h16 m1 hw.low hB3 hWP hb hbs hbne hlB hv hN2 h⟩
   | true,i+1=>
    obtain⟨g1,g2,g3,g4,g5⟩:=hlv
    by_cases hi:i+1<=n
    ·exact⟨_,_,xR _,(Ky n k o hn w Mut I N wd b bs bP s lv p' r i v hw hbk (hB2 b hb) (hB2 bs hbs) hlM hsa hne hP hWP hi g1 g2 hcn).mono λe w' h=>Iy (show(aV n k).step o wd p (.up s p' r (i+1) v true)=(o,eB wd (r+(i+1)) (s.list.getD i 0),.up s p' r (i+2) v true,false) from if_pos hi) hP h16 m1 hw.low hB3 hWP hb hbs hbne hlB hv hN2 h⟩
    ·refine⟨_,_,xR _,(Ml n k o hn h16 w Mut I N wd b bs bP s lv p' r i v hw hbk (hB2 b hb) (hB2 bs hbs) hlM hsa hne hP hWP m1 hi (by omega) g2 g4 g5 hN2 hcn).mono ?_⟩
     rintro e w' ⟨rfl,hc,hw',hbk',hsa',hP'⟩
     have hst:(aV n k).step o wd p (.up s p' r (i+1) v true)=(o.set p' (o.getD p' 0+1),eB (vU wd r s.moment) p' r,.up s p' r (i+2) v true,true):=if_neg hi
     unfold wX
     rw [hst]
     have hs:∀ c,(c=b∨c=bs∨lv.ownBlock=some c)->B c:=by
      rintro c (rfl|rfl|h)
      ·exact hb
      ·exact hbs
      ·exact(hlB c h).1
     refine⟨rfl,hc.mono (λj _ h=>?_),λc=>c=b∨c=bs∨lv.ownBlock=some c,λc hc=>.inl (hs c hc),λc hc=>hw'.low c (hB3 c (hs c hc)).1,?_,⟨hP',(List.length_set ..).trans h16,.inl ⟨m1,λh=>(hB3 bP h).2.2 rfl⟩⟩,rfl,b,bs,lv,rfl,hbk',.inl rfl,.inr (.inl rfl),hbne,hsa',λg hg=>⟨.inr (.inr hg),(hlB g hg).2.1,(hlB g hg).2.2⟩,hv⟩
     ·rcases h with h|rfl|rfl
      ·exact .inl h
      ·exact .inr (.inr hb)
      ·exact .inr (.inl rfl)
     ·refine hw'.keep (S:=noB) (Chg.refl _ _) (λ_ h=>h.elim) (λ_ h=>h.elim) (zN (λc hc=>.inl (hs c hc)) (λb hb=>(hB3 b hb).1)) ?_ ?_
      ·rintro c (⟨h,_⟩|h)
       ·exact hw'.low c h
       ·exact hw'.low c (hB3 c (hs c h)).1
      ·intro c hc
       by_cases hcB:B c
       ·exact absurd hc (hB3 c hcB).2.1
       ·exact .inl ⟨hw'.muts c hc,hcB⟩
 answer:=by
  intro w Mut B T' x' p s hm hd
  match s with
  | .up s p' r nx v sc=>
   obtain⟨rfl,b,bs,lv,rfl,h3,_⟩:=hm
   refine⟨_,_,SF _,(WN b w).mono ?_⟩
   rintro e' w' ⟨rfl,hb⟩
   exact⟨none,0,.slice none 0 0,rfl,fK.nil _ _,Lst.nil _ _,hb⟩
  | .rd s key=>
   obtain⟨rfl,b,bs,lv,kv,rfl,h3,h4,h5,h6,h7,h8⟩:=hm
   obtain⟨ka,kc,rfl⟩:∃ a c,kv=.slice a key.length c:=by obtain⟨a,c,e,_⟩:=h7;exact⟨a,c,e⟩
   rcases h8 with⟨e1,_⟩|⟨e1,e2,e3⟩
   ·exact absurd hd e1
   ·obtain⟨la,lc,rfl⟩:∃ a c,lv=.slice a s.list.length c:=by obtain⟨a,c,e,_⟩:=e3;exact⟨a,c,e⟩
    refine⟨_,_,SV _,(XW b bs s.list.length lc key.length kc la ka w h3 e2.list e2.lt).mono ?_⟩
    rintro e' w' ⟨rfl,hb⟩
    exact⟨la,lc,.slice ka key.length kc,rfl,e3.keep (S:=noB) (Chg.of_below hb) (λ_ h=>h.elim) (aN.refl _ _),h7.keep (S:=noB) (Chg.of_below hb) (λ_ h=>h.elim) (aN.refl _ _),hb⟩
 now:=by
  intro o wd p s
  match s with
  | .rd s key=>rfl
  | .up s p' r nx v false=>rfl
  | .up s p' r 0 v true=>rfl
  | .up s p' r (i+1) v true=>
   show((aV n k).step o wd p (.up s p' r (i+1) v true)).2.1.now=_
   by_cases h:i+1<=n
   ·rw [show(aV n k).step o wd p (.up s p' r (i+1) v true)=_ from if_pos h];rfl
   ·rw [show(aV n k).step o wd p (.up s p' r (i+1) v true)=_ from if_neg h];rfl
 cnt:=by
  intro o wd p s
  match s with
  | .rd s key=>exact GQ _ _
  | .up s p' r nx v false=>exact GQ _ _
  | .up s p' r 0 v true=>exact xP _ _ _
  | .up s p' r (i+1) v true=>
   show((aV n k).step o wd p (.up s p' r (i+1) v true)).2.1.mem.c.all<=_
   by_cases h:i+1<=n
   ·rw [show(aV n k).step o wd p (.up s p' r (i+1) v true)=_ from if_pos h];exact xP _ _ _
   ·rw [show(aV n k).step o wd p (.up s p' r (i+1) v true)=_ from if_neg h];exact xP _ _ _
 invStep:=λ_ _ _ _ _=>trivial
 invTick:=λ_ _ _=>trivial
 invBegin:=λ_ _ _ _=>trivial
 fin:=by
  intro o wd p s h
  match s with
  | .rd s key=>
   show(bE n wd s).pc=3
   exact of_decide_eq_true (p:=(bE n wd s).pc=3) h
  | .up s p' r nx v false=>trivial
  | .up s p' r 0 v true=>trivial
  | .up s p' r (i+1) v true=>
   show(zG n k bP).done ((aV n k).step o wd p (.up s p' r (i+1) v true)).2.2.1
   by_cases h:i+1<=n
   ·rw [show(aV n k).step o wd p (.up s p' r (i+1) v true)=_ from if_pos h];trivial
   ·rw [show(aV n k).step o wd p (.up s p' r (i+1) v true)=_ from if_neg h];trivial
theorem VV (n k bP:Nat):TB (zG n k bP) where
 late:=λ_ _ _ _=>rfl
 kind:=by
  intro w Mut B T' x' p s hm v u
  match s with
  | .rd s key=>
   obtain⟨rfl,_⟩:=hm
   exact Es _ u
  | .up s p' r nx v sc=>
   obtain⟨rfl,_⟩:=hm
   exact Eb _ u
end
end Go.Proofs.YtfkokppncipgnaaGreat
