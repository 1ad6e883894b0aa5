/- Layer 16: are two collects alike; whose record was noted before. -/
import Derived.Test.YtifhldnmcdbpfaaU24
set_option maxRecDepth 100000
set_option linter.unusedVariables false
set_option linter.unusedSimpArgs false
set_option linter.unnecessarySimpa false
namespace Go.Proofs.Ytifhldnmcdbpfaa
open List renaming getElem_toArray → zq1, getElem_cons_zero → zq2, getElem_cons_succ → zq3, setIfInBounds_toArray → zq4, set_cons_zero → zq5, set_cons_succ → zq6
section
open Go.RowKit
theorem qH (w:World) (a b:Option Addr) (ca cb:Nat) (l l':List Nat) (hl:aW w a l.length 1 (dY l)) (hl':aW w b l'.length 1 (dY l')) (h9:l.length<=1000000) (h9':l'.length<=1000000) :
  Calls Try.prog 174 #[.slice a l.length ca,.slice b l'.length cb] w λe w'=>e=.returned (.bool (decide (l=l')))/\Below w.heap.size w w':=by
 obtain⟨N,hN⟩:∃ N,N=l.length:=⟨_,rfl⟩
 obtain⟨N',hN'⟩:∃ N',N'=l'.length:=⟨_,rfl⟩
 rw [<-hN,<-hN']
 obtain⟨D,hDe⟩:∃ D,D=decide (l=l'):=⟨_,rfl⟩
 rw [<-hDe]
 by_cases hne:N=N'
 ·subst hne
  have e0:((N:Int) !=(N:Int))=false:=by simp
  have HL:=Lib.hid hl;have HL':=Lib.hid hl';have HN:=Lib.hid hN;have HN':=Lib.hid hN'
  have h99:N<=1000000:=by omega
  have HD:=Lib.hid hDe
  clear hDe hl hl' hN hN' h9 h9'
  go_enter Try.func174,Try.ntmps174
  go_upto_region 4 with fail
  go_loopw [13] (λi wr=>∃ k:Nat,k<=N/\i=.int .i64 (k:Int)/\(∀ j,j<k->l.getD j 0=l'.getD j 0)/\Below w.heap.size w wr) (λi _=>N - (intOf i).toNat)
  case atStart=>exact⟨0,Nat.zero_le _,rfl,λj hj=>absurd hj (Nat.not_lt_zero _),Gr.refl _⟩
  case round=>
   obtain⟨k,hk,rfl,heq,hb⟩:=hrel
   by_cases hlt:k<N
   ·have l1:(k:Int)<(N:Int):=by omega
    obtain⟨g,o,rfl,hg,hc⟩:=HL.out.2 k (by rw [<-HN.out];exact hlt)
    obtain⟨g',o',rfl,hg',hc'⟩:=HL'.out.2 k (by rw [<-HN'.out];exact hlt)
    obtain⟨x,hx⟩:∃ x,x=l.getD k 0:=⟨_,rfl⟩
    obtain⟨y,hy⟩:∃ y,y=l'.getD k 0:=⟨_,rfl⟩
    have y1:wr.cell? ⟨g,o+k,none⟩=some (.int .u64 (x:Int)):=by
     have h8:=hc 0 (by omega)
     rw [Nat.mul_one,Nat.add_zero] at h8
     rw [hx];exact(hb.cell (p:=⟨g,o+k,none⟩) hg).trans h8
    have y2:wr.cell? ⟨g',o'+k,none⟩=some (.int .u64 (y:Int)):=by
     have h8:=hc' 0 (by omega)
     rw [Nat.mul_one,Nat.add_zero] at h8
     rw [hy];exact(hb.cell (p:=⟨g',o'+k,none⟩) hg').trans h8
    by_cases hxy:x=y
    ·have e1:((x:Int) ==(y:Int))=true:=by simp [hxy]
     have e2:((x:Int) !=(y:Int))=false:=by simp [hxy]
     have e3:(x:Int)=(y:Int):=by omega
     have HE:=Lib.hid (show ∀ j,j<k+1->l.getD j 0=l'.getD j 0 from λj hj=>by
      rcases Nat.lt_or_ge j k with h8|h8
      ·exact heq j h8
      ·obtain rfl:j=k:=by omega
       rw [<-hx,<-hy];exact hxy)
     have Hb:=Lib.hid hb;have Hlt:=Lib.hid hlt
     clear heq hb hc hc' hx hy hxy hlt hg hg'
     go_upto_region 6 with fail
     go_quiet (fail)
     have hb2:Below w.heap.size w (wr.drewN nq):=below_drewN Hb.out nq
     have Hb2:=Lib.hid hb2
     clear hb2
     go_wp2
     go_roundw
     case rel=>exact⟨k+1,Hlt.out,by go_num,HE.out,Hb2.out⟩
     case measure=>(have:=Hlt.out;simp [intOf]<;>omega)
    ·have e1:((x:Int) ==(y:Int))=false:=by simp;omega
     have e2:((x:Int) !=(y:Int))=true:=by simp;omega
     have e3:¬ (x:Int)=(y:Int):=by omega
     have hD:D=false:=by rw [HD.out];simp;intro e;rw [e] at hx;exact hxy (hx.trans hy.symm)
     have HDf:=Lib.hid hD
     have Hb:=Lib.hid hb
     clear heq hb hc hc' hx hy hxy hlt hg hg' hD
     go_upto_region 6 with fail
     go_quiet (fail)
     have hb2:Below w.heap.size w (wr.drewN nq):=below_drewN Hb.out nq
     have Hb2:=Lib.hid hb2
     clear hb2
     go_wp2
     go_ret
     exact⟨by rw [HDf.out];rfl,Hb2.out⟩
   ·have l1:¬ (k:Int)<(N:Int):=by omega
    obtain rfl:k=N:=by omega
    have hD:D=true:=by
     rw [HD.out,decide_eq_true_iff]
     refine List.ext_getElem (by rw [<-HN.out,<-HN'.out]) (λi h1 h2=>?_)
     have h3:=heq i (by rw [HN.out];exact h1)
     rw [List.getD_eq_getElem?_getD,List.getElem?_eq_getElem h1,List.getD_eq_getElem?_getD,List.getElem?_eq_getElem h2] at h3
     exact h3
    have HDf:=Lib.hid hD
    have Hb:=Lib.hid hb
    clear heq hb hlt hD
    go_wp2
    go_ret
    exact⟨by rw [HDf.out];rfl,Hb.out⟩
 ·have e0:((N:Int) !=(N':Int))=true:=by simp;omega
  have e1:¬ (N:Int)=(N':Int):=by omega
  have hD:D=false:=by rw [hDe];simp;intro e;exact hne (by rw [hN,hN',e])
  have HDf:=Lib.hid hD
  clear hDe hl hl' hN hN' h9 h9' hne hD
  go_enter Try.func174,Try.ntmps174
  go_wp2
  go_ret
  exact⟨by rw [HDf.out];rfl,Gr.refl _⟩
theorem JP {d:List Nat} {x a:Nat} (hx:x<d.length) (ha:a≠0):tV (ntM d) (x:Int) (.int .u64 (a:Int))=ntM (d.set x a):=by
 funext k
 unfold tV ntM
 by_cases hk:k=(x:Int)
 ·subst hk
  rw [if_pos rfl,Int.toNat_natCast,aK hx,if_pos ⟨by omega,ha⟩]
 ·rw [if_neg hk]
  by_cases h0:0<=k
  ·rw [aO (by omega)]
  ·rw [if_neg (λh=>h0 h.1),if_neg (λh=>h0 h.1)]
theorem PE {d:List Nat} {x a:Nat} (hx:x<d.length) (ha:a≠0) (h0:d.getD x 0=0):ntN (d.set x a)=ntN d+1:=by
 unfold ntN
 rw [List.getD_eq_getElem?_getD,List.getElem?_eq_getElem hx] at h0
 have h0':d[x]=0:=h0
 rw [List.countP_set hx]
 simp [h0',ha]
theorem MuAt.note {w w':World} {b bP:Nat} {v:MuV} {s:MuD} (h:MuAt w b bP v s) {x a:Nat} (hx:x<16) (ha:a≠0) (h0:s.noted.getD x 0=0) (hm:MapOf (.int .u64 0) w' v.bN (ntN s.noted+1) (tV (ntM s.noted) (x:Int) (.int .u64 (a:Int)))) (hg:w.grownBy w' (some v.bN)):MuAt w' b bP v { s with noted:=s.noted.set x a }/\gQ w w' b v v:=by
 have hc:Chg (λg=>g=v.bN) w w':=(Chg.refl (λg=>g=v.bN) w).grown hg (λk e=>by cases e;exact .inl rfl)
 obtain⟨t1,t2,t3,t4,t5,t6,t7⟩:=h.ty
 obtain⟨a1,c,hrv,hrc,hs⟩:=h.rds
 have hxl:x<s.noted.length:=by rw [h.n16];exact hx
 refine⟨⟨(hc.block _ h.lt (λe=>t4 e.symm)).trans h.blk,h.old.chg hc (λg e e9=>t5 (by rw [<-e9];exact e)),h.now.chg hc (λg e e9=>t6 (by rw [<-e9];exact e)),h.lst.chg hc (λg e e9=>t7 (by rw [<-e9];exact e)),⟨a1,c,hrv,hrc,hs.chg hc (λg o e e9=>(h.s3 g (by rw [hrv,e];rfl)).2.1 e9)⟩,?_,by show(s.noted.set x a).length=16;rw [List.length_set];exact h.n16,h.nilO,h.nilR,h.s1,h.s2,λg e=>⟨(h.s3 g e).1,(h.s3 g e).2.1,Nat.lt_of_lt_of_le (h.s3 g e).2.2 hc.size⟩⟩,⟨hc.mono (λ_ _ e=>.inr (.inl e)),λ_ h=>.inl h⟩⟩
 show MapOf _ w' v.bN (ntN (s.noted.set x a)) (ntM (s.noted.set x a))
 rw [PE hxl ha h0,<-JP hxl ha]
 exact hm
end
section
open Go.RowKit
theorem yE (w:World):(zeroValue 40).run Try.prog w=.ok (.int .u64 0) w:=by kernel_rfl
def sZ (w w':World) (b bP:Nat) (v:MuV) (s:MuD) (r:List Nat×Option Nat) (e:Ending):Prop:=
 e=.returned (.tuple #[.int .u64 ((r.2.getD 0:Nat):Int),.bool r.2.isSome])/\MuAt w' b bP v { s with noted:=r.1 }/\gQ w w' b v v
set_option maxHeartbeats 8000000 in
theorem EF (n m q bU:Nat) (hm:1<=m) (dF:m<=16) (hq:1<=q) (dQ:q<=64) (w:World) (b bP:Nat) (v:MuV) (s:MuD) (h:MuAt w b bP v s) (hP:w.heap[bP]?=some (.cells (jM n m q bU) 89 (0,0))) (hbP:¬ MuB b v bP) (ho:s.old.length=m) (hn:s.now.length=m)
  (hlv:∀ k,k<m->s.old.getD k 0≠s.now.getD k 0->m<=s.now.getD k 0/\s.now.getD k 0<=1000000/\aX m q (s.now.getD k 0)<16) :
  Calls Try.prog 175 #[.pointer (some ⟨b,0,none⟩)] w λe w'=>sZ w w' b bP v s (fU m q s.old s.now m 0 s.noted) e:=by
 obtain⟨S,hS⟩:∃ S,S=fU m q s.old s.now m 0 s.noted:=⟨_,rfl⟩
 rw [<-hS]
 obtain⟨og,oc,hov,_,_,_⟩:=h.old.at (i:=0) (by omega)
 obtain⟨ng,nc,hnv,_,_,_⟩:=h.now.at (i:=0) (by omega)
 rw [ho] at hov
 rw [hn] at hnv
 have y0:w.cell? ⟨b,0,none⟩=some (.pointer (some ⟨bP,0,none⟩)):=h.get 0
 have y2:w.cell? ⟨b,2,none⟩=some (.slice (some ⟨ng,0,none⟩) m nc):=(h.get 2).trans (by rw [<-hnv];rfl)
 have HS:=Lib.hid hS;have HM:=Lib.hid h;have HP:=Lib.hid hP;have HbP:=Lib.hid hbP;have Ho:=Lib.hid ho;have Hn:=Lib.hid hn;have Hlv:=Lib.hid hlv;have Hov:=Lib.hid hov;have Hnv:=Lib.hid hnv
 clear hS h hP hbP ho hn hlv hov hnv
 go_enter Try.func175,Try.ntmps175
 go_upto_region 2 with fail
 clear y2
 go_loopw [14] (λi wr=>∃(k:Nat) (d:List Nat),i=.int .i64 (k:Int)/\k<=m/\MuAt wr b bP v { s with noted:=d }/\gQ w wr b v v/\S=fU m q s.old s.now (m - k) k d) (λi _=>m - (intOf i).toNat)
 case atStart=>exact⟨0,s.noted,rfl,Nat.zero_le _,HM.out,gQ.refl _ _ _,HS.out⟩
 case round=>
  obtain⟨k,d,rfl,hk,hM,hto,hs⟩:=hrel
  clear HM HS
  by_cases hlt:k<m
  ·have l1:(k:Int)<(m:Int):=by omega
   obtain⟨j,hj⟩:∃ j,m - k=j+1:=⟨m - k - 1,by omega⟩
   have hst:S=if s.old.getD k 0=s.now.getD k 0 then fU m q s.old s.now j (k+1) d
    else if d.getD (aX m q (s.now.getD k 0)) 0≠0 then (d,some (max (s.now.getD k 0) (d.getD (aX m q (s.now.getD k 0)) 0)))
    else fU m q s.old s.now j (k+1) (d.set (aX m q (s.now.getD k 0)) (s.now.getD k 0)):=by rw [hs,hj];rfl
   have hj2:m - (k+1)=j:=by omega
   obtain⟨_,_,e1,x1,_,_⟩:=hM.old.at (i:=k) (by show k<s.old.length;rw [Ho.out];exact hlt)
   obtain⟨_,_,e2,x2,_,_⟩:=hM.now.at (i:=k) (by show k<s.now.length;rw [Hn.out];exact hlt)
   have e1':=Hov.out.symm.trans e1
   have e2':=Hnv.out.symm.trans e2
   obtain rfl:=(Addr.mk.inj (Option.some.inj (Value.slice.inj e1').1)).1
   obtain rfl:=(Addr.mk.inj (Option.some.inj (Value.slice.inj e2').1)).1
   clear e1' e2' e1 e2
   have z0:wr.cell? ⟨b,0,none⟩=some (.pointer (some ⟨bP,0,none⟩)):=hM.get 0
   have z1:wr.cell? ⟨b,1,none⟩=some (.slice (some ⟨og,0,none⟩) m oc):=(hM.get 1).trans (by rw [<-Hov.out];rfl)
   have z4:wr.cell? ⟨b,4,none⟩=some (.map (some v.bN)):=hM.get 4
   obtain⟨x,hx⟩:∃ x,x=s.old.getD k 0:=⟨_,rfl⟩
   obtain⟨a,ha⟩:∃ a,a=s.now.getD k 0:=⟨_,rfl⟩
   rw [show({ s with noted:=d }:MuD).old.getD k 0=s.old.getD k 0 from rfl,<-hx] at x1
   rw [show({ s with noted:=d }:MuD).now.getD k 0=s.now.getD k 0 from rfl,<-ha] at x2
   rw [<-hx,<-ha] at hst
   have Hlt:=Lib.hid hlt;have Hj2:=Lib.hid hj2
   by_cases hxa:x=a
   ·have d1:((x:Int) ==(a:Int))=true:=by simp [hxa]
    have d2:(x:Int)=(a:Int):=by omega
    rw [if_pos hxa] at hst
    have HM:=Lib.hid hM;have Hto:=Lib.hid hto;have Hst:=Lib.hid hst
    clear hM hto hst hs hj hj2 hx ha hlt hk
    go_wp2
    go_roundw
    case rel=>exact⟨k+1,d,by go_num,Hlt.out,HM.out,Hto.out,by rw [Hj2.out];exact Hst.out⟩
    case measure=>(have:=Hlt.out;simp [intOf]<;>omega)
   ·have d1:((x:Int) ==(a:Int))=false:=by simp;omega
    have d2:¬ (x:Int)=(a:Int):=by omega
    rw [if_neg hxa] at hst
    obtain⟨g1,g2,g3⟩:=Hlv.out k hlt (by rw [<-hx,<-ha];exact hxa)
    rw [<-ha] at g1 g2 g3
    have hPr:wr.heap[bP]?=_:=(hto.chg.block _ (aH HP.out) HbP.out).trans HP.out
    have WC:=AJ bP n m q bU a hm dF hq dQ g1 g2 wr hPr
    obtain⟨t,ht⟩:∃ t,t=aX m q a:=⟨_,rfl⟩
    rw [<-ht] at WC g3 hst
    obtain⟨y,hy⟩:∃ y,y=d.getD t 0:=⟨_,rfl⟩
    rw [<-hy] at hst
    have wt:IntKind.i64.wrap (t:Int)=(t:Int):=by rw [IntKind.wrap_i64];omega
    have hkey:(Lit.int .i64 (t:Int)).wf=true:=RO (by omega)
    have a0:a≠0:=by omega
    have MU:=λ(u:World) (hu:Below wr.heap.size wr u)=>hM.grown hu
    by_cases hy0:y=0
    ·have em:ntM d (t:Int)=none:=by
      unfold ntM
      rw [if_neg (λh=>h.2 (by rw [Int.toNat_natCast,<-hy];exact hy0))]
     have LK:=Lib.hid (λ(u:World) (hu:Below wr.heap.size wr u)=>(show(Instr.lookup 227 (.map (some v.bN)) (.int .i64 (t:Int)) true).run Try.prog u=.ok (.tuple #[.int .u64 0,.bool false]) u from by
      have h9:=(MU u hu).nt.lookOk (T:=227) (e:=40) Try.underlying227 (yE u) hkey
      rw [show({ s with noted:=d }:MuD).noted=d from rfl,em] at h9
      exact h9))
     rw [if_neg (by simp [hy0])] at hst
     have hxl:t<d.length:=by have:=hM.n16;have e:d.length=16:=this;omega
     have hnl:ntN d<maxLen:=by
      have h8:ntN d<=d.length:=List.countP_le_length
      have e:d.length=16:=hM.n16
      unfold maxLen;omega
     have PUT:=Lib.hid (λ(u u':World) (hu:Below wr.heap.size wr u) (VR:MapOf (.int .u64 0) u' v.bN (ntN d+1) (tV (ntM d) (t:Int) (.int .u64 (a:Int)))) (VB:u.grownBy u' (some v.bN))=>(MU u hu).note (x:=t) (a:=a) g3 a0 (by show d.getD t 0=0;rw [<-hy];exact hy0) VR VB)
     have MP:=Lib.hid (λ(u:World) (hu:Below wr.heap.size wr u)=>(show MapOf (.int .u64 0) u v.bN (ntN d) (ntM d) from(MU u hu).nt))
     have HB:=Lib.hid hM.blk
     have Hto:=Lib.hid hto;have Hst:=Lib.hid hst;have HW:=Lib.hid WC
     have lb:=hM.lt
     clear hM hto hst hs hj hj2 hx ha hlt hk WC hy hy0 em MU hxl hPr ht g1 g2 g3 hxa
     go_wp2_with (first|(go_at_call 128;refine HW.out.mono ?_;rintro e w5 ⟨rfl,hb5⟩;have lk:=LK.out w5 hb5;have z0':=(hb5.cell (p:=⟨b,0,none⟩) lb).trans z0;have z4':=(hb5.cell (p:=⟨b,4,none⟩) lb).trans z4)|(refine vJ _ (T:=227) (e:=40) Try.underlying227 rfl _ _ _ rfl (.int .u64 0) v.bN (ntN d) (ntM d) rfl (MP.out w5 hb5) hnl (t:Int) (.int .u64 (a:Int)) rfl rfl hkey ?_;intro w6 ZV yN;have hP6:=Lib.hid (PUT.out w5 w6 hb5 ZV yN)))
     go_roundw
     case rel=>exact⟨k+1,d.set t a,by go_num,Hlt.out,hP6.out.1,(Hto.out.trans ⟨Chg.of_below (hb5.mono (Nat.le_refl _)),λ_ h=>.inl h⟩).trans hP6.out.2,by rw [Hj2.out];exact Hst.out⟩
     case measure=>(have:=Hlt.out;simp [intOf]<;>omega)
    ·have em:ntM d (t:Int)=some (.int .u64 (y:Int)):=by
      unfold ntM
      rw [Int.toNat_natCast,<-hy,if_pos ⟨by omega,hy0⟩]
     have LK:=Lib.hid (λ(u:World) (hu:Below wr.heap.size wr u)=>(show(Instr.lookup 227 (.map (some v.bN)) (.int .i64 (t:Int)) true).run Try.prog u=.ok (.tuple #[.int .u64 (y:Int),.bool true]) u from by
      have h9:=(MU u hu).nt.lookOk (T:=227) (e:=40) Try.underlying227 (yE u) hkey
      rw [show({ s with noted:=d }:MuD).noted=d from rfl,em] at h9
      exact h9))
     rw [if_pos hy0] at hst
     have F:=Lib.hid (λ(u:World) (hu:Below wr.heap.size wr u) (x9:Int) (TA:x9=max (a:Int) (y:Int))=>(show sZ w u b bP v s S (.returned (.tuple #[.int .u64 x9,.bool true])) from by
      rw [hst]
      refine⟨?_,MU u hu,hto.trans ⟨Chg.of_below hu,λ_ h=>.inl h⟩⟩
      show _=Ending.returned (.tuple #[.int .u64 ((max a y:Nat):Int),.bool true])
      rw [TA,show((max a y:Nat):Int)=max (a:Int) (y:Int) by omega]))
     have HW:=Lib.hid WC
     have lb:=hM.lt
     clear hM hto hst hs hj hj2 hx ha hlt hk WC hy hy0 em MU hPr ht g1 g2 g3 hxa
     go_wp2_with (go_at_call 128;refine HW.out.mono ?_;rintro e w5 ⟨rfl,hb5⟩;have lk:=LK.out w5 hb5;have z0':=(hb5.cell (p:=⟨b,0,none⟩) lb).trans z0;have z4':=(hb5.cell (p:=⟨b,4,none⟩) lb).trans z4)
     all_goals
      (first|go_ret2|go_ret)
      exact F.out _ hb5 _ (by omega)
  ·have l1:¬ (k:Int)<(m:Int):=by omega
   have hst:S=(d,none):=by rw [hs,show m - k=0 by omega];rfl
   have F:=Lib.hid (show sZ w wr b bP v s S (.returned (.tuple #[.int .u64 0,.bool false])) from by rw [hst];exact⟨rfl,hM,hto⟩)
   clear hM hto hs hlt hk hst
   go_wp2
   (first|go_ret2|go_ret)
   exact F.out
end
section
open Go.RowKit
theorem gQ.grown {w w':World} {b:Nat} {v:MuV} (hb:Below w.heap.size w w'):gQ w w' b v v:=⟨Chg.of_below hb,λ_ h=>.inl h⟩
theorem MuAt.shift {w:World} {b bP:Nat} {v:MuV} {s:MuD} (h:MuAt w b bP v s) (T:Nat) (hn:s.now≠[]):MuAt (((w.setCell ⟨b,1,none⟩ v.nv).setCell ⟨b,3,none⟩ (.int .i64 (T:Int))).setCell ⟨b,2,none⟩ (.slice none 0 0)) b bP { v with ov:=v.nv,nv:=.slice none 0 0 } { s with old:=s.now,last:=T,now:=[] }/\
  gQ w (((w.setCell ⟨b,1,none⟩ v.nv).setCell ⟨b,3,none⟩ (.int .i64 (T:Int))).setCell ⟨b,2,none⟩ (.slice none 0 0)) b v { v with ov:=v.nv,nv:=.slice none 0 0 }:=by
 obtain⟨w9,kL⟩:∃ w9,w9=((w.setCell ⟨b,1,none⟩ v.nv).setCell ⟨b,3,none⟩ (.int .i64 (T:Int))).setCell ⟨b,2,none⟩ (.slice none 0 0):=⟨_,rfl⟩
 rw [<-kL]
 have hc:Chg (λg=>g=b) w w9:=by
  rw [kL]
  exact(((Chg.refl (λg=>g=b) w).setCell (p:=⟨b,1,none⟩) (.inl rfl) _).setCell (p:=⟨b,3,none⟩) (.inl rfl) _).setCell (p:=⟨b,2,none⟩) (.inl rfl) _
 obtain⟨t1,t2,t3,t4,t5,t6,t7⟩:=h.ty
 obtain⟨a,c,hrv,hrc,hs⟩:=h.rds
 refine⟨⟨?_,h.now.chg hc (λg e e9=>t2 (by rw [<-e9];exact e)),gN.nil _,h.lst.chg hc (λg e e9=>t3 (by rw [<-e9];exact e)),⟨a,c,hrv,hrc,hs.chg hc (λg o e e9=>(h.s3 g (by rw [hrv,e];rfl)).1 e9)⟩,h.nt.block (hc.block _ h.nt.lt t4),h.n16,λe=>absurd e hn,h.nilR,(λg e=>by cases e),λg e=>⟨λe9=>(h.s1 g e9).2.1 e,(h.s2 g e).2⟩,λg e=>⟨(h.s3 g e).1,(h.s3 g e).2.1,Nat.lt_of_lt_of_le (h.s3 g e).2.2 hc.size⟩⟩,⟨hc.mono (λ_ _ e=>.inl e),λj hj=>.inl ?_⟩⟩
 ·rw [kL,aG (aG (aG h.blk _ _) _ _)];rfl
 ·rcases hj with e|e|e|e|e|e
  ·exact .inl e
  ·exact .inr (.inl e)
  ·exact .inr (.inr (.inr (.inl e)))
  ·cases e
  ·exact .inr (.inr (.inr (.inr (.inl e))))
  ·exact .inr (.inr (.inr (.inr (.inr e))))
theorem fE (a:Option Addr) (n c:Nat) (u:World):(binOp .eql 28 (.slice a n c) (.slice none 0 0)).run Try.prog u=.ok (.bool a.isNone) u:=Lib.run_eql_slice_nil u _ 40 _ _ _ _ _ Try.underlying28
set_option maxHeartbeats 4000000 in
theorem zB (m q:Nat) (w:World) (b bP bW T:Nat) (v:MuV) (s:MuD) (wd:WD) (h:MuAt w b bP v s) (hT:wd.now=T) (hW:w.cell? ⟨bW,1,none⟩=some (.int .i64 (T:Int))) (hbW:bW≠b) (ho:s.old=[]) (hn:s.now≠[]) :
  Calls Try.prog 173 #[.pointer (some ⟨b,0,none⟩),.pointer (some ⟨bW,0,none⟩)] w λe w'=>nD w w' b bP v (dH m q wd s) e:=by
 have hmw:dH m q wd s={ s with old:=s.now,last:=T,now:=[] }:=by unfold dH;rw [if_pos ho,hT]
 rw [hmw]
 have hov:=h.nilO ho
 have y1:w.cell? ⟨b,1,none⟩=some (.slice none 0 0):=(h.get 1).trans (by rw [<-hov];rfl)
 have y2:w.cell? ⟨b,2,none⟩=some v.nv:=h.get 2
 have y3:w.cell? ⟨b,3,none⟩=some (.int .i64 (s.last:Int)):=h.get 3
 have f1:=h.frozen 1
 have f2:=h.frozen 2
 have f3:=h.frozen 3
 have lb:=h.lt
 obtain⟨A,C⟩:=h.shift T hn
 have F:=Lib.hid (show nD w (((w.setCell ⟨b,1,none⟩ v.nv).setCell ⟨b,3,none⟩ (.int .i64 (T:Int))).setCell ⟨b,2,none⟩ (.slice none 0 0)).drew b bP v { s with old:=s.now,last:=T,now:=[] } (.returned (.tuple #[])) from⟨rfl,_,A.grown (Gr.refl _).drew,C.trans (gQ.grown (Gr.refl _).drew)⟩)
 obtain⟨na,nc,hnv⟩:=h.now.form
 obtain⟨N,hN⟩:∃ N,N=s.now.length:=⟨_,rfl⟩
 rw [<-hN] at hnv
 rw [hnv] at y2 F
 have k2:(w.setCell ⟨b,1,none⟩ (.slice na N nc)).cell? ⟨b,2,none⟩=some (.slice na N nc):=by rw [World.cell?_setCell_other _ _ _ _ (by simp)];exact y2
 have kW:(w.setCell ⟨b,1,none⟩ (.slice na N nc)).cell? ⟨bW,1,none⟩=some (.int .i64 (T:Int)):=by rw [World.cell?_setCell_other _ _ _ _ (by simp [hbW])];exact hW
 have j2:((w.setCell ⟨b,1,none⟩ (.slice na N nc)).setCell ⟨b,3,none⟩ (.int .i64 (T:Int))).cell? ⟨b,2,none⟩=some (.slice na N nc):=by rw [World.cell?_setCell_other _ _ _ _ (by simp)];exact k2
 have jW:((w.setCell ⟨b,1,none⟩ (.slice na N nc)).setCell ⟨b,3,none⟩ (.int .i64 (T:Int))).cell? ⟨bW,1,none⟩=some (.int .i64 (T:Int)):=by rw [World.cell?_setCell_other _ _ _ _ (by simp [hbW])];exact kW
 have hnn:=fE none 0 0
 clear h hov A C hnv hN ho hn hmw hT hbW
 go_enter Try.func173,Try.ntmps173
 go_upto_region 17 with fail
 refine fC ((λu=>u.cell? ⟨b,2,none⟩=some (.slice na N nc)/\u.cell? ⟨bW,1,none⟩=some (.int .i64 (T:Int)))) 19 (by kernel_rfl) ?hS0L1 ?_
 case hS0L1=>
  (try dsimp only)
  (first|exact⟨y2,hW⟩|exact⟨k2,kW⟩|exact⟨j2,jW⟩)
 intro hS hcl
 refine aD (i:=0) (v:=?tv0L1) 20 rfl (by kernel_rfl) (by kernel_rfl) (by kernel_rfl) (by kernel_rfl) (by kernel_rfl) hcl (by first|exact λ_ _ _ h=>h|exact λ_ _ _ h=>HQp.out _ _ _ _ h) (Or.inl ⟨by rfl,?th0L1⟩) hS ?tr0L1
 (case th0L1=>(intro w hSw;(try dsimp only at hSw);go_simp;try with_reducible rfl))
 clear hcl;intro hcl
 (try simp only [Act.put,zs])
 refine aD (i:=1) (v:=?tv1L1) 20 rfl (by kernel_rfl) (by kernel_rfl) (by kernel_rfl) (by kernel_rfl) (by kernel_rfl) hcl (by first|exact λ_ _ _ h=>h|exact λ_ _ _ h=>HQp.out _ _ _ _ h) (Or.inl ⟨by rfl,?th1L1⟩) hS ?tr1L1
 (case th1L1=>(intro w hSw;(try dsimp only at hSw);go_simp;try with_reducible rfl))
 clear hcl;intro hcl
 (try simp only [Act.put,zs])
 refine aD (i:=2) (v:=?tv2L1) 20 rfl (by kernel_rfl) (by kernel_rfl) (by kernel_rfl) (by kernel_rfl) (by kernel_rfl) hcl (by first|exact λ_ _ _ h=>h|exact λ_ _ _ h=>HQp.out _ _ _ _ h) (Or.inl ⟨by rfl,?th2L1⟩) hS ?tr2L1
 (case th2L1=>(intro w hSw;(try dsimp only at hSw);go_simp;try with_reducible rfl))
 clear hcl;intro hcl
 (try simp only [Act.put,zs])
 refine aD (i:=3) (v:=?tv3L1) 20 rfl (by kernel_rfl) (by kernel_rfl) (by kernel_rfl) (by kernel_rfl) (by kernel_rfl) hcl (by first|exact λ_ _ _ h=>h|exact λ_ _ _ h=>HQp.out _ _ _ _ h) (Or.inl ⟨by rfl,?th3L1⟩) hS ?tr3L1
 (case th3L1=>(intro w hSw;(try dsimp only at hSw);go_simp;try with_reducible rfl))
 clear hcl;intro hcl
 (try simp only [Act.put,zs])
 refine aD (i:=4) (v:=?tv4L1) 20 rfl (by kernel_rfl) (by kernel_rfl) (by kernel_rfl) (by kernel_rfl) (by kernel_rfl) hcl (by first|exact λ_ _ _ h=>h|exact λ_ _ _ h=>HQp.out _ _ _ _ h) (Or.inl ⟨by rfl,?th4L1⟩) hS ?tr4L1
 (case th4L1=>(intro w hSw;(try dsimp only at hSw);go_simp;try with_reducible rfl))
 clear hcl;intro hcl
 (try simp only [Act.put,zs])
 refine aD (i:=5) (v:=?tv5L1) 20 rfl (by kernel_rfl) (by kernel_rfl) (by kernel_rfl) (by kernel_rfl) (by kernel_rfl) hcl (by first|exact λ_ _ _ h=>h|exact λ_ _ _ h=>HQp.out _ _ _ _ h) (Or.inl ⟨by rfl,?th5L1⟩) hS ?tr5L1
 (case th5L1=>(intro w hSw;(try dsimp only at hSw);go_simp;try with_reducible rfl))
 clear hcl;intro hcl
 (try simp only [Act.put,zs])
 refine aD (i:=6) (v:=?tv6L1) 20 rfl (by kernel_rfl) (by kernel_rfl) (by kernel_rfl) (by kernel_rfl) (by kernel_rfl) hcl (by first|exact λ_ _ _ h=>h|exact λ_ _ _ h=>HQp.out _ _ _ _ h) (Or.inl ⟨by rfl,?th6L1⟩) hS ?tr6L1
 (case th6L1=>(intro w hSw;(try dsimp only at hSw);go_simp;try with_reducible rfl))
 clear hcl;intro hcl
 (try simp only [Act.put,zs])
 refine aD (i:=7) (v:=?tv7L1) 20 rfl (by kernel_rfl) (by kernel_rfl) (by kernel_rfl) (by kernel_rfl) (by kernel_rfl) hcl (by first|exact λ_ _ _ h=>h|exact λ_ _ _ h=>HQp.out _ _ _ _ h) (Or.inl ⟨by rfl,?th7L1⟩) hS ?tr7L1
 (case th7L1=>(intro w hSw;(try dsimp only at hSw);go_simp;try with_reducible rfl))
 clear hcl;intro hcl
 (try simp only [Act.put,zs])
 refine aD (i:=8) (v:=?tv8L1) 20 rfl (by kernel_rfl) (by kernel_rfl) (by kernel_rfl) (by kernel_rfl) (by kernel_rfl) hcl (by first|exact λ_ _ _ h=>h|exact λ_ _ _ h=>HQp.out _ _ _ _ h) (Or.inl ⟨by rfl,?th8L1⟩) hS ?tr8L1
 (case th8L1=>(intro w hSw;(try dsimp only at hSw);go_simp;try with_reducible rfl))
 clear hcl;intro hcl
 (try simp only [Act.put,zs])
 refine aD (i:=9) (v:=?tv9L1) 20 rfl (by kernel_rfl) (by kernel_rfl) (by kernel_rfl) (by kernel_rfl) (by kernel_rfl) hcl (by first|exact λ_ _ _ h=>h|exact λ_ _ _ h=>HQp.out _ _ _ _ h) (Or.inl ⟨by rfl,?th9L1⟩) hS ?tr9L1
 (case th9L1=>(intro w hSw;(try dsimp only at hSw);go_simp;try with_reducible rfl))
 clear hcl;intro hcl
 (try simp only [Act.put,zs])
 refine aD (i:=10) (v:=?tv10L1) 20 rfl (by kernel_rfl) (by kernel_rfl) (by kernel_rfl) (by kernel_rfl) (by kernel_rfl) hcl (by first|exact λ_ _ _ h=>h|exact λ_ _ _ h=>HQp.out _ _ _ _ h) (Or.inl ⟨by rfl,?th10L1⟩) hS ?tr10L1
 (case th10L1=>(intro w hSw;(try dsimp only at hSw);go_simp;try with_reducible rfl))
 clear hcl;intro hcl
 (try simp only [Act.put,zs])
 refine aM (i:=11) (by kernel_rfl) rfl hcl (λK' hK=>?_)
 have HK:=Lib.hid hK;clear hK
 ((rw [if_pos (by kernel_rfl)]);(try simp only [zq1,zq2,zq3]);first|go_big_move|go_big_op)
 refine HK.out _ _ ?hS11L1 (λhcl=>?_)
 case hS11L1=>
  intro _
  (try dsimp only)
  (first|exact⟨y2,hW⟩|exact⟨k2,kW⟩|exact⟨j2,jW⟩)
 clear HK
 (try simp only [Act.put,zs])
 refine aM (i:=12) (by kernel_rfl) rfl hcl (λK' hK=>?_)
 have HK:=Lib.hid hK;clear hK
 ((rw [if_pos (by kernel_rfl)]);(try simp only [zq1,zq2,zq3]);first|go_big_move|go_big_op)
 refine HK.out _ _ ?hS12L1 (λhcl=>?_)
 case hS12L1=>
  intro _
  (try dsimp only)
  (first|exact⟨y2,hW⟩|exact⟨k2,kW⟩|exact⟨j2,jW⟩)
 clear HK
 (try simp only [Act.put,zs])
 refine aM (i:=13) (by kernel_rfl) rfl hcl (λK' hK=>?_)
 have HK:=Lib.hid hK;clear hK
 ((rw [if_pos (by kernel_rfl)]);(try simp only [zq1,zq2,zq3]);first|go_big_move|go_big_op)
 refine HK.out _ _ ?hS13L1 (λhcl=>?_)
 case hS13L1=>
  intro _
  (try dsimp only)
  (first|exact⟨y2,hW⟩|exact⟨k2,kW⟩|exact⟨j2,jW⟩)
 clear HK
 (try simp only [Act.put,zs])
 refine aM (i:=14) (by kernel_rfl) rfl hcl (λK' hK=>?_)
 have HK:=Lib.hid hK;clear hK
 ((rw [if_pos (by kernel_rfl)]);(try simp only [zq1,zq2,zq3]);first|go_big_move|go_big_op)
 refine HK.out _ _ ?hS14L1 (λhcl=>?_)
 case hS14L1=>
  intro _
  (try dsimp only)
  (first|exact⟨y2,hW⟩|exact⟨k2,kW⟩|exact⟨j2,jW⟩)
 clear HK
 (try simp only [Act.put,zs])
 refine aM (i:=15) (by kernel_rfl) rfl hcl (λK' hK=>?_)
 have HK:=Lib.hid hK;clear hK
 ((rw [if_pos (by kernel_rfl)]);(try simp only [zq1,zq2,zq3]);first|go_big_move|go_big_op)
 refine HK.out _ _ ?hS15L1 (λhcl=>?_)
 case hS15L1=>
  intro _
  (try dsimp only)
  (first|exact⟨y2,hW⟩|exact⟨k2,kW⟩|exact⟨j2,jW⟩)
 clear HK
 (try simp only [Act.put,zs])
 refine aM (i:=16) (by kernel_rfl) rfl hcl (λK' hK=>?_)
 have HK:=Lib.hid hK;clear hK
 ((rw [if_pos (by kernel_rfl)]);(try simp only [zq1,zq2,zq3]);first|go_big_move|go_big_op)
 refine HK.out _ _ ?hS16L1 (λhcl=>?_)
 case hS16L1=>
  intro _
  (try dsimp only)
  (first|exact⟨y2,hW⟩|exact⟨k2,kW⟩|exact⟨j2,jW⟩)
 clear HK
 (try simp only [Act.put,zs])
 refine aM (i:=17) (by kernel_rfl) rfl hcl (λK' hK=>?_)
 have HK:=Lib.hid hK;clear hK
 ((rw [if_pos (by kernel_rfl)]);(try simp only [zq1,zq2,zq3]);first|go_big_move|go_big_op)
 refine HK.out _ _ ?hS17L1 (λhcl=>?_)
 case hS17L1=>
  intro _
  (try dsimp only)
  (first|exact⟨y2,hW⟩|exact⟨k2,kW⟩|exact⟨j2,jW⟩)
 clear HK
 (try simp only [Act.put,zs])
 refine aM (i:=18) (by kernel_rfl) rfl hcl (λK' hK=>?_)
 have HK:=Lib.hid hK;clear hK
 ((rw [if_pos (by kernel_rfl)]);(try simp only [zq1,zq2,zq3]);first|go_big_move|go_big_op)
 refine HK.out _ _ ?hS18L1 (λhcl=>?_)
 case hS18L1=>
  intro _
  (try dsimp only)
  (first|exact⟨y2,hW⟩|exact⟨k2,kW⟩|exact⟨j2,jW⟩)
 clear HK
 (try simp only [Act.put,zs])
 refine aM (i:=19) (by kernel_rfl) rfl hcl (λK' hK=>?_)
 have HK:=Lib.hid hK;clear hK
 ((rw [if_pos (by kernel_rfl)]);(try simp only [zq1,zq2,zq3]);first|go_big_move|go_big_op)
 refine HK.out _ _ (λh=>by cases h.symm.trans (by kernel_rfl:_=true)) (λ_=>fD (by kernel_rfl) ?_ _)
 clear HK
 (try clear hS)
 (first|go_end0|((try simp only [Exit.inBlock,Exit.then]);refine bodyPost_ret (results_none rfl _ _ _) rfl ?_))
 exact F.out
end
end Go.Proofs.Ytifhldnmcdbpfaa
