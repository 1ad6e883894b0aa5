/- Layer 15: a scan's parts: to pass values that are 0. -/
import Derived.Test.YtfkokppncipgnaaGreatW35
import Derived.Deep.AppendLies
set_option maxRecDepth 100000
set_option linter.unusedVariables false
set_option linter.unusedSimpArgs false
set_option linter.unnecessarySimpa false
namespace Go.Proofs.YtfkokppncipgnaaGreat
section
open Go.RowKit
theorem IM (n:Nat):∀(m:Nat) (s:ScD),s.at_<=n->n<=s.at_+m->dI n m s=dI n (n - s.at_) s
 | 0,s,h1,h2=>by rw [show n - s.at_=0 by omega]
 | m+1,s,h1,h2=>by
  by_cases hc:s.at_<n/\s.now.getD s.at_ 0=0
  ·rw [show n - s.at_=(n - (s.at_+1))+1 by omega]
   unfold dI
   rw [if_pos hc,if_pos hc]
   exact IM n m { s with list:=s.list++[0],at_:=s.at_+1 } (by show s.at_+1<=n;omega) (by show n<=s.at_+1+m;omega)
  ·have e1:dI n (m+1) s={ s with pc:=if s.at_=n then 3 else s.pc }:=by unfold dI;rw [if_neg hc]
   rw [e1]
   cases hk:n - s.at_ with
   | zero=>rfl
   | succ k=>unfold dI;rw [if_neg hc]
def jB (n k:Nat) (o:List Nat):List Value:=.int .i64 0::.int .i64 (n:Int)::.int .i64 (k:Int)::o.map gD
structure OT (w wr:World) (b bP:Nat) (lv:Value) (s:ScD) (lv':Value):Prop where
 blk:aR wr b bP s lv'
 row:wr.ownsRow 0 46 1 lv' s.list.length (s.list.map bI)
 chg:Chg (λk=>k=b∨lv.ownBlock=some k) w wr
 own:∀ g,lv'.ownBlock=some g->(lv.ownBlock=some g∨w.heap.size<=g)/\g≠b/\g<wr.heap.size
def scM (b n:Nat) (w:World):Nat:=match w.cell? ⟨b,2,none⟩ with|some (.int _ v)=>n - v.toNat|_=>0
def TD (w w':World) (b bP:Nat) (lv:Value) (s:ScD) (e:Ending):Prop:=e=.returned (.tuple #[])/\∃ lv',OT w w' b bP lv s lv'
theorem OT.lv {w wr:World} {b bP:Nat} {lv lv':Value} {s:ScD} (h:OT w wr b bP lv s lv'):∃ la lc,lv'=.slice la s.list.length lc:=by
 obtain⟨a,c,e⟩:=dX h.row
 exact⟨a,c,e⟩
set_option maxHeartbeats 4000000 in
theorem QE (n:Nat) (hn:n<=16) (w:World) (b bP:Nat) (s:ScD) (lv:Value) (hb:OT w w b bP lv s lv) (hne:bP≠b) (hP:w.cell? ⟨bP,1,none⟩=some (.int .i64 (n:Int))) (hlP:lv.ownBlock≠some bP) (hat:s.at_<=n) (hll:s.list.length<=16) (hla:s.list.length=s.at_) :
  Calls Tryz.prog 216 #[.pointer (some ⟨b,0,none⟩)] w λe w'=>TD w w' b bP lv (dI n n s) e:=by
 have hF:=IM n n s hat (by omega)
 have HB:=Lib.hid hb;have HF:=Lib.hid hF;have Hne:=Lib.hid hne;have HP:=Lib.hid hP;have HlP:=Lib.hid hlP;have Hat:=Lib.hid hat;have Hla:=Lib.hid hla
 have hni:(n:Int)<=16:=by omega
 obtain⟨k0,hk0,hu0,hu1,hu2⟩:=info_parts xG
 clear hb hF hne hP hlP hat hla hll
 go_enter Tryz.func216,Tryz.ntmps216
 go_wp2
 go_loopw [] (λwr=>∃ s' lv',OT w wr b bP lv s' lv'/\dI n (n - s'.at_) s'=dI n n s/\s'.at_<=n/\s'.list.length=s'.at_) (λwr=>scM b n wr)
 case atStart=>exact⟨s,lv,HB.out,HF.out.symm,Hat.out,Hla.out⟩
 case round=>
  obtain⟨s',lv',hr,hp,ha,hl⟩:=hrel
  obtain⟨hbk,hrow,hch,hown⟩:=hr
  have e0:=hbk.ptr
  have e2:=hbk.at_
  have eP:wr.cell? ⟨bP,1,none⟩=some (.int .i64 (n:Int)):=aW hch (λh=>h.elim Hne.out HlP.out) HP.out
  obtain⟨a,haa⟩:∃ a,a=s'.at_:=⟨_,rfl⟩
  rw [<-haa] at e2
  have hmes:scM b n wr=n - a:=by unfold scM;rw [e2];rfl
  have HM:=Lib.hid hmes
  by_cases hlt:a<n
  ·have l1:(a:Int)<(n:Int):=by omega
   have l16:(a:Int)<16:=by omega
   have en:=hbk.now (t:=a) (by omega)
   obtain⟨x,hx⟩:∃ x,x=s'.now.getD a 0:=⟨_,rfl⟩
   rw [<-hx] at en
   by_cases hx0:x=0
   ·subst hx0
    have hstep:dI n (n - s'.at_) s'=dI n (n - (s'.at_+1)) { s' with list:=s'.list++[0],at_:=s'.at_+1 }:=by
     rw [show n - s'.at_=(n - (s'.at_+1))+1 by omega]
     show(if s'.at_<n/\s'.now.getD s'.at_ 0=0 then _ else _)=_
     rw [if_pos ⟨by omega,by rw [<-haa];exact hx.symm⟩]
    obtain⟨la,lc,rfl⟩:∃ la lc,lv'=.slice la a lc:=by
     obtain⟨la,lc,e⟩:=dX hrow
     exact⟨la,lc,by rw [e,hl,haa]⟩
    have e9:=hbk.list
    have f2:=hbk.frozen 2
    have f54:=hbk.frozen 54
    obtain⟨xs,hxs⟩:∃ xs,xs=s'.list.map bI:=⟨_,rfl⟩
    rw [hl,<-haa,<-hxs] at hrow
    have hbl:=hbk.lt
    have wa1:IntKind.i64.wrap ((a:Int)+1)=(a:Int)+1:=by rw [IntKind.wrap_i64];omega
    have Hbk:=Lib.hid hbk;have Hrow:=Lib.hid hrow;have Hch:=Lib.hid hch;have Hown:=Lib.hid hown;have Hp:=Lib.hid (hstep.symm.trans hp);have Haa:=Lib.hid haa;have Hl:=Lib.hid hl;have Hxs:=Lib.hid hxs
    have e3:((0:Int) == 0)=true:=rfl
    clear hbk hrow hch hown hp hstep hx haa hl hxs hmes
    go_wp2_with fail
    go_quiet (fail)
    obtain⟨wd,hwd⟩:∃ wd,wd=wr.drewN nq:=⟨_,rfl⟩
    rw [<-hwd]
    have hcd:Chg (λ_=>False) wr wd:=by rw [hwd];exact(Chg.refl _ _).drewN nq
    have hbd:=Hbk.out.chg hcd (λh=>h)
    have hrd:=bB Hrow.out hcd (λ_ _ h=>h)
    have d54:=hbd.list
    have d2:=hbd.at_
    rw [<-Haa.out] at d2
    have ldb:=hbd.lt
    have nlb:∀ g,(Value.slice la a lc).ownBlock=some g->g≠b:=λg hg=>(Hown.out g hg).2.1
    clear hwd e0 e2 eP en e9 f2 f54
    go_wp2_with (at_builtin;refine wpList_append_lies _ rfl (.tmp 30) (.tmp 31) 28 rfl 0 46 k0 (.int .u64 0) 1 8 Tryz.underlying28 hk0 hu0 hu1 hu2 rfl (by omega) (.slice la a lc) a xs rfl (hrd.alloc _) ⟨wd.heap.size,0,none⟩ 1 1 [.int .u64 0] rfl rfl (World.news_of_block (cs:=#[.int .u64 0]) (t:=46) (fr:=(0,0)) (heap_alloc_new wd _)) (by simp [Value.oneCell']) (by omega) (by unfold maxLen;omega) (by skip;omega) (by simp) (wd.heap.size+1) (by simp) ?_;intro g8 xL w8 kQ dU vI KF;have NZ:=(dU.block _ (by simp;omega) (λe=>nlb _ e.symm rfl)).trans ((((Gr.new wd _)).block _ ldb).trans hbd.blk);have OH:aR w8 b bP s' (.slice la a lc):=⟨NZ,hbd.l1,hbd.l2,hbd.l3⟩;have t2:w8.cell? ⟨b,2,none⟩=some (.int .i64 (a:Int)):=(by rw [OH.at_,<-Haa.out]);have t54:=OH.list;have tf2:=OH.frozen 2;have aAq:=OH.frozen 54;have tlt:=OH.lt)
    obtain⟨w10,wS⟩:∃ w10,w10=(w8.setCell ⟨b,54,none⟩ (.slice (some ⟨g8,0,none⟩) (a+1) xL)).setCell ⟨b,2,none⟩ (.int .i64 ((a:Int)+1)):=⟨_,rfl⟩
    rw [<-wS]
    have RO:aR w10 b bP { s' with list:=s'.list++[0],at_:=s'.at_+1 } (.slice (some ⟨g8,0,none⟩) (a+1) xL):=by
     have:=(OH.setList (s'.list++[0]) (.slice (some ⟨g8,0,none⟩) (a+1) xL)).setAt (a+1)
     rw [wS,<-Haa.out];exact this
    have EB:Chg (λk=>k=b) w8 w10:=by rw [wS];exact((Chg.refl (λk=>k=b) w8).setCell (p:=⟨b,54,none⟩) (.inl rfl) _).setCell (p:=⟨b,2,none⟩) (.inl rfl) _
    have hgb:g8≠b:=by
     rcases vI with h|h
     ·exact nlb g8 h
     ·omega
    have UV:=bB kQ EB (λg hg e=>hgb (by cases hg;exact e))
    have hgr:Chg (λg=>(Value.slice la a lc).ownBlock=some g) wd w8:=((Chg.refl _ wd).alloc _).grown dU (λg hg=>.inl hg)
    have hres:OT w w10 b bP lv { s' with list:=s'.list++[0],at_:=s'.at_+1 } (.slice (some ⟨g8,0,none⟩) (a+1) xL):=by
     have hlw:=Hch.out.size
     have hws:wr.heap.size<=wd.heap.size:=hcd.size
     refine⟨RO,?_,?_,λg hg=>?_⟩
     ·have e1:(s'.list++[0]).length=a+1:=by rw [List.length_append,Hl.out,<-Haa.out];rfl
      show w10.ownsRow 0 46 1 _ (s'.list++[0]).length ((s'.list++[0]).map bI)
      rw [e1,List.map_append,<-Hxs.out];exact UV
     ·have h9:Chg (λk=>(k=b∨lv.ownBlock=some k)∨w.heap.size<=k) w w10:=(((Hch.out.mono (λ_ _ h=>.inl h)).trans (hcd.mono (λ_ _ h=>h.elim))).trans (hgr.mono (λg _ hg=>((Hown.out g hg).1).elim (λh=>.inl (.inr h)) (λh=>.inr h)))).trans (EB.mono (λg _ e=>.inl (.inl e)))
      exact h9.mono (λg hg h=>h.elim id (λh=>absurd h (by omega)))
     ·cases hg
      refine⟨?_,hgb,Nat.lt_of_lt_of_le KF EB.size⟩
      rcases vI with h|h
      ·exact(Hown.out g8 h).1
      ·right;show w.heap.size<=g8;omega
    have HR:=Lib.hid hres
    have Vy:scM b n w10=n - (a+1):=by unfold scM;rw [RO.at_,<-Haa.out];rfl
    have HM10:=Lib.hid Vy
    clear hres Vy RO EB UV hgr kQ dU vI KF NZ OH t2 t54 tf2 aAq tlt hcd hbd hrd d54 d2 ldb nlb hgb
    go_roundw
    case rel=>exact⟨_,_,HR.out,Hp.out,by have:=Haa.out;show s'.at_+1<=n;omega,by show(s'.list++[0]).length=s'.at_+1;rw [List.length_append,Hl.out];rfl⟩
    case measure=>rw [HM.out,HM10.out];omega
   ·have hstop:dI n (n - s'.at_) s'=s':=by
     rw [show n - s'.at_=(n - (s'.at_+1))+1 by omega]
     show(if s'.at_<n/\s'.now.getD s'.at_ 0=0 then _ else { s' with pc:=if s'.at_=n then 3 else s'.pc })=_
     rw [if_neg (λh=>hx0 (by rw [hx,haa];exact h.2)),if_neg (by omega)]
    have HR:=Lib.hid (show TD w wr b bP lv (dI n n s) (.returned (.tuple #[])) from⟨rfl,lv',by rw [<-hp,hstop];exact⟨hbk,hrow,hch,hown⟩⟩)
    have l2:¬ (a:Int)=(n:Int):=by omega
    have t1:((x:Int) == 0)=false:=by rw [beq_eq_false_iff_ne];omega
    have HD:=Lib.hid (λ(u:World) (hu:Chg (λ_=>False) wr u)=>show TD w u b bP lv (dI n n s) (.returned (.tuple #[])) from⟨rfl,lv',by rw [<-hp,hstop];exact⟨hbk.chg hu (λh=>h),bB hrow hu (λ_ _ h=>h),hch.trans (hu.mono (λ_ _ h=>h.elim)),λg hg=>⟨(hown g hg).1,(hown g hg).2.1,Nat.lt_of_lt_of_le (hown g hg).2.2 hu.size⟩⟩⟩)
    clear HR hstop hp hbk hrow hch hown hx haa hx0 hl ha hmes
    go_wp2_with fail
    go_quiet (fail)
    have d0:(wr.drewN nq).cell? ⟨b,0,none⟩=some (.pointer (some ⟨bP,0,none⟩)):=e0
    have d2:(wr.drewN nq).cell? ⟨b,2,none⟩=some (.int .i64 (a:Int)):=e2
    have dP:(wr.drewN nq).cell? ⟨bP,1,none⟩=some (.int .i64 (n:Int)):=eP
    have hcd:Chg (λ_=>False) wr (wr.drewN nq):=(Chg.refl _ _).drewN nq
    obtain⟨wd,hwd⟩:∃ wd,wd=wr.drewN nq:=⟨_,rfl⟩
    rw [<-hwd] at d0 d2 dP hcd ⊢
    have Hcd:=Lib.hid hcd
    clear hwd e0 e2 eP en t1 hcd
    go_wp2_with fail
    rename_i nq0
    go_quiet (fail)
    go_wp2
    go_end0
    exact HD.out _ (Hcd.out.trans ((Chg.refl _ _).drewN _))
  ·have han:a=n:=by omega
   have hstop:dI n (n - s'.at_) s'={ s' with pc:=3 }:=by
    rw [show n - s'.at_=0 by omega]
    show { s' with pc:=if s'.at_=n then 3 else s'.pc }=_
    rw [if_pos (by omega)]
   subst han
   have l1:¬ (a:Int)<(a:Int):=by omega
   have HD:=Lib.hid (λ(u:World) (hu:Chg (λ_=>False) wr u)=>show TD w (u.setCell ⟨b,1,none⟩ (.int .i64 3)) b bP lv (dI a a s) (.returned (.tuple #[])) from⟨rfl,lv',by
    rw [<-hp,hstop]
    have hc1:Chg (λk=>k=b) u (u.setCell ⟨b,1,none⟩ (.int .i64 3)):=(Chg.refl (λk=>k=b) u).setCell (p:=⟨b,1,none⟩) (.inl rfl) _
    have hrow2:=bB (bB hrow hu (λ_ _ h=>h)) hc1 (λg hg e=>(hown g hg).2.1 e)
    exact⟨(hbk.chg hu (λh=>h)).setPc 3,hrow2,(hch.trans (hu.mono (λ_ _ h=>h.elim))).trans (hc1.mono (λ_ _ e=>.inl e)),λg hg=>⟨(hown g hg).1,(hown g hg).2.1,Nat.lt_of_lt_of_le (hown g hg).2.2 (Nat.le_trans hu.size hc1.size)⟩⟩⟩)
   have f1:=hbk.frozen 1
   have e1:=hbk.pc
   obtain⟨pc,hpc⟩:∃ pc,pc=s'.pc:=⟨_,rfl⟩
   rw [<-hpc] at e1
   clear hstop hp hbk hrow hch hown haa hl ha hmes hpc
   go_wp2_with fail
   go_quiet (fail)
   have d0:(wr.drewN nq).cell? ⟨b,0,none⟩=some (.pointer (some ⟨bP,0,none⟩)):=e0
   have d1:(wr.drewN nq).cell? ⟨b,1,none⟩=some (.int .i64 (pc:Int)):=e1
   have d2:(wr.drewN nq).cell? ⟨b,2,none⟩=some (.int .i64 (a:Int)):=e2
   have dP:(wr.drewN nq).cell? ⟨bP,1,none⟩=some (.int .i64 (a:Int)):=eP
   have df:(wr.drewN nq).frozen? ⟨b,1,none⟩=false:=f1
   have hcd:Chg (λ_=>False) wr (wr.drewN nq):=(Chg.refl _ _).drewN nq
   obtain⟨wd,hwd⟩:∃ wd,wd=wr.drewN nq:=⟨_,rfl⟩
   rw [<-hwd] at d0 d1 d2 dP df hcd ⊢
   have Hcd:=Lib.hid hcd
   clear hwd e0 e1 e2 eP f1 hcd
   go_wp2_with fail
   rename_i nq0
   go_quiet (fail)
   have g1:(wd.drewN nq).cell? ⟨b,1,none⟩=some (.int .i64 (pc:Int)):=d1
   have gf:(wd.drewN nq).frozen? ⟨b,1,none⟩=false:=df
   go_wp2
   go_end0
   exact HD.out _ (Hcd.out.trans ((Chg.refl _ _).drewN _))
end
section
open Go.RowKit
def OM (w w':World) (b bP:Nat) (s:ScD) (lv:Value) (r:List Bool×Option Nat) (e:Ending):Prop:=
 e=.returned (.tuple #[.int .u64 ((r.2.getD 0:Nat):Int),.bool r.2.isSome])/\Chg (λk=>k=b) w w'/\aR w' b bP { s with diff:=r.1 } lv
set_option maxHeartbeats 4000000 in
theorem RG (n:Nat) (hn:n<=16) (w:World) (b bP:Nat) (s:ScD) (lv:Value) (hb:aR w b bP s lv) (hne:bP≠b) (hP:w.cell? ⟨bP,1,none⟩=some (.int .i64 (n:Int))) :
  Calls Tryz.prog 219 #[.pointer (some ⟨b,0,none⟩)] w λe w'=>OM w w' b bP s lv (iA s.old s.now n 0 s.diff) e:=by
 obtain⟨R,hR⟩:∃ R,R=iA s.old s.now n 0 s.diff:=⟨_,rfl⟩
 have e0:=hb.ptr
 have HB:=Lib.hid hb;have HR:=Lib.hid hR;have Hne:=Lib.hid hne;have HP:=Lib.hid hP
 have hni:(n:Int)<=16:=by omega
 rw [<-hR]
 clear hb hR hne
 go_enter Tryz.func219,Tryz.ntmps219
 go_wp2
 clear e0 hP
 go_loopw [12] (λi wr=>∃(t:Nat) (d:List Bool),t<=n/\i=.int .i64 t/\Chg (λk=>k=b) w wr/\aR wr b bP { s with diff:=d } lv/\iA s.old s.now (n - t) t d=R) (λi _=>n - (intOf i).toNat)
 case atStart=>exact⟨0,s.diff,Nat.zero_le _,rfl,Chg.refl _ _,HB.out,HR.out.symm⟩
 case round=>
  obtain⟨t,d,ht,rfl,hc,hbk,hsd⟩:=hrel
  by_cases hlt:t<n
  ·have l1:(t:Int)<(n:Int):=by omega
   have l16:(t:Int)<16:=by omega
   have hsd:(if s.old.getD t 0=s.now.getD t 0 then iA s.old s.now (n - (t+1)) (t+1) d else if d.getD t false=true then (d,some (s.now.getD t 0)) else iA s.old s.now (n - (t+1)) (t+1) (d.set t true))=R:=by
    rw [<-hsd,show n - t=(n - (t+1))+1 by omega];rfl
   have eo:=hbk.old (t:=t) (by omega)
   have en:=hbk.now (t:=t) (by omega)
   have ed:=hbk.diff (t:=t) (by omega)
   have ef:=hbk.frozen (37+t)
   obtain⟨x,hx⟩:∃ x,x=s.old.getD t 0:=⟨_,rfl⟩
   obtain⟨y,hy⟩:∃ y,y=s.now.getD t 0:=⟨_,rfl⟩
   obtain⟨z,hz⟩:∃ z,z=d.getD t false:=⟨_,rfl⟩
   rw [<-hx,<-hy,<-hz] at hsd
   replace eo:wr.cell? ⟨b,4+t,none⟩=some (.int .u64 (x:Int)):=by rw [hx];exact eo
   replace en:wr.cell? ⟨b,20+t,none⟩=some (.int .u64 (y:Int)):=by rw [hy];exact en
   replace ed:wr.cell? ⟨b,37+t,none⟩=some (.bool z):=by rw [hz];exact ed
   have Hbk:=Lib.hid hbk;have Hc:=Lib.hid hc
   by_cases hxy:x=y
   ·rw [if_pos hxy] at hsd
    have t1:((x:Int) ==(y:Int))=true:=by rw [beq_iff_eq];omega
    have Hs:=Lib.hid hsd
    clear hsd hc hbk hx hy hz hxy
    go_wp2_with fail
    go_quiet (fail)
    go_wp2
    go_roundw
    case rel=>exact⟨t+1,d,by omega,by go_num,Hc.out.drewN nq,Hbk.out.chg ((Chg.refl (λ_=>False) wr).drewN nq) (λh=>h),Hs.out⟩
    case measure=>simp [intOf]<;>omega
   ·rw [if_neg hxy] at hsd
    have t1:((x:Int) ==(y:Int))=false:=by rw [beq_eq_false_iff_ne];omega
    cases z with
    | true=>
     rw [if_pos rfl] at hsd
     have F:=Lib.hid (λ(u:World) (hu:Chg (λ_=>False) wr u)=>show OM w u b bP s lv R (.returned (.tuple #[.int .u64 (y:Int),.bool true])) from by
      rw [<-hsd]
      exact⟨rfl,hc.trans (hu.mono (λ_ _ h=>h.elim)),hbk.chg hu (λh=>h)⟩)
     clear hsd hc hbk hx hy hz hxy
     go_wp2_with fail
     go_quiet (fail)
     have dd:(wr.drewN nq).cell? ⟨b,37+t,none⟩=some (.bool true):=ed
     have dn:(wr.drewN nq).cell? ⟨b,20+t,none⟩=some (.int .u64 (y:Int)):=en
     have hcd:Chg (λ_=>False) wr (wr.drewN nq):=(Chg.refl _ _).drewN nq
     have Hcd:=Lib.hid hcd
     clear hcd eo en ed ef
     go_wp2
     go_ret2
     exact F.out _ Hcd.out
    | false=>
     rw [if_neg Bool.false_ne_true] at hsd
     have Hs:=Lib.hid hsd
     have F:=Lib.hid (λ(u:World) (hu:Chg (λ_=>False) wr u)=>show Chg (λk=>k=b) w (u.setCell ⟨b,37+t,none⟩ (.bool true))/\aR (u.setCell ⟨b,37+t,none⟩ (.bool true)) b bP { s with diff:=d.set t true } lv from
      ⟨(hc.trans (hu.mono (λ_ _ h=>h.elim))).setCell (p:=⟨b,37+t,none⟩) (.inl rfl) _,(hbk.chg hu (λh=>h)).setDiff (t:=t) (by omega) true⟩)
     clear hsd hc hbk hx hy hz hxy
     go_wp2_with fail
     go_quiet (fail)
     have dd:(wr.drewN nq).cell? ⟨b,37+t,none⟩=some (.bool false):=ed
     have df:(wr.drewN nq).frozen? ⟨b,37+t,none⟩=false:=ef
     have hcd:Chg (λ_=>False) wr (wr.drewN nq):=(Chg.refl _ _).drewN nq
     obtain⟨wd,hwd⟩:∃ wd,wd=wr.drewN nq:=⟨_,rfl⟩
     rw [<-hwd] at dd df hcd ⊢
     have Hcd:=Lib.hid hcd
     clear hcd eo en ed ef hwd
     go_wp2
     go_roundw
     case rel=>exact⟨t+1,d.set t true,by omega,by go_num,(F.out _ Hcd.out).1,(F.out _ Hcd.out).2,Hs.out⟩
     case measure=>simp [intOf]<;>omega
  ·have l1:¬ (t:Int)<(n:Int):=by omega
   have hend:iA s.old s.now (n - t) t d=(d,none):=by rw [show n - t=0 by omega];rfl
   have F:=Lib.hid (show OM w wr b bP s lv R (.returned (.tuple #[.int .u64 0,.bool false])) from by
    rw [<-hsd,hend]
    exact⟨rfl,hc,hbk⟩)
   clear hsd hc hbk hend
   go_wp2
   go_ret2
   exact F.out
end
end Go.Proofs.YtfkokppncipgnaaGreat
