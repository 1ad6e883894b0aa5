/- Layer 6: when operations took effect that have not responded: (*Player).end. -/
import Derived.Test.YtifhldnmcdbpfaaW12
import Derived.Deep.MidRow
import Derived.Deep.Cut
import Derived.Stop.Asserts
set_option maxRecDepth 100000
set_option linter.unusedVariables false
set_option linter.unusedSimpArgs false
set_option linter.unnecessarySimpa false
namespace Go.Proofs.Ytifhldnmcdbpfaa
section
open Go.RowKit
variable {S:Sys} {R:Real S}
theorem kZ {P:Program} {ops:Array Oper} {rest:List Oper} {op:Oper} {a:Act} {w:World} {Q:Exit->Act->World->Prop} (hgd:op.guard=none) (ty:TypeId) (x i:Operand) (ho:op.op=.index ty x i) (v:Value)
  (hr:(Instr.index ty (a.eval x) (a.eval i)).run P w=.ok v w) (h:wpList P ops Q rest (a.put op.dst v) w):wpList P ops Q (op::rest) a w:=
 wpList_plain hgd λ_ hK=>by
  unfold Oper.wp execOp
  simp only [ho,hr,Sem.run_bind,Sem.run_pure,Result.andThen_ok]
  exact hK _ _ h
theorem qP {P:Program} {ops:Array Oper} {rest:List Oper} {op:Oper} {a:Act} {w:World} {Q:Exit->Act->World->Prop} (hgd:op.guard=none) (x:Operand) (xT T:TypeId) (c:Bool) (ho:op.op=.typeAssert x xT T c) (v:Value)
  (hr:(Instr.typeAssert (a.eval x) xT T c).run P w=.ok v w) (h:wpList P ops Q rest (a.put op.dst v) w):wpList P ops Q (op::rest) a w:=
 wpList_plain hgd λ_ hK=>by
  unfold Oper.wp execOp
  simp only [ho,hr,Sem.run_bind,Sem.run_pure,Result.andThen_ok]
  exact hK _ _ h
def jO (hs:List (Value×Nat)):List Value:=hs.flatMap (λh=>[h.1,fG h.2])
theorem nE:∀(hs:List (Value×Nat)) (q:Nat),q<hs.length->((jO hs).drop (q*2)).take 2=[(hs.getD q (undef,0)).1,fG (hs.getD q (undef,0)).2]
 | [],q,h=>by simp at h
 | x::hs,0,_=>by simp [jO]
 | x::hs,q+1,h=>by
  have:=nE hs q (by simpa using h)
  simp only [jO,List.flatMap_cons,List.cons_append,List.nil_append,List.getD_cons_succ] at this ⊢
  rw [show(q+1)*2=q*2+1+1 by omega,List.drop_succ_cons,List.drop_succ_cons]
  exact this
theorem yH (hs:List (Value×Nat)) (q:Nat) (hq:q<hs.length) (h16:hs.length=16) (w:World) :
  (Instr.index 126 (.agg (jO hs).toArray) (.int .i64 (q:Int))).run Try.prog w=.ok (.agg #[(hs.getD q (undef,0)).1,fG (hs.getD q (undef,0)).2]) w:=by
 have h1:(0:Int)<=(q:Int)/\(q:Int)<((16:Nat):Int):=by omega
 have h2:=nE hs q hq
 have h3:(jO hs).toArray.extract (q*2) (q*2+2)=#[(hs.getD q (undef,0)).1,fG (hs.getD q (undef,0)).2]:=by
  rw [List.extract_toArray,List.extract_eq_take_drop,show q*2+2 - q*2=2 by omega,h2]
 simp [Instr.index,run_underlying Try.underlying126,asIntOf,Sem.run_bind,h1,part,go_sem]
 rw [if_pos (by omega),h2]
 simp
structure pQ (R:Real S):Prop where
 late:∀ o wd p s,S.late o wd p s=none
 kind:∀ w Mut B T x p s,R.MRep w Mut B T x p s->∀(v:Value) (u:World),(Instr.typeAssert (.iface T v) 123 158 true).run Try.prog u=.ok (.tuple #[.nilIface,.bool false]) u
theorem EE {bW bl:Nat} {ov cv:Value} {turn:Int} {hs:List (Value×Nat)} {ev:Value} {idle:Nat} (h16:hs.length=16) {j:Nat} {v:Value} (hv:(jO hs)[j]?=some v):(aN bW bl ov cv turn hs ev idle)[5+j]?=some v:=by
 simp only [aN,gZ,List.getElem?_toArray]
 have hj:j<(jO hs).length:=(List.getElem?_eq_some_iff.1 hv).1
 rw [show 5+j=j+1+1+1+1+1 by omega]
 simp only [List.getElem?_cons_succ]
 rw [List.getElem?_append_left (by exact hj)]
 exact hv
def FM (R:Real S) (calls:List aF) (w w':World) (J:iZ) (ov cv:Value) (B0:Nat) (G:PG) (st:aQ S) (evs:List EvD):Prop:=
 Chg (λb=>G.ev.ownBlock=some b) w w'/\∃ ers,aK R calls w' J ov cv B0 { G with ers:=ers } st.wd st.obj st.fin (oL st.hands) evs st.idle
def fQ (st:aQ S) (k:Nat):List EvD:=(List.range k).foldl (gD S st) st.evs
theorem vJ (st:aQ S) (k:Nat):fQ st (k+1)=gD S st (fQ st k) k:=by unfold fQ;rw [List.range_succ,List.foldl_append];rfl
set_option maxHeartbeats 4000000 in
theorem LP (ok:dP R) (nl:pQ R) (calls:List aF) (w:World) (J:iZ) (ov cv:Value) (B0:Nat) (G:PG) (st:aQ S) (h:aK R calls w J ov cv B0 G st.wd st.obj st.fin (oL st.hands) st.evs st.idle) :
  Calls Try.prog 61 #[.pointer (some ⟨J.bP,0,none⟩)] w λe w'=>e=.returned (.tuple #[])/\FM R calls w w' J ov cv B0 G st (oP S st):=by
 have hrange:w.rangeAt J.bP 5 (jO G.hs):=λj v hv=>by rw [aA h.blk];exact EE h.h1 hv
 have hflen:(jO G.hs).length=32:=by unfold jO;rw [gG,h.h1]
 have hinfo:(Try.prog.info? 126).map (·.size)=some (jO G.hs).length:=by rw [hflen];kernel_rfl
 have h16:=h.h1
 have hst:FM R calls w w J ov cv B0 G st (fQ st 0):=⟨Chg.refl _ _,G.ers,h⟩
 have Hst:=Lib.hid hst
 have Hidx:=Lib.hid (yH G.hs)
 obtain⟨arr,harr⟩:∃ arr,arr=(jO G.hs).toArray:=⟨_,rfl⟩
 rw [<-harr] at Hidx
 have Harr:=Lib.hid harr;have Hrange:=Lib.hid hrange;have Hinfo:=Lib.hid hinfo;have H16:=Lib.hid h16
 have Hmap:=Lib.hid h.h2
 clear h hrange hinfo h16 harr hst hflen
 go_enter Try.func61,Try.ntmps61
 go_wp2_with (refine wpList_load_mid rfl 126 _ rfl J.bP 5 rfl (jO G.hs) _ Hrange.out Try.underlying126 rfl Hinfo.out ?_;rw [<-Harr.out])
 go_loopw [11] (λi wr=>∃ k:Nat,k<=16/\i=.int .i64 k/\FM R calls w wr J ov cv B0 G st (fQ st k)) (λi _=>16 - (intOf i).toNat)
 case atStart=>exact⟨0,by omega,rfl,Hst.out⟩
 case round=>
  obtain⟨k,hk,rfl,hch,ers,h⟩:=hrel
  by_cases hlt:k<16
  ·have t1:(k:Int)<16:=by omega
   have hidx:=Hidx.out k (by rw [H16.out];exact hlt) H16.out
   have hup:=vJ st k
   have hhk:=h.hand k hlt
   rw [fT] at hhk
   obtain⟨hv,hhv⟩:∃ hv,hv=G.hs.getD k (undef,0):=⟨_,rfl⟩
   have hhk':gH R wr G.Mut (G.MB k) k hv ((st.hands.getD k (none,0)).1.map Mh.run,(st.hands.getD k (none,0)).2):=by rw [hhv];exact hhk
   rw [<-hhv] at hidx
   obtain⟨hv1,hv2⟩:=hv
   simp only [fG] at hidx
   clear hhk hhv
   obtain⟨hk1,hk2⟩:=hhk'
   simp only at hk1 hk2
   cases hs:(st.hands.getD k (none,0)).1 with
   | none=>
    rw [hs] at hk2
    simp only [Option.map_none] at hk2
    subst hk2
    have hnn:∀ u:World,(binOp .eql 123 .nilIface .nilIface).run Try.prog u=.ok (.bool true) u:=λu=>by first|rfl|kernel_rfl
    have hend:fQ st (k+1)=fQ st k:=by
     rw [hup];unfold gD
     split
     ·rfl
     ·rename_i h9;rw [h9] at hs;cases hs
    have Hend:=Lib.hid hend;have Hch:=Lib.hid hch;have Hh:=Lib.hid h;have Hi2:=Lib.hid hidx
    clear hup hch h hs hk1 hidx
    go_wp2_with (refine kZ rfl 126 _ _ rfl _ (Hi2.out _) ?_)
    go_roundw
    case rel=>exact⟨k+1,by omega,by go_num,by rw [Hend.out];exact⟨Hch.out.alloc _,ers,aK.grown ok Hh.out (Gr.new _ _)⟩⟩
    case measure=>simp [intOf]<;>omega
   | some s=>
    rw [hs] at hk2
    simp only [Option.map_some] at hk2
    obtain⟨T,x,rfl,hm⟩:=hk2
    have hi:hv2<(fQ st k).length:=by
     rw [hk1]
     have:=h.at_ k hlt (.run s) (by rw [fT,hs];rfl)
     rwa [fT] at this
    have hnn:∀ u:World,(binOp .eql 123 (.iface T x) .nilIface).run Try.prog u=.ok (.bool false) u:=λu=>by first|rfl|kernel_rfl
    have hkind:=nl.kind _ _ _ _ _ _ _ hm
    have hend:fQ st (k+1)=(fQ st k).set hv2 { (fQ st k).getD hv2 jY with key:=st.wd.marks.getD k [] }:=by
     rw [hup];unfold gD
     split
     ·rename_i h9;rw [h9] at hs;cases hs
     ·rename_i h9
      rw [h9] at hs hk1
      simp only at hk1
      rw [nl.late,<-hk1]
      rfl
    obtain⟨w4,hw4⟩:∃ w4,w4=wr.alloc (.cells #[.iface T x,.int .i64 (hv2:Int)] 125):=⟨_,rfl⟩
    have h4:=aK.grown ok h (w':=w4) (by rw [hw4];exact Gr.new _ _)
    obtain⟨g,c,hev,hrow⟩:=aK.ev_some h4 hi
    have a37:w4.cell? ⟨J.bP,37,none⟩=some (.slice (some ⟨g,0,none⟩) (fQ st k).length c):=by rw [aA h4.blk,<-hev];exact iE h4.h1
    have b0:w4.cell? ⟨wr.heap.size,0,none⟩=some (.iface T x):=by rw [hw4,dZ];rfl
    have b1:w4.cell? ⟨wr.heap.size,1,none⟩=some (.int .i64 (hv2:Int)):=by rw [hw4,dZ];rfl
    obtain⟨n,hn⟩:∃ n,n=(fQ st k).length:=⟨_,rfl⟩
    rw [<-hn] at a37
    have hil:(hv2:Int)<(n:Int):=by omega
    have hgs:g<wr.heap.size:=by
     obtain⟨g9,c9,sH,UR⟩:=h.eva.row.form (by omega)
     have e9:=sH.symm.trans hev
     simp only [Value.slice.injEq,Option.some.injEq,Addr.mk.injEq] at e9
     have:=h.eva.row.lt g (by rw [hev];rfl)
     exact this.2
    have Hi2:=Lib.hid hidx
    have Hend:=Lib.hid hend;have Hch:=Lib.hid hch;have H4:=Lib.hid h4;have Hw4:=Lib.hid hw4;have Hrow:=Lib.hid hrow;have Hev:=Lib.hid hev;have Hi:=Lib.hid hi;have Hkind:=Lib.hid hkind
    clear hup hch h hs hk1 hidx hm hkind hend h4 hw4 hrow hev hi hn
    go_upto_region 4 with(refine kZ rfl 126 _ _ rfl _ (Hi2.out _) ?_)
    rw [<-Hw4.out]
    go_wp2_with fail
    go_quiet (fail)
    have H4d:=Lib.hid (aK.grown ok H4.out (below_drewN (Gr.refl w4) nq))
    obtain⟨mks,hwb,hmk,hmks⟩:=H4.out.world.blk
    obtain⟨ma,mc,hmv,hmn,hmsl,hmm⟩:=hmks k hlt
    have q0:(w4.drewN nq).cell? ⟨J.bP,0,none⟩=some (.pointer (some ⟨J.W.bW,0,none⟩)):=by
     have:=aA H4.out.blk 0
     exact this.trans dA
    have qm:(w4.drewN nq).cell? ⟨J.W.bW,18+k,none⟩=some (.slice ma (st.wd.marks.getD k []).length mc):=by
     have:=aA hwb (18+k)
     rw [kD H4.out.world.inv16 hmk hlt,hmv] at this
     exact this
    have q7:(w4.drewN nq).cell? ⟨g,hv2*8+7,none⟩=some ((ers.getD hv2 tQ).2):=(Hrow.out 7 (by omega)).1
    have q7f:(w4.drewN nq).frozen? ⟨g,hv2*8+7,none⟩=false:=(Hrow.out 7 (by omega)).2
    have c0:(w4.drewN nq).cell? ⟨wr.heap.size,0,none⟩=some (.iface T x):=b0
    have hne1:g≠wr.heap.size:=by omega
    have hne2:wr.heap.size≠g:=by omega
    have Hl:=Lib.hid (show Lst (w4.drewN nq) G.Mut (.slice ma (st.wd.marks.getD k []).length mc) (st.wd.marks.getD k []) from⟨ma,mc,rfl,(λe=>by rw [<-hmv];exact hmn e),hmsl,hmm⟩)
    obtain⟨mn,QS⟩:∃ mn,mn=(st.wd.marks.getD k []).length:=⟨_,rfl⟩
    rw [<-QS] at qm Hl
    have hgB:B0<=g:=(H4.out.eva.row.lt g (by rw [Hev.out];rfl)).1
    clear hwb hmk hmks hmv hmn hmsl hmm QS a37 b0 b1
    go_wp2_with (refine qP rfl _ _ _ _ rfl _ (Hkind.out _ _) ?_)
    go_roundw
    case rel=>
     obtain⟨ers',_,hk⟩:=aK.keyed ok H4d.out Hi.out Hev.out Hl.out
     refine⟨k+1,by omega,by go_num,?_⟩
     rw [Hend.out]
     exact⟨((by rw [Hw4.out];exact Hch.out.alloc _:Chg (λb=>G.ev.ownBlock=some b) w w4).drewN nq).setCell (by exact .inl (congrArg Value.ownBlock Hev.out)) _,ers',hk⟩
    case measure=>simp [intOf]<;>omega
  ·have t1:¬ (k:Int)<16:=by omega
   obtain rfl:k=16:=by omega
   have Hch:=Lib.hid hch;have Hh:=Lib.hid h
   clear hch h
   go_wp2
   go_end0
   exact⟨rfl,Hch.out,ers,Hh.out⟩
end
section
open Go.RowKit
def MC (ref:aF->Option Int) (act:aF->WD->WD×(Int×Nat)):Sys where
 σ:=aF×(Int×Nat)
 ω:=Unit
 start:=λ_ _ _ c=>match ref c with|some e=>.refuse e|none=>.run (c,(0,0))
 step:=λ_ wd _ s=>((),(act s.1 wd).1,(s.1,(act s.1 wd).2),true)
 answer:=λs=>(⟨s.2.1,s.2.2,[]⟩,[])
 late:=λ_ _ _ _=>none
theorem jI (m:fE) (a:Int):(cZ m a).1.c.all<=m.c.all+1:=by unfold cZ;split<;>simp [fE.fault,dV.all]<;>omega
theorem nA (m:fE) (a:Int) (v:Nat):(bR m a v).c.all<=m.c.all+1:=by unfold bR;split<;>simp [fE.fault,dV.all]<;>omega
end
section
open Go.RowKit
def JC (c:aF):Option Int:=if c.kind=0∨c.kind=1∨c.kind=2 then none else some 9
def FT (c:aF):Nat:=if c.kind=2 then 1 else c.a
def IK (c:aF) (wd:WD):WD×(Int×Nat):=
 if c.kind=1 then ({ wd with mem:=(cZ wd.mem 0).1 },(0,(cZ wd.mem 0).2)) else ({ wd with mem:=(FP wd.mem 0 (FT c)).1 },(0,(FP wd.mem 0 (FT c)).2))
theorem kH {w:World} {Mut:Nat->Prop} {I:dG} {N:Nat} {wd:WD} (h:aM w Mut I N wd):(∀ b,bY I.bm I.bw b->Mut b)/\¬ bY I.bm I.bw I.bW/\(∀ b,bY I.bm I.bw b->aW I b/\b<w.heap.size):=by
 have hS:∀ b,bY I.bm I.bw b->aW I b:=by
  rintro b (rfl|e)
  ·exact .inr (.inl rfl)
  ·exact .inr (.inr (.inr e))
 refine⟨λb hb=>h.muts b (hS b hb),?_,λb hb=>⟨hS b hb,h.low b (h.muts b (hS b hb))⟩⟩
 rintro(e|e)
 ·exact h.sep.1 e
 ·exact h.sep.2.2.2.1 e.symm
end
section
open Go.RowKit
inductive CoS where
 | once (c:aF) (r:Int×Nat)
 | prop (v:Nat) (pc:Bool)
def CU (_:aF) (wd:WD):WD×(Int×Nat):=({ wd with mem:=(cZ wd.mem 0).1 },if (cZ wd.mem 0).2=0 then (7,0) else (0,(cZ wd.mem 0).2 - 1))
def KW (x:Nat):Nat:=if x=0 then 18446744073709551615 else x - 1
def IP (wd:WD) (p v:Nat):WD:={ wd with mem:=(KJ wd.mem 0 0 (v+1)).1,marks:=wd.marks.set p (jF wd) }
def IJ (wd:WD):WD:={ wd with mem:=(cZ wd.mem 0).1 }
def QJ:Sys where
 σ:=CoS
 ω:=Unit
 start:=λ_ _ _ c=>if c.kind=1 then .run (.once c (0,0)) else if c.kind≠0 then .refuse 9 else if 4294967296<=c.a then .refuse 10 else .run (.prop c.a false)
 step:=λ_ wd p s=>match s with
  | .once c _=>((),(CU c wd).1,.once c (CU c wd).2,true)
  | .prop v false=>((),IP wd p v,.prop v true,false)
  | .prop _ true=>((),IJ wd,.prop (KW (cZ wd.mem 0).2) true,true)
 answer:=λs=>match s with
  | .once _ r=>(⟨r.1,r.2,[]⟩,[])
  | .prop v _=>(⟨0,v,[]⟩,[])
 late:=λ_ _ _ _=>none
end
end Go.Proofs.Ytifhldnmcdbpfaa
