/- A reference's play under way: what an event that has responded says. -/
import Derived.Test.YtfkokppncipgnaaGreatW16
import Derived.Test.YtfkokppncipgnaaGreatW20
import Derived.Test.YtfkokppncipgnaaGreatW19
import Derived.Test.YtfkokppncipgnaaGreatW18
import Derived.Test.YtfkokppncipgnaaGreatW14
import Derived.Deep.CutRange
import Derived.Test.YtfkokppncipgnaaGreatW15
import Derived.Test.YtfkokppncipgnaaGreatW10
set_option maxRecDepth 100000
set_option linter.unusedVariables false
set_option linter.unusedSimpArgs false
set_option linter.unnecessarySimpa false
namespace Go.Proofs.YtfkokppncipgnaaGreat
section
open Go.RowKit
variable {w0 w w':World} {J:RJ} {s s':dS} {hl hl':List Value} {vs vs':List HV} {G K L:Value} {ea ea':Option Addr} {ec ec':Nat} {ers ers':List (Value×Value)} {p:Nat} {t:aJ} {r:RWD}
theorem gV.hand16 (h:gV w0 w J p s hl vs G K L ea ec ers t r):∃ x0 x1 xM PV LV KV,w.heap[J.bH]?=some (.cells (hl.take (16*p)++([x0,x1,.pointer (some ⟨J.bW,0,none⟩),.int .i64 (p:Int),.int .i64 (t.inv:Int),G,K,.int .i64 (t.at_:Int),.bool t.fresh,.bool t.halt,PV,.int .i64 t.err,.int .u64 (t.val:Int),LV,KV,xM]++hl.drop (16*p+16))).toArray 100 (0,0))/\
  fK w (eX (eZ J p hl vs (.slice ea s.evs.length ec)) G K L) PV t.priv/\fK w (eX (eZ J p hl vs (.slice ea s.evs.length ec)) G K L) LV t.list/\Lst w (eX (eZ J p hl vs (.slice ea s.evs.length ec)) G K L) KV t.key/\(∀ i v,(iH J.bW G K (t.raw PV LV KV))[i]?=some v->i<13->w.cell? ⟨J.bH,16*p+2+i,none⟩=some v):=by
 obtain⟨PV,LV,KV,ht,h1,h2,h3⟩:=h.tape.tape
 have hlen:=h.rest.lens.1
 have hp:=h.hp
 have hb:=ht.blk
 have e1:(eZ J p hl vs (.slice ea s.evs.length ec)).tids.pre=hl.take (16*p)++[hl[16*p]'(by omega),hl[16*p+1]'(by omega)]:=by
  show hl.take (16*p+2)=_
  rw [List.take_succ_eq_append_getElem (i:=16*p+1) (by omega),List.take_succ_eq_append_getElem (by omega),List.append_assoc];rfl
 have e2:(eZ J p hl vs (.slice ea s.evs.length ec)).tids.post=hl[16*p+15]'(by omega)::hl.drop (16*p+16):=by
  show hl.drop (16*p+15)=_
  rw [List.drop_eq_getElem_cons (by omega)]
 refine⟨hl[16*p]'(by omega),hl[16*p+1]'(by omega),hl[16*p+15]'(by omega),PV,LV,KV,?_,h1,h2.1,h3,λi v hv hi=>?_⟩
 ·rw [e1,e2,List.append_assoc] at hb
  have e3:iH (eZ J p hl vs (.slice ea s.evs.length ec)).tids.bW G K (t.raw PV LV KV)=[.pointer (some ⟨J.bW,0,none⟩),.int .i64 (p:Int),.int .i64 (t.inv:Int),G,K,.int .i64 (t.at_:Int),.bool t.fresh,.bool t.halt,PV,.int .i64 t.err,.int .u64 (t.val:Int),LV,KV]:=by
   have:=h.thr
   unfold iH aJ.raw
   rw [this];rfl
  rw [e3] at hb
  exact hb
 ·have hpre:(eZ J p hl vs (.slice ea s.evs.length ec)).tids.pre.length=16*p+2:=by show(hl.take (16*p+2)).length=_;simp;omega
  have:=ht.cell (i:=i) hi
  rw [hpre] at this
  exact this.trans hv
set_option maxHeartbeats 1000000 in
theorem Ro (h:gV w0 w J p s hl vs G K L ea ec ers t r) (e:EvD) (v:Value×Value) (hv1:∃ a n c,v.1=.slice a n c) (hv2:∃ a n c,v.2=.slice a n c) (hn:J.nt<=16) (hnow:r.now<=1000000) (A:Nat) (hA:A=16*p) :
  Calls Tryz.prog 43 #[.pointer (some ⟨J.bH,A,none⟩),.agg (dK e v).toArray] w λx w'=>∃ la lc kv,x=.returned (.agg (dK (lJ r p t e) (.slice la t.list.length lc,kv)).toArray)/\fK w' (eX (eZ J p hl vs (.slice ea s.evs.length ec)) G K L) (.slice la t.list.length lc) t.list/\Lst w' (eX (eZ J p hl vs (.slice ea s.evs.length ec)) G K L) kv (yQ r p t.key)/\Below w.heap.size w w':=by
 obtain⟨x0,x1,xM,PV,LV,KV,hH,hPV,hLV,hKV,_⟩:=h.hand16
 obtain⟨v1,v2⟩:=v
 obtain⟨a0,n0,k0,rfl⟩:=hv1
 obtain⟨a1,n1,k1,rfl⟩:=hv2
 have hp:=h.hp
 have hpre:(hl.take (16*p)).length=A:=by rw [hA];have:=h.rest.lens.1;simp;omega
 obtain⟨ms,hM,hml,hms⟩:=h.tape.marks.blk
 have hml':ms.length=J.nt:=hml
 have hMp:ms[p]?=some (ms.getD p undef):=by rw [List.getD_eq_getElem?_getD,List.getElem?_eq_getElem (by omega)];rfl
 have hmp:=hms p hp
 obtain⟨PV9,LV9,KV9,ht9,_⟩:=h.tape.tape
 obtain⟨wa,cap,_,hW,_⟩:=ht9.mem.blk
 have c6:w.cell? ⟨J.bW,6,none⟩=some (.int .i64 (r.now:Int)):=by
  have hW':w.heap[J.bW]?=_:=hW
  rw [aA hW'];rfl
 have c7:w.cell? ⟨J.bW,7,none⟩=some (.slice (some ⟨J.bM,0,none⟩) J.nt J.nt):=by
  have hW':w.heap[J.bW]?=_:=hW
  rw [aA hW'];rfl
 have hlow:=h.tape.mutlow
 have hX:=hLV
 obtain⟨la,lc,rfl,hls,hlm⟩:=hX
 have keepU:∀ w',Below w.heap.size w w'->fK w' (eX (eZ J p hl vs (.slice ea s.evs.length ec)) G K L) (.slice la t.list.length lc) t.list:=λw' hb=>hLV.keep (S:=noB) (Chg.of_below hb) (λ_ h=>h.elim) (aN.refl _ _)
 have Uo:∀ {x:List Int} {a:Option Addr} {c:Nat},cB w a x.length 1 (kJ x)->x.length<=9223372036854775807:=λhs=>by have:=hs.1;unfold maxLen at this;omega
 by_cases hk:t.key=[]
 ·have hK0:KV=.slice none 0 0:=by obtain⟨a,c,h1,h2,_⟩:=hKV;exact h2 hk
  subst hK0
  by_cases hm:r.marks.getD p []=[]
  ·have hM0:ms.getD p undef=.slice none 0 0:=by obtain⟨a,c,h1,h2,_⟩:=hmp;exact h2 hm
   rw [hM0] at hMp
   have C:=Bf w J.bH J.bW J.bM J.nt p r.now J.nt e.call e.inv e.steps t.val e.ans.val e.resp n0 k0 n1 k1 t.list.length lc t.err e.ans.err a0 a1 la (hl.take (16*p)) (hl.drop (16*p+16)) ms x0 x1 _ _ _ _ _ _ _ xM hH hM hMp hp hn hnow c6 c7
   rw [hpre] at C
   refine C.mono ?_
   rintro x w' ⟨kb,rfl,hkb,hkc,hb⟩
   refine⟨la,lc,.slice (some ⟨kb,0,none⟩) 1 1,?_,keepU w' hb,?_,hb⟩
   ·rfl
   ·unfold yQ
    rw [if_pos hk,if_pos hm]
    refine⟨_,_,rfl,λe=>by(cases e),⟨by unfold maxLen;simp,λj hj=>⟨kb,0,rfl,aC hkc,λf hf=>?_⟩⟩,λb off e uZ=>?_⟩
    ·obtain rfl:j=0:=by simpa using hj
     obtain rfl:f=0:=by omega
     rw [aA hkc];rfl
    ·cases e;have:=hlow _ uZ;omega
  ·obtain⟨ma,mk,hMV,hMn,hMs,hMm⟩:=id hmp
   rw [hMV] at hMp
   have C:=Ce w J.bH J.bW J.bM J.nt p r.now J.nt e.call e.inv e.steps t.val e.ans.val e.resp n0 k0 n1 k1 t.list.length lc (r.marks.getD p []).length mk t.err e.ans.err a0 a1 la ma (hl.take (16*p)) (hl.drop (16*p+16)) ms x0 x1 _ _ _ _ _ _ _ xM hH hM hMp hp hn hnow (List.length_pos_iff.2 hm) (Uo (c:=mk) hMs) c6 c7
   rw [hpre] at C
   refine C.mono ?_
   rintro x w' ⟨rfl,hb⟩
   refine⟨la,lc,.slice ma (r.marks.getD p []).length mk,rfl,keepU w' hb,?_,hb⟩
   unfold yQ
   rw [if_pos hk,if_neg hm,<-hMV]
   exact hmp.keep (S:=noB) (Chg.of_below hb) (λ_ h=>h.elim) (aN.refl _ _)
 ·obtain⟨ka,kc,rfl,hKn,hKs,hKm⟩:=id hKV
  have C:=Iz w J.bH J.bW J.bM J.nt p r.now J.nt e.call e.inv e.steps t.val e.ans.val e.resp n0 k0 n1 k1 t.list.length lc t.key.length kc t.err e.ans.err a0 a1 la ka (ms.getD p undef) (hl.take (16*p)) (hl.drop (16*p+16)) ms x0 x1 _ _ _ _ _ _ _ xM hH hM hMp hp hn hnow (List.length_pos_iff.2 hk) (Uo (c:=kc) hKs) c6 c7
  rw [hpre] at C
  refine C.mono ?_
  rintro x w' ⟨rfl,hb⟩
  refine⟨la,lc,.slice ka t.key.length kc,rfl,keepU w' hb,?_,hb⟩
  unfold yQ
  rw [if_neg hk]
  exact hKV.keep (S:=noB) (Chg.of_below hb) (λ_ h=>h.elim) (aN.refl _ _)
end
section
open Go.RowKit
theorem bZ {ops:Array Oper} {o:Oper} {a:Act} {w:World} {K:Act->World->Prop} {Q:Exit->Act->World->Prop} {E:Prop} (hgd:o.guard=none) (t:TypeId) (x y:Operand) (ho:o.op=.makeSlice t x y) (n:Nat) (e:TypeId) (cs:Array Value)
  (hrun:∀ u:World,(Instr.makeSlice t (.int .i64 (n:Int)) (.int .i64 (n:Int))).run Tryz.prog u=.ok (.slice (some ⟨u.heap.size,0,none⟩) n n) (u.alloc (.cells cs e)))
  (hx:a.eval x=.int .i64 (n:Int)) (hy:a.eval y=.int .i64 (n:Int))
  (h:∀(b:Nat) (w':World),w'.heap[b]?=some (.cells cs e (0,0))->w.heap.size<=b->Below w.heap.size w w'->K (a.put o.dst (.slice (some ⟨b,0,none⟩) n n)) w') :
  if Region.wanted o (yielded ops a.tmps)=true then Oper.wp Tryz.prog o a w K Q else E:=by
 have hw:Region.wanted o (yielded ops a.tmps)=true:=by simp [Region.wanted,hgd]
 rw [if_pos hw]
 have h9:=h w.heap.size (w.alloc (.cells cs e)) (heap_alloc_new _ _) (Nat.le_refl _) (Gr.new _ _)
 unfold Oper.wp
 have hr:(execOp a.eval o).run Tryz.prog w=.ok (.value (.slice (some ⟨w.heap.size,0,none⟩) n n)) (w.alloc (.cells cs e)):=by
  unfold execOp
  rw [ho]
  simp only [hx,hy]
  simp [Sem.run_bind,hrun,Result.andThen,Sem.run_pure]
 rw [hr]
 exact h9
structure Ot (w0 wx:World) (nt sz bM bT bW:Nat) (wa:Option Addr) (wc:Nat):Prop where
 below:Below w0.heap.size w0 wx
 blk:wx.heap[bW]?=some (.cells #[.slice wa sz wc,.int .i64 0,.int .i64 0,.int .i64 0,.int .i64 0,.int .i64 0,.int .i64 0,.slice (some ⟨bM,0,none⟩) nt nt,.slice (some ⟨bT,0,none⟩) sz sz,.slice none 0 0] 93 (0,0))
 marks:wx.heap[bM]?=some (.cells (List.replicate nt (Value.slice none 0 0)).toArray 24 (0,0))
 traces:wx.heap[bT]?=some (.cells (List.replicate sz (Value.slice none 0 0)).toArray 24 (0,0))
 row:wx.ownsRow w0.heap.size 46 1 (.slice wa sz wc) sz ((List.replicate sz 0).map bI)
 ge:w0.heap.size<=bW
 geM:w0.heap.size<=bM
 geT:w0.heap.size<=bT
 mt:bM≠bT
theorem XL:(Tryz.prog.info? 24).map (λi=>(i.zero,i.size,i.bytes))=some (some (.slice none 0 0),1,24):=by kernel_rfl
theorem NQ (n:Nat) (hn:n<=1000000) (u:World):(Instr.makeSlice 91 (.int .i64 (n:Int)) (.int .i64 (n:Int))).run Tryz.prog u=.ok (.slice (some ⟨u.heap.size,0,none⟩) n n) (u.alloc (.cells (List.replicate n (Value.slice none 0 0)).toArray 24)):=by
 obtain⟨i0,hi,hz0,hz1,hz2⟩:=info_parts XL
 have h:=run_make (P:=Tryz.prog) u 91 24 i0 (.slice none 0 0) Tryz.underlying91 hi hz0 .i64 .i64 (n:Int) (n:Int) (by omega) (Int.le_refl _) (by rw [hz2];omega) (by omega)
 simpa [hz1,Value.cells,jT] using h
theorem WT:(Tryz.prog.info? 4).map (λi=>(i.zero,i.size,i.bytes))=some (some (.bool false),1,1):=by kernel_rfl
def hand0:Array Value:=#[.bool false,.int .i64 0,.pointer none,.int .i64 0,.int .i64 0,.slice none 0 0,.slice none 0 0,.int .i64 0,.bool false,.bool false,.slice none 0 0,.int .i64 0,.int .u64 0,.slice none 0 0,.slice none 0 0,.slice none 0 0]
theorem XV:(Tryz.prog.info? 100).map (λi=>(i.zero,i.size,i.bytes))=some (some (.agg hand0),16,216):=by kernel_rfl
theorem GR (n:Nat) (hn:n<=1000000) (u:World):(Instr.makeSlice 94 (.int .i64 (n:Int)) (.int .i64 (n:Int))).run Tryz.prog u=.ok (.slice (some ⟨u.heap.size,0,none⟩) n n) (u.alloc (.cells (List.replicate n (Value.bool false)).toArray 4)):=by
 obtain⟨i0,hi,hz0,hz1,hz2⟩:=info_parts WT
 have h:=run_make (P:=Tryz.prog) u 94 4 i0 (.bool false) Tryz.underlying94 hi hz0 .i64 .i64 (n:Int) (n:Int) (by omega) (Int.le_refl _) (by rw [hz2];omega) (by omega)
 simpa [hz1,Value.cells,jT] using h
theorem UG (n:Nat) (hn:n<=16) (u:World):(Instr.makeSlice 95 (.int .i64 (n:Int)) (.int .i64 (n:Int))).run Tryz.prog u=.ok (.slice (some ⟨u.heap.size,0,none⟩) n n) (u.alloc (.cells (madeCells hand0 (n*16)) 100)):=by
 obtain⟨i0,hi,hz0,hz1,hz2⟩:=info_parts XV
 have h:=run_make (P:=Tryz.prog) u 95 100 i0 (.agg hand0) Tryz.underlying95 hi hz0 .i64 .i64 (n:Int) (n:Int) (by omega) (Int.le_refl _) (by rw [hz2];omega) (by omega)
 simpa [hz1,Value.cells] using h
theorem XM:(Tryz.prog.info? 28).map (λi=>(i.zero,i.size,i.bytes))=some (some (.slice none 0 0),1,24):=by kernel_rfl
theorem Ap (u:World):(Instr.makeSlice 96 (.int .i64 1) (.int .i64 1)).run Tryz.prog u=.ok (.slice (some ⟨u.heap.size,0,none⟩) 1 1) (u.alloc (.cells #[.slice none 0 0] 28)):=by
 obtain⟨i0,hi,hz0,hz1,hz2⟩:=info_parts XM
 have h:=run_make (P:=Tryz.prog) u 96 28 i0 (.slice none 0 0) Tryz.underlying96 hi hz0 .i64 .i64 (1:Int) (1:Int) (by omega) (Int.le_refl _) (by rw [hz2];omega) (by omega)
 simpa [hz1,Value.cells,jT] using h
theorem Aw (n:Nat):(madeCells hand0 (n*16)).toList.length=16*n:=by
 unfold madeCells
 simp [Nat.mul_comm]
theorem Df (n q j:Nat) (hq:q<n) (hj:j<16):(madeCells hand0 (n*16)).toList[16*q+j]?=hand0[j]?:=by
 have h1:(madeCells hand0 (n*16))[16*q+j]?=some (hand0[(16*q+j) % hand0.size]!):=by
  unfold madeCells
  rw [Array.getElem?_map,Array.getElem?_eq_getElem (by simp;omega)]
  simp
 rw [Array.getElem?_toList,h1,show(16*q+j) % hand0.size=j from by show(16*q+j) % 16=j;omega,getElem!_pos hand0 j hj,Array.getElem?_eq_getElem hj]
theorem Ci {w:World} {b B cap:Nat} {wa:Option Addr} {T:TypeId} {tail:List Value} {ws:List Nat} (hb:w.heap[b]?=some (.cells (eQ wa ws.length cap c0 tail) T (0,0))) (h:w.ownsRow B 46 1 (.slice wa ws.length cap) ws.length (ws.map bI))
  (h0:0<ws.length) (hl:ws.length<=1048576) (hv:∀ x∈ws,x<18446744073709551616) (hT:T≠46):∃ q,wa=some ⟨q,0,none⟩/\B<=q/\q<w.heap.size/\fP w b T tail (some q) ⟨ws,c0⟩:=by
 rcases h.2 with⟨_,h9⟩|⟨q,cp,cur,e,hB,hh,hle,_,_,htk⟩
 ·omega
 ·simp only [Value.slice.injEq] at e
  obtain⟨rfl,_,rfl⟩:=e
  refine⟨q,rfl,hB,aC hh,⟨⟨_,_,⟨hle,λe=>by cases e⟩,hb,λ_=>⟨q,cur.toList.drop (ws.length*1),rfl,rfl,?_⟩⟩,λe=>?_,λq' e=>by cases e;exact aC hh,hl,(by show c0.all<1000000000000;decide),hv⟩⟩
  ·rw [hh,<-htk,List.take_append_drop]
  ·cases e
   rw [hb] at hh
   simp only [Option.some.injEq,Obj.cells.injEq] at hh
   exact hT hh.2.1
structure Sg (w0 w:World) (bH n p:Nat) (hl:List Value) (os:Nat->Nat):Prop where
 len:hl.length=16*n
 blk:w.heap[bH]?=some (.cells hl.toArray 100 (0,0))
 c0:∀ q,q<n->hl[16*q]?=some (.bool false)
 own:∀ q,q<p->hl[16*q+15]?=some (.slice (some ⟨os q,0,none⟩) 1 1)/\w.heap[os q]?=some (.cells #[.slice none 0 0] 28 (0,0))/\w0.heap.size<=os q
 oo:∀ q q',q<p->q'<p->q≠q'->os q≠os q'
def vD (w0 w:World) (bH n p:Nat):Prop:=∃ hl os,Sg w0 w bH n p hl os
theorem vD.own {w0 w w1 w2:World} {bH n p o:Nat} (h:vD w0 w bH n p) (hp:p<n) (hb:Below w.heap.size w w1) (ho:w1.heap[o]?=some (.cells #[.slice none 0 0] 28 (0,0))) (hlo:w.heap.size<=o) (h0:w0.heap.size<=w.heap.size)
  (hc:Chg (λb=>b=bH) w1 w2) (hw2:w2.heap[bH]?=(w1.setCell ⟨bH,16*p+15,none⟩ (.slice (some ⟨o,0,none⟩) 1 1)).heap[bH]?):vD w0 w2 bH n (p+1):=by
 obtain⟨hl,os,h⟩:=h
 have h2':=(hb.block _ (aC h.blk)).trans h.blk
 have hne:∀ b cs,w1.heap[b]?=some (.cells cs 28 (0,0))->b≠bH:=λb cs uZ e=>by
  rw [e,h2'] at uZ
  simp only [Option.some.injEq,Obj.cells.injEq] at uZ
  exact absurd uZ.2.1 (by decide)
 have hlen:=h.len
 refine⟨hl.set (16*p+15) (.slice (some ⟨o,0,none⟩) 1 1),λq=>if q=p then o else os q,by simpa using h.len,?_,λq hq=>?_,λq hq=>?_,λq q' hq hq' hqq=>?_⟩
 ·rw [hw2,aG h2'];simp
 ·rw [List.getElem?_set_ne (by omega)];exact h.c0 q hq
 ·by_cases hqp:q=p
  ·subst hqp
   rw [if_pos rfl]
   exact⟨by rw [List.getElem?_set_self (by omega)],(hc.block _ (aC ho) (hne _ _ ho)).trans ho,Nat.le_trans h0 hlo⟩
  ·rw [if_neg hqp]
   obtain⟨g1,g2,g3⟩:=h.own q (by omega)
   have g2':=(hb.block _ (aC g2)).trans g2
   exact⟨by rw [List.getElem?_set_ne (by omega)];exact g1,(hc.block _ (aC g2') (hne _ _ g2')).trans g2',g3⟩
 ·have hlt:∀ q,q<p->os q<w.heap.size:=λq hq=>aC (h.own q hq).2.1
  by_cases hqp:q=p
  ·rw [if_pos hqp,if_neg (by omega)];have:=hlt q' (by omega);omega
  ·rw [if_neg hqp]
   by_cases hqp':q'=p
   ·rw [if_pos hqp'];have:=hlt q (by omega);omega
   ·rw [if_neg hqp'];exact h.oo q q' (by omega) (by omega) hqq
theorem vD.grown {w0 w w':World} {bH n p:Nat} (h:vD w0 w bH n p) (hb:Below w.heap.size w w'):vD w0 w' bH n p:=by
 obtain⟨hl,os,h⟩:=h
 exact⟨hl,os,h.len,(hb.block _ (aC h.blk)).trans h.blk,h.c0,λq hq=>⟨(h.own q hq).1,(hb.block _ (aC (h.own q hq).2.1)).trans (h.own q hq).2.1,(h.own q hq).2.2⟩,h.oo⟩
theorem jA.init {w0 wx w4:World} {nt sz bM bT bW bF bH bO bq wc nc:Nat} {old:Nat->Prop} {wa:Option Addr} (calls:List aD) (hL:Ot w0 wx nt sz bM bT bW wa wc) (hs0:0<sz) (hsz:sz<=65536) (hc:Chg (λb=>b=bH) wx w4) (hbH:wx.heap.size<=bH) (hK:vD w0 w4 bH nt nt)
  (hF:w4.heap[bF]?=some (.cells (List.replicate calls.length (Value.bool false)).toArray 4 (0,0))) (hFge:w0.heap.size<=bF) (hO:w4.heap[bO]?=some (.cells #[.slice none 0 0,.slice none 0 0,.int .i64 0,.int .i64 0,.int .i64 0,.int .i64 0,.int .i64 0,.int .i64 0,.int .i64 0] 32 (0,0))) (hOge:w0.heap.size<=bO) (hRl:∀ b,old b->b<w0.heap.size) :
  ∃ bq,jA w0 w4 ⟨bW,bM,bT,bF,bH,bO,some bq,nt,sz,calls.length,old⟩ (gQ nt sz calls):=by
 have hWx:wx.heap[bW]?=some (.cells (eQ wa (List.replicate sz 0).length wc c0 [.int .i64 ((0:Nat):Int),.slice (some ⟨bM,0,none⟩) nt nt,.slice (some ⟨bT,0,none⟩) sz sz,.slice none 0 0]) 93 (0,0)):=by rw [List.length_replicate];exact hL.blk
 obtain⟨bq,hwa,hbq,aA6,hmem⟩:=Ci hWx (by simpa using hL.row) (by simpa using hs0) (by simp;omega) (λx hx=>by rw [(List.mem_replicate.1 hx).2];decide) (by decide)
 obtain⟨hl,os,hR⟩:=hK
 have hn:∀ {b:Nat} {o:Obj},wx.heap[b]?=some o->b≠bH:=λh9 e=>by have:=aC h9;omega
 have hut:∃ cs fz,wx.heap[bq]?=some (.cells cs 46 fz):=by
  rw [hwa] at hL
  exact gG hL.row rfl
 have hvs:∀ q,q<nt->((List.range nt).map λq=>((nilV,nilV,os q):HV)).getD q hv0=(nilV,nilV,os q):=λq hq=>by simp [List.getD_eq_getElem?_getD,hq]
 have hrh:∀ q,(List.replicate nt aY).getD q aY=aY:=λq=>fU nt q _
 have hnil:∀ b,nilV.ownBlock≠some b:=λb e=>by cases e
 have hsz':nt<=16∨True:=.inr trivial
 refine⟨bq,hl,(List.range nt).map λq=>(nilV,nilV,os q),.slice none 0 0,none,0,[],⟨hL.below.trans (hc.below (λb e=>by have:=hL.below.size;omega) hL.below.size),?_,List.length_replicate ..,⟨hR.len,by simp,List.length_replicate ..,rfl⟩,λq hq=>?_,λq hq e=>?_,λq hq=>?_,λq hq=>?_,λq hq _=>?_,hO,⟨rfl,.inl ⟨rfl,rfl⟩⟩,λi hi=>absurd hi (Nat.not_lt_zero i),λa b ha hb _ _ _ c e=>?_,λa b ha hb _ _ _ c e=>?_,λa b ha hb hab=>?_,⟨hFge,hOge,?_,hL.ge,hL.geM,hL.geT,λq e=>by(cases e;exact hbq),λq hq=>?_⟩,λb e=>?_,λb e q hq _=>?_,hRl⟩,hR.blk,?_,⟨0,[],Nat.zero_le _,rfl,.inl ⟨rfl,rfl⟩⟩,λb e=>by(cases e),?_,?_,hL.mt⟩
 ·show w4.heap[bF]?=some (.cells ((List.replicate calls.length false).map Value.bool).toArray _ _)
  rw [List.map_replicate];exact hF
 ·show hl[16*q]?=some (.bool ((List.replicate nt aY).getD q aY).opn)
  rw [hrh];exact hR.c0 q hq
 ·have e':((List.replicate nt aY).getD q aY).opn=true:=e
  rw [hrh] at e';cases e'
 ·rw [hvs q hq];exact(hR.own q hq).1
 ·rw [hvs q hq]
  refine⟨_,(hR.own q hq).2.1,?_⟩
  show fK _ _ _ ((List.replicate nt aY).getD q aY).own
  rw [hrh];exact fK.nil _ _
 ·show vW _ _ _ _ _ ((List.replicate nt aY).getD q aY) _
  rw [hrh,hvs q hq]
  exact⟨λe=>by(cases e),λ_=>⟨rfl,rfl⟩⟩
 ·rw [hvs a ha] at e;cases e
 ·rw [hvs a ha] at e;cases e
 ·rw [hvs a ha,hvs b hb];exact hR.oo a b ha hb hab
 ·have:=hL.below.size;show _<=bH;omega
 ·rw [hvs q hq];exact⟨(hR.own q hq).2.2,λ_=>⟨λb e=>absurd e (hnil b),λb e=>absurd e (hnil b)⟩⟩
 ·cases e
  obtain⟨cs,fz,h9⟩:=hut
  exact⟨cs,fz,(hc.block _ (aC h9) (hn h9)).trans h9⟩
 ·rw [hvs q hq];exact hnil b
 ·exact hmem.chg hc (hn hL.blk) (λq e=>by cases e;obtain⟨_,_,h9⟩:=hut;exact hn h9)
 ·refine⟨List.length_replicate ..,_,(hc.block _ (aC hL.marks) (hn hL.marks)).trans hL.marks,List.length_replicate ..,λi hi=>?_⟩
  show Lst _ _ _ ((List.replicate nt ([]:List Int)).getD i [])
  rw [fU nt i ([]:List Int),show(List.replicate nt (Value.slice none 0 0)).getD i undef=.slice none 0 0 by simp [List.getD_eq_getElem?_getD,List.getElem?_replicate,show i<nt from hi]]
  exact Lst.nil _ _
 ·refine⟨List.length_replicate ..,_,(hc.block _ (aC hL.traces) (hn hL.traces)).trans hL.traces,List.length_replicate ..,λi hi=>?_⟩
  show Lst _ _ _ ((List.replicate sz ([]:List Int)).getD i [])
  rw [fU sz i ([]:List Int),show(List.replicate sz (Value.slice none 0 0)).getD i undef=.slice none 0 0 by simp [List.getD_eq_getElem?_getD,List.getElem?_replicate,show i<sz from hi]]
  exact Lst.nil _ _
end
section
open Go.RowKit
def fr (t:aJ):Nat:=if t.fresh=true then 1 else 0
structure lG (t:aJ) (r:RWD) (t':aJ) (r':RWD):Prop where
 ws:r'.mem.ws.length=r.mem.ws.length
 now:r'.now=r.now
 all:r'.mem.c.all+fr t'<=r.mem.c.all+fr t
 got:t'.got.length+fr t'<=t.got.length+fr t
 thread:t'.thread=t.thread
 inv:t'.inv=t.inv
theorem lG.refl (t:aJ) (r:RWD):lG t r t r:=⟨rfl,rfl,Nat.le_refl _,Nat.le_refl _,rfl,rfl⟩
theorem lG.trans {t t1 t2:aJ} {r r1 r2:RWD} (h:lG t r t1 r1) (k:lG t1 r1 t2 r2):lG t r t2 r2:=⟨k.ws.trans h.ws,k.now.trans h.now,Nat.le_trans k.all h.all,Nat.le_trans k.got h.got,k.thread.trans h.thread,k.inv.trans h.inv⟩
theorem lG.acc (kd a:Int) (x y:Nat) (t:aJ) (r:RWD):lG t r (aX kd a x y t r).2.1 (aX kd a x y t r).2.2:=by
 unfold aX
 by_cases h1:t.halt=true
 ·rw [if_pos h1];exact lG.refl _ _
 rw [if_neg h1]
 by_cases h2:t.at_<t.got.length
 ·rw [if_pos h2];exact⟨rfl,rfl,Nat.le_refl _,Nat.le_refl _,rfl,rfl⟩
 rw [if_neg h2]
 by_cases h3:t.fresh=true
 ·rw [if_pos h3]
  refine⟨MK,rfl,?_,?_,rfl,rfl⟩
  ·simp only [fr,LY,h3];simp
  ·simp only [fr,h3,List.length_append,List.length_singleton];simp
 ·rw [if_neg h3];exact⟨rfl,rfl,Nat.le_refl _,Nat.le_refl _,rfl,rfl⟩
structure DoB (dO:aD->aJ->RWD->aJ×RWD):Prop where
 runs:∀ c t r,lG t r (dO c t r).1 (dO c t r).2
 priv:∀ c t r,t.priv.length<=1000->(dO c t r).1.priv.length<=1000
structure kS (n sz:Nat) (calls:List aD) (s:dS):Prop where
 hl:s.hands.length=n
 fl:s.fin.length=calls.length
 ws:s.rw.mem.ws.length=sz
 all:s.rw.mem.c.all<=s.rw.now
 el:s.evs.length<=s.rw.now
 st:∀ j,(aF s.evs j).steps<=s.rw.now
 hand:∀ p,p<n->(s.hands.getD p aY).got.length<=s.rw.now/\(s.hands.getD p aY).own.length<=1000/\((s.hands.getD p aY).opn=true->(s.hands.getD p aY).ev<s.evs.length/\(aF s.evs (s.hands.getD p aY).ev).call<calls.length/\(calls.getD (aF s.evs (s.hands.getD p aY).ev).call d0).obj=0)
theorem xK {l:List EvD} {k:Nat} {f:EvD->EvD} (hf:∀ e,(f e).call=e.call) (j:Nat):(aF (dA l k f) j).call=(aF l j).call:=by
 unfold dA
 by_cases hk:k<l.length
 ·rw [jK _ hk]
  split
  ·rename_i e;rw [hf,e];rfl
  ·rfl
 ·rw [List.set_eq_of_length_le (by omega)]
theorem Ku (n sz:Nat) (calls:List aD):kS n sz calls (gQ n sz calls):=by
 refine⟨List.length_replicate ..,List.length_replicate ..,List.length_replicate ..,Nat.le_refl _,Nat.zero_le _,λj=>Nat.le_refl 0,λp hp=>?_⟩
 show((List.replicate n aY).getD p aY).got.length<=_/\((List.replicate n aY).getD p aY).own.length<=_/\(((List.replicate n aY).getD p aY).opn=true->_)
 rw [fU n p aY]
 exact⟨Nat.zero_le _,Nat.zero_le _,λe=>by cases e⟩
variable {n sz:Nat} {calls:List aD} {s:dS} {dO:aD->aJ->RWD->aJ×RWD}
theorem kS.tick (h:kS n sz calls s):kS n sz calls { s with rw:=s.rw.tick }:=
 ⟨h.hl,h.fl,h.ws,Nat.le_succ_of_le h.all,Nat.le_succ_of_le h.el,λj=>Nat.le_succ_of_le (h.st j),λp hp=>⟨Nat.le_succ_of_le (h.hand p hp).1,(h.hand p hp).2⟩⟩
theorem kS.open_ (h:kS n sz calls s) {q i:Nat} (hi:i<calls.length) (hq:q<n):((dM s q i).hands.getD q aY).opn=true/\((dM s q i).hands.getD q aY).ev<(dM s q i).evs.length/\(dM s q i).hands.length=n/\(dM s q i).fin=s.fin/\(dM s q i).rw.mem=s.rw.mem/\(dM s q i).rw.now=s.rw.now/\
  (∀ p,p<n->((dM s q i).hands.getD p aY).got.length<=s.rw.now/\((dM s q i).hands.getD p aY).own.length<=1000)/\(aF (dM s q i).evs ((dM s q i).hands.getD q aY).ev).call<calls.length/\
  (∀ p,p<n->p≠q->((dM s q i).hands.getD p aY).opn=true->((dM s q i).hands.getD p aY).ev<(dM s q i).evs.length/\(aF (dM s q i).evs ((dM s q i).hands.getD p aY).ev).call<calls.length/\(calls.getD (aF (dM s q i).evs ((dM s q i).hands.getD p aY).ev).call d0).obj=0)/\(∀ j,(aF (dM s q i).evs j).steps<=s.rw.now):=by
 unfold dM
 by_cases ho:(s.hands.getD q aY).opn=true
 ·rw [if_pos ho]
  exact⟨ho,((h.hand q hq).2.2 ho).1,h.hl,rfl,rfl,rfl,λp hp=>⟨(h.hand p hp).1,(h.hand p hp).2.1⟩,((h.hand q hq).2.2 ho).2.1,λp hp _=>(h.hand p hp).2.2,h.st⟩
 ·rw [if_neg ho]
  have hql:q<s.hands.length:=by rw [h.hl];exact hq
  have hb:(iW s q i).hands.getD q aY=⟨true,s.evs.length,s.rw.now,[],[],(s.hands.getD q aY).own⟩:=aI hql
  have ho:∀ p,p≠q->(iW s q i).hands.getD p aY=s.hands.getD p aY:=λp hp=>aK (Ne.symm hp)
  have hel:(iW s q i).evs.length=s.evs.length+1:=by show(s.evs++[_]).length=_;simp
  have hlast:(aF (iW s q i).evs s.evs.length).call=i:=by show(aF (s.evs++[_]) s.evs.length).call=i;unfold aF;rw [List.getD_eq_getElem?_getD,List.getElem?_append_right (Nat.le_refl _),Nat.sub_self];rfl
  have hold:∀ j,j<s.evs.length->aF (iW s q i).evs j=aF s.evs j:=λj hj=>by show aF (s.evs++[_]) j=_;unfold aF;rw [List.getD_eq_getElem?_getD,List.getD_eq_getElem?_getD,List.getElem?_append_left hj]
  refine⟨by rw [hb],by rw [hb,hel];exact Nat.lt_succ_self _,by show(s.hands.set q _).length=n;rw [List.length_set];exact h.hl,rfl,rfl,rfl,λp hp=>?_,by rw [hb];simp only;rw [hlast];exact hi,λp hp hpq e=>?_,λj=>?_⟩
  ·by_cases e:p=q
   ·subst e;rw [hb];exact⟨Nat.zero_le _,(h.hand p hp).2.1⟩
   ·rw [ho p e];exact⟨(h.hand p hp).1,(h.hand p hp).2.1⟩
  ·rw [ho p hpq] at e ⊢
   obtain⟨e1,e2,e3⟩:=(h.hand p hp).2.2 e
   rw [hold _ e1]
   exact⟨by rw [hel];omega,e2,e3⟩
  ·by_cases hj:j<s.evs.length
   ·rw [hold j hj];exact h.st j
   ·show(aF (s.evs++[_]) j).steps<=_
    unfold aF
    rw [List.getD_eq_getElem?_getD,List.getElem?_append_right (by omega)]
    cases hx:j - s.evs.length with
    | zero=>exact Nat.zero_le _
    | succ m=>exact Nat.zero_le _
theorem kS.pick (D:DoB dO) (h:kS n sz calls s) (hthr:∀ c,c<calls.length->0<=(calls.getD c d0).thread/\(calls.getD c d0).thread<(n:Int)) (hcall:∀ p,p<n->(s.hands.getD p aY).opn=true->gF calls s.fin (p:Int)=some (aF s.evs (s.hands.getD p aY).ev).call) (x:Int):kS n sz calls (oQ dO calls s x):=by
 unfold oQ
 cases hN:gF calls s.fin x with
 | none=>exact⟨h.hl,h.fl,h.ws,h.all,h.el,h.st,h.hand⟩
 | some i=>
  obtain⟨n1,n2,n3⟩:=fC hN
  obtain⟨t1,t2⟩:=hthr i n1
  obtain⟨q,rfl⟩:∃ q:Nat,x=(q:Int):=⟨x.toNat,by omega⟩
  have hq:q<n:=by omega
  simp only [Int.toNat_natCast]
  obtain⟨o1,o2,o3,o4,o5,o6,o7,o8,o9,_⟩:=h.tick.open_ n1 hq
  obtain⟨s1,hs1⟩:∃ s1,s1=dM { s with rw:=s.rw.tick } q i:=⟨_,rfl⟩
  have Rs:(aF s1.evs (s1.hands.getD q aY).ev).call=i:=by
   rw [hs1]
   unfold dM
   by_cases ho:(s.hands.getD q aY).opn=true
   ·rw [if_pos (show((({ s with rw:=s.rw.tick }:dS).hands.getD q aY).opn=true) from ho)]
    have:=hcall q hq ho
    rw [hN] at this
    simpa using this.symm
   ·rw [if_neg (show ¬ ((({ s with rw:=s.rw.tick }:dS).hands.getD q aY).opn=true) from ho)]
    have hql:q<s.hands.length:=by rw [h.hl];exact hq
    have hb:(iW { s with rw:=s.rw.tick } q i).hands.getD q aY=⟨true,s.evs.length,s.rw.now+1,[],[],(s.hands.getD q aY).own⟩:=aI hql
    rw [hb]
    show(aF (s.evs++[_]) s.evs.length).call=i
    unfold aF;rw [List.getD_eq_getElem?_getD,List.getElem?_append_right (Nat.le_refl _),Nat.sub_self];rfl
  have Dj:∀ j,(aF s1.evs j).steps<=s.rw.now:=λj=>by
   rw [hs1];unfold dM
   split
   ·exact h.st j
   ·show(aF (s.evs++[_]) j).steps<=_
    by_cases hj:j<s.evs.length
    ·have h9:=h.st j
     unfold aF at h9 ⊢
     rw [List.getD_eq_getElem?_getD] at h9 ⊢
     rw [List.getElem?_append_left hj];exact h9
    ·unfold aF
     rw [List.getD_eq_getElem?_getD,List.getElem?_append_right (by omega)]
     cases hx:j - s.evs.length with
     | zero=>exact Nat.zero_le _
     | succ m=>exact Nat.zero_le _
  have hste:∀(l:List EvD) (k j N:Nat) (f:EvD->EvD),(∀ e,(f e).steps<=e.steps+1)->(∀ j,(aF l j).steps<=N)->(aF (dA l k f) j).steps<=N+1:=λl k j N f hf hl=>by
   unfold dA
   by_cases hk:k<l.length
   ·rw [jK _ hk]
    split
    ·have h8:=hf (l.getD k iO);have h9:=hl k;unfold aF at h9;omega
    ·exact Nat.le_succ_of_le (hl j)
   ·rw [List.set_eq_of_length_le (by omega)];exact Nat.le_succ_of_le (hl j)
  rw [<-hs1] at o1 o2 o3 o4 o5 o6 o7 o8 o9 ⊢
  obtain⟨c,hc⟩:∃ c,c=calls.getD i d0:=⟨_,rfl⟩
  rw [<-hc]
  obtain⟨hh,hhh⟩:∃ hh,hh=s1.hands.getD q aY:=⟨_,rfl⟩
  have hql:q<s1.hands.length:=by rw [o3];exact hq
  have R:lG (hh.tape q) s1.rw (rdo dO c (hh.tape q) s1.rw).1 (rdo dO c (hh.tape q) s1.rw).2:=by
   unfold rdo
   split
   ·exact⟨rfl,rfl,Nat.le_refl _,Nat.le_refl _,rfl,rfl⟩
   ·exact D.runs _ _ _
  have hpr:c.obj=0->(rdo dO c (hh.tape q) s1.rw).1.priv.length<=1000:=λe=>by
   unfold rdo
   rw [if_neg (λx=>x e)]
   exact D.priv _ _ _ (by show hh.own.length<=1000;rw [hhh];exact(o7 q hq).2)
  have hobj:(rdo dO c (hh.tape q) s1.rw).1.halt=true->c.obj=0:=λe=>by
   unfold rdo at e
   by_cases h0:c.obj=0
   ·exact h0
   ·rw [if_pos h0] at e;cases e
  have hfr:fr (hh.tape q)=1:=rfl
  have hall:(rdo dO c (hh.tape q) s1.rw).2.mem.c.all<=(rdo dO c (hh.tape q) s1.rw).2.now:=by
   have:=R.all;have h2:=R.now;have h3:s1.rw.now=s.rw.now+1:=o6
   have h4:s1.rw.mem.c.all=s.rw.mem.c.all:=congrArg (λm=>m.c.all) o5
   have:=h.all;omega
  have hgot:(rdo dO c (hh.tape q) s1.rw).1.got.length<=(rdo dO c (hh.tape q) s1.rw).2.now:=by
   have h1:=R.got;have h2:=R.now;have h3:s1.rw.now=s.rw.now+1:=o6
   have h5:(hh.tape q).got.length<=s.rw.now+1:=by show hh.got.length<=_;rw [hhh];exact(o7 q hq).1
   by_cases ho:(s.hands.getD q aY).opn=true
   ·have h6:hh=s.hands.getD q aY:=by rw [hhh,hs1];unfold dM;rw [if_pos (show((({ s with rw:=s.rw.tick }:dS).hands.getD q aY).opn=true) from ho)]
    have h7:(hh.tape q).got.length<=s.rw.now:=by show hh.got.length<=_;rw [h6];exact(h.hand q hq).1
    omega
   ·have h6:hh.got=[]:=by
     rw [hhh,hs1];unfold dM
     rw [if_neg (show ¬ ((({ s with rw:=s.rw.tick }:dS).hands.getD q aY).opn=true) from ho)]
     have hq2:q<s.hands.length:=by rw [h.hl];exact hq
     have hb:(iW { s with rw:=s.rw.tick } q i).hands.getD q aY=⟨true,s.evs.length,s.rw.now+1,[],[],(s.hands.getD q aY).own⟩:=aI hq2
     rw [hb]
    have h7:(hh.tape q).got.length=0:=by show hh.got.length=0;rw [h6];rfl
    omega
  have Zc:s1.evs.length<=s.rw.now+1:=by
   rw [hs1];unfold dM
   split
   ·have:=h.el;show s.evs.length<=_;omega
   ·have:=h.el;show(s.evs++[_]).length<=_;simp;omega
  have hws:(rdo dO c (hh.tape q) s1.rw).2.mem.ws.length=sz:=by rw [R.ws,o5];exact h.ws
  have QY:(rdo dO c (hh.tape q) s1.rw).2.now=s.rw.now+1:=by rw [R.now];exact o6
  unfold rgo
  rw [<-hhh]
  by_cases hz:(rdo dO c (hh.tape q) s1.rw).1.halt=true
  ·rw [if_pos hz]
   refine⟨by simpa using o3,by simp only;rw [o4];exact h.fl,hws,hall,by simp only;rw [gP,QY];exact Zc,λj=>by simp only;rw [QY];exact hste _ _ _ _ _ (λe=>Nat.le_refl _) Dj,λp hp=>?_⟩
   simp only
   rw [gP]
   by_cases e:p=q
   ·subst e
    rw [aI hql]
    refine⟨hgot,by simp only;rw [hhh];exact(o7 p hp).2,λ_=>⟨by simp only;rw [hhh];exact o2,?_,?_⟩⟩
    ·simp only;rw [xK (f:=aS) (λ_=>rfl),hhh];exact o8
    ·simp only;rw [xK (f:=aS) (λ_=>rfl),hhh,Rs,<-hc];exact hobj hz
   ·rw [aK (Ne.symm e)]
    refine⟨by rw [QY];exact(o7 p hp).1,(o7 p hp).2,λe9=>?_⟩
    rw [xK (f:=aS) (λ_=>rfl)]
    exact o9 p hp e e9
  ·rw [if_neg hz]
   refine⟨by simpa using o3,by simp only [List.length_set];rw [o4];exact h.fl,hws,hall,by simp only;rw [gP,gP,QY];exact Zc,λj=>?_,λp hp=>?_⟩
   ·simp only
    rw [QY]
    have h8:∀ j,(aF (dA s1.evs hh.ev aS) j).steps<=s.rw.now+1:=λj=>hste _ _ _ _ _ (λe=>Nat.le_refl _) Dj
    unfold dA at h8 ⊢
    by_cases hk:hh.ev<(s1.evs.set hh.ev (aS (s1.evs.getD hh.ev iO))).length
    ·rw [jK _ hk]
     split
     ·exact h8 hh.ev
     ·exact h8 j
    ·rw [List.set_eq_of_length_le (by omega)];exact h8 j
   simp only
   rw [gP,gP]
   by_cases e:p=q
   ·subst e
    rw [aI hql]
    refine⟨hgot,?_,λe=>by cases e⟩
    simp only
    split
    ·rename_i h0;exact hpr h0
    ·rw [hhh];exact(o7 p hp).2
   ·rw [aK (Ne.symm e)]
    refine⟨by rw [QY];exact(o7 p hp).1,(o7 p hp).2,λe9=>?_⟩
    rw [xK (f:=lJ (rdo dO c (hh.tape q) s1.rw).2 q (rdo dO c (hh.tape q) s1.rw).1) (λ_=>rfl),xK (f:=aS) (λ_=>rfl)]
    exact o9 p hp e e9
end
section
open Go.RowKit
variable {w0 w w':World} {J:RJ} {s s':dS} {hl hl':List Value} {vs vs':List HV} {G K L:Value} {ea ea':Option Addr} {ec ec':Nat} {ers ers':List (Value×Value)} {p:Nat} {t:aJ} {r:RWD}
theorem gV.grown (h:gV w0 w J p s hl vs G K L ea ec ers t r) (hb:Below w.heap.size w w'):gV w0 w' J p s hl vs G K L ea ec ers t r:=⟨(h.tape.grown hb).1,h.rest.grown hb,h.hp,h.opn,h.thr,h.inv,h.ge⟩
theorem gV.ev_some (h:gV w0 w J p s hl vs G K L ea ec ers t r) {k:Nat} (hk:k<s.evs.length):∃ g,ea=some ⟨g,0,none⟩/\g<w.heap.size/\∀ f,f<8->w.cell? ⟨g,k*8+f,none⟩=(dK (s.evs.getD k iO) (ers.getD k wT))[f]?/\w.frozen? ⟨g,k*8+f,none⟩=false:=by
 obtain⟨g,c,h1,h2,h3⟩:=h.rest.evs.form (by omega)
 simp only [Value.slice.injEq] at h1
 obtain⟨rfl,_,_⟩:=h1
 have hr:=h.rest.evs
 obtain⟨_,_,hty⟩:=gG hr (b:=g) rfl
 exact⟨g,rfl,aC hty,λf hf=>⟨by rw [hr.cellAt _ (by omega),xC _ _ _ _ h.rest.lens.2.2.2.symm hk hf],hr.frozenAt _⟩⟩
theorem gV.store (h:gV w0 w J p s hl vs G K L ea ec ers t r) {k f g:Nat} {u:Value} {e':EvD} {v':Value×Value} (hk:k<s.evs.length) (hev:ea=some ⟨g,0,none⟩) (hf:f<8) (hs:(dK (s.evs.getD k iO) (ers.getD k wT)).set f u=dK e' v')
  (ZM:fK w (eX (eZ J p hl vs (.slice ea s.evs.length ec)) G K L) v'.1 e'.ans.list) (hkk:Lst w (eX (eZ J p hl vs (.slice ea s.evs.length ec)) G K L) v'.2 e'.key) :
  gV w0 (w.setCell ⟨g,k*8+f,none⟩ u) J p { s with evs:=s.evs.set k e' } hl vs G K L ea ec (ers.set k v') t r:=by
 subst hev
 have hc:Chg (λb=>b=g) w (w.setCell ⟨g,k*8+f,none⟩ u):=(Chg.refl (λb=>b=g) w).setCell (p:=⟨g,k*8+f,none⟩) (.inl rfl) _
 have hM:∀ b,b=g->eX (eZ J p hl vs (.slice (some ⟨g,0,none⟩) s.evs.length ec)) G K L b:=λb e=>.inr (.inr (.inr (.inl (by rw [e];rfl))))
 have hel:=h.rest.lens.2.2.2
 refine h.evs hc (λb e=>by rw [e];rfl) (s.evs.set k e') (by simp) (by simpa using hel) ?_ (λi hi=>?_)
 ·rw [<-FD _ _ _ _ u _ _ hel.symm hk hf hs]
  exact(h.rest.evs.stored _ _).1
 ·by_cases e:k=i
  ·subst e
   rw [aI (by omega),aI hk]
   exact⟨ZM.keep hc hM (aN.refl _ _),hkk.keep hc hM (aN.refl _ _)⟩
  ·rw [aK e,aK e]
   have hi':i<s.evs.length:=by simpa using hi
   exact⟨(h.rest.lie i hi').1.keep hc hM (aN.refl _ _),(h.rest.lie i hi').2.keep hc hM (aN.refl _ _)⟩
theorem gV.stepped (h:gV w0 w J p s hl vs G K L ea ec ers t r) {k g:Nat} (hk:k<s.evs.length) (hev:ea=some ⟨g,0,none⟩) :
  gV w0 (w.setCell ⟨g,k*8+3,none⟩ (.int .i64 (((s.evs.getD k iO).steps:Int)+1))) J p { s with evs:=dA s.evs k aS } hl vs G K L ea ec (ers.set k (ers.getD k wT)) t r:=by
 have hli:=h.rest.lie k hk
 have hs:∀(e:EvD) (v:Value×Value),(dK e v).set 3 (.int .i64 ((e.steps:Int)+1))=dK (aS e) v:=λe v=>by
  unfold dK aS gD
  simp
 have h9:=h.store (k:=k) (f:=3) (g:=g) (u:=.int .i64 (((s.evs.getD k iO).steps:Int)+1)) (e':=aS (s.evs.getD k iO)) (v':=ers.getD k wT) hk hev (by omega) (hs _ _) hli.1 hli.2
 exact h9
set_option maxHeartbeats 400000 in
theorem gV.done8 (h:gV w0 w J p s hl vs G K L ea ec ers t r) {k g la' lc:Nat} {la:Option Addr} {kv:Value} (hk:k<s.evs.length) (hev:ea=some ⟨g,0,none⟩) (hLV:fK w (eX (eZ J p hl vs (.slice ea s.evs.length ec)) G K L) (.slice la t.list.length lc) t.list) (hKV:Lst w (eX (eZ J p hl vs (.slice ea s.evs.length ec)) G K L) kv (yQ r p t.key)) :
  ∃ ers',gV w0 ((((((((w.setCell ⟨g,k*8,none⟩ (gD (s.evs.getD k iO).call)).setCell ⟨g,k*8+1,none⟩ (gD (s.evs.getD k iO).inv)).setCell ⟨g,k*8+2,none⟩ (gD r.now)).setCell ⟨g,k*8+3,none⟩ (gD (s.evs.getD k iO).steps)).setCell ⟨g,k*8+4,none⟩ (.int .i64 t.err)).setCell ⟨g,k*8+5,none⟩ (.int .u64 (t.val:Int))).setCell ⟨g,k*8+6,none⟩ (.slice la t.list.length lc)).setCell ⟨g,k*8+7,none⟩ kv) J p
   { s with evs:=dA s.evs k (lJ r p t) } hl vs G K L ea ec ers' t r:=by
 obtain⟨e,he⟩:∃ e,e=s.evs.getD k iO:=⟨_,rfl⟩
 obtain⟨v,hv⟩:∃ v,v=ers.getD k wT:=⟨_,rfl⟩
 have hkr:k<ers.length:=by rw [h.rest.lens.2.2.2];exact hk
 have hli:=h.rest.lie k hk
 rw [<-he,<-hv] at hli
 subst hev
 have hcS:∀(u:World) (f:Nat) (x:Value),Chg (λb=>b=g) u (u.setCell ⟨g,k*8+f,none⟩ x):=λu f x=>(Chg.refl (λb=>b=g) u).setCell (p:=⟨g,k*8+f,none⟩) (.inl rfl) _
 have hM:∀ b,b=g->eX (eZ J p hl vs (.slice (some ⟨g,0,none⟩) s.evs.length ec)) G K L b:=λb e=>.inr (.inr (.inr (.inl (by rw [e];rfl))))
 have keep:∀(u:World),Chg (λb=>b=g) w u->fK u (eX (eZ J p hl vs (.slice (some ⟨g,0,none⟩) s.evs.length ec)) G K L) v.1 e.ans.list/\Lst u (eX (eZ J p hl vs (.slice (some ⟨g,0,none⟩) s.evs.length ec)) G K L) v.2 e.key/\fK u (eX (eZ J p hl vs (.slice (some ⟨g,0,none⟩) s.evs.length ec)) G K L) (.slice la t.list.length lc) t.list/\Lst u (eX (eZ J p hl vs (.slice (some ⟨g,0,none⟩) s.evs.length ec)) G K L) kv (yQ r p t.key):=λu hu=>
  ⟨hli.1.keep hu hM (aN.refl _ _),hli.2.keep hu hM (aN.refl _ _),hLV.keep hu hM (aN.refl _ _),hKV.keep hu hM (aN.refl _ _)⟩
 have st:∀(u:World) (es:List EvD) (rs:List (Value×Value)) (f:Nat) (x:Value) (e1 e2:EvD) (v1 v2:Value×Value),es.length=s.evs.length->gV w0 u J p { s with evs:=es.set k e1 } hl vs G K L (some ⟨g,0,none⟩) ec (rs.set k v1) t r->k<es.length->k<rs.length->f<8->(dK e1 v1).set f x=dK e2 v2->
   fK u (eX (eZ J p hl vs (.slice (some ⟨g,0,none⟩) s.evs.length ec)) G K L) v2.1 e2.ans.list->Lst u (eX (eZ J p hl vs (.slice (some ⟨g,0,none⟩) s.evs.length ec)) G K L) v2.2 e2.key->gV w0 (u.setCell ⟨g,k*8+f,none⟩ x) J p { s with evs:=es.set k e2 } hl vs G K L (some ⟨g,0,none⟩) ec (rs.set k v2) t r:=λu es rs f x e1 e2 v1 v2 hes hm hke hkr hf hs h1 h2=>by
  have h9:=hm.store (k:=k) (f:=f) (g:=g) (u:=x) (e':=e2) (v':=v2) (by simpa using hke) rfl hf (by rw [aI hke,aI hkr];exact hs) (by simp only [List.length_set,hes];exact h1) (by simp only [List.length_set,hes];exact h2)
  simp only [List.set_set] at h9
  exact h9
 have h0:gV w0 w J p { s with evs:=s.evs.set k e } hl vs G K L (some ⟨g,0,none⟩) ec (ers.set k v) t r:=by
  have e1:s.evs.set k e=s.evs:=by rw [he,List.getD_eq_getElem?_getD,List.getElem?_eq_getElem hk];simp
  have e2:ers.set k v=ers:=by rw [hv,List.getD_eq_getElem?_getD,List.getElem?_eq_getElem hkr];simp
  rw [e1,e2];exact h
 have hm:dA s.evs k (lJ r p t)=s.evs.set k (lJ r p t e):=by rw [he];rfl
 rw [<-he,hm]
 have k0:=keep w (Chg.refl _ _)
 have h1:=st _ _ _ 0 (gD e.call) e e v v rfl h0 hk hkr (by omega) rfl k0.1 k0.2.1
 have c1:=hcS w 0 (gD e.call)
 have h2:=st _ _ _ 1 (gD e.inv) e e v v rfl h1 hk hkr (by omega) rfl (keep _ c1).1 (keep _ c1).2.1
 have c2:=c1.trans (hcS _ 1 (gD e.inv))
 have h3:=st _ _ _ 2 (gD r.now) e { e with resp:=r.now } v v rfl h2 hk hkr (by omega) rfl (keep _ c2).1 (keep _ c2).2.1
 have c3:=c2.trans (hcS _ 2 (gD r.now))
 have h4:=st _ _ _ 3 (gD e.steps) { e with resp:=r.now } { e with resp:=r.now } v v rfl h3 hk hkr (by omega) rfl (keep _ c3).1 (keep _ c3).2.1
 have c4:=c3.trans (hcS _ 3 (gD e.steps))
 have h5:=st _ _ _ 4 (.int .i64 t.err) { e with resp:=r.now } { e with resp:=r.now,ans:=⟨t.err,e.ans.val,e.ans.list⟩ } v v rfl h4 hk hkr (by omega) rfl (keep _ c4).1 (keep _ c4).2.1
 have c5:=c4.trans (hcS _ 4 (.int .i64 t.err))
 have h6:=st _ _ _ 5 (.int .u64 (t.val:Int)) { e with resp:=r.now,ans:=⟨t.err,e.ans.val,e.ans.list⟩ } { e with resp:=r.now,ans:=⟨t.err,t.val,e.ans.list⟩ } v v rfl h5 hk hkr (by omega) rfl (keep _ c5).1 (keep _ c5).2.1
 have c6:=c5.trans (hcS _ 5 (.int .u64 (t.val:Int)))
 have h7:=st _ _ _ 6 (.slice la t.list.length lc) { e with resp:=r.now,ans:=⟨t.err,t.val,e.ans.list⟩ } { e with resp:=r.now,ans:=⟨t.err,t.val,t.list⟩ } v (.slice la t.list.length lc,v.2) rfl h6 hk hkr (by omega) rfl (keep _ c6).2.2.1 (keep _ c6).2.1
 have c7:=c6.trans (hcS _ 6 (.slice la t.list.length lc))
 have h8:=st _ _ _ 7 kv { e with resp:=r.now,ans:=⟨t.err,t.val,t.list⟩ } (lJ r p t e) (.slice la t.list.length lc,v.2) (.slice la t.list.length lc,kv) rfl h7 hk hkr (by omega) rfl (keep _ c7).2.2.1 (keep _ c7).2.2.2
 simp only [Nat.add_zero] at h8
 exact⟨_,h8⟩
end
end Go.Proofs.YtfkokppncipgnaaGreat
