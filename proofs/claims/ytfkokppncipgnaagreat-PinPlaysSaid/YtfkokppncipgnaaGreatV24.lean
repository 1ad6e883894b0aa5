/- A reference's play under way: what an event that has responded says. -/
import Derived.Test.YtfkokppncipgnaaGreatV18
import Derived.Test.YtfkokppncipgnaaGreatV23
import Derived.Test.YtfkokppncipgnaaGreatV22
import Derived.Test.YtfkokppncipgnaaGreatV21
import Derived.Test.YtfkokppncipgnaaGreatV20
import Derived.Test.YtfkokppncipgnaaGreatV15
import Derived.Deep.CutRange
import Derived.Test.YtfkokppncipgnaaGreatV16
set_option maxRecDepth 100000
set_option linter.unusedVariables false
set_option linter.unusedSimpArgs false
set_option linter.unnecessarySimpa false
namespace Go.Proofs.YtfkokppncipgnaaGreat
section
open Go.RowKit
variable {w0 w w':World} {J:RJ} {s s':RefS} {hl hl':List Value} {vs vs':List HV} {G K L:Value} {ea ea':Option Addr} {ec ec':Nat} {ers ers':List (Value×Value)} {p:Nat} {t:TapeP} {r:RWD}
theorem LogM.hand16 (h:LogM w0 w J p s hl vs G K L ea ec ers t r):∃ x0 x1 x15 PV LV KV,w.heap[J.bH]?=some (.cells (hl.take (16*p)++([x0,x1,.pointer (some ⟨J.bW,0,none⟩),.int .i64 (p:Int),.int .i64 (t.inv:Int),G,K,.int .i64 (t.at_:Int),.bool t.fresh,.bool t.halt,PV,.int .i64 t.err,.int .u64 (t.val:Int),LV,KV,x15]++hl.drop (16*p+16))).toArray 100 (0,0))/\
  LstU w (RMut (rids J p hl vs (.slice ea s.evs.length ec)) G K L) PV t.priv/\LstU w (RMut (rids J p hl vs (.slice ea s.evs.length ec)) G K L) LV t.list/\Lst w (RMut (rids J p hl vs (.slice ea s.evs.length ec)) G K L) KV t.key/\(∀ i v,(tapeL J.bW G K (t.raw PV LV KV))[i]?=some v->i<13->w.cell? ⟨J.bH,16*p+2+i,none⟩=some v):=by
 obtain⟨PV,LV,KV,ht,h1,h2,h3⟩:=h.tape.tape
 have hlen:=h.rest.lens.1
 have hp:=h.hp
 have hb:=ht.blk
 have e1:(rids J p hl vs (.slice ea s.evs.length ec)).tids.pre=hl.take (16*p)++[hl[16*p]'(by omega),hl[16*p+1]'(by omega)]:=by
  show hl.take (16*p+2)=_
  rw [List.take_succ_eq_append_getElem (i:=16*p+1) (by omega),List.take_succ_eq_append_getElem (by omega),List.append_assoc];rfl
 have e2:(rids J p hl vs (.slice ea s.evs.length ec)).tids.post=hl[16*p+15]'(by omega)::hl.drop (16*p+16):=by
  show hl.drop (16*p+15)=_
  rw [List.drop_eq_getElem_cons (by omega)]
 refine⟨hl[16*p]'(by omega),hl[16*p+1]'(by omega),hl[16*p+15]'(by omega),PV,LV,KV,?_,h1,h2.1,h3,λi v hv hi=>?_⟩
 ·rw [e1,e2,List.append_assoc] at hb
  have e3:tapeL (rids J p hl vs (.slice ea s.evs.length ec)).tids.bW G K (t.raw PV LV KV)=[.pointer (some ⟨J.bW,0,none⟩),.int .i64 (p:Int),.int .i64 (t.inv:Int),G,K,.int .i64 (t.at_:Int),.bool t.fresh,.bool t.halt,PV,.int .i64 t.err,.int .u64 (t.val:Int),LV,KV]:=by
   have:=h.thr
   unfold tapeL TapeP.raw
   rw [this];rfl
  rw [e3] at hb
  exact hb
 ·have hpre:(rids J p hl vs (.slice ea s.evs.length ec)).tids.pre.length=16*p+2:=by show(hl.take (16*p+2)).length=_;simp;omega
  have:=ht.cell (i:=i) hi
  rw [hpre] at this
  exact this.trans hv
set_option maxHeartbeats 1000000 in
theorem done_r (h:LogM w0 w J p s hl vs G K L ea ec ers t r) (e:EvD) (v:Value×Value) (hv1:∃ a n c,v.1=.slice a n c) (hv2:∃ a n c,v.2=.slice a n c) (hn:J.nt<=16) (hnow:r.now<=1000000) (A:Nat) (hA:A=16*p) :
  Calls Tryz.prog 43 #[.pointer (some ⟨J.bH,A,none⟩),.agg (evCells e v).toArray] w λx w'=>∃ la lc kv,x=.returned (.agg (evCells (rdone r p t e) (.slice la t.list.length lc,kv)).toArray)/\LstU w' (RMut (rids J p hl vs (.slice ea s.evs.length ec)) G K L) (.slice la t.list.length lc) t.list/\Lst w' (RMut (rids J p hl vs (.slice ea s.evs.length ec)) G K L) kv (rkey r p t.key)/\Below w.heap.size w w':=by
 obtain⟨x0,x1,x15,PV,LV,KV,hH,hPV,hLV,hKV,_⟩:=h.hand16
 obtain⟨v1,v2⟩:=v
 obtain⟨a0,n0,k0,rfl⟩:=hv1
 obtain⟨a1,n1,k1,rfl⟩:=hv2
 have hp:=h.hp
 have hpre:(hl.take (16*p)).length=A:=by rw [hA];have:=h.rest.lens.1;simp;omega
 obtain⟨ms,hM,hml,hms⟩:=h.tape.marks.blk
 have hml':ms.length=J.nt:=hml
 have hMp:ms[p]?=some (ms.getD p undef):=by rw [List.getD_eq_getElem?_getD,List.getElem?_eq_getElem (by omega)];rfl
 have hmp:=hms p hp
 obtain⟨PV9,LV9,KV9,ht9,_⟩:=h.tape.tape
 obtain⟨wa,cap,_,hW,_⟩:=ht9.mem.blk
 have c6:w.cell? ⟨J.bW,6,none⟩=some (.int .i64 (r.now:Int)):=by
  have hW':w.heap[J.bW]?=_:=hW
  rw [cell_blk hW'];rfl
 have c7:w.cell? ⟨J.bW,7,none⟩=some (.slice (some ⟨J.bM,0,none⟩) J.nt J.nt):=by
  have hW':w.heap[J.bW]?=_:=hW
  rw [cell_blk hW'];rfl
 have hlow:=h.tape.mutlow
 have hX:=hLV
 obtain⟨la,lc,rfl,hls,hlm⟩:=hX
 have keepU:∀ w',Below w.heap.size w w'->LstU w' (RMut (rids J p hl vs (.slice ea s.evs.length ec)) G K L) (.slice la t.list.length lc) t.list:=λw' hb=>hLV.keep (S:=noB) (Chg.of_below hb) (λ_ h=>h.elim) (MutUp.refl _ _)
 have hml9:∀ {x:List Int} {a:Option Addr} {c:Nat},SlAt w a x.length 1 (intG x)->x.length<=9223372036854775807:=λhs=>by have:=hs.1;unfold maxLen at this;omega
 by_cases hk:t.key=[]
 ·have hK0:KV=.slice none 0 0:=by obtain⟨a,c,h1,h2,_⟩:=hKV;exact h2 hk
  subst hK0
  by_cases hm:r.marks.getD p []=[]
  ·have hM0:ms.getD p undef=.slice none 0 0:=by obtain⟨a,c,h1,h2,_⟩:=hmp;exact h2 hm
   rw [hM0] at hMp
   have C:=done_tick w J.bH J.bW J.bM J.nt p r.now J.nt e.call e.inv e.steps t.val e.ans.val e.resp n0 k0 n1 k1 t.list.length lc t.err e.ans.err a0 a1 la (hl.take (16*p)) (hl.drop (16*p+16)) ms x0 x1 _ _ _ _ _ _ _ x15 hH hM hMp hp hn hnow c6 c7
   rw [hpre] at C
   refine C.mono ?_
   rintro x w' ⟨kb,rfl,hkb,hkc,hb⟩
   refine⟨la,lc,.slice (some ⟨kb,0,none⟩) 1 1,?_,keepU w' hb,?_,hb⟩
   ·rfl
   ·unfold rkey
    rw [if_pos hk,if_pos hm]
    refine⟨_,_,rfl,λe=>by(cases e),⟨by unfold maxLen;simp,λj hj=>⟨kb,0,rfl,blk_lt hkc,λf hf=>?_⟩⟩,λb off e hb9=>?_⟩
    ·obtain rfl:j=0:=by simpa using hj
     obtain rfl:f=0:=by omega
     rw [cell_blk hkc];rfl
    ·cases e;have:=hlow _ hb9;omega
  ·obtain⟨ma,mk,hMV,hMn,hMs,hMm⟩:=id hmp
   rw [hMV] at hMp
   have C:=done_mark w J.bH J.bW J.bM J.nt p r.now J.nt e.call e.inv e.steps t.val e.ans.val e.resp n0 k0 n1 k1 t.list.length lc (r.marks.getD p []).length mk t.err e.ans.err a0 a1 la ma (hl.take (16*p)) (hl.drop (16*p+16)) ms x0 x1 _ _ _ _ _ _ _ x15 hH hM hMp hp hn hnow (List.length_pos_iff.2 hm) (hml9 (c:=mk) hMs) c6 c7
   rw [hpre] at C
   refine C.mono ?_
   rintro x w' ⟨rfl,hb⟩
   refine⟨la,lc,.slice ma (r.marks.getD p []).length mk,rfl,keepU w' hb,?_,hb⟩
   unfold rkey
   rw [if_pos hk,if_neg hm,<-hMV]
   exact hmp.keep (S:=noB) (Chg.of_below hb) (λ_ h=>h.elim) (MutUp.refl _ _)
 ·obtain⟨ka,kc,rfl,hKn,hKs,hKm⟩:=id hKV
  have C:=done_key w J.bH J.bW J.bM J.nt p r.now J.nt e.call e.inv e.steps t.val e.ans.val e.resp n0 k0 n1 k1 t.list.length lc t.key.length kc t.err e.ans.err a0 a1 la ka (ms.getD p undef) (hl.take (16*p)) (hl.drop (16*p+16)) ms x0 x1 _ _ _ _ _ _ _ x15 hH hM hMp hp hn hnow (List.length_pos_iff.2 hk) (hml9 (c:=kc) hKs) c6 c7
  rw [hpre] at C
  refine C.mono ?_
  rintro x w' ⟨rfl,hb⟩
  refine⟨la,lc,.slice ka t.key.length kc,rfl,keepU w' hb,?_,hb⟩
  unfold rkey
  rw [if_neg hk]
  exact hKV.keep (S:=noB) (Chg.of_below hb) (λ_ h=>h.elim) (MutUp.refl _ _)
end
section

/- A reference's play: how it begins. -/
open Go.RowKit
theorem step_make_any {ops:Array Oper} {o:Oper} {a:Act} {w:World} {K:Act->World->Prop} {Q:Exit->Act->World->Prop} {E:Prop} (hgd:o.guard=none) (t:TypeId) (x y:Operand) (ho:o.op=.makeSlice t x y) (n:Nat) (e:TypeId) (cs:Array Value)
  (hrun:∀ u:World,(Instr.makeSlice t (.int .i64 (n:Int)) (.int .i64 (n:Int))).run Tryz.prog u=.ok (.slice (some ⟨u.heap.size,0,none⟩) n n) (u.alloc (.cells cs e)))
  (hx:a.eval x=.int .i64 (n:Int)) (hy:a.eval y=.int .i64 (n:Int))
  (h:∀(b:Nat) (w':World),w'.heap[b]?=some (.cells cs e (0,0))->w.heap.size<=b->Below w.heap.size w w'->K (a.put o.dst (.slice (some ⟨b,0,none⟩) n n)) w') :
  if Region.wanted o (yielded ops a.tmps)=true then Oper.wp Tryz.prog o a w K Q else E:=by
 have hw:Region.wanted o (yielded ops a.tmps)=true:=by simp [Region.wanted,hgd]
 rw [if_pos hw]
 have h9:=h w.heap.size (w.alloc (.cells cs e)) (heap_alloc_new _ _) (Nat.le_refl _) (Gr.new _ _)
 unfold Oper.wp
 have hr:(execOp a.eval o).run Tryz.prog w=.ok (.value (.slice (some ⟨w.heap.size,0,none⟩) n n)) (w.alloc (.cells cs e)):=by
  unfold execOp
  rw [ho]
  simp only [hx,hy]
  simp [Sem.run_bind,hrun,Result.andThen,Sem.run_pure]
 rw [hr]
 exact h9
structure RInit (w0 wx:World) (nt sz bM bT bW:Nat) (wa:Option Addr) (wc:Nat):Prop where
 below:Below w0.heap.size w0 wx
 blk:wx.heap[bW]?=some (.cells #[.slice wa sz wc,.int .i64 0,.int .i64 0,.int .i64 0,.int .i64 0,.int .i64 0,.int .i64 0,.slice (some ⟨bM,0,none⟩) nt nt,.slice (some ⟨bT,0,none⟩) sz sz,.slice none 0 0] 93 (0,0))
 marks:wx.heap[bM]?=some (.cells (List.replicate nt (Value.slice none 0 0)).toArray 24 (0,0))
 traces:wx.heap[bT]?=some (.cells (List.replicate sz (Value.slice none 0 0)).toArray 24 (0,0))
 row:wx.ownsRow w0.heap.size 46 1 (.slice wa sz wc) sz ((List.replicate sz 0).map u64V)
 ge:w0.heap.size<=bW
 geM:w0.heap.size<=bM
 geT:w0.heap.size<=bT
 mt:bM≠bT
theorem list_info9:(Tryz.prog.info? 24).map (λi=>(i.zero,i.size,i.bytes))=some (some (.slice none 0 0),1,24):=by kernel_rfl
theorem make_lists (n:Nat) (hn:n<=1000000) (u:World):(Instr.makeSlice 91 (.int .i64 (n:Int)) (.int .i64 (n:Int))).run Tryz.prog u=.ok (.slice (some ⟨u.heap.size,0,none⟩) n n) (u.alloc (.cells (List.replicate n (Value.slice none 0 0)).toArray 24)):=by
 obtain⟨i0,hi,hz0,hz1,hz2⟩:=info_parts list_info9
 have h:=run_make (P:=Tryz.prog) u 91 24 i0 (.slice none 0 0) Tryz.underlying91 hi hz0 .i64 .i64 (n:Int) (n:Int) (by omega) (Int.le_refl _) (by rw [hz2];omega) (by omega)
 simpa [hz1,Value.cells,madeCells_one] using h
theorem bool_info9:(Tryz.prog.info? 4).map (λi=>(i.zero,i.size,i.bytes))=some (some (.bool false),1,1):=by kernel_rfl
def hand0:Array Value:=#[.bool false,.int .i64 0,.pointer none,.int .i64 0,.int .i64 0,.slice none 0 0,.slice none 0 0,.int .i64 0,.bool false,.bool false,.slice none 0 0,.int .i64 0,.int .u64 0,.slice none 0 0,.slice none 0 0,.slice none 0 0]
theorem hand_info9:(Tryz.prog.info? 100).map (λi=>(i.zero,i.size,i.bytes))=some (some (.agg hand0),16,216):=by kernel_rfl
theorem make_bools9 (n:Nat) (hn:n<=1000000) (u:World):(Instr.makeSlice 94 (.int .i64 (n:Int)) (.int .i64 (n:Int))).run Tryz.prog u=.ok (.slice (some ⟨u.heap.size,0,none⟩) n n) (u.alloc (.cells (List.replicate n (Value.bool false)).toArray 4)):=by
 obtain⟨i0,hi,hz0,hz1,hz2⟩:=info_parts bool_info9
 have h:=run_make (P:=Tryz.prog) u 94 4 i0 (.bool false) Tryz.underlying94 hi hz0 .i64 .i64 (n:Int) (n:Int) (by omega) (Int.le_refl _) (by rw [hz2];omega) (by omega)
 simpa [hz1,Value.cells,madeCells_one] using h
theorem make_hands9 (n:Nat) (hn:n<=16) (u:World):(Instr.makeSlice 95 (.int .i64 (n:Int)) (.int .i64 (n:Int))).run Tryz.prog u=.ok (.slice (some ⟨u.heap.size,0,none⟩) n n) (u.alloc (.cells (madeCells hand0 (n*16)) 100)):=by
 obtain⟨i0,hi,hz0,hz1,hz2⟩:=info_parts hand_info9
 have h:=run_make (P:=Tryz.prog) u 95 100 i0 (.agg hand0) Tryz.underlying95 hi hz0 .i64 .i64 (n:Int) (n:Int) (by omega) (Int.le_refl _) (by rw [hz2];omega) (by omega)
 simpa [hz1,Value.cells] using h
theorem owns_info9:(Tryz.prog.info? 28).map (λi=>(i.zero,i.size,i.bytes))=some (some (.slice none 0 0),1,24):=by kernel_rfl
theorem make_own9 (u:World):(Instr.makeSlice 96 (.int .i64 1) (.int .i64 1)).run Tryz.prog u=.ok (.slice (some ⟨u.heap.size,0,none⟩) 1 1) (u.alloc (.cells #[.slice none 0 0] 28)):=by
 obtain⟨i0,hi,hz0,hz1,hz2⟩:=info_parts owns_info9
 have h:=run_make (P:=Tryz.prog) u 96 28 i0 (.slice none 0 0) Tryz.underlying96 hi hz0 .i64 .i64 (1:Int) (1:Int) (by omega) (Int.le_refl _) (by rw [hz2];omega) (by omega)
 simpa [hz1,Value.cells,madeCells_one] using h
theorem hands_len (n:Nat):(madeCells hand0 (n*16)).toList.length=16*n:=by
 unfold madeCells
 simp [Nat.mul_comm]
theorem hands_get (n q j:Nat) (hq:q<n) (hj:j<16):(madeCells hand0 (n*16)).toList[16*q+j]?=hand0[j]?:=by
 have h1:(madeCells hand0 (n*16))[16*q+j]?=some (hand0[(16*q+j) % hand0.size]!):=by
  unfold madeCells
  rw [Array.getElem?_map,Array.getElem?_eq_getElem (by simp;omega)]
  simp
 rw [Array.getElem?_toList,h1,show(16*q+j) % hand0.size=j from by show(16*q+j) % 16=j;omega,getElem!_pos hand0 j hj,Array.getElem?_eq_getElem hj]
theorem rmem_row9 {w:World} {b B cap:Nat} {wa:Option Addr} {T:TypeId} {tail:List Value} {ws:List Nat} (hb:w.heap[b]?=some (.cells (rmemCells wa ws.length cap c0 tail) T (0,0))) (h:w.ownsRow B 46 1 (.slice wa ws.length cap) ws.length (ws.map u64V))
  (h0:0<ws.length) (hl:ws.length<=1048576) (hv:∀ x∈ws,x<18446744073709551616) (hT:T≠46):∃ q,wa=some ⟨q,0,none⟩/\B<=q/\q<w.heap.size/\RMemAt w b T tail (some q) ⟨ws,c0⟩:=by
 rcases h.2 with⟨_,h9⟩|⟨q,cp,cur,e,hB,hh,hle,_,_,htk⟩
 ·omega
 ·simp only [Value.slice.injEq] at e
  obtain⟨rfl,_,rfl⟩:=e
  refine⟨q,rfl,hB,blk_lt hh,⟨⟨_,_,⟨hle,λe=>by cases e⟩,hb,λ_=>⟨q,cur.toList.drop (ws.length*1),rfl,rfl,?_⟩⟩,λe=>?_,λq' e=>by cases e;exact blk_lt hh,hl,(by show c0.all<1000000000000;decide),hv⟩⟩
  ·rw [hh,<-htk,List.take_append_drop]
  ·cases e
   rw [hb] at hh
   simp only [Option.some.injEq,Obj.cells.injEq] at hh
   exact hT hh.2.1
structure HandsR (w0 w:World) (bH n p:Nat) (hl:List Value) (os:Nat->Nat):Prop where
 len:hl.length=16*n
 blk:w.heap[bH]?=some (.cells hl.toArray 100 (0,0))
 c0:∀ q,q<n->hl[16*q]?=some (.bool false)
 own:∀ q,q<p->hl[16*q+15]?=some (.slice (some ⟨os q,0,none⟩) 1 1)/\w.heap[os q]?=some (.cells #[.slice none 0 0] 28 (0,0))/\w0.heap.size<=os q
 oo:∀ q q',q<p->q'<p->q≠q'->os q≠os q'
def HandsK2 (w0 w:World) (bH n p:Nat):Prop:=∃ hl os,HandsR w0 w bH n p hl os
theorem HandsK2.own {w0 w w1 w2:World} {bH n p o:Nat} (h:HandsK2 w0 w bH n p) (hp:p<n) (hb:Below w.heap.size w w1) (ho:w1.heap[o]?=some (.cells #[.slice none 0 0] 28 (0,0))) (hlo:w.heap.size<=o) (h0:w0.heap.size<=w.heap.size)
  (hc:Chg (λb=>b=bH) w1 w2) (hw2:w2.heap[bH]?=(w1.setCell ⟨bH,16*p+15,none⟩ (.slice (some ⟨o,0,none⟩) 1 1)).heap[bH]?):HandsK2 w0 w2 bH n (p+1):=by
 obtain⟨hl,os,h⟩:=h
 have h2':=(hb.block _ (blk_lt h.blk)).trans h.blk
 have hne:∀ b cs,w1.heap[b]?=some (.cells cs 28 (0,0))->b≠bH:=λb cs hb9 e=>by
  rw [e,h2'] at hb9
  simp only [Option.some.injEq,Obj.cells.injEq] at hb9
  exact absurd hb9.2.1 (by decide)
 have hlen:=h.len
 refine⟨hl.set (16*p+15) (.slice (some ⟨o,0,none⟩) 1 1),λq=>if q=p then o else os q,by simpa using h.len,?_,λq hq=>?_,λq hq=>?_,λq q' hq hq' hqq=>?_⟩
 ·rw [hw2,blk_set h2'];simp
 ·rw [List.getElem?_set_ne (by omega)];exact h.c0 q hq
 ·by_cases hqp:q=p
  ·subst hqp
   rw [if_pos rfl]
   exact⟨by rw [List.getElem?_set_self (by omega)],(hc.block _ (blk_lt ho) (hne _ _ ho)).trans ho,Nat.le_trans h0 hlo⟩
  ·rw [if_neg hqp]
   obtain⟨g1,g2,g3⟩:=h.own q (by omega)
   have g2':=(hb.block _ (blk_lt g2)).trans g2
   exact⟨by rw [List.getElem?_set_ne (by omega)];exact g1,(hc.block _ (blk_lt g2') (hne _ _ g2')).trans g2',g3⟩
 ·have hlt:∀ q,q<p->os q<w.heap.size:=λq hq=>blk_lt (h.own q hq).2.1
  by_cases hqp:q=p
  ·rw [if_pos hqp,if_neg (by omega)];have:=hlt q' (by omega);omega
  ·rw [if_neg hqp]
   by_cases hqp':q'=p
   ·rw [if_pos hqp'];have:=hlt q (by omega);omega
   ·rw [if_neg hqp'];exact h.oo q q' (by omega) (by omega) hqq
theorem HandsK2.grown {w0 w w':World} {bH n p:Nat} (h:HandsK2 w0 w bH n p) (hb:Below w.heap.size w w'):HandsK2 w0 w' bH n p:=by
 obtain⟨hl,os,h⟩:=h
 exact⟨hl,os,h.len,(hb.block _ (blk_lt h.blk)).trans h.blk,h.c0,λq hq=>⟨(h.own q hq).1,(hb.block _ (blk_lt (h.own q hq).2.1)).trans (h.own q hq).2.1,(h.own q hq).2.2⟩,h.oo⟩
theorem LogAt.init {w0 wx w4:World} {nt sz bM bT bW bF bH bO bq wc nc:Nat} {old:Nat->Prop} {wa:Option Addr} (calls:List CallD) (hL:RInit w0 wx nt sz bM bT bW wa wc) (hs0:0<sz) (hsz:sz<=65536) (hc:Chg (λb=>b=bH) wx w4) (hbH:wx.heap.size<=bH) (hK:HandsK2 w0 w4 bH nt nt)
  (hF:w4.heap[bF]?=some (.cells (List.replicate calls.length (Value.bool false)).toArray 4 (0,0))) (hFge:w0.heap.size<=bF) (hO:w4.heap[bO]?=some (.cells #[.slice none 0 0,.slice none 0 0,.int .i64 0,.int .i64 0,.int .i64 0,.int .i64 0,.int .i64 0,.int .i64 0,.int .i64 0] 32 (0,0))) (hOge:w0.heap.size<=bO) (hRl:∀ b,old b->b<w0.heap.size) :
  ∃ bq,LogAt w0 w4 ⟨bW,bM,bT,bF,bH,bO,some bq,nt,sz,calls.length,old⟩ (ref0 nt sz calls):=by
 have hWx:wx.heap[bW]?=some (.cells (rmemCells wa (List.replicate sz 0).length wc c0 [.int .i64 ((0:Nat):Int),.slice (some ⟨bM,0,none⟩) nt nt,.slice (some ⟨bT,0,none⟩) sz sz,.slice none 0 0]) 93 (0,0)):=by rw [List.length_replicate];exact hL.blk
 obtain⟨bq,hwa,hbq,hbq2,hmem⟩:=rmem_row9 hWx (by simpa using hL.row) (by simpa using hs0) (by simp;omega) (λx hx=>by rw [(List.mem_replicate.1 hx).2];decide) (by decide)
 obtain⟨hl,os,hR⟩:=hK
 have hn:∀ {b:Nat} {o:Obj},wx.heap[b]?=some o->b≠bH:=λh9 e=>by have:=blk_lt h9;omega
 have hut:∃ cs fz,wx.heap[bq]?=some (.cells cs 46 fz):=by
  rw [hwa] at hL
  exact row_type hL.row rfl
 have hvs:∀ q,q<nt->((List.range nt).map λq=>((nilV,nilV,os q):HV)).getD q hv0=(nilV,nilV,os q):=λq hq=>by simp [List.getD_eq_getElem?_getD,hq]
 have hrh:∀ q,(List.replicate nt rh0).getD q rh0=rh0:=λq=>rep_getD9 nt q _
 have hnil:∀ b,nilV.ownBlock≠some b:=λb e=>by cases e
 have hsz':nt<=16∨True:=.inr trivial
 refine⟨bq,hl,(List.range nt).map λq=>(nilV,nilV,os q),.slice none 0 0,none,0,[],⟨hL.below.trans (hc.below (λb e=>by have:=hL.below.size;omega) hL.below.size),?_,List.length_replicate ..,⟨hR.len,by simp,List.length_replicate ..,rfl⟩,λq hq=>?_,λq hq e=>?_,λq hq=>?_,λq hq=>?_,λq hq _=>?_,hO,⟨rfl,.inl ⟨rfl,rfl⟩⟩,λi hi=>absurd hi (Nat.not_lt_zero i),λa b ha hb _ _ _ c e=>?_,λa b ha hb _ _ _ c e=>?_,λa b ha hb hab=>?_,⟨hFge,hOge,?_,hL.ge,hL.geM,hL.geT,λq e=>by(cases e;exact hbq),λq hq=>?_⟩,λb e=>?_,λb e q hq _=>?_,hRl⟩,hR.blk,?_,⟨0,[],Nat.zero_le _,rfl,.inl ⟨rfl,rfl⟩⟩,λb e=>by(cases e),?_,?_,hL.mt⟩
 ·show w4.heap[bF]?=some (.cells ((List.replicate calls.length false).map Value.bool).toArray _ _)
  rw [List.map_replicate];exact hF
 ·show hl[16*q]?=some (.bool ((List.replicate nt rh0).getD q rh0).opn)
  rw [hrh];exact hR.c0 q hq
 ·have e':((List.replicate nt rh0).getD q rh0).opn=true:=e
  rw [hrh] at e';cases e'
 ·rw [hvs q hq];exact(hR.own q hq).1
 ·rw [hvs q hq]
  refine⟨_,(hR.own q hq).2.1,?_⟩
  show LstU _ _ _ ((List.replicate nt rh0).getD q rh0).own
  rw [hrh];exact LstU.nil _ _
 ·show HandAt _ _ _ _ _ ((List.replicate nt rh0).getD q rh0) _
  rw [hrh,hvs q hq]
  exact⟨λe=>by(cases e),λ_=>⟨rfl,rfl⟩⟩
 ·rw [hvs a ha] at e;cases e
 ·rw [hvs a ha] at e;cases e
 ·rw [hvs a ha,hvs b hb];exact hR.oo a b ha hb hab
 ·have:=hL.below.size;show _<=bH;omega
 ·rw [hvs q hq];exact⟨(hR.own q hq).2.2,λ_=>⟨λb e=>absurd e (hnil b),λb e=>absurd e (hnil b)⟩⟩
 ·cases e
  obtain⟨cs,fz,h9⟩:=hut
  exact⟨cs,fz,(hc.block _ (blk_lt h9) (hn h9)).trans h9⟩
 ·rw [hvs q hq];exact hnil b
 ·exact hmem.chg hc (hn hL.blk) (λq e=>by cases e;obtain⟨_,_,h9⟩:=hut;exact hn h9)
 ·refine⟨List.length_replicate ..,_,(hc.block _ (blk_lt hL.marks) (hn hL.marks)).trans hL.marks,List.length_replicate ..,λi hi=>?_⟩
  show Lst _ _ _ ((List.replicate nt ([]:List Int)).getD i [])
  rw [rep_getD9 nt i ([]:List Int),show(List.replicate nt (Value.slice none 0 0)).getD i undef=.slice none 0 0 by simp [List.getD_eq_getElem?_getD,List.getElem?_replicate,show i<nt from hi]]
  exact Lst.nil _ _
 ·refine⟨List.length_replicate ..,_,(hc.block _ (blk_lt hL.traces) (hn hL.traces)).trans hL.traces,List.length_replicate ..,λi hi=>?_⟩
  show Lst _ _ _ ((List.replicate sz ([]:List Int)).getD i [])
  rw [rep_getD9 sz i ([]:List Int),show(List.replicate sz (Value.slice none 0 0)).getD i undef=.slice none 0 0 by simp [List.getD_eq_getElem?_getD,List.getElem?_replicate,show i<sz from hi]]
  exact Lst.nil _ _
end
section

/- A reference's play: what it keeps, in plain numbers. -/
open Go.RowKit
def fr (t:TapeP):Nat:=if t.fresh=true then 1 else 0
structure Runs (t:TapeP) (r:RWD) (t':TapeP) (r':RWD):Prop where
 ws:r'.mem.ws.length=r.mem.ws.length
 now:r'.now=r.now
 all:r'.mem.c.all+fr t'<=r.mem.c.all+fr t
 got:t'.got.length+fr t'<=t.got.length+fr t
 thread:t'.thread=t.thread
 inv:t'.inv=t.inv
theorem Runs.refl (t:TapeP) (r:RWD):Runs t r t r:=⟨rfl,rfl,Nat.le_refl _,Nat.le_refl _,rfl,rfl⟩
theorem Runs.trans {t t1 t2:TapeP} {r r1 r2:RWD} (h:Runs t r t1 r1) (k:Runs t1 r1 t2 r2):Runs t r t2 r2:=⟨k.ws.trans h.ws,k.now.trans h.now,Nat.le_trans k.all h.all,Nat.le_trans k.got h.got,k.thread.trans h.thread,k.inv.trans h.inv⟩
theorem Runs.acc (kd a:Int) (x y:Nat) (t:TapeP) (r:RWD):Runs t r (accP kd a x y t r).2.1 (accP kd a x y t r).2.2:=by
 unfold accP
 by_cases h1:t.halt=true
 ·rw [if_pos h1];exact Runs.refl _ _
 rw [if_neg h1]
 by_cases h2:t.at_<t.got.length
 ·rw [if_pos h2];exact⟨rfl,rfl,Nat.le_refl _,Nat.le_refl _,rfl,rfl⟩
 rw [if_neg h2]
 by_cases h3:t.fresh=true
 ·rw [if_pos h3]
  refine⟨memAcc_len,rfl,?_,?_,rfl,rfl⟩
  ·simp only [fr,memAcc_all,h3];simp
  ·simp only [fr,h3,List.length_append,List.length_singleton];simp
 ·rw [if_neg h3];exact⟨rfl,rfl,Nat.le_refl _,Nat.le_refl _,rfl,rfl⟩
structure DoB (dO:CallD->TapeP->RWD->TapeP×RWD):Prop where
 runs:∀ c t r,Runs t r (dO c t r).1 (dO c t r).2
 priv:∀ c t r,t.priv.length<=1000->(dO c t r).1.priv.length<=1000
structure RGood (n sz:Nat) (calls:List CallD) (s:RefS):Prop where
 hl:s.hands.length=n
 fl:s.fin.length=calls.length
 ws:s.rw.mem.ws.length=sz
 all:s.rw.mem.c.all<=s.rw.now
 el:s.evs.length<=s.rw.now
 st:∀ j,(evAt s.evs j).steps<=s.rw.now
 hand:∀ p,p<n->(s.hands.getD p rh0).got.length<=s.rw.now/\(s.hands.getD p rh0).own.length<=1000/\((s.hands.getD p rh0).opn=true->(s.hands.getD p rh0).ev<s.evs.length/\(evAt s.evs (s.hands.getD p rh0).ev).call<calls.length/\(calls.getD (evAt s.evs (s.hands.getD p rh0).ev).call d0).obj=0)
theorem evAt_mod {l:List EvD} {k:Nat} {f:EvD->EvD} (hf:∀ e,(f e).call=e.call) (j:Nat):(evAt (modEv l k f) j).call=(evAt l j).call:=by
 unfold modEv
 by_cases hk:k<l.length
 ·rw [evAt_set _ hk]
  split
  ·rename_i e;rw [hf,e];rfl
  ·rfl
 ·rw [List.set_eq_of_length_le (by omega)]
theorem rgood0 (n sz:Nat) (calls:List CallD):RGood n sz calls (ref0 n sz calls):=by
 refine⟨List.length_replicate ..,List.length_replicate ..,List.length_replicate ..,Nat.le_refl _,Nat.zero_le _,λj=>Nat.le_refl 0,λp hp=>?_⟩
 show((List.replicate n rh0).getD p rh0).got.length<=_/\((List.replicate n rh0).getD p rh0).own.length<=_/\(((List.replicate n rh0).getD p rh0).opn=true->_)
 rw [rep_getD9 n p rh0]
 exact⟨Nat.zero_le _,Nat.zero_le _,λe=>by cases e⟩
variable {n sz:Nat} {calls:List CallD} {s:RefS} {dO:CallD->TapeP->RWD->TapeP×RWD}
theorem RGood.tick (h:RGood n sz calls s):RGood n sz calls { s with rw:=s.rw.tick }:=
 ⟨h.hl,h.fl,h.ws,Nat.le_succ_of_le h.all,Nat.le_succ_of_le h.el,λj=>Nat.le_succ_of_le (h.st j),λp hp=>⟨Nat.le_succ_of_le (h.hand p hp).1,(h.hand p hp).2⟩⟩
theorem RGood.open_ (h:RGood n sz calls s) {q i:Nat} (hi:i<calls.length) (hq:q<n):((ropen s q i).hands.getD q rh0).opn=true/\((ropen s q i).hands.getD q rh0).ev<(ropen s q i).evs.length/\(ropen s q i).hands.length=n/\(ropen s q i).fin=s.fin/\(ropen s q i).rw.mem=s.rw.mem/\(ropen s q i).rw.now=s.rw.now/\
  (∀ p,p<n->((ropen s q i).hands.getD p rh0).got.length<=s.rw.now/\((ropen s q i).hands.getD p rh0).own.length<=1000)/\(evAt (ropen s q i).evs ((ropen s q i).hands.getD q rh0).ev).call<calls.length/\
  (∀ p,p<n->p≠q->((ropen s q i).hands.getD p rh0).opn=true->((ropen s q i).hands.getD p rh0).ev<(ropen s q i).evs.length/\(evAt (ropen s q i).evs ((ropen s q i).hands.getD p rh0).ev).call<calls.length/\(calls.getD (evAt (ropen s q i).evs ((ropen s q i).hands.getD p rh0).ev).call d0).obj=0)/\(∀ j,(evAt (ropen s q i).evs j).steps<=s.rw.now):=by
 unfold ropen
 by_cases ho:(s.hands.getD q rh0).opn=true
 ·rw [if_pos ho]
  exact⟨ho,((h.hand q hq).2.2 ho).1,h.hl,rfl,rfl,rfl,λp hp=>⟨(h.hand p hp).1,(h.hand p hp).2.1⟩,((h.hand q hq).2.2 ho).2.1,λp hp _=>(h.hand p hp).2.2,h.st⟩
 ·rw [if_neg ho]
  have hql:q<s.hands.length:=by rw [h.hl];exact hq
  have hb:(rbegin s q i).hands.getD q rh0=⟨true,s.evs.length,s.rw.now,[],[],(s.hands.getD q rh0).own⟩:=getD_set_eq hql
  have ho:∀ p,p≠q->(rbegin s q i).hands.getD p rh0=s.hands.getD p rh0:=λp hp=>getD_set_neq (Ne.symm hp)
  have hel:(rbegin s q i).evs.length=s.evs.length+1:=by show(s.evs++[_]).length=_;simp
  have hlast:(evAt (rbegin s q i).evs s.evs.length).call=i:=by show(evAt (s.evs++[_]) s.evs.length).call=i;unfold evAt;rw [List.getD_eq_getElem?_getD,List.getElem?_append_right (Nat.le_refl _),Nat.sub_self];rfl
  have hold:∀ j,j<s.evs.length->evAt (rbegin s q i).evs j=evAt s.evs j:=λj hj=>by show evAt (s.evs++[_]) j=_;unfold evAt;rw [List.getD_eq_getElem?_getD,List.getD_eq_getElem?_getD,List.getElem?_append_left hj]
  refine⟨by rw [hb],by rw [hb,hel];exact Nat.lt_succ_self _,by show(s.hands.set q _).length=n;rw [List.length_set];exact h.hl,rfl,rfl,rfl,λp hp=>?_,by rw [hb];simp only;rw [hlast];exact hi,λp hp hpq e=>?_,λj=>?_⟩
  ·by_cases e:p=q
   ·subst e;rw [hb];exact⟨Nat.zero_le _,(h.hand p hp).2.1⟩
   ·rw [ho p e];exact⟨(h.hand p hp).1,(h.hand p hp).2.1⟩
  ·rw [ho p hpq] at e ⊢
   obtain⟨e1,e2,e3⟩:=(h.hand p hp).2.2 e
   rw [hold _ e1]
   exact⟨by rw [hel];omega,e2,e3⟩
  ·by_cases hj:j<s.evs.length
   ·rw [hold j hj];exact h.st j
   ·show(evAt (s.evs++[_]) j).steps<=_
    unfold evAt
    rw [List.getD_eq_getElem?_getD,List.getElem?_append_right (by omega)]
    cases hx:j - s.evs.length with
    | zero=>exact Nat.zero_le _
    | succ m=>exact Nat.zero_le _
theorem RGood.pick (D:DoB dO) (h:RGood n sz calls s) (hthr:∀ c,c<calls.length->0<=(calls.getD c d0).thread/\(calls.getD c d0).thread<(n:Int)) (hcall:∀ p,p<n->(s.hands.getD p rh0).opn=true->nowN calls s.fin (p:Int)=some (evAt s.evs (s.hands.getD p rh0).ev).call) (x:Int):RGood n sz calls (rpick dO calls s x):=by
 unfold rpick
 cases hN:nowN calls s.fin x with
 | none=>exact⟨h.hl,h.fl,h.ws,h.all,h.el,h.st,h.hand⟩
 | some i=>
  obtain⟨n1,n2,n3⟩:=nowN_spec hN
  obtain⟨t1,t2⟩:=hthr i n1
  obtain⟨q,rfl⟩:∃ q:Nat,x=(q:Int):=⟨x.toNat,by omega⟩
  have hq:q<n:=by omega
  simp only [Int.toNat_natCast]
  obtain⟨o1,o2,o3,o4,o5,o6,o7,o8,o9,_⟩:=h.tick.open_ n1 hq
  obtain⟨s1,hs1⟩:∃ s1,s1=ropen { s with rw:=s.rw.tick } q i:=⟨_,rfl⟩
  have hev0:(evAt s1.evs (s1.hands.getD q rh0).ev).call=i:=by
   rw [hs1]
   unfold ropen
   by_cases ho:(s.hands.getD q rh0).opn=true
   ·rw [if_pos (show((({ s with rw:=s.rw.tick }:RefS).hands.getD q rh0).opn=true) from ho)]
    have:=hcall q hq ho
    rw [hN] at this
    simpa using this.symm
   ·rw [if_neg (show ¬ ((({ s with rw:=s.rw.tick }:RefS).hands.getD q rh0).opn=true) from ho)]
    have hql:q<s.hands.length:=by rw [h.hl];exact hq
    have hb:(rbegin { s with rw:=s.rw.tick } q i).hands.getD q rh0=⟨true,s.evs.length,s.rw.now+1,[],[],(s.hands.getD q rh0).own⟩:=getD_set_eq hql
    rw [hb]
    show(evAt (s.evs++[_]) s.evs.length).call=i
    unfold evAt;rw [List.getD_eq_getElem?_getD,List.getElem?_append_right (Nat.le_refl _),Nat.sub_self];rfl
  have hst9:∀ j,(evAt s1.evs j).steps<=s.rw.now:=λj=>by
   rw [hs1];unfold ropen
   split
   ·exact h.st j
   ·show(evAt (s.evs++[_]) j).steps<=_
    by_cases hj:j<s.evs.length
    ·have h9:=h.st j
     unfold evAt at h9 ⊢
     rw [List.getD_eq_getElem?_getD] at h9 ⊢
     rw [List.getElem?_append_left hj];exact h9
    ·unfold evAt
     rw [List.getD_eq_getElem?_getD,List.getElem?_append_right (by omega)]
     cases hx:j - s.evs.length with
     | zero=>exact Nat.zero_le _
     | succ m=>exact Nat.zero_le _
  have hste:∀(l:List EvD) (k j N:Nat) (f:EvD->EvD),(∀ e,(f e).steps<=e.steps+1)->(∀ j,(evAt l j).steps<=N)->(evAt (modEv l k f) j).steps<=N+1:=λl k j N f hf hl=>by
   unfold modEv
   by_cases hk:k<l.length
   ·rw [evAt_set _ hk]
    split
    ·have h8:=hf (l.getD k ev0);have h9:=hl k;unfold evAt at h9;omega
    ·exact Nat.le_succ_of_le (hl j)
   ·rw [List.set_eq_of_length_le (by omega)];exact Nat.le_succ_of_le (hl j)
  rw [<-hs1] at o1 o2 o3 o4 o5 o6 o7 o8 o9 ⊢
  obtain⟨c,hc⟩:∃ c,c=calls.getD i d0:=⟨_,rfl⟩
  rw [<-hc]
  obtain⟨hh,hhh⟩:∃ hh,hh=s1.hands.getD q rh0:=⟨_,rfl⟩
  have hql:q<s1.hands.length:=by rw [o3];exact hq
  have R:Runs (hh.tape q) s1.rw (rdo dO c (hh.tape q) s1.rw).1 (rdo dO c (hh.tape q) s1.rw).2:=by
   unfold rdo
   split
   ·exact⟨rfl,rfl,Nat.le_refl _,Nat.le_refl _,rfl,rfl⟩
   ·exact D.runs _ _ _
  have hpr:c.obj=0->(rdo dO c (hh.tape q) s1.rw).1.priv.length<=1000:=λe=>by
   unfold rdo
   rw [if_neg (λx=>x e)]
   exact D.priv _ _ _ (by show hh.own.length<=1000;rw [hhh];exact(o7 q hq).2)
  have hobj:(rdo dO c (hh.tape q) s1.rw).1.halt=true->c.obj=0:=λe=>by
   unfold rdo at e
   by_cases h0:c.obj=0
   ·exact h0
   ·rw [if_pos h0] at e;cases e
  have hfr:fr (hh.tape q)=1:=rfl
  have hall:(rdo dO c (hh.tape q) s1.rw).2.mem.c.all<=(rdo dO c (hh.tape q) s1.rw).2.now:=by
   have:=R.all;have h2:=R.now;have h3:s1.rw.now=s.rw.now+1:=o6
   have h4:s1.rw.mem.c.all=s.rw.mem.c.all:=congrArg (λm=>m.c.all) o5
   have:=h.all;omega
  have hgot:(rdo dO c (hh.tape q) s1.rw).1.got.length<=(rdo dO c (hh.tape q) s1.rw).2.now:=by
   have h1:=R.got;have h2:=R.now;have h3:s1.rw.now=s.rw.now+1:=o6
   have h5:(hh.tape q).got.length<=s.rw.now+1:=by show hh.got.length<=_;rw [hhh];exact(o7 q hq).1
   by_cases ho:(s.hands.getD q rh0).opn=true
   ·have h6:hh=s.hands.getD q rh0:=by rw [hhh,hs1];unfold ropen;rw [if_pos (show((({ s with rw:=s.rw.tick }:RefS).hands.getD q rh0).opn=true) from ho)]
    have h7:(hh.tape q).got.length<=s.rw.now:=by show hh.got.length<=_;rw [h6];exact(h.hand q hq).1
    omega
   ·have h6:hh.got=[]:=by
     rw [hhh,hs1];unfold ropen
     rw [if_neg (show ¬ ((({ s with rw:=s.rw.tick }:RefS).hands.getD q rh0).opn=true) from ho)]
     have hq2:q<s.hands.length:=by rw [h.hl];exact hq
     have hb:(rbegin { s with rw:=s.rw.tick } q i).hands.getD q rh0=⟨true,s.evs.length,s.rw.now+1,[],[],(s.hands.getD q rh0).own⟩:=getD_set_eq hq2
     rw [hb]
    have h7:(hh.tape q).got.length=0:=by show hh.got.length=0;rw [h6];rfl
    omega
  have hel9:s1.evs.length<=s.rw.now+1:=by
   rw [hs1];unfold ropen
   split
   ·have:=h.el;show s.evs.length<=_;omega
   ·have:=h.el;show(s.evs++[_]).length<=_;simp;omega
  have hws:(rdo dO c (hh.tape q) s1.rw).2.mem.ws.length=sz:=by rw [R.ws,o5];exact h.ws
  have hnow9:(rdo dO c (hh.tape q) s1.rw).2.now=s.rw.now+1:=by rw [R.now];exact o6
  unfold rgo
  rw [<-hhh]
  by_cases hz:(rdo dO c (hh.tape q) s1.rw).1.halt=true
  ·rw [if_pos hz]
   refine⟨by simpa using o3,by simp only;rw [o4];exact h.fl,hws,hall,by simp only;rw [modEv_length,hnow9];exact hel9,λj=>by simp only;rw [hnow9];exact hste _ _ _ _ _ (λe=>Nat.le_refl _) hst9,λp hp=>?_⟩
   simp only
   rw [modEv_length]
   by_cases e:p=q
   ·subst e
    rw [getD_set_eq hql]
    refine⟨hgot,by simp only;rw [hhh];exact(o7 p hp).2,λ_=>⟨by simp only;rw [hhh];exact o2,?_,?_⟩⟩
    ·simp only;rw [evAt_mod (f:=stepEv) (λ_=>rfl),hhh];exact o8
    ·simp only;rw [evAt_mod (f:=stepEv) (λ_=>rfl),hhh,hev0,<-hc];exact hobj hz
   ·rw [getD_set_neq (Ne.symm e)]
    refine⟨by rw [hnow9];exact(o7 p hp).1,(o7 p hp).2,λe9=>?_⟩
    rw [evAt_mod (f:=stepEv) (λ_=>rfl)]
    exact o9 p hp e e9
  ·rw [if_neg hz]
   refine⟨by simpa using o3,by simp only [List.length_set];rw [o4];exact h.fl,hws,hall,by simp only;rw [modEv_length,modEv_length,hnow9];exact hel9,λj=>?_,λp hp=>?_⟩
   ·simp only
    rw [hnow9]
    have h8:∀ j,(evAt (modEv s1.evs hh.ev stepEv) j).steps<=s.rw.now+1:=λj=>hste _ _ _ _ _ (λe=>Nat.le_refl _) hst9
    unfold modEv at h8 ⊢
    by_cases hk:hh.ev<(s1.evs.set hh.ev (stepEv (s1.evs.getD hh.ev ev0))).length
    ·rw [evAt_set _ hk]
     split
     ·exact h8 hh.ev
     ·exact h8 j
    ·rw [List.set_eq_of_length_le (by omega)];exact h8 j
   simp only
   rw [modEv_length,modEv_length]
   by_cases e:p=q
   ·subst e
    rw [getD_set_eq hql]
    refine⟨hgot,?_,λe=>by cases e⟩
    simp only
    split
    ·rename_i h0;exact hpr h0
    ·rw [hhh];exact(o7 p hp).2
   ·rw [getD_set_neq (Ne.symm e)]
    refine⟨by rw [hnow9];exact(o7 p hp).1,(o7 p hp).2,λe9=>?_⟩
    rw [evAt_mod (f:=rdone (rdo dO c (hh.tape q) s1.rw).2 q (rdo dO c (hh.tape q) s1.rw).1) (λ_=>rfl),evAt_mod (f:=stepEv) (λ_=>rfl)]
    exact o9 p hp e e9
end
end Go.Proofs.YtfkokppncipgnaaGreat
