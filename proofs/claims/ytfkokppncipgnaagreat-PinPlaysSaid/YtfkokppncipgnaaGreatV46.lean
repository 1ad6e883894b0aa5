/- The walk of PinPlays. -/
import Derived.Test.YtfkokppncipgnaaGreatV31
import Derived.Test.YtfkokppncipgnaaGreatV45
import Derived.Test.YtfkokppncipgnaaGreatV41
import Derived.Test.YtfkokppncipgnaaGreatV04
import Derived.Test.YtfkokppncipgnaaGreatV01
import Derived.Test.YtfkokppncipgnaaGreatV03
set_option maxRecDepth 100000
set_option linter.unusedVariables false
set_option linter.unusedSimpArgs false
set_option linter.unnecessarySimpa false
namespace Go.Proofs.YtfkokppncipgnaaGreat
section
open Go.RowKit
set_option maxHeartbeats 4000000 in
theorem pinPlays_any (q0 q1:Int) (calls:List CallD) (picks:List Int) (ca pa:Option Addr) (cc pc:Nat) (w:World) (hc:CallsAt noB w ca calls) (hp:PicksAt w pa picks) :
  Calls Tryz.prog 4 #[.agg #[.int .i64 q0,.int .i64 q1],.slice ca calls.length cc,.slice pa picks.length pc] w λe w'=>e=.returned (.bool true)/\Below w.heap.size w w':=by
 have hgb:Below w.heap.size w (w.alloc (.cells #[.int .i64 q0,.int .i64 q1] 22)):=(Gr.new _ _)
 have M:=many_any ca pa calls.length picks.length cc pc (w.alloc (.cells #[.int .i64 q0,.int .i64 q1] 22)) (hc.grown hgb).sl.1 hp.sl.1
 have T:=Lib.hid pin_slow
 cases hM:manyB calls.length picks.length with
 | true=>
  rw [hM] at M
  have HM:=Lib.hid M;have Hgb:=Lib.hid hgb
  clear M hc hp hM hgb
  go_enter Tryz.func4,Tryz.ntmps4
  go_wp2_with (first|(go_at_call 7;refine(HM.out).mono ?_;rintro e w' ⟨rfl,rfl⟩)|(go_at_call 12;refine(T.out _).mono ?_;rintro e w' ⟨rfl,hb⟩))
  go_ret
  exact⟨rfl,Gr.trans Hgb.out hb⟩
 | false=>
  rw [hM] at M
  have HM:=Lib.hid M
  have P:=pinPlay_safe noB (w.alloc (.cells #[.int .i64 q0,.int .i64 q1] 22)) q0 q1 calls picks ca pa cc pc (λb hb=>hb.elim) (hc.grown hgb) (hp.grown hgb)
  have RF:=Lib.hid (λ(u:World) (hu:Below w.heap.size w u) (bS:Nat) (hS:SpecAt u bS 9 q1 0)=>rpin_play noB q0 q1 calls picks ca pa cc pc bS u (λb hb=>hb.elim) hS (hc.grown hu) (hp.grown hu))
  have hlen:piCheck q0 q1 calls picks.length=0->_:=λh=>rpin_len h
  obtain⟨er,her⟩:∃ er,er=piCheck q0 q1 calls picks.length:=⟨_,rfl⟩
  obtain⟨rr,hrr⟩:∃ rr,rr=playD (pinS q0.toNat q1.toNat) (pinO0 q0.toNat) (List.replicate (1+(q0.toNat+1)*(q1.toNat+1)) 0) calls picks:=⟨_,rfl⟩
  rw [<-her,<-hrr] at P RF hlen
  have hl1:(repOf er rr).evs.length<1000000/\(repOf er rr).words.length<1000000:=by
   unfold repOf
   split
   ·rename_i h;exact hlen h
   ·exact⟨by decide,by decide⟩
  have HP:=Lib.hid P;have Hgb:=Lib.hid hgb;have Hl1:=Lib.hid hl1
  clear M P hc hp hM her hrr hgb hlen hl1
  go_enter Tryz.func4,Tryz.ntmps4
  go_wp2_with (go_at_call 7;refine(HM.out).mono ?_;rintro e w' ⟨rfl,rfl⟩)
  refine HP.out.mono ?_
  intro e w1 hret
  obtain⟨hb1,ea,ec,va,vc,ers,rfl,hrep⟩:=hret.one
  clear hret
  have hl1:=Hl1.out
  obtain⟨rp,hrp⟩:∃ rp,rp=repOf er rr:=⟨_,rfl⟩
  rw [<-hrp] at hrep hl1  ⊢
  obtain⟨en,hen⟩:∃ en,en=rp.evs.length:=⟨_,rfl⟩
  obtain⟨vn,hvn⟩:∃ vn,vn=rp.words.length:=⟨_,rfl⟩
  rw [<-hen,<-hvn] at hrep ⊢
  obtain⟨w2,hw2⟩:∃ w2,w2=(w1.alloc (.cells #[.slice ea en ec,.slice va vn vc,.int .i64 (rp.c.read:Int),.int .i64 (rp.c.write:Int),.int .i64 (rp.c.swap:Int),.int .i64 (rp.c.add:Int),.int .i64 (rp.c.fault:Int),.int .i64 (rp.ticks:Int),.int .i64 (rp.idle:Int)] 32)).alloc (.cells #[.int .i64 9,.int .i64 q1,.int .i64 0] 39):=⟨_,rfl⟩
  have hb2:Below w1.heap.size w1 w2:=by rw [hw2];exact Gr.alloc (Gr.new _ _) _
  have hB1:w2.heap[w1.heap.size]?=some (.cells #[.slice ea en ec,.slice va vn vc,.int .i64 (rp.c.read:Int),.int .i64 (rp.c.write:Int),.int .i64 (rp.c.swap:Int),.int .i64 (rp.c.add:Int),.int .i64 (rp.c.fault:Int),.int .i64 (rp.ticks:Int),.int .i64 (rp.idle:Int)] 32 (0,0)):=by rw [hw2,Below.heap_alloc _ _ _ (by simp)];exact heap_alloc_new _ _
  have hSp:w2.heap[w1.heap.size+1]?=some (.cells #[.int .i64 9,.int .i64 q1,.int .i64 0] 39 (0,0)):=by
   rw [hw2]
   have:=heap_alloc_new (w1.alloc (.cells #[.slice ea en ec,.slice va vn vc,.int .i64 (rp.c.read:Int),.int .i64 (rp.c.write:Int),.int .i64 (rp.c.swap:Int),.int .i64 (rp.c.add:Int),.int .i64 (rp.c.fault:Int),.int .i64 (rp.ticks:Int),.int .i64 (rp.idle:Int)] 32)) (.cells #[.int .i64 9,.int .i64 q1,.int .i64 0] 39 (0,0))
   simp only [World.size_alloc] at this
   exact this
  have R2:=Lib.hid (RF.out w2 (Gr.trans Hgb.out (Gr.trans hb1 hb2)) (w1.heap.size+1) ⟨hSp⟩)
  have z0:w2.cell? ⟨w.heap.size,0,none⟩=some (.int .i64 q0):=((Gr.trans hb1 hb2).cell (p:=⟨w.heap.size,0,none⟩) (by simp)).trans (by rw [cell_blk (heap_alloc_new w _)];rfl)
  have z1:w2.cell? ⟨w.heap.size,1,none⟩=some (.int .i64 q1):=((Gr.trans hb1 hb2).cell (p:=⟨w.heap.size,1,none⟩) (by simp)).trans (by rw [cell_blk (heap_alloc_new w _)];rfl)
  have y0:w1.cell? ⟨w.heap.size,0,none⟩=some (.int .i64 q0):=(hb1.cell (p:=⟨w.heap.size,0,none⟩) (by simp)).trans (by rw [cell_blk (heap_alloc_new w _)];rfl)
  have y1:w1.cell? ⟨w.heap.size,1,none⟩=some (.int .i64 q1):=(hb1.cell (p:=⟨w.heap.size,1,none⟩) (by simp)).trans (by rw [cell_blk (heap_alloc_new w _)];rfl)
  have hlw:w.heap.size<w1.heap.size:=World.block_lt_of_cell? _ _ y0
  have Hb1:=Lib.hid hb1;have Hb2:=Lib.hid hb2;have HB1:=Lib.hid hB1;have Hw2:=Lib.hid hw2;have Hrep:=Lib.hid hrep;have Hrp:=Lib.hid hrp;have Hen:=Lib.hid hen;have Hvn:=Lib.hid hvn;have Hl:=Lib.hid hl1
  clear hb1 hb2 hB1 hSp hw2 hrep hrp hen hvn hl1
  unfold repV
  go_wp2_with fail
  rw [<-Hw2.out]
  refine R2.out.mono ?_
  intro e w3 hret
  obtain⟨hb3,ea2,ec2,va2,vc2,ers2,rfl,hrep2,hsl2⟩:=hret.one
  clear hret
  rw [<-Hrp.out] at hrep2 hsl2 ⊢
  rw [<-Hen.out] at hrep2 ⊢
  rw [<-Hvn.out] at hsl2 ⊢
  obtain⟨w4,hw4⟩:∃ w4,w4=w3.alloc (.cells #[.slice ea2 en ec2,.slice va2 vn vc2,.int .i64 (rp.c.read:Int),.int .i64 (rp.c.write:Int),.int .i64 (rp.c.swap:Int),.int .i64 (rp.c.add:Int),.int .i64 (rp.c.fault:Int),.int .i64 (rp.ticks:Int),.int .i64 (rp.idle:Int)] 32):=⟨_,rfl⟩
  have hb4:Below w3.heap.size w3 w4:=by rw [hw4];exact Gr.new _ _
  have hB2:w4.heap[w3.heap.size]?=some (.cells #[.slice ea2 en ec2,.slice va2 vn vc2,.int .i64 (rp.c.read:Int),.int .i64 (rp.c.write:Int),.int .i64 (rp.c.swap:Int),.int .i64 (rp.c.add:Int),.int .i64 (rp.c.fault:Int),.int .i64 (rp.ticks:Int),.int .i64 (rp.idle:Int)] 32 (0,0)):=by rw [hw4];exact heap_alloc_new _ _
  have hb14:Below w1.heap.size w1 w4:=Gr.trans Hb2.out (Gr.trans hb3 hb4)
  obtain⟨b1,hb19⟩:∃ b1,b1=w1.heap.size:=⟨_,rfl⟩
  have hB1:w4.heap[b1]?=some (.cells #[.slice ea en ec,.slice va vn vc,.int .i64 (rp.c.read:Int),.int .i64 (rp.c.write:Int),.int .i64 (rp.c.swap:Int),.int .i64 (rp.c.add:Int),.int .i64 (rp.c.fault:Int),.int .i64 (rp.ticks:Int),.int .i64 (rp.idle:Int)] 32 (0,0)):=by rw [hb19];exact((Gr.trans hb3 hb4).block _ (blk_lt HB1.out)).trans HB1.out
  have r0:w4.cell? ⟨b1,0,none⟩=some (.slice ea en ec):=by rw [cell_blk hB1];rfl
  have r1:w4.cell? ⟨b1,1,none⟩=some (.slice va vn vc):=by rw [cell_blk hB1];rfl
  have r2:w4.cell? ⟨b1,2,none⟩=some (.int .i64 (rp.c.read:Int)):=by rw [cell_blk hB1];rfl
  have r3:w4.cell? ⟨b1,3,none⟩=some (.int .i64 (rp.c.write:Int)):=by rw [cell_blk hB1];rfl
  have r4:w4.cell? ⟨b1,4,none⟩=some (.int .i64 (rp.c.swap:Int)):=by rw [cell_blk hB1];rfl
  have r5:w4.cell? ⟨b1,5,none⟩=some (.int .i64 (rp.c.add:Int)):=by rw [cell_blk hB1];rfl
  have r6:w4.cell? ⟨b1,6,none⟩=some (.int .i64 (rp.c.fault:Int)):=by rw [cell_blk hB1];rfl
  have r7:w4.cell? ⟨b1,7,none⟩=some (.int .i64 (rp.ticks:Int)):=by rw [cell_blk hB1];rfl
  have r8:w4.cell? ⟨b1,8,none⟩=some (.int .i64 (rp.idle:Int)):=by rw [cell_blk hB1];rfl
  have s0:w4.cell? ⟨w3.heap.size,0,none⟩=some (.slice ea2 en ec2):=by rw [cell_blk hB2];rfl
  have s1:w4.cell? ⟨w3.heap.size,1,none⟩=some (.slice va2 vn vc2):=by rw [cell_blk hB2];rfl
  have s2:w4.cell? ⟨w3.heap.size,2,none⟩=some (.int .i64 (rp.c.read:Int)):=by rw [cell_blk hB2];rfl
  have s3:w4.cell? ⟨w3.heap.size,3,none⟩=some (.int .i64 (rp.c.write:Int)):=by rw [cell_blk hB2];rfl
  have s4:w4.cell? ⟨w3.heap.size,4,none⟩=some (.int .i64 (rp.c.swap:Int)):=by rw [cell_blk hB2];rfl
  have s5:w4.cell? ⟨w3.heap.size,5,none⟩=some (.int .i64 (rp.c.add:Int)):=by rw [cell_blk hB2];rfl
  have s6:w4.cell? ⟨w3.heap.size,6,none⟩=some (.int .i64 (rp.c.fault:Int)):=by rw [cell_blk hB2];rfl
  have s7:w4.cell? ⟨w3.heap.size,7,none⟩=some (.int .i64 (rp.ticks:Int)):=by rw [cell_blk hB2];rfl
  have s8:w4.cell? ⟨w3.heap.size,8,none⟩=some (.int .i64 (rp.idle:Int)):=by rw [cell_blk hB2];rfl
  have hrep:=Hrep.out;have hen:=Hen.out;have hvn:=Hvn.out;have hl:=Hl.out
  have SM:=Lib.hid (rsame_any w4 ea ea2 va va2 en ec ec2 vn vc vc2 ers ers2 rp (hrep.grown hb14) (hrep2.grown hb4) (hsl2.grown hb4) hen hvn hl.1 hl.2)
  unfold repV at SM
  have Hall:=Lib.hid (Gr.trans Hgb.out (Gr.trans Hb1.out hb14));have Hw4:=Lib.hid hw4
  rw [<-hb19]
  have hl4:b1<w4.heap.size:=blk_lt hB1
  clear hb3 hrep2 hsl2 hw4 hb4 hB1 hB2 hb14 hb19 hrep hen hvn hl
  unfold repV
  go_upto_region 5 with fail
  rw [<-Hw4.out]
  have le:(er == er)=true:=by simp
  go_wp2_with (first|(go_at_call 11;refine(SM.out).mono ?_;rintro e w5 ⟨rfl,hb5⟩)|(go_at_call 12;refine(T.out _).mono ?_;rintro e w7 ⟨rfl,hb7⟩))
  go_ret
  exact⟨rfl,Gr.trans Hall.out (Gr.trans hb5 hb7)⟩
end
section

/- What the laws' arguments come as: calls. -/
open Go.ChangeShapes Go.WideShapes Go.ChangeAt Go.RowKit
def callV (x:CallD) (f:Nat):Value:=
 if f=0 then .int .i64 x.thread else if f=1 then .int .i64 x.obj else if f=2 then .int .i64 x.kind else if f=3 then .int .u64 (x.a:Int) else if f=4 then .int .u64 (x.b:Int) else .int .u64 (x.c:Int)
structure CallWf (x:CallD):Prop where
 thread:(Lit.int .i64 x.thread).wf=true
 obj:(Lit.int .i64 x.obj).wf=true
 kind:(Lit.int .i64 x.kind).wf=true
 a:U64 x.a
 b:U64 x.b
 c:U64 x.c
theorem call_of {H:Type} {enc:TypeId×Value->H} {W:World} {n:Nat} {cs:List Value} {x:DataW H×List MemPlace} (hx:DataW.trod enc Tryz.prog W 0 (λ_=>true) true n 48 cs=some x) :
  ∃ y:CallD,(∀ f,f<6->cs[f]?=some (callV y f))/\cs.length=6/\CallWf y:=by
 have hu:=Tryz.underlying48
 have hi:=Tryz.underlying3
 have hq:=Tryz.underlying46
 have ci:Tryz.prog.cellsOf 3=1:=by kernel_rfl
 have cq:Tryz.prog.cellsOf 46=1:=by kernel_rfl
 have hl:=trod_len_struct hu hx
 have hc:Tryz.prog.cellsOf 48=6:=by kernel_rfl
 rw [hc] at hl
 obtain⟨t0,e0,w0⟩:=trod_field_int hu hx (List.getElem_mem (n:=0) (by decide)) hi ci
 obtain⟨t1,e1,w1⟩:=trod_field_int hu hx (List.getElem_mem (n:=1) (by decide)) hi ci
 obtain⟨t2,e2,w2⟩:=trod_field_int hu hx (List.getElem_mem (n:=2) (by decide)) hi ci
 obtain⟨t3,e3,w3⟩:=trod_field_int hu hx (List.getElem_mem (n:=3) (by decide)) hq cq
 obtain⟨t4,e4,w4⟩:=trod_field_int hu hx (List.getElem_mem (n:=4) (by decide)) hq cq
 obtain⟨t5,e5,w5⟩:=trod_field_int hu hx (List.getElem_mem (n:=5) (by decide)) hq cq
 obtain⟨n3,rfl,u3⟩:=u64_of w3
 obtain⟨n4,rfl,u4⟩:=u64_of w4
 obtain⟨n5,rfl,u5⟩:=u64_of w5
 refine⟨⟨t0,t1,t2,n3,n4,n5⟩,λf hf=>?_,hl,⟨w0,w1,w2,u3,u4,u5⟩⟩
 obtain rfl|rfl|rfl|rfl|rfl|rfl:f=0∨f=1∨f=2∨f=3∨f=4∨f=5:=by omega
 ·exact e0
 ·exact e1
 ·exact e2
 ·exact e3
 ·exact e4
 ·exact e5
theorem open_calls {H:Type} {enc:TypeId×Value->H} {W:World} {base:Nat} {v:Value} {d:DataW H} {ps:List MemPlace}
  (hv:Value.okWide Tryz.prog W .any base 23 v) (h:DataW.Trod enc Tryz.prog W 0 (λ_=>true) true 23 v d ps) (hlt:∀ p∈ps,p.block<W.heap.size) :
  ∃(a:Option Addr) (c:Nat) (l:List CallD),v=.slice a l.length c/\SlAt W a l.length 6 (callG l)/\(∀ y∈l,CallWf y):=by
 have hc:Tryz.prog.cellsOf 48=6:=by kernel_rfl
 obtain⟨a,c,l,h1,h2,h3⟩:=open_sl Tryz.underlying23 hv h hlt (by rw [hc];omega) (⟨0,0,0,0,0,0⟩:CallD) (λy cs=>(∀ f,f<6->cs[f]?=some (callV y f))/\cs.length=6/\CallWf y)
  (λn cs x hx=>call_of hx) callV (λy cs hy=>by rw [hc];exact⟨hy.2.1,hy.1⟩)
 rw [hc] at h2
 exact⟨a,c,l,h1,h2,λy hy=>by obtain⟨cs,_,_,hw⟩:=h3 y hy;exact hw⟩
end
section

/- What the laws' arguments come as: slices of words, pairs, accesses. -/
open Go.ChangeShapes Go.WideShapes Go.ChangeAt Go.RowKit
end
section

/- What the laws' arguments come as: two ints. -/
open Go.ChangeShapes Go.WideShapes Go.ChangeAt Go.RowKit
theorem open_arr2_int {H:Type} {enc:TypeId×Value->H} {W:World} {base:Nat} {v:Value} {d:DataW H} {ps:List MemPlace}
  (hv:Value.okWide Tryz.prog W .any base 22 v) (h:DataW.Trod enc Tryz.prog W 0 (λ_=>true) true 22 v d ps) :
  ∃ x y:Int,v=.agg #[.int .i64 x,.int .i64 y]/\(Lit.int .i64 x).wf=true/\(Lit.int .i64 y).wf=true:=by
 obtain⟨fuel,hf⟩:=h
 have hc:Tryz.prog.cellsOf 22=2:=by kernel_rfl
 have hc1:Tryz.prog.cellsOf 3=1:=by kernel_rfl
 unfold Value.okWide at hv
 rw [Tryz.underlying22] at hv
 obtain⟨cs,rfl,hsz,_⟩:=hv
 rw [hc] at hsz
 obtain⟨xs,m,hfu,hd,hps,hlen,hel⟩:=DataW.trod_array Tryz.underlying22 hf
 simp only [hc1] at hel
 match cs,hsz with
 | ⟨[c0,c1]⟩,_=>
  match xs,hlen with
  | [x0,x1],_=>
   have h0:DataW.trod enc Tryz.prog W 0 (λ_=>true) true m 3 [c0]=some x0:=by simpa [Value.cells] using hel 0 (by omega)
   have h1:DataW.trod enc Tryz.prog W 0 (λ_=>true) true m 3 [c1]=some x1:=by simpa [Value.cells] using hel 1 (by omega)
   obtain⟨n0,e0,_,w0⟩:=DataW.trod_int Tryz.underlying3 h0
   obtain⟨n1,e1,_,w1⟩:=DataW.trod_int Tryz.underlying3 h1
   simp only [List.cons.injEq,and_true] at e0 e1
   exact⟨n0,n1,by rw [e0,e1],w0,w1⟩
end
end Go.Proofs.YtfkokppncipgnaaGreat
