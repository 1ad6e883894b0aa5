/- Layer 10: the max register as the loom's object. -/
import Derived.Test.YtlanekkbciffcaaF25
import Derived.Stop.Asserts
import Derived.Test.YtlanekkbciffcaaF24
set_option maxRecDepth 100000
set_option linter.unusedVariables false
set_option linter.unusedSimpArgs false
set_option linter.unnecessarySimpa false
namespace Go.Proofs.Ytlanekkbciffcaa
section
open Go.RowKit
theorem rd_step_m (a : Addr) : Meth 196 (.pointer (some a)) "Step" 185 (.pointer (some a)) := ⟨fun _ _ => by kernel_rfl, fun _ _ => by kernel_rfl, fun _ _ => by kernel_rfl⟩
theorem rd_answer_m (a : Addr) : Meth 196 (.pointer (some a)) "Answer" 184 (.pointer (some a)) := ⟨fun _ _ => by kernel_rfl, fun _ _ => by kernel_rfl, fun _ _ => by kernel_rfl⟩
theorem wr_step_m (a : Addr) : Meth 198 (.pointer (some a)) "Step" 192 (.pointer (some a)) := ⟨fun _ _ => by kernel_rfl, fun _ _ => by kernel_rfl, fun _ _ => by kernel_rfl⟩
theorem wr_answer_m (a : Addr) : Meth 198 (.pointer (some a)) "Answer" 190 (.pointer (some a)) := ⟨fun _ _ => by kernel_rfl, fun _ _ => by kernel_rfl, fun _ _ => by kernel_rfl⟩
theorem wr_late_m (a : Addr) : Meth 198 (.pointer (some a)) "Late" 191 (.pointer (some a)) := ⟨fun _ _ => by kernel_rfl, fun _ _ => by kernel_rfl, fun _ _ => by kernel_rfl⟩
def maxV (m:Nat):Value:=.agg #[.int .i64 0,.int .i64 (m:Int)]
theorem max_start_m (m : Nat) : Meth 62 (maxV m) "Start" 121 (maxV m) := ⟨fun _ _ => by kernel_rfl, fun _ _ => by kernel_rfl, fun _ _ => by kernel_rfl⟩
theorem rd_kind (v:Value) (u:World):(Instr.typeAssert (.iface 196 v) 133 160 true).run Try.prog u=.ok (.tuple #[.nilIface,.bool false]) u:=run_typeAssert_lacksB Try.underlying160 (by kernel_rfl) (by kernel_rfl) v _ u
theorem wr_kind (v:Value) (u:World):(Instr.typeAssert (.iface 198 v) 133 160 true).run Try.prog u=.ok (.tuple #[.iface 198 v,.bool true]) u:=by kernel_rfl
def mxRep (b m:Nat) (w:World) (Mut B:Nat->Prop) (T:TypeId) (x:Value) (p:Nat):MxS->Prop
 | .rd z=>T=196/\∃ bm tv kv,x=.pointer (some ⟨bm,0,none⟩)/\WayAt w bm (rdRest z.val kv) 204 b m p z.y tv/\Lst w Mut kv z.ky/\RdOk m z/\B=WayB bm tv
 | .wr z=>T=198/\∃ bm tv kv,x=.pointer (some ⟨bm,0,none⟩)/\WayAt w bm (wrRest z.v z.up z.nx kv) 206 b m p z.y tv/\Lst w Mut kv z.ky/\WrOk m z/\B=WayB bm tv
def mxLive (wd:WD):MxS->Prop
 | .rd z=>0<z.y.left/\TrOk wd/\wd.now<=1000000
 | .wr z=>(if z.up=true then 1<=z.nx else 0<z.y.left)/\TrOk wd/\wd.now<=1000000/\z.y.last<=1000000
def maxR (m:Nat):Real (maxS m) where
 T:=62
 x:=maxV m
 OB:=noB
 ORep:=λ_ _ _=>True
 MRep:=mxRep 0 m
 inv:=λ_ _=>True
 dN:=1
 live:=λ_ wd _ s=>mxLive wd s
theorem max_blks (w:World) (m th ob kd ca cb cc:Int):∃ wa,wa=(w.alloc (.cells #[.int .i64 0,.int .i64 m] 62)).alloc (.cells #[.int .i64 th,.int .i64 ob,.int .i64 kd,.int .u64 ca,.int .u64 cb,.int .u64 cc] 43)/\Below w.heap.size w wa/\wa.heap.size=w.heap.size+2/\
  wa.heap[w.heap.size]?=some (.cells #[.int .i64 0,.int .i64 m] 62 (0,0))/\wa.heap[w.heap.size+1]?=some (.cells #[.int .i64 th,.int .i64 ob,.int .i64 kd,.int .u64 ca,.int .u64 cb,.int .u64 cc] 43 (0,0)):=by
 refine⟨_,rfl,Gr.alloc (Gr.new _ _) _,by simp,?_,?_⟩
 ·rw [Below.heap_alloc _ _ _ (by simp)];exact heap_alloc_new _ _
 ·have:=heap_alloc_new (w.alloc (.cells #[.int .i64 0,.int .i64 m] 62)) (.cells #[.int .i64 th,.int .i64 ob,.int .i64 kd,.int .u64 ca,.int .u64 cb,.int .u64 cc] 43 (0,0))
  simp only [World.size_alloc] at this
  exact this
set_option maxHeartbeats 4000000 in
theorem max_start (m:Nat) (hm:m<=12) (w:World) (Mut:Nat->Prop) (I:WIds) (N:Nat) (wd:WD) (p:Nat) (c:CallD) (hw:WorldAt w Mut I N wd) (hp:p<16) (hc:CallOk c) :
  Calls Try.prog 121 #[maxV m,.pointer (some ⟨I.bW,0,none⟩),.int .i64 (p:Int),callAgg c] w (StartPost (maxR m) w Mut I wd () p c):=by
 have hca:=hc.a
 obtain⟨th,ob,kd,ca,cb,cc⟩:=c
 have hlow:=hw.low
 unfold callAgg maxV
 simp only at hca ⊢
 have Hlow:=Lib.hid hlow
 have nm:∀(d k:Nat),w.heap.size<=k->k≠d->¬ (mutTo Mut noB (λb=>b=d) k):=λd k hk hkd=>by
  rintro(⟨hx,_⟩|hx)
  ·have:=Hlow.out _ hx;omega
  ·exact hkd hx
 have Nm:=Lib.hid nm
 obtain⟨wa,hwa,hga,hsz,ha0,ha1⟩:=max_blks w (m:Int) th ob kd (ca:Int) (cb:Int) (cc:Int)
 have d0:wa.cell? ⟨w.heap.size,0,none⟩=some (.int .i64 0):=by rw [cell_blk ha0];rfl
 have d1:wa.cell? ⟨w.heap.size,1,none⟩=some (.int .i64 (m:Int)):=by rw [cell_blk ha0];rfl
 have f2:wa.cell? ⟨w.heap.size+1,2,none⟩=some (.int .i64 kd):=by rw [cell_blk ha1];rfl
 have f3:wa.cell? ⟨w.heap.size+1,3,none⟩=some (.int .u64 (ca:Int)):=by rw [cell_blk ha1];rfl
 have hwA:=world_gr hw hga
 have STh:=Lib.hid (show(maxS m).start () wd p ⟨th,ob,kd,ca,cb,cc⟩=(if kd=1 then Mc.run (MxS.rd ⟨way0 m,0,[]⟩) else if kd≠0 then .refuse 9 else if ca / 2^m≠0 then .refuse 10 else .run (.wr (newWr m ca))) from rfl)
 have HwA:=Lib.hid hwA;have Hwa:=Lib.hid hwa;have Hga:=Lib.hid hga;have Hsz:=Lib.hid hsz
 clear hc hlow nm hw hwA hwa hga hsz ha0 ha1
 by_cases h1:kd=1
 ·have Hst:=Lib.hid (show(maxS m).start () wd p ⟨th,ob,kd,ca,cb,cc⟩=.run (.rd ⟨way0 m,0,[]⟩) by rw [STh.out,if_pos h1];rfl)
  have NR:=Lib.hid (new_reader 0 m p wa)
  subst h1
  go_enter Try.func121,Try.ntmps121
  go_upto_region 1 with fail
  rw [<-Hwa.out]
  go_wp2_with (go_at_call 123;refine(NR.out).mono ?_;rintro e w1 ⟨rfl,hb1,hway⟩)
  go_ret
  refine⟨_,_,WayB (wa.heap.size+1) (.slice none 0 0),rfl,Gr.trans Hga.out hb1,λb hb=>?_,?_⟩
  ·rw [wayB_nil hb];have h9:=Hsz.out;have h8:=blk_lt hway.blk;exact⟨by omega,h8⟩
  ·rw [Hst.out]
   exact⟨rfl,wa.heap.size+1,.slice none 0 0,.slice none 0 0,rfl,hway,Lst.nil _ _,RdOk.init m,rfl⟩
 by_cases h0:kd=0
 ·by_cases hr:ca / 2^m=0
  ·have Hst:=Lib.hid (show(maxS m).start () wd p ⟨th,ob,kd,ca,cb,cc⟩=.run (.wr (newWr m ca)) by rw [STh.out,if_neg h1,if_neg (by simpa using h0),if_neg (by simpa using hr)];rfl)
   have hlt:ca<2^m:=by
    rcases Nat.lt_or_ge ca (2^m) with h9|h9
    ·exact h9
    ·have:=Nat.div_pos h9 (Nat.two_pow_pos m);omega
   have NW:=Lib.hid (new_writer m ca HwA.out hlt hm 0 p)
   have e1:(newWr m ca).v=ca:=by unfold newWr WrD.down;split<;>rfl
   have E1:=Lib.hid e1;have Hlt:=Lib.hid hlt
   have t1:(ca:Int) / 2^m=0:=by
    have h9:(((ca / 2^m:Nat)):Int)=(ca:Int) / 2^m:=by simp
    rw [<-h9,hr];rfl
   have t2:((ca:Int) / 2^m != 0)=false:=by rw [t1];rfl
   subst h0
   clear h1 hr hlt e1
   go_enter Try.func121,Try.ntmps121
   go_upto_region 1 with fail
   rw [<-Hwa.out]
   go_wp2_with (go_at_call 124;refine(NW.out).mono ?_;rintro e w1 ⟨rfl,hb1,tv,hway,hge⟩)
   go_ret
   refine⟨_,_,WayB (wa.heap.size+1) tv,rfl,Gr.trans Hga.out hb1,λb hb=>?_,?_⟩
   ·have h9:=hge b hb;have h8:=hway.lt b hb;have h7:=Hsz.out;exact⟨by omega,h8⟩
   ·rw [Hst.out]
    exact⟨rfl,wa.heap.size+1,tv,.slice none 0 0,rfl,by rw [E1.out];exact hway,(by
     have e9:(newWr m ca).ky=[]:=by unfold newWr WrD.down;split<;>rfl
     rw [e9];exact Lst.nil _ _),WrOk.init Hlt.out,rfl⟩
  ·have Hst:=Lib.hid (show(maxS m).start () wd p ⟨th,ob,kd,ca,cb,cc⟩=.refuse 10 by rw [STh.out,if_neg h1,if_neg (by simpa using h0),if_pos (by simpa using hr)];rfl)
   have Rf:=Lib.hid (refuse_any 10)
   have t2:((ca:Int) / 2^m != 0)=true:=by
    have h9:(((ca / 2^m:Nat)):Int)=(ca:Int) / 2^m:=by simp
    rw [<-h9]
    exact bne_iff_ne.2 (λe=>hr (by exact_mod_cast e))
   subst h0
   clear h1 hr
   go_enter Try.func121,Try.ntmps121
   go_upto_region 1 with fail
   rw [<-Hwa.out]
   go_wp2_with (go_at_call 100;refine(Rf.out _).mono ?_;rintro e w' ⟨rfl,hrf,hbr⟩)
   go_ret
   have hsw:=Hsz.out
   refine⟨_,_,λb=>b=wa.heap.size+1,rfl,Gr.trans Hga.out hbr,λb hb=>by subst hb;exact⟨by omega,blk_lt hrf.1⟩,?_⟩
   rw [Hst.out]
   exact⟨rfl,wa.heap.size+1,wa.heap.size,rfl,hrf,rfl,Nm.out _ _ (by omega) (by omega)⟩
 ·have Hst:=Lib.hid (show(maxS m).start () wd p ⟨th,ob,kd,ca,cb,cc⟩=.refuse 9 by rw [STh.out,if_neg h1,if_pos h0];rfl)
  have Rf:=Lib.hid (refuse_any 9)
  have q1:(kd == 1)=false:=by simp [h1]
  have q0:(kd != 0)=true:=by simp [h0]
  go_enter Try.func121,Try.ntmps121
  go_upto_region 1 with fail
  rw [<-Hwa.out]
  go_wp2_with (go_at_call 100;refine(Rf.out _).mono ?_;rintro e w' ⟨rfl,hrf,hbr⟩)
  go_ret
  have hsw:=Hsz.out
  refine⟨_,_,λb=>b=wa.heap.size+1,rfl,Gr.trans Hga.out hbr,λb hb=>by subst hb;exact⟨by omega,blk_lt hrf.1⟩,?_⟩
  rw [Hst.out]
  exact⟨rfl,wa.heap.size+1,wa.heap.size,rfl,hrf,rfl,Nm.out _ _ (by omega) (by omega)⟩
theorem max_now (m:Nat):∀(o:(maxS m).ω) (wd:WD) (p:Nat) (s:(maxS m).σ),((maxS m).step o wd p s).2.1.now=wd.now:=by
 intro o wd p s
 match s with
 | .rd x=>show(rdStep 0 p wd x).1.now=_;unfold rdStep;split<;>rfl
 | .wr x=>
  have h:(wrGo 0 wd x).1.now=wd.now:=by
   unfold wrGo
   split
   ·rfl
   ·split<;>rfl
  show(wrStep 0 p wd x).1.now=_
  unfold wrStep
  split<;>exact h
theorem rdStep_mem (b p:Nat) (wd:WD) (x:RdD):(rdStep b p wd x).1=taRead wd (b+x.y.k - 1):=by unfold rdStep;split<;>rfl
theorem wrStep_fst (b p:Nat) (wd:WD) (x:WrD):(wrStep b p wd x).1=(wrGo b wd x).1:=by unfold wrStep;split<;>rfl
theorem max_ok (m:Nat) (hm:m<=12):RealOk (maxR m) where
 keepM:=by
  intro w w' Q Mut Mut' B T x p s h hc hQ hB hup
  match s with
  | .rd z=>
   obtain⟨h1,bm,tv,kv,h2,h3,h4,h5,rfl⟩:=h
   exact⟨h1,bm,tv,kv,h2,h3.chg hc hB,h4.keep hc hQ hup,h5,rfl⟩
  | .wr z=>
   obtain⟨h1,bm,tv,kv,h2,h3,h4,h5,rfl⟩:=h
   exact⟨h1,bm,tv,kv,h2,h3.chg hc hB,h4.keep hc hQ hup,h5,rfl⟩
 keepO:=λ_ _ _ _ _ _ _ _ _ _ _=>trivial
 lowO:=λ_ _ _ _ b hb=>hb.elim
 start:=⟨_,_,max_start_m m,λw Mut I N wd o p c hw _ _ hp hc=>max_start m hm w Mut I N wd p c hw hp hc⟩
 step:=by
  intro w Mut B I N wd o T' x' p s hw _ hmr _ hp hN hc hB hl
  have hB2:∀ b,B b->Mut b/\¬ WSet I b:=λb hb=>⟨(hB b hb).1,(hB b hb).2.1⟩
  have hN2:N+1<1000000000:=hN
  have hp12:0+2^m<=1000000:=by have:=Nat.pow_le_pow_right (n:=2) (by decide) hm;omega
  match s with
  | .rd z=>
   obtain⟨rfl,bm,tv,kv,rfl,h3,h4,h5,rfl⟩:=hmr
   obtain⟨l1,l2,l3⟩:=hl
   refine⟨_,_,rd_step_m _,(rd_step z hw h3 h4 hB2 h5 l1 hm hp12 l2 l3 hp hc).mono ?_⟩
   rintro e w' ⟨rfl,tv',kv',h6,h7⟩
   exact⟨rfl,h6.chg.mono (λb _ hb=>hb.elim .inl (λh=>.inr (.inr h))),WayB bm tv',h6.sub,h6.way.lt,h6.world.more (Nat.le_succ _) hN2,trivial,rfl,bm,tv',kv',rfl,h6.way,h7,h5.step 0 p wd l1,rfl⟩
  | .wr z=>
   obtain⟨rfl,bm,tv,kv,rfl,h3,h4,h5,rfl⟩:=hmr
   obtain⟨l1,l2,l3,l4⟩:=hl
   refine⟨_,_,wr_step_m _,(wr_step z hw h3 h4 hB2 h5 hm hp12 l2 l3 l4 hp hc hN2 l1).mono ?_⟩
   rintro e w' ⟨rfl,tv',kv',h6,h7⟩
   exact⟨rfl,h6.chg.mono (λb _ hb=>hb.elim .inl (λh=>.inr (.inr h))),WayB bm tv',h6.sub,h6.way.lt,h6.world,trivial,rfl,bm,tv',kv',rfl,h6.way,h7,h5.step 0 p wd (λhu=>by rw [hu,if_neg Bool.false_ne_true] at l1;exact l1),rfl⟩
 answer:=by
  intro w Mut B T' x' p s hmr
  match s with
  | .rd z=>
   obtain⟨rfl,bm,tv,kv,rfl,h3,h4,h5,rfl⟩:=hmr
   obtain⟨ka,kc,rfl⟩:∃ a c,kv=.slice a z.ky.length c:=by obtain⟨a,c,e,_⟩:=h4;exact⟨a,c,e⟩
   refine⟨_,_,rd_answer_m _,(rd_answer z.val ka z.ky.length kc h3).mono ?_⟩
   rintro e' w' ⟨rfl,hb⟩
   exact⟨none,0,_,rfl,LstU.nil _ _,h4.keep (S:=noB) (Chg.of_below hb) (λ_ h=>h.elim) (MutUp.refl _ _),hb⟩
  | .wr z=>
   obtain⟨rfl,bm,tv,kv,rfl,h3,h4,h5,rfl⟩:=hmr
   obtain⟨ka,kc,rfl⟩:∃ a c,kv=.slice a z.ky.length c:=by obtain⟨a,c,e,_⟩:=h4;exact⟨a,c,e⟩
   refine⟨_,_,wr_answer_m _,(wr_answer z.v z.nx z.up ka z.ky.length kc h3).mono ?_⟩
   rintro e' w' ⟨rfl,hb⟩
   exact⟨none,0,_,rfl,LstU.nil _ _,h4.keep (S:=noB) (Chg.of_below hb) (λ_ h=>h.elim) (MutUp.refl _ _),hb⟩
 now:=max_now m
 cnt:=by
  intro o wd p s
  match s with
  | .rd z=>show(rdStep 0 p wd z).1.mem.c.all<=_;rw [rdStep_mem];exact memRead_cnt _ _
  | .wr z=>
   show(wrStep 0 p wd z).1.mem.c.all<=_
   rw [wrStep_fst]
   unfold wrGo
   split
   ·exact memWrite_cnt _ _ _
   ·split<;>exact memRead_cnt _ _
 invStep:=λ_ _ _ _ _=>trivial
 invTick:=λ_ _ _=>trivial
 invBegin:=λ_ _ _ _=>trivial
end
section

/- Layer 10: what every play of a max register keeps: its machines are not at their ends, its ticks are small. -/
open Go.RowKit
theorem downN_turns (v:Nat):∀(n:Nat) (y:WayD),∃ l,(downN v n y).turns=y.turns++l/\(∀ t,t∈l->t.2=true)/\l.length+(downN v n y).left=y.left+(l.length - y.left)
 | 0,y=>⟨[],by simp [downN],(λt h=>by cases h),by simp [downN]⟩
 | n+1,y=>by
  unfold downN
  split
  ·obtain⟨l,h1,h2,h3⟩:=downN_turns v n (y.turn true)
   refine⟨(y.k,true)::l,?_,λt ht=>?_,?_⟩
   ·rw [h1];show(y.turns++[(y.k,true)])++l=_;simp
   ·rcases List.mem_cons.1 ht with rfl|ht
    ·rfl
    ·exact h2 t ht
   ·have e:(y.turn true).left=y.left - 1:=rfl
    rw [e] at h3
    rw [List.length_cons]
    omega
  ·exact⟨[],by simp,(λt h=>by cases h),by simp⟩
theorem mxSkip_full (ts:List (Nat×Bool)) (hl:0<ts.length) (h:(ts.getD (ts.length - 1) (0,false)).2=true):mxSkip ts ts.length=ts.length:=by
 obtain⟨n,hn⟩:∃ n,ts.length=n+1:=⟨ts.length - 1,by omega⟩
 rw [hn] at h ⊢
 unfold mxSkip
 rw [Nat.add_sub_cancel] at h
 rw [if_pos h]
theorem newWr_live {m v:Nat} (hm:0<m):if (newWr m v).up=true then 1<=(newWr m v).nx else 0<(newWr m v).y.left:=by
 obtain⟨l,h1,h2,h3⟩:=downN_turns v m (way0 m)
 have e1:newWr m v=if (downN v m (way0 m)).left=0 then (⟨downN v m (way0 m),v,false,1,[]⟩:WrD).fin else ⟨downN v m (way0 m),v,false,1,[]⟩:=rfl
 rw [e1]
 have e2:(way0 m).left=m:=rfl
 have e3:(way0 m).turns=[]:=rfl
 rw [e3,List.nil_append] at h1
 rw [e2] at h3
 have hw:=(WayOk.downN v m (WayOk.init m) rfl).len
 by_cases h0:(downN v m (way0 m)).left=0
 ·rw [if_pos h0]
  have hl:(downN v m (way0 m)).turns.length=m:=by omega
  show if true=true then 1<=mxSkip (downN v m (way0 m)).turns (downN v m (way0 m)).turns.length else _
  rw [if_pos rfl,mxSkip_full _ (by omega) ?_]
  ·omega
  ·have hlt:(downN v m (way0 m)).turns.length - 1<(downN v m (way0 m)).turns.length:=by omega
   rw [List.getD_eq_getElem?_getD,List.getElem?_eq_getElem hlt]
   have h9:∀ t,t∈(downN v m (way0 m)).turns->t.2=true:=λt ht=>h2 t (by rw [h1] at ht;exact ht)
   exact h9 _ (List.getElem_mem hlt)
 ·rw [if_neg h0]
  show if false=true then _ else 0<(downN v m (way0 m)).left
  rw [if_neg Bool.false_ne_true];omega
def mxHand (m now:Nat):MxS->Prop
 | .rd x=>0<x.y.left/\RdOk m x/\x.y.last<=now
 | .wr x=>(if x.up=true then 1<=x.nx else 0<x.y.left)/\WrOk m x/\x.y.last<=now
theorem mxHand.mono {m n1 n2:Nat} (h:n1<=n2) {s:MxS} (hs:mxHand m n1 s):mxHand m n2 s:=by
 match s,hs with
 | .rd x,⟨a,b,c⟩=>exact⟨a,b,Nat.le_trans c h⟩
 | .wr x,⟨a,b,c⟩=>exact⟨a,b,Nat.le_trans c h⟩
structure MxBase (m:Nat) (st:PlayD (maxS m)):Prop where
 tr:∀ a x,x∈st.wd.traces a->0<=x/\x<=(st.wd.now:Int)
 inv:∀ p,st.wd.inv.getD p 0<=st.wd.now
 hand:∀ p s k,st.hands.getD p (none,0)=(some s,k)->mxHand m st.wd.now s
theorem downN_last (v:Nat):∀(n:Nat) (y:WayD),(downN v n y).last=y.last
 | 0,y=>rfl
 | n+1,y=>by
  unfold downN
  split
  ·exact downN_last v n (y.turn true)
  ·rfl
theorem WrD.down_last (x:WrD):x.down.y.last=x.y.last:=by
 unfold WrD.down
 split
 ·exact downN_last _ _ _
 ·exact downN_last _ _ _
theorem WrD.down_left (x:WrD) (h:x.up=false):x.down.up=false->0<x.down.y.left:=by
 unfold WrD.down
 split
 ·exact λe=>by cases e
 ·rename_i h1;exact λ_=>Nat.pos_of_ne_zero h1
theorem mx_pre {m:Nat} (hm:0<m) {calls:List CallD} {st:PlayD (maxS m)} {q i k:Nat} {s:MxS} {evs0:List EvD} {wd0:WD} (h:MxBase m st) (hf:From calls st q i k s evs0 wd0):mxHand m st.wd.now s:=by
 rcases hf.or with⟨hh,_⟩|⟨hh,hs,_⟩
 ·exact h.hand q s k hh
 ·unfold startD at hs
  split at hs
  ·rename_i ho
   have hs':(if (calls.getD i d0).kind=1 then Mc.run (MxS.rd ⟨way0 m,0,[]⟩) else if (calls.getD i d0).kind≠0 then .refuse 9 else if (calls.getD i d0).a / 2^m≠0 then .refuse 10 else .run (.wr (newWr m (calls.getD i d0).a)))=Mc.run s:=hs
   split at hs'
   ·cases hs';exact⟨hm,RdOk.init m,Nat.zero_le _⟩
   ·split at hs'
    ·cases hs'
    ·split at hs'
     ·cases hs'
     ·rename_i h9
      cases hs'
      have hlt:(calls.getD i d0).a<2^m:=by
       rcases Nat.lt_or_ge (calls.getD i d0).a (2^m) with h8|h8
       ·exact h8
       ·have:=Nat.div_pos h8 (Nat.two_pow_pos m);omega
      refine⟨newWr_live hm,WrOk.init hlt,?_⟩
      have e1:(newWr m (calls.getD i d0).a).y.last=0:=(WrD.down_last _).trans rfl
      rw [e1];exact Nat.zero_le _
  ·cases hs
theorem From.invs {S:Sys} {calls:List CallD} {st:PlayD S} {q i k:Nat} {s:S.σ} {evs0:List EvD} {wd0:WD} (h:From calls st q i k s evs0 wd0) (hi:∀ p,st.wd.inv.getD p 0<=st.wd.now):∀ p,wd0.inv.getD p 0<=wd0.now:=by
 cases h with
 | old=>exact λp=>Nat.le_succ_of_le (hi p)
 | new s hh hs=>
  intro p
  show(st.wd.inv.set q (st.wd.now+1)).getD p 0<=st.wd.now+1
  by_cases hpq:q=p
  ·subst hpq
   by_cases hl:q<st.wd.inv.length
   ·rw [getD_set_eq hl];exact Nat.le_refl _
   ·rw [List.set_eq_of_length_le (by omega)];exact Nat.le_succ_of_le (hi q)
  ·rw [getD_set_neq hpq];exact Nat.le_succ_of_le (hi p)
theorem mxPut_tr {b k:Nat} {wd:WD} (h:∀ a x,x∈wd.traces a->0<=x/\x<=(wd.now:Int)):∀ a x,x∈(mxPut b k wd).traces a->0<=x/\x<=(wd.now:Int):=by
 intro a x hx
 have hx':x∈(if mxSet wd.traces b k=0 then updT wd.traces ((b+k - 1:Nat):Int) [(wd.now:Int)] else wd.traces) a:=hx
 split at hx'
 ·unfold updT at hx'
  split at hx'
  ·rw [List.mem_singleton.1 hx'];omega
  ·exact h a x hx'
 ·exact h a x hx'
theorem wrGo_tr {b:Nat} {wd:WD} {x:WrD} (h:∀ a z,z∈wd.traces a->0<=z/\z<=(wd.now:Int)):(∀ a z,z∈(wrGo b wd x).1.traces a->0<=z/\z<=(wd.now:Int))/\(wrGo b wd x).1.inv=wd.inv/\(wrGo b wd x).1.now=wd.now/\(wrGo b wd x).1.marks=wd.marks:=by
 unfold wrGo
 split
 ·exact⟨mxPut_tr h,rfl,rfl,rfl⟩
 ·split<;>exact⟨h,rfl,rfl,rfl⟩
theorem wrGo_last {b:Nat} {wd:WD} {x:WrD} (hl:x.y.last<=wd.now):(wrGo b wd x).2.y.last<=wd.now:=by
 unfold wrGo
 split
 ·exact hl
 ·split
  ·exact Nat.le_refl _
  ·rw [WrD.down_last];exact Nat.le_refl _
theorem wrGo_live {b:Nat} {wd:WD} {x:WrD} (hd:(wrGo b wd x).2.done=false) (hl:x.up=false->0<x.y.left):if (wrGo b wd x).2.up=true then 1<=(wrGo b wd x).2.nx else 0<(wrGo b wd x).2.y.left:=by
 cases hu:(wrGo b wd x).2.up with
 | true=>
  rw [if_pos rfl]
  unfold WrD.done at hd
  rw [hu] at hd
  simp at hd
  omega
 | false=>
  rw [if_neg Bool.false_ne_true]
  unfold wrGo at hu ⊢
  split at hu
  ·rename_i h1;exact absurd (hu.symm.trans h1) Bool.false_ne_true
  ·rename_i h1
   rw [if_neg h1]
   split at hu
   ·cases hu
   ·rename_i h2
    rw [if_neg h2]
    exact WrD.down_left _ (by simpa using h1) hu
theorem mx_base {m:Nat} (hm:0<m) {calls:List CallD} {st st':PlayD (maxS m)} (hg:StGood calls st) (h:MxBase m st) (ht:Turn calls st st'):MxBase m st':=by
 cases ht with
 | idle=>exact⟨h.tr,h.inv,h.hand⟩
 | refuse q i er hq hN hh hs=>
  refine⟨λa x hx=>?_,?_,λp s k hp=>?_⟩
  ·have:=h.tr a x hx
   show 0<=x/\x<=((st.wd.now+1:Nat):Int)
   omega
  ·intro p
   show(st.wd.inv.set q (st.wd.now+1)).getD p 0<=st.wd.now+1
   by_cases hpq:q=p
   ·subst hpq
    by_cases hl:q<st.wd.inv.length
    ·rw [getD_set_eq hl];exact Nat.le_refl _
    ·rw [List.set_eq_of_length_le (by omega)];exact Nat.le_succ_of_le (h.inv q)
   ·rw [getD_set_neq hpq];exact Nat.le_succ_of_le (h.inv p)
  ·have hp':(st.hands.set q (none,st.evs.length)).getD p (none,0)=(some s,k):=hp
   rw [hands_set hg.h16 hq] at hp'
   split at hp'
   ·cases hp'
   ·exact(h.hand p s k hp').mono (Nat.le_succ _)
 | step q i k s evs0 wd0 hq hN hf=>
  have hpre:=mx_pre hm h hf
  have hnow:=hf.now
  have htr:∀ a x,x∈wd0.traces a->0<=x/\x<=(wd0.now:Int):=λa x hx=>by
   rw [hf.traces] at hx
   have:=h.tr a x hx
   omega
  have hinv:=hf.invs h.inv
  have other:∀(hd:Option (maxS m).σ×Nat) (now:Nat),st.wd.now<=now->(∀ s k,hd=(some s,k)->mxHand m now s)->∀ p s' k',(st.hands.set q hd).getD p (none,0)=(some s',k')->mxHand m now s':=λhd now hn hd1 p s' k' hp=>by
   rw [hands_set hg.h16 hq] at hp
   split at hp
   ·exact hd1 _ _ hp
   ·exact(h.hand p s' k' hp).mono hn
  match s,hpre with
  | .rd x,⟨b1,b2,b3⟩=>
   have hst:(maxS m).step st.obj wd0 q (.rd x)=((),(rdStep 0 q wd0 x).1,.rd (rdStep 0 q wd0 x).2.1,(rdStep 0 q wd0 x).2.2):=rfl
   have hw:(rdStep 0 q wd0 x).1=taRead wd0 (0+x.y.k - 1):=rdStep_mem _ _ _ _
   have hok:=b2.step 0 q wd0 b1
   refine⟨?_,?_,?_⟩
   ·show ∀ a z,z∈(rdStep 0 q wd0 x).1.traces a->0<=z/\z<=(((rdStep 0 q wd0 x).1.now:Nat):Int)
    rw [hw];exact htr
   ·show ∀ p,(rdStep 0 q wd0 x).1.inv.getD p 0<=(rdStep 0 q wd0 x).1.now
    rw [hw];exact hinv
   ·have hn:(rdStep 0 q wd0 x).1.now=wd0.now:=by rw [hw];rfl
    refine other _ (rdStep 0 q wd0 x).1.now (by omega) (λs' k' e=>?_)
    have e':(if (rdStep 0 q wd0 x).2.2=true then none else some (MxS.rd (rdStep 0 q wd0 x).2.1),k)=(some s',k'):=e
    rw [hn]
    unfold rdStep at e' hok
    split at e'
    ·rename_i hlt
     rw [if_pos hlt] at hok
     cases e'
     exact⟨hlt,hok,Nat.le_refl _⟩
    ·cases e'
  | .wr x,⟨b1,b2,b3⟩=>
   have hl:x.up=false->0<x.y.left:=λhu=>by rw [hu,if_neg Bool.false_ne_true] at b1;exact b1
   obtain⟨t1,t2,t3,_⟩:=wrGo_tr (b:=0) (x:=x) htr
   have hw:(wrStep 0 q wd0 x).1=(wrGo 0 wd0 x).1:=wrStep_fst _ _ _ _
   have hok:=b2.step 0 q wd0 hl
   refine⟨?_,?_,?_⟩
   ·show ∀ a z,z∈(wrStep 0 q wd0 x).1.traces a->0<=z/\z<=(((wrStep 0 q wd0 x).1.now:Nat):Int)
    rw [hw,t3];exact t1
   ·show ∀ p,(wrStep 0 q wd0 x).1.inv.getD p 0<=(wrStep 0 q wd0 x).1.now
    rw [hw,t2,t3];exact hinv
   ·have hn:(wrStep 0 q wd0 x).1.now=wd0.now:=by rw [hw,t3]
    refine other _ (wrStep 0 q wd0 x).1.now (by omega) (λs' k' e=>?_)
    have e':(if (wrStep 0 q wd0 x).2.2=true then none else some (MxS.wr (wrStep 0 q wd0 x).2.1),k)=(some s',k'):=e
    rw [hn]
    unfold wrStep at e' hok
    split at e'
    ·cases e'
    ·rename_i hnd
     rw [if_neg hnd] at hok
     cases e'
     exact⟨wrGo_live (by simpa using hnd) hl,hok,wrGo_last (by omega)⟩
theorem mx_play0 (m:Nat) (calls:List CallD) (ws:List Nat):MxBase m (play0 (maxS m) () ws calls) where
 tr:=λa x hx=>by cases hx
 inv:=λp=>by show(List.replicate 16 0).getD p 0<=0;rw [getD_rep'];exact Nat.le_refl _
 hand:=λp s k hp=>by rw [show(play0 (maxS m) () ws calls).hands.getD p (none,0)=(none,0) from getD_rep'] at hp;cases hp
theorem mx_picks {m n:Nat} (hm:0<m) {calls:List CallD} {np:Nat} (hck:checkN n calls np=0) (ws:List Nat) (l:List Int):StGood calls (picksD (maxS m) calls (play0 (maxS m) () ws calls) l)/\MxBase m (picksD (maxS m) calls (play0 (maxS m) () ws calls) l)/\
  (picksD (maxS m) calls (play0 (maxS m) () ws calls) l).wd.now<=l.length:=by
 obtain⟨a,b⟩:=picks_ind (S:=maxS m) (max_now m) (thr_16 hck) (J:=MxBase m) (λst st' hg _ hj ht=>mx_base hm hg hj ht) l (play0_good (S:=maxS m) calls () ws) (mx_play0 m calls ws)
 refine⟨a,b,?_⟩
 have htk:=picks_ticks (max_now m) (play0 (maxS m) () ws calls) l (calls:=calls)
 rw [show(play0 (maxS m) () ws calls).wd.now=0 from rfl,show(play0 (maxS m) () ws calls).idle=0 from rfl] at htk
 omega
theorem mx_live {m:Nat} (hm:0<m) {calls:List CallD} {st:PlayD (maxS m)} {q i k:Nat} {s:MxS} {evs0:List EvD} {wd0:WD} (h:MxBase m st) (hnow:st.wd.now<100000) (hf:From calls st q i k s evs0 wd0):mxLive wd0 s:=by
 have hpre:=mx_pre hm h hf
 have hn:=hf.now
 have hT:TrOk wd0:=⟨λa x hx=>by
  rw [hf.traces] at hx
  have:=h.tr a x hx
  omega,λp=>by have:=hf.invs h.inv p;omega⟩
 match s,hpre with
 | .rd x,⟨b1,b2,b3⟩=>exact⟨b1,hT,by omega⟩
 | .wr x,⟨b1,b2,b3⟩=>exact⟨b1,hT,by omega,by omega⟩
theorem mx_safe {m n:Nat} (hm:0<m) (calls:List CallD) (picks:List Int) (hck:checkN n calls picks.length=0) (ws:List Nat):∀ l p r,picks=l++p::r->SafeAt (maxR m) calls (picksD (maxS m) calls (play0 (maxS m) () ws calls) l) p:=by
 intro l p r hl i hN
 obtain⟨a,b,c⟩:=mx_picks hm hck ws l
 have hnp:=np_ok hck
 have hll:l.length<picks.length:=by rw [hl];simp
 obtain⟨n1,n2,n3⟩:=nowN_spec hN
 have ht:=thr_16 hck i n1
 obtain⟨q,rfl⟩:∃ q:Nat,p=(q:Int):=⟨p.toNat,by omega⟩
 simp only [Int.toNat_natCast]
 refine⟨λs j hh=>?_,λhh s hs=>?_⟩
 ·obtain⟨k1,k2,k3,k4⟩:=a.ev.hand q j (by unfold hndOf;rw [hh];rfl)
  have hc:(evAt (picksD (maxS m) calls (play0 (maxS m) () ws calls) l).evs j).call=i:=by rw [hN] at k4;exact(Option.some.inj k4).symm
  exact mx_live (calls:=calls) hm b (by omega) (.old j s hh k1 hc k3)
 ·exact mx_live (calls:=calls) hm b (by omega) (.new s hh hs)
end
end Go.Proofs.Ytlanekkbciffcaa
