/- What the checkers say of things that are alike. -/
import Derived.Test.YtfkokppncipgnaaGreatW18
import Derived.Test.YtfkokppncipgnaaGreatW02
import Derived.Test.YtfkokppncipgnaaGreatW14
import Derived.Deep.DeepCutAuto
import Derived.Test.YtfkokppncipgnaaGreatW04
import Derived.BigQuiet
import Derived.Deep.Cut
import Derived.Test.YtfkokppncipgnaaGreatW25
set_option maxRecDepth 100000
set_option linter.unusedVariables false
set_option linter.unusedSimpArgs false
set_option linter.unnecessarySimpa false
namespace Go.Proofs.YtfkokppncipgnaaGreat
section
open Go.RowKit
theorem same_eq (xs:List Nat) (a a2:Option Addr) (c c2:Nat) (w:World) (hs:cB w a xs.length 1 (fE xs)) (hs2:cB w a2 xs.length 1 (fE xs)) :
  Calls Tryz.prog 23 #[.slice a xs.length c,.slice a2 xs.length c2] w λe w'=>e=.returned (.bool true)/\Below w.heap.size w w':=by
 have hm:=hs.1
 unfold maxLen at hm
 have Hs:=Lib.hid hs;have Hs2:=Lib.hid hs2
 clear hs hs2
 go_enter Tryz.func23,Tryz.ntmps23
 go_wp2
 go_loopw [5,13] (λ_ i wr=>∃ k:Nat,k<=xs.length/\i=.int .i64 k/\Below w.heap.size w wr) (λ_ i _=>xs.length - (intOf i).toNat)
 case atStart=>exact⟨0,Nat.zero_le _,rfl,Gr.refl _⟩
 case round=>
  obtain⟨k,hk,rfl,hb⟩:=hrel
  by_cases hlt:k<xs.length
  ·obtain⟨b,o,rfl,h4⟩:=Hs.out.elem hb hlt
   obtain⟨b2,o2,rfl,h5⟩:=Hs2.out.elem hb hlt
   obtain⟨x,hx⟩:∃ x,x=xs.getD k 0:=⟨_,rfl⟩
   have e4:wr.cell? ⟨b,o+k,none⟩=some (.int .u64 (x:Int)):=by have h0:=h4 0 (by omega);rw [Nat.mul_one,Nat.add_zero] at h0;rw [h0,hx];rfl
   have e5:wr.cell? ⟨b2,o2+k,none⟩=some (.int .u64 (x:Int)):=by have h0:=h5 0 (by omega);rw [Nat.mul_one,Nat.add_zero] at h0;rw [h0,hx];rfl
   have l1:(k:Int)<xs.length:=by omega
   have Hb:=Lib.hid hb
   clear h4 h5 hb hx
   go_wp2_with fail
   go_quiet (fail)
   go_wp2
   go_roundw
   case rel=>exact⟨k+1,by omega,by go_num,below_drewN Hb.out _⟩
   case measure=>simp [intOf]<;>omega
  ·have l1:¬ (k:Int)<xs.length:=by omega
   have Hb:=Lib.hid hb
   clear hb
   go_wp2
   go_ret
   exact⟨rfl,Hb.out⟩
theorem Me (xs:List Int) (a a2:Option Addr) (c c2:Nat) (w:World) (hs:cB w a xs.length 1 (kJ xs)) (hs2:cB w a2 xs.length 1 (kJ xs)) :
  Calls Tryz.prog 46 #[.slice a xs.length c,.slice a2 xs.length c2] w λe w'=>e=.returned (.bool true)/\Below w.heap.size w w':=by
 have hm:=hs.1
 unfold maxLen at hm
 have Hs:=Lib.hid hs;have Hs2:=Lib.hid hs2
 clear hs hs2
 go_enter Tryz.func46,Tryz.ntmps46
 go_wp2
 go_loopw [5,13] (λ_ i wr=>∃ k:Nat,k<=xs.length/\i=.int .i64 k/\Below w.heap.size w wr) (λ_ i _=>xs.length - (intOf i).toNat)
 case atStart=>exact⟨0,Nat.zero_le _,rfl,Gr.refl _⟩
 case round=>
  obtain⟨k,hk,rfl,hb⟩:=hrel
  by_cases hlt:k<xs.length
  ·obtain⟨b,o,rfl,h4⟩:=Hs.out.elem hb hlt
   obtain⟨b2,o2,rfl,h5⟩:=Hs2.out.elem hb hlt
   obtain⟨x,hx⟩:∃ x,x=xs.getD k 0:=⟨_,rfl⟩
   have e4:wr.cell? ⟨b,o+k,none⟩=some (.int .i64 x):=by have h0:=h4 0 (by omega);rw [Nat.mul_one,Nat.add_zero] at h0;rw [h0,hx];rfl
   have e5:wr.cell? ⟨b2,o2+k,none⟩=some (.int .i64 x):=by have h0:=h5 0 (by omega);rw [Nat.mul_one,Nat.add_zero] at h0;rw [h0,hx];rfl
   have l1:(k:Int)<xs.length:=by omega
   have Hb:=Lib.hid hb
   clear h4 h5 hb hx
   go_wp2_with fail
   go_quiet (fail)
   go_wp2
   go_roundw
   case rel=>exact⟨k+1,by omega,by go_num,below_drewN Hb.out _⟩
   case measure=>simp [intOf]<;>omega
  ·have l1:¬ (k:Int)<xs.length:=by omega
   have Hb:=Lib.hid hb
   clear hb
   go_wp2
   go_ret
   exact⟨rfl,Hb.out⟩
theorem Db (er:Int) (vl:Nat) (xs:List Nat) (a a2:Option Addr) (c c2:Nat) (w:World) (hs:cB w a xs.length 1 (fE xs)) (hs2:cB w a2 xs.length 1 (fE xs)) :
  Calls Tryz.prog 45 #[.agg #[.int .i64 er,.int .u64 (vl:Int),.slice a xs.length c],.agg #[.int .i64 er,.int .u64 (vl:Int),.slice a2 xs.length c2]] w λe w'=>e=.returned (.bool true)/\Below w.heap.size w w':=by
 have S:=Lib.hid (λ(u:World) (h:Below w.heap.size w u)=>same_eq xs a a2 c c2 u (hs.grown h) (hs2.grown h))
 obtain⟨n,hn⟩:∃ n,n=xs.length:=⟨_,rfl⟩
 rw [<-hn] at S ⊢
 clear hs hs2 hn
 go_enter Tryz.func45,Tryz.ntmps45
 go_wp2_with (go_at_call 23;refine(S.out _ (Gr.alloc (Gr.new _ _) _)).mono ?_;rintro e w' ⟨rfl,hb⟩)
 go_ret
 exact⟨rfl,Gr.trans (Gr.alloc (Gr.new _ _) _) hb⟩
def evV (e:EvD) (la:Option Addr) (lc:Nat) (ka:Option Addr) (kc:Nat):Value:=.agg #[.int .i64 (e.call:Int),.int .i64 (e.inv:Int),.int .i64 (e.resp:Int),.int .i64 (e.steps:Int),.int .i64 e.ans.err,.int .u64 (e.ans.val:Int),.slice la e.ans.list.length lc,.slice ka e.key.length kc]
theorem Im (e:EvD) (la WK ka Lg:Option Addr) (lc XO kc Ov:Nat) (w:World) (hl:cB w la e.ans.list.length 1 (fE e.ans.list)) (hl2:cB w WK e.ans.list.length 1 (fE e.ans.list)) (hk:cB w ka e.key.length 1 (kJ e.key)) (hk2:cB w Lg e.key.length 1 (kJ e.key)) :
  Calls Tryz.prog 24 #[evV e la lc ka kc,evV e WK XO Lg Ov] w λr w'=>r=.returned (.bool true)/\Below w.heap.size w w':=by
 obtain⟨cl,iv,rs,st,⟨er,vl,li⟩,ky⟩:=e
 unfold evV
 simp only at hl hl2 hk hk2 ⊢
 have A:=Lib.hid (λ(u:World) (h:Below w.heap.size w u)=>Db er vl li la WK lc XO u (hl.grown h) (hl2.grown h))
 have K:=Lib.hid (λ(u:World) (h:Below w.heap.size w u)=>Me ky ka Lg kc Ov u (hk.grown h) (hk2.grown h))
 obtain⟨n,hn⟩:∃ n,n=li.length:=⟨_,rfl⟩
 obtain⟨m,hm⟩:∃ m,m=ky.length:=⟨_,rfl⟩
 rw [<-hn] at A ⊢
 rw [<-hm] at K ⊢
 clear hl hl2 hk hk2 hn hm
 obtain⟨wa,hwa⟩:∃ wa,wa=(w.alloc (.cells #[.int .i64 (cl:Int),.int .i64 (iv:Int),.int .i64 (rs:Int),.int .i64 (st:Int),.int .i64 er,.int .u64 (vl:Int),.slice la n lc,.slice ka m kc] 52)).alloc (.cells #[.int .i64 (cl:Int),.int .i64 (iv:Int),.int .i64 (rs:Int),.int .i64 (st:Int),.int .i64 er,.int .u64 (vl:Int),.slice WK n XO,.slice Lg m Ov] 52):=⟨_,rfl⟩
 have hga:Below w.heap.size w wa:=by rw [hwa];exact Gr.alloc (Gr.new _ _) _
 have hr1:wa.heap[w.heap.size]?=some (.cells #[.int .i64 (cl:Int),.int .i64 (iv:Int),.int .i64 (rs:Int),.int .i64 (st:Int),.int .i64 er,.int .u64 (vl:Int),.slice la n lc,.slice ka m kc] 52 (0,0)):=by rw [hwa,Below.heap_alloc _ _ _ (by simp)];exact heap_alloc_new _ _
 have hr2:wa.heap[w.heap.size+1]?=some (.cells #[.int .i64 (cl:Int),.int .i64 (iv:Int),.int .i64 (rs:Int),.int .i64 (st:Int),.int .i64 er,.int .u64 (vl:Int),.slice WK n XO,.slice Lg m Ov] 52 (0,0)):=by
  rw [hwa]
  have:=heap_alloc_new (w.alloc (.cells #[.int .i64 (cl:Int),.int .i64 (iv:Int),.int .i64 (rs:Int),.int .i64 (st:Int),.int .i64 er,.int .u64 (vl:Int),.slice la n lc,.slice ka m kc] 52)) (.cells #[.int .i64 (cl:Int),.int .i64 (iv:Int),.int .i64 (rs:Int),.int .i64 (st:Int),.int .i64 er,.int .u64 (vl:Int),.slice WK n XO,.slice Lg m Ov] 52 (0,0))
  simp only [World.size_alloc] at this
  exact this
 have Hwa:=Lib.hid hwa;have Hga:=Lib.hid hga;have Hr1:=Lib.hid hr1;have Hr2:=Lib.hid hr2
 clear hwa hga hr1 hr2
 go_enter Tryz.func24,Tryz.ntmps24
 go_wp2_with fail
 rw [<-Hwa.out]
 refine(A.out _ Hga.out).mono ?_
 rintro r w1 ⟨rfl,hb1⟩
 have s1:=(hb1.block _ (aC Hr1.out)).trans Hr1.out
 have s2:=(hb1.block _ (aC Hr2.out)).trans Hr2.out
 have k7:w1.cell? ⟨w.heap.size,7,none⟩=some (.slice ka m kc):=by rw [aA s1];rfl
 have k7':w1.cell? ⟨w.heap.size+1,7,none⟩=some (.slice Lg m Ov):=by rw [aA s2];rfl
 have Hb1:=Lib.hid hb1
 clear s1 s2 hb1
 go_wp2_with fail
 refine(K.out _ (Gr.trans Hga.out Hb1.out)).mono ?_
 rintro r w2 ⟨rfl,hb2⟩
 have Hb2:=Lib.hid hb2
 clear hb2
 go_wp2
 go_ret
 exact⟨rfl,Gr.trans Hga.out (Gr.trans Hb1.out Hb2.out)⟩
end
section
open Go.RowKit
end
section
open Go.RowKit
variable {S:Sys}
structure Cj (st st':aP S):Prop where
 len:st.evs.length<=st'.evs.length
 now:st.wd.now<=st'.wd.now
 idle:st.idle<=st'.idle
 inv:∀ i,i<st.evs.length->(aF st'.evs i).inv=(aF st.evs i).inv
 ev:∀ i,i<st.evs.length->(aF st.evs i).resp≠0->aF st'.evs i=aF st.evs i
theorem Cj.refl (st:aP S):Cj st st:=⟨Nat.le_refl _,Nat.le_refl _,Nat.le_refl _,λ_ _=>rfl,λ_ _ _=>rfl⟩
theorem Cj.trans {a b c:aP S} (h:Cj a b) (k:Cj b c):Cj a c:=
 ⟨Nat.le_trans h.len k.len,Nat.le_trans h.now k.now,Nat.le_trans h.idle k.idle,λi hi=>(k.inv i (Nat.lt_of_lt_of_le hi h.len)).trans (h.inv i hi),λi hi hr=>(k.ev i (Nat.lt_of_lt_of_le hi h.len) (by rw [h.ev i hi hr];exact hr)).trans (h.ev i hi hr)⟩
end
section
open Go.RowKit
theorem zH {n:Int} {calls:List aD} {np:Nat} (hck:checkN n calls np=0):∀ c,c<calls.length->0<=(calls.getD c d0).thread/\(calls.getD c d0).thread<n:=by
 obtain⟨hw0,_⟩:=eD hck
 obtain⟨z1,z2,z3,z4⟩:=gZ hw0
 intro c hcl
 unfold kC at z4
 rw [List.any_eq_false] at z4
 have e:calls.getD c d0=calls[c]:=by simp [List.getD_eq_getElem?_getD,hcl]
 have h9:BU n calls[c]=false:=by simpa using z4 calls[c] (List.getElem_mem hcl)
 rw [e]
 obtain⟨y,hy⟩:∃ y,y=calls[c]:=⟨_,rfl⟩
 rw [<-hy] at h9 ⊢
 unfold BU at h9
 simp at h9
 omega
theorem WU {n:Int} {calls:List aD} {np:Nat} (hck:checkN n calls np=0):∀ c,c<calls.length->0<=(calls.getD c d0).thread/\(calls.getD c d0).thread<16:=by
 obtain⟨hw0,_⟩:=eD hck
 obtain⟨z1,z2,z3,z4⟩:=gZ hw0
 intro c hc
 have:=zH hck c hc
 omega
theorem cB.take {w:World} {a:Option Addr} {l:List Int} (h:cB w a l.length 1 (kJ l)) (k:Nat) (hk:k<=l.length):cB w a (l.take k).length 1 (kJ (l.take k)):=by
 have e:(l.take k).length=k:=by simp;omega
 rw [e]
 refine⟨Nat.le_trans hk h.1,λj hj=>?_⟩
 obtain⟨b,off,h1,h2,h3⟩:=h.2 j (by omega)
 refine⟨b,off,h1,h2,λf hf=>?_⟩
 rw [h3 f hf]
 unfold kJ
 congr 2
 simp [List.getD_eq_getElem?_getD,List.getElem?_take,hj]
structure UB (w u:World) (b:Nat) (ea:Option Addr) (en ec:Nat) (va:Option Addr) (vn vc:Nat) (rp:iN):Prop where
 ge:w.heap.size<=b
 blk:u.heap[b]?=some (.cells #[.slice ea en ec,.slice va vn vc,.int .i64 (rp.c.read:Int),.int .i64 (rp.c.write:Int),.int .i64 (rp.c.swap:Int),.int .i64 (rp.c.add:Int),.int .i64 (rp.c.fault:Int),.int .i64 (rp.ticks:Int),.int .i64 (rp.idle:Int)] 32 (0,0))
theorem UB.grown {w u u':World} {b:Nat} {ea:Option Addr} {en ec:Nat} {va:Option Addr} {vn vc:Nat} {rp:iN} (h:UB w u b ea en ec va vn vc rp) (hb:Below u.heap.size u u'):UB w u' b ea en ec va vn vc rp:=⟨h.ge,(hb.block b (aC h.blk)).trans h.blk⟩
theorem UB.cell {w u:World} {b:Nat} {ea:Option Addr} {en ec:Nat} {va:Option Addr} {vn vc:Nat} {rp:iN} (h:UB w u b ea en ec va vn vc rp) (j:Nat):u.cell? ⟨b,j,none⟩=(#[.slice ea en ec,.slice va vn vc,.int .i64 (rp.c.read:Int),.int .i64 (rp.c.write:Int),.int .i64 (rp.c.swap:Int),.int .i64 (rp.c.add:Int),.int .i64 (rp.c.fault:Int),.int .i64 (rp.ticks:Int),.int .i64 (rp.idle:Int)]:Array Value)[j]?:=aA h.blk j
end
section
open Go.RowKit
set_option maxHeartbeats 8000000 in
theorem Ck {X Y:Nat->Prop} {B B':Nat} (w:World) (ea Eo va Dr:Option Addr) (en ec En vn vc Gm:Nat) (ers WQ:List (Value×Value)) (rp:iN) (hrep:iQ X B w (.slice ea en ec) (.slice va vn vc) ers rp) (NM:iQ Y B' w (.slice Eo en En) (.slice none 0 0) WQ { rp with words:=[] }) (Ze:cB w Dr vn 1 (fE rp.words))
  (hen:en=rp.evs.length) (hvn:vn=rp.words.length) (hlen:rp.evs.length<1000000) (hwl:rp.words.length<1000000) :
  Calls Tryz.prog 11 #[lC (.slice ea en ec) (.slice va vn vc) rp,lC (.slice Eo en En) (.slice Dr vn Gm) rp] w λe w'=>e=.returned (.bool true)/\Below w.heap.size w w':=by
 obtain⟨wa,hwa⟩:∃ wa,wa=(w.alloc (.cells #[.slice ea en ec,.slice va vn vc,.int .i64 (rp.c.read:Int),.int .i64 (rp.c.write:Int),.int .i64 (rp.c.swap:Int),.int .i64 (rp.c.add:Int),.int .i64 (rp.c.fault:Int),.int .i64 (rp.ticks:Int),.int .i64 (rp.idle:Int)] 32)).alloc (.cells #[.slice Eo en En,.slice Dr vn Gm,.int .i64 (rp.c.read:Int),.int .i64 (rp.c.write:Int),.int .i64 (rp.c.swap:Int),.int .i64 (rp.c.add:Int),.int .i64 (rp.c.fault:Int),.int .i64 (rp.ticks:Int),.int .i64 (rp.idle:Int)] 32):=⟨_,rfl⟩
 have hga:Below w.heap.size w wa:=by rw [hwa];exact Gr.alloc (Gr.new _ _) _
 have hr1:wa.heap[w.heap.size]?=some (.cells #[.slice ea en ec,.slice va vn vc,.int .i64 (rp.c.read:Int),.int .i64 (rp.c.write:Int),.int .i64 (rp.c.swap:Int),.int .i64 (rp.c.add:Int),.int .i64 (rp.c.fault:Int),.int .i64 (rp.ticks:Int),.int .i64 (rp.idle:Int)] 32 (0,0)):=by rw [hwa,Below.heap_alloc _ _ _ (by simp)];exact heap_alloc_new _ _
 have hr2:wa.heap[w.heap.size+1]?=some (.cells #[.slice Eo en En,.slice Dr vn Gm,.int .i64 (rp.c.read:Int),.int .i64 (rp.c.write:Int),.int .i64 (rp.c.swap:Int),.int .i64 (rp.c.add:Int),.int .i64 (rp.c.fault:Int),.int .i64 (rp.ticks:Int),.int .i64 (rp.idle:Int)] 32 (0,0)):=by
  rw [hwa]
  have:=heap_alloc_new (w.alloc (.cells #[.slice ea en ec,.slice va vn vc,.int .i64 (rp.c.read:Int),.int .i64 (rp.c.write:Int),.int .i64 (rp.c.swap:Int),.int .i64 (rp.c.add:Int),.int .i64 (rp.c.fault:Int),.int .i64 (rp.ticks:Int),.int .i64 (rp.idle:Int)] 32)) (.cells #[.slice Eo en En,.slice Dr vn Gm,.int .i64 (rp.c.read:Int),.int .i64 (rp.c.write:Int),.int .i64 (rp.c.swap:Int),.int .i64 (rp.c.add:Int),.int .i64 (rp.c.fault:Int),.int .i64 (rp.ticks:Int),.int .i64 (rp.idle:Int)] 32 (0,0))
  simp only [World.size_alloc] at this
  exact this
 have hs1:w.heap.size<wa.heap.size:=aC hr1
 have hs2:w.heap.size+1<wa.heap.size:=aC hr2
 have r0:wa.cell? ⟨w.heap.size,0,none⟩=some (.slice ea en ec):=by rw [aA hr1];rfl
 have r1:wa.cell? ⟨w.heap.size,1,none⟩=some (.slice va vn vc):=by rw [aA hr1];rfl
 have r2:wa.cell? ⟨w.heap.size,2,none⟩=some (.int .i64 (rp.c.read:Int)):=by rw [aA hr1];rfl
 have r3:wa.cell? ⟨w.heap.size,3,none⟩=some (.int .i64 (rp.c.write:Int)):=by rw [aA hr1];rfl
 have r4:wa.cell? ⟨w.heap.size,4,none⟩=some (.int .i64 (rp.c.swap:Int)):=by rw [aA hr1];rfl
 have r5:wa.cell? ⟨w.heap.size,5,none⟩=some (.int .i64 (rp.c.add:Int)):=by rw [aA hr1];rfl
 have r6:wa.cell? ⟨w.heap.size,6,none⟩=some (.int .i64 (rp.c.fault:Int)):=by rw [aA hr1];rfl
 have r7:wa.cell? ⟨w.heap.size,7,none⟩=some (.int .i64 (rp.ticks:Int)):=by rw [aA hr1];rfl
 have r8:wa.cell? ⟨w.heap.size,8,none⟩=some (.int .i64 (rp.idle:Int)):=by rw [aA hr1];rfl
 have s0:wa.cell? ⟨w.heap.size+1,0,none⟩=some (.slice Eo en En):=by rw [aA hr2];rfl
 have s1:wa.cell? ⟨w.heap.size+1,1,none⟩=some (.slice Dr vn Gm):=by rw [aA hr2];rfl
 have s2:wa.cell? ⟨w.heap.size+1,2,none⟩=some (.int .i64 (rp.c.read:Int)):=by rw [aA hr2];rfl
 have s3:wa.cell? ⟨w.heap.size+1,3,none⟩=some (.int .i64 (rp.c.write:Int)):=by rw [aA hr2];rfl
 have s4:wa.cell? ⟨w.heap.size+1,4,none⟩=some (.int .i64 (rp.c.swap:Int)):=by rw [aA hr2];rfl
 have s5:wa.cell? ⟨w.heap.size+1,5,none⟩=some (.int .i64 (rp.c.add:Int)):=by rw [aA hr2];rfl
 have s6:wa.cell? ⟨w.heap.size+1,6,none⟩=some (.int .i64 (rp.c.fault:Int)):=by rw [aA hr2];rfl
 have s7:wa.cell? ⟨w.heap.size+1,7,none⟩=some (.int .i64 (rp.ticks:Int)):=by rw [aA hr2];rfl
 have s8:wa.cell? ⟨w.heap.size+1,8,none⟩=some (.int .i64 (rp.idle:Int)):=by rw [aA hr2];rfl
 obtain⟨a9,c9,e9,hsw,_⟩:=FM (g:=fE rp.words) hrep.words (by unfold maxLen;omega) (λj hj=>by simp [fE,bI,List.getD_eq_getElem?_getD,hj])
 simp only [Value.slice.injEq] at e9
 obtain⟨rfl,rfl,rfl⟩:=e9
 have SE:=Lib.hid (λ(u:World) (hu:Below wa.heap.size wa u)=>same_eq rp.words va Dr vc Gm u ((hsw.grown hga).grown hu) ((Ze.grown hga).grown hu))
 have Hrep:=Lib.hid (hrep.grown hga);have Hrep2:=Lib.hid (NM.grown hga);have Hga:=Lib.hid hga;have Hwa:=Lib.hid hwa;have Hen:=Lib.hid hen
 have R0:=Lib.hid r0;have S0:=Lib.hid s0
 have henl:en<=9223372036854775807:=by omega
 clear hrep NM hga hwa hen hvn hr1 hr2 hsw Ze
 unfold lC
 go_enter Tryz.func11,Tryz.ntmps11
 go_upto_region 1 with fail
 rw [<-Hwa.out]
 go_wp2_with fail
 refine(SE.out _ (Gr.refl _)).mono ?_
 rintro e w2 ⟨rfl,hb2⟩
 have q0:=(hb2.cell hs1).trans r0
 have Hb2:=Lib.hid hb2
 have S0:=Lib.hid s0;have Q0:=Lib.hid r0
 clear r0 s0 r1 s1 r2 s2 r3 s3 r4 s4 r5 s5 r6 s6 r7 s7 r8 s8 hb2
 go_wp2
 go_loopw [45] (λi wr=>∃ j:Nat,j<=en/\i=.int .i64 j/\Below wa.heap.size wa wr) (λi _=>en - (intOf i).toNat)
 case atStart=>exact⟨0,Nat.zero_le _,rfl,Hb2.out⟩
 case round=>
  clear q0
  obtain⟨j,hj,rfl,hb⟩:=hrel
  by_cases hlt:j<en
  ·obtain⟨g,la,lc,ka,kc,rfl,hgl,e0,e1,e2,e3,e4,e5,e6,e7,hls,hks,_⟩:=Hrep.out.ev8 Hen.out hlt hb
   obtain⟨g2,WK,XO,Lg,Ov,rfl,aAS,f0,f1,f2,f3,f4,f5,f6,f7,Lj,Nl,_⟩:=Hrep2.out.ev8 Hen.out hlt hb
   simp only at f0 f1 f2 f3 f4 f5 f6 f7 Lj Nl
   obtain⟨E,hE⟩:∃ E,E=aF rp.evs j:=⟨_,rfl⟩
   rw [<-hE] at e0 e1 e2 e3 e4 e5 e6 e7 f0 f1 f2 f3 f4 f5 f6 f7 hls hks Lj Nl
   have EQ:=(λ(u:World) (h:Below wr.heap.size wr u)=>Im E la WK ka Lg lc XO kc Ov u (hls.grown h) (Lj.grown h) (hks.grown h) (Nl.grown h))
   obtain⟨c,iv,rs,st,⟨er,vl,li⟩,ky⟩:=E
   unfold evV at EQ
   simp only at e0 e1 e2 e3 e4 e5 e6 e7 f0 f1 f2 f3 f4 f5 f6 f7 EQ
   obtain⟨ln,hln⟩:∃ ln,ln=li.length:=⟨_,rfl⟩
   obtain⟨kn,hkn⟩:∃ kn,kn=ky.length:=⟨_,rfl⟩
   rw [<-hln] at e6 f6 EQ
   rw [<-hkn] at e7 f7 EQ
   have q0:=(hb.cell hs1).trans Q0.out
   have s0:=(hb.cell hs2).trans S0.out
   have A0:=aT q0;have B0:=aT s0
   have E0:=aT e0;have F0:=aT f0
   have E1:=aT e1;have F1:=aT f1
   have E2:=aT e2;have F2:=aT f2
   have E3:=aT e3;have F3:=aT f3
   have E4:=aT e4;have F4:=aT f4
   have E5:=aT e5;have F5:=aT f5
   have E6:=aT e6;have F6:=aT f6
   have E7:=aT e7;have F7:=aT f7
   have HEQ:=Lib.hid EQ;have Hb:=Lib.hid hb
   have l1:(j:Int)<(en:Int):=by omega
   clear EQ hls hks Lj Nl hE hln hkn hb q0 s0 e0 f0 e1 f1 e2 f2 e3 f3 e4 f4 e5 f5 e6 f6 e7 f7
   go_wp2_with fail
   ((with_reducible refine bN (by kernel_rfl) (by kernel_rfl) ?_);(repeat ((go_big_quiet_want;go_big_quiet_op;first|go_big_quiet_on|((with_reducible apply Exists.intro);(with_reducible refine⟨λ_=>?_,?_⟩);((go_at_call 24;exact Pt (HEQ.out _ (wD.below _))));go_big_quiet_on))));(with_reducible refine wpQuiet_nil ?_);intro _ hw';obtain⟨nq,hw''⟩:=hw';subst hw'')
   obtain⟨w3,hw3⟩:∃ w3,w3=nq.u:=⟨_,rfl⟩
   have hb3:=nq.below
   rw [<-hw3] at hb3 ⊢
   have Hb3:=Lib.hid hb3
   clear A0 B0 E0 F0 E1 F1 E2 F2 E3 F3 E4 F4 E5 F5 E6 F6 E7 F7 hw3 nq hb3
   go_wp2
   go_roundw
   case rel=>exact⟨j+1,by omega,by go_num,Gr.trans Hb.out Hb3.out⟩
   case measure=>simp [intOf]<;>omega
  ·have l1:¬ (j:Int)<(en:Int):=by omega
   have Hb:=Lib.hid hb
   clear hb
   go_wp2
   go_ret
   exact⟨rfl,Gr.trans Hga.out Hb.out⟩
end
section
open Go.RowKit
def jR (er:Int) (r:iN):iN:=if er=0 then r else ⟨[],[],c0,0,0⟩
theorem ZU (X:Nat->Prop) (B:Nat) (w:World):iQ X B w (.slice none 0 0) (.slice none 0 0) [] ⟨[],[],c0,0,0⟩:=⟨⟨rfl,.inl ⟨rfl,rfl⟩⟩,rfl,λi hi=>absurd hi (Nat.not_lt_zero i),⟨rfl,.inl ⟨rfl,rfl⟩⟩⟩
theorem yC.one {X:Nat->Prop} {w w':World} {er:Int} {r:iN} {e:Ending} (h:yC X w w' er r e):Below w.heap.size w w'/\∃ ea ec va vc ers,e=.returned (.tuple #[lC (.slice ea (jR er r).evs.length ec) (.slice va (jR er r).words.length vc) (jR er r),.int .i64 er])/\iQ X w.heap.size w' (.slice ea (jR er r).evs.length ec) (.slice va (jR er r).words.length vc) ers (jR er r):=by
 obtain⟨ea,en,ec,va,vn,vc,rp,rfl,hb,hr⟩:=h
 refine⟨hb,ea,ec,va,vc,?_⟩
 rcases hr with⟨h0,rfl,rfl,rfl,rfl,rfl,rfl,rfl⟩|⟨h0,rfl,rfl,rfl,ers,hrep⟩
 ·have e0:jR er r=⟨[],[],c0,0,0⟩:=if_neg h0
  rw [e0];exact⟨[],rfl,ZU _ _ _⟩
 ·have e0:jR er rp=rp:=if_pos h0
  rw [e0];exact⟨ers,rfl,hrep⟩
theorem xQ.one {X:Nat->Prop} {w w':World} {er:Int} {r:iN} {e:Ending} (h:xQ X w w' er r true e):Below w.heap.size w w'/\∃ ea ec va vc ers,e=.returned (.tuple #[lC (.slice ea (jR er r).evs.length ec) (.slice va (jR er r).words.length vc) (jR er r),.int .i64 er])/\iQ X w.heap.size w' (.slice ea (jR er r).evs.length ec) (.slice none 0 0) ers { jR er r with words:=[] }/\cB w' va (jR er r).words.length 1 (fE (jR er r).words):=by
 obtain⟨hb,ea,en,ec,va,vn,vc,rp,lv,rfl,hr⟩:=h
 refine⟨hb,ea,ec,va,vc,?_⟩
 rcases hr with⟨h0,rfl,rfl,rfl,rfl,rfl,rfl,rfl⟩|⟨h0,rfl,rfl,rfl,ers,hrep,hsl,_⟩
 ·have e0:jR er r=⟨[],[],c0,0,0⟩:=if_neg h0
  rw [e0];exact⟨[],rfl,ZU _ _ _,cB.nil _ _ _ _⟩
 ·have e0:jR er rp=rp:=if_pos h0
  rw [e0];exact⟨ers,rfl,hrep,hsl⟩
end
end Go.Proofs.YtfkokppncipgnaaGreat
