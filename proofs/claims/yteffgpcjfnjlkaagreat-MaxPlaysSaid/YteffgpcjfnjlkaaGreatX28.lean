/- What the checkers say of things that are alike. -/
import Derived.Test.YteffgpcjfnjlkaaGreatX19
import Derived.Test.YteffgpcjfnjlkaaGreatX02
import Derived.Test.YteffgpcjfnjlkaaGreatX14
import Derived.Deep.DeepCutAuto
import Derived.Test.YteffgpcjfnjlkaaGreatX04
import Derived.BigQuiet
import Derived.Deep.Cut
import Derived.Test.YteffgpcjfnjlkaaGreatX27
import Derived.Test.YteffgpcjfnjlkaaGreatX12
import Derived.Laws.CopyOwn
set_option maxRecDepth 100000
set_option linter.unusedVariables false
set_option linter.unusedSimpArgs false
set_option linter.unnecessarySimpa false
namespace Go.Proofs.YteffgpcjfnjlkaaGreat
section
open Go.RowKit
theorem same_eq (xs:List Nat) (a a2:Option Addr) (c c2:Nat) (w:World) (hs:SlAt w a xs.length 1 (u64G xs)) (hs2:SlAt w a2 xs.length 1 (u64G xs)) :
  Calls Tryz.prog 35 #[.slice a xs.length c,.slice a2 xs.length c2] w λe w'=>e=.returned (.bool true)/\Below w.heap.size w w':=by
 have hm:=hs.1
 unfold maxLen at hm
 have Hs:=Lib.hid hs;have Hs2:=Lib.hid hs2
 clear hs hs2
 go_enter Tryz.func35,Tryz.ntmps35
 go_wp2
 go_loopw [5,13] (λ_ i wr=>∃ k:Nat,k<=xs.length/\i=.int .i64 k/\Below w.heap.size w wr) (λ_ i _=>xs.length - (intOf i).toNat)
 case atStart=>exact⟨0,Nat.zero_le _,rfl,Gr.refl _⟩
 case round=>
  obtain⟨k,hk,rfl,hb⟩:=hrel
  by_cases hlt:k<xs.length
  ·obtain⟨b,o,rfl,h4⟩:=Hs.out.elem hb hlt
   obtain⟨b2,o2,rfl,h5⟩:=Hs2.out.elem hb hlt
   obtain⟨x,hx⟩:∃ x,x=xs.getD k 0:=⟨_,rfl⟩
   have e4:wr.cell? ⟨b,o+k,none⟩=some (.int .u64 (x:Int)):=by have h0:=h4 0 (by omega);rw [Nat.mul_one,Nat.add_zero] at h0;rw [h0,hx];rfl
   have e5:wr.cell? ⟨b2,o2+k,none⟩=some (.int .u64 (x:Int)):=by have h0:=h5 0 (by omega);rw [Nat.mul_one,Nat.add_zero] at h0;rw [h0,hx];rfl
   have l1:(k:Int)<xs.length:=by omega
   have Hb:=Lib.hid hb
   clear h4 h5 hb hx
   go_wp2_with fail
   go_quiet (fail)
   go_wp2
   go_roundw
   case rel=>exact⟨k+1,by omega,by go_num,below_drewN Hb.out _⟩
   case measure=>simp [intOf]<;>omega
  ·have l1:¬ (k:Int)<xs.length:=by omega
   have Hb:=Lib.hid hb
   clear hb
   go_wp2
   go_ret
   exact⟨rfl,Hb.out⟩
theorem ints_eq (xs:List Int) (a a2:Option Addr) (c c2:Nat) (w:World) (hs:SlAt w a xs.length 1 (intG xs)) (hs2:SlAt w a2 xs.length 1 (intG xs)) :
  Calls Tryz.prog 60 #[.slice a xs.length c,.slice a2 xs.length c2] w λe w'=>e=.returned (.bool true)/\Below w.heap.size w w':=by
 have hm:=hs.1
 unfold maxLen at hm
 have Hs:=Lib.hid hs;have Hs2:=Lib.hid hs2
 clear hs hs2
 go_enter Tryz.func60,Tryz.ntmps60
 go_wp2
 go_loopw [5,13] (λ_ i wr=>∃ k:Nat,k<=xs.length/\i=.int .i64 k/\Below w.heap.size w wr) (λ_ i _=>xs.length - (intOf i).toNat)
 case atStart=>exact⟨0,Nat.zero_le _,rfl,Gr.refl _⟩
 case round=>
  obtain⟨k,hk,rfl,hb⟩:=hrel
  by_cases hlt:k<xs.length
  ·obtain⟨b,o,rfl,h4⟩:=Hs.out.elem hb hlt
   obtain⟨b2,o2,rfl,h5⟩:=Hs2.out.elem hb hlt
   obtain⟨x,hx⟩:∃ x,x=xs.getD k 0:=⟨_,rfl⟩
   have e4:wr.cell? ⟨b,o+k,none⟩=some (.int .i64 x):=by have h0:=h4 0 (by omega);rw [Nat.mul_one,Nat.add_zero] at h0;rw [h0,hx];rfl
   have e5:wr.cell? ⟨b2,o2+k,none⟩=some (.int .i64 x):=by have h0:=h5 0 (by omega);rw [Nat.mul_one,Nat.add_zero] at h0;rw [h0,hx];rfl
   have l1:(k:Int)<xs.length:=by omega
   have Hb:=Lib.hid hb
   clear h4 h5 hb hx
   go_wp2_with fail
   go_quiet (fail)
   go_wp2
   go_roundw
   case rel=>exact⟨k+1,by omega,by go_num,below_drewN Hb.out _⟩
   case measure=>simp [intOf]<;>omega
  ·have l1:¬ (k:Int)<xs.length:=by omega
   have Hb:=Lib.hid hb
   clear hb
   go_wp2
   go_ret
   exact⟨rfl,Hb.out⟩
theorem answer_eq (er:Int) (vl:Nat) (xs:List Nat) (a a2:Option Addr) (c c2:Nat) (w:World) (hs:SlAt w a xs.length 1 (u64G xs)) (hs2:SlAt w a2 xs.length 1 (u64G xs)) :
  Calls Tryz.prog 59 #[.agg #[.int .i64 er,.int .u64 (vl:Int),.slice a xs.length c],.agg #[.int .i64 er,.int .u64 (vl:Int),.slice a2 xs.length c2]] w λe w'=>e=.returned (.bool true)/\Below w.heap.size w w':=by
 have S:=Lib.hid (λ(u:World) (h:Below w.heap.size w u)=>same_eq xs a a2 c c2 u (hs.grown h) (hs2.grown h))
 obtain⟨n,hn⟩:∃ n,n=xs.length:=⟨_,rfl⟩
 rw [<-hn] at S ⊢
 clear hs hs2 hn
 go_enter Tryz.func59,Tryz.ntmps59
 go_wp2_with (go_at_call 35;refine(S.out _ (Gr.alloc (Gr.new _ _) _)).mono ?_;rintro e w' ⟨rfl,hb⟩)
 go_ret
 exact⟨rfl,Gr.trans (Gr.alloc (Gr.new _ _) _) hb⟩
def evV (e:EvD) (la:Option Addr) (lc:Nat) (ka:Option Addr) (kc:Nat):Value:=.agg #[.int .i64 (e.call:Int),.int .i64 (e.inv:Int),.int .i64 (e.resp:Int),.int .i64 (e.steps:Int),.int .i64 e.ans.err,.int .u64 (e.ans.val:Int),.slice la e.ans.list.length lc,.slice ka e.key.length kc]
theorem event_eq (e:EvD) (la la2 ka ka2:Option Addr) (lc lc2 kc kc2:Nat) (w:World) (hl:SlAt w la e.ans.list.length 1 (u64G e.ans.list)) (hl2:SlAt w la2 e.ans.list.length 1 (u64G e.ans.list)) (hk:SlAt w ka e.key.length 1 (intG e.key)) (hk2:SlAt w ka2 e.key.length 1 (intG e.key)) :
  Calls Tryz.prog 36 #[evV e la lc ka kc,evV e la2 lc2 ka2 kc2] w λr w'=>r=.returned (.bool true)/\Below w.heap.size w w':=by
 obtain⟨cl,iv,rs,st,⟨er,vl,li⟩,ky⟩:=e
 unfold evV
 simp only at hl hl2 hk hk2 ⊢
 have A:=Lib.hid (λ(u:World) (h:Below w.heap.size w u)=>answer_eq er vl li la la2 lc lc2 u (hl.grown h) (hl2.grown h))
 have K:=Lib.hid (λ(u:World) (h:Below w.heap.size w u)=>ints_eq ky ka ka2 kc kc2 u (hk.grown h) (hk2.grown h))
 obtain⟨n,hn⟩:∃ n,n=li.length:=⟨_,rfl⟩
 obtain⟨m,hm⟩:∃ m,m=ky.length:=⟨_,rfl⟩
 rw [<-hn] at A ⊢
 rw [<-hm] at K ⊢
 clear hl hl2 hk hk2 hn hm
 obtain⟨wa,hwa⟩:∃ wa,wa=(w.alloc (.cells #[.int .i64 (cl:Int),.int .i64 (iv:Int),.int .i64 (rs:Int),.int .i64 (st:Int),.int .i64 er,.int .u64 (vl:Int),.slice la n lc,.slice ka m kc] 52)).alloc (.cells #[.int .i64 (cl:Int),.int .i64 (iv:Int),.int .i64 (rs:Int),.int .i64 (st:Int),.int .i64 er,.int .u64 (vl:Int),.slice la2 n lc2,.slice ka2 m kc2] 52):=⟨_,rfl⟩
 have hga:Below w.heap.size w wa:=by rw [hwa];exact Gr.alloc (Gr.new _ _) _
 have hr1:wa.heap[w.heap.size]?=some (.cells #[.int .i64 (cl:Int),.int .i64 (iv:Int),.int .i64 (rs:Int),.int .i64 (st:Int),.int .i64 er,.int .u64 (vl:Int),.slice la n lc,.slice ka m kc] 52 (0,0)):=by rw [hwa,Below.heap_alloc _ _ _ (by simp)];exact heap_alloc_new _ _
 have hr2:wa.heap[w.heap.size+1]?=some (.cells #[.int .i64 (cl:Int),.int .i64 (iv:Int),.int .i64 (rs:Int),.int .i64 (st:Int),.int .i64 er,.int .u64 (vl:Int),.slice la2 n lc2,.slice ka2 m kc2] 52 (0,0)):=by
  rw [hwa]
  have:=heap_alloc_new (w.alloc (.cells #[.int .i64 (cl:Int),.int .i64 (iv:Int),.int .i64 (rs:Int),.int .i64 (st:Int),.int .i64 er,.int .u64 (vl:Int),.slice la n lc,.slice ka m kc] 52)) (.cells #[.int .i64 (cl:Int),.int .i64 (iv:Int),.int .i64 (rs:Int),.int .i64 (st:Int),.int .i64 er,.int .u64 (vl:Int),.slice la2 n lc2,.slice ka2 m kc2] 52 (0,0))
  simp only [World.size_alloc] at this
  exact this
 have Hwa:=Lib.hid hwa;have Hga:=Lib.hid hga;have Hr1:=Lib.hid hr1;have Hr2:=Lib.hid hr2
 clear hwa hga hr1 hr2
 go_enter Tryz.func36,Tryz.ntmps36
 go_wp2_with fail
 rw [<-Hwa.out]
 refine(A.out _ Hga.out).mono ?_
 rintro r w1 ⟨rfl,hb1⟩
 have s1:=(hb1.block _ (blk_lt Hr1.out)).trans Hr1.out
 have s2:=(hb1.block _ (blk_lt Hr2.out)).trans Hr2.out
 have k7:w1.cell? ⟨w.heap.size,7,none⟩=some (.slice ka m kc):=by rw [cell_blk s1];rfl
 have k7':w1.cell? ⟨w.heap.size+1,7,none⟩=some (.slice ka2 m kc2):=by rw [cell_blk s2];rfl
 have Hb1:=Lib.hid hb1
 clear s1 s2 hb1
 go_wp2_with fail
 refine(K.out _ (Gr.trans Hga.out Hb1.out)).mono ?_
 rintro r w2 ⟨rfl,hb2⟩
 have Hb2:=Lib.hid hb2
 clear hb2
 go_wp2
 go_ret
 exact⟨rfl,Gr.trans Hga.out (Gr.trans Hb1.out Hb2.out)⟩
end
section

/- Layer 6: two threads that add to a cell. -/
open Go.RowKit
end
section

/- Layer 6: what has responded stays, in plain numbers. -/
open Go.RowKit
variable {S:Sys}
structure Stay (st st':PlayD S):Prop where
 len:st.evs.length<=st'.evs.length
 now:st.wd.now<=st'.wd.now
 idle:st.idle<=st'.idle
 inv:∀ i,i<st.evs.length->(evAt st'.evs i).inv=(evAt st.evs i).inv
 ev:∀ i,i<st.evs.length->(evAt st.evs i).resp≠0->evAt st'.evs i=evAt st.evs i
theorem Stay.refl (st:PlayD S):Stay st st:=⟨Nat.le_refl _,Nat.le_refl _,Nat.le_refl _,λ_ _=>rfl,λ_ _ _=>rfl⟩
theorem Stay.trans {a b c:PlayD S} (h:Stay a b) (k:Stay b c):Stay a c:=
 ⟨Nat.le_trans h.len k.len,Nat.le_trans h.now k.now,Nat.le_trans h.idle k.idle,λi hi=>(k.inv i (Nat.lt_of_lt_of_le hi h.len)).trans (h.inv i hi),λi hi hr=>(k.ev i (Nat.lt_of_lt_of_le hi h.len) (by rw [h.ev i hi hr];exact hr)).trans (h.ev i hi hr)⟩
end
section

/- Layer 6: the walk of LoomStays. -/
open Go.RowKit
theorem thr_ok {n:Int} {calls:List CallD} {np:Nat} (hck:checkN n calls np=0):∀ c,c<calls.length->0<=(calls.getD c d0).thread/\(calls.getD c d0).thread<n:=by
 obtain⟨hw0,_⟩:=checkN_zero hck
 obtain⟨z1,z2,z3,z4⟩:=wrongN_zero hw0
 intro c hcl
 unfold anyBad at z4
 rw [List.any_eq_false] at z4
 have e:calls.getD c d0=calls[c]:=by simp [List.getD_eq_getElem?_getD,hcl]
 have h9:badT n calls[c]=false:=by simpa using z4 calls[c] (List.getElem_mem hcl)
 rw [e]
 obtain⟨y,hy⟩:∃ y,y=calls[c]:=⟨_,rfl⟩
 rw [<-hy] at h9 ⊢
 unfold badT at h9
 simp at h9
 omega
theorem thr_16 {n:Int} {calls:List CallD} {np:Nat} (hck:checkN n calls np=0):∀ c,c<calls.length->0<=(calls.getD c d0).thread/\(calls.getD c d0).thread<16:=by
 obtain⟨hw0,_⟩:=checkN_zero hck
 obtain⟨z1,z2,z3,z4⟩:=wrongN_zero hw0
 intro c hc
 have:=thr_ok hck c hc
 omega
theorem SlAt.take {w:World} {a:Option Addr} {l:List Int} (h:SlAt w a l.length 1 (intG l)) (k:Nat) (hk:k<=l.length):SlAt w a (l.take k).length 1 (intG (l.take k)):=by
 have e:(l.take k).length=k:=by simp;omega
 rw [e]
 refine⟨Nat.le_trans hk h.1,λj hj=>?_⟩
 obtain⟨b,off,h1,h2,h3⟩:=h.2 j (by omega)
 refine⟨b,off,h1,h2,λf hf=>?_⟩
 rw [h3 f hf]
 unfold intG
 congr 2
 simp [List.getD_eq_getElem?_getD,List.getElem?_take,hj]
structure RepIn (w u:World) (b:Nat) (ea:Option Addr) (en ec:Nat) (va:Option Addr) (vn vc:Nat) (rp:RepD):Prop where
 ge:w.heap.size<=b
 blk:u.heap[b]?=some (.cells #[.slice ea en ec,.slice va vn vc,.int .i64 (rp.c.read:Int),.int .i64 (rp.c.write:Int),.int .i64 (rp.c.swap:Int),.int .i64 (rp.c.add:Int),.int .i64 (rp.c.fault:Int),.int .i64 (rp.ticks:Int),.int .i64 (rp.idle:Int)] 32 (0,0))
theorem RepIn.grown {w u u':World} {b:Nat} {ea:Option Addr} {en ec:Nat} {va:Option Addr} {vn vc:Nat} {rp:RepD} (h:RepIn w u b ea en ec va vn vc rp) (hb:Below u.heap.size u u'):RepIn w u' b ea en ec va vn vc rp:=⟨h.ge,(hb.block b (blk_lt h.blk)).trans h.blk⟩
theorem RepIn.cell {w u:World} {b:Nat} {ea:Option Addr} {en ec:Nat} {va:Option Addr} {vn vc:Nat} {rp:RepD} (h:RepIn w u b ea en ec va vn vc rp) (j:Nat):u.cell? ⟨b,j,none⟩=(#[.slice ea en ec,.slice va vn vc,.int .i64 (rp.c.read:Int),.int .i64 (rp.c.write:Int),.int .i64 (rp.c.swap:Int),.int .i64 (rp.c.add:Int),.int .i64 (rp.c.fault:Int),.int .i64 (rp.ticks:Int),.int .i64 (rp.idle:Int)]:Array Value)[j]?:=cell_blk h.blk j
end
section

/- Two reports that say the same are alike: roundelayplain.Same. -/
open Go.RowKit
set_option maxHeartbeats 8000000 in
theorem rsame_any {X Y:Nat->Prop} {B B':Nat} (w:World) (ea ea2 va va2:Option Addr) (en ec ec2 vn vc vc2:Nat) (ers ers2:List (Value×Value)) (rp:RepD) (hrep:RepAt X B w (.slice ea en ec) (.slice va vn vc) ers rp) (hrep2:RepAt Y B' w (.slice ea2 en ec2) (.slice none 0 0) ers2 { rp with words:=[] }) (hsw2:SlAt w va2 vn 1 (u64G rp.words))
  (hen:en=rp.evs.length) (hvn:vn=rp.words.length) (hlen:rp.evs.length<1000000) (hwl:rp.words.length<1000000) :
  Calls Tryz.prog 15 #[repV (.slice ea en ec) (.slice va vn vc) rp,repV (.slice ea2 en ec2) (.slice va2 vn vc2) rp] w λe w'=>e=.returned (.bool true)/\Below w.heap.size w w':=by
 obtain⟨wa,hwa⟩:∃ wa,wa=(w.alloc (.cells #[.slice ea en ec,.slice va vn vc,.int .i64 (rp.c.read:Int),.int .i64 (rp.c.write:Int),.int .i64 (rp.c.swap:Int),.int .i64 (rp.c.add:Int),.int .i64 (rp.c.fault:Int),.int .i64 (rp.ticks:Int),.int .i64 (rp.idle:Int)] 32)).alloc (.cells #[.slice ea2 en ec2,.slice va2 vn vc2,.int .i64 (rp.c.read:Int),.int .i64 (rp.c.write:Int),.int .i64 (rp.c.swap:Int),.int .i64 (rp.c.add:Int),.int .i64 (rp.c.fault:Int),.int .i64 (rp.ticks:Int),.int .i64 (rp.idle:Int)] 32):=⟨_,rfl⟩
 have hga:Below w.heap.size w wa:=by rw [hwa];exact Gr.alloc (Gr.new _ _) _
 have hr1:wa.heap[w.heap.size]?=some (.cells #[.slice ea en ec,.slice va vn vc,.int .i64 (rp.c.read:Int),.int .i64 (rp.c.write:Int),.int .i64 (rp.c.swap:Int),.int .i64 (rp.c.add:Int),.int .i64 (rp.c.fault:Int),.int .i64 (rp.ticks:Int),.int .i64 (rp.idle:Int)] 32 (0,0)):=by rw [hwa,Below.heap_alloc _ _ _ (by simp)];exact heap_alloc_new _ _
 have hr2:wa.heap[w.heap.size+1]?=some (.cells #[.slice ea2 en ec2,.slice va2 vn vc2,.int .i64 (rp.c.read:Int),.int .i64 (rp.c.write:Int),.int .i64 (rp.c.swap:Int),.int .i64 (rp.c.add:Int),.int .i64 (rp.c.fault:Int),.int .i64 (rp.ticks:Int),.int .i64 (rp.idle:Int)] 32 (0,0)):=by
  rw [hwa]
  have:=heap_alloc_new (w.alloc (.cells #[.slice ea en ec,.slice va vn vc,.int .i64 (rp.c.read:Int),.int .i64 (rp.c.write:Int),.int .i64 (rp.c.swap:Int),.int .i64 (rp.c.add:Int),.int .i64 (rp.c.fault:Int),.int .i64 (rp.ticks:Int),.int .i64 (rp.idle:Int)] 32)) (.cells #[.slice ea2 en ec2,.slice va2 vn vc2,.int .i64 (rp.c.read:Int),.int .i64 (rp.c.write:Int),.int .i64 (rp.c.swap:Int),.int .i64 (rp.c.add:Int),.int .i64 (rp.c.fault:Int),.int .i64 (rp.ticks:Int),.int .i64 (rp.idle:Int)] 32 (0,0))
  simp only [World.size_alloc] at this
  exact this
 have hs1:w.heap.size<wa.heap.size:=blk_lt hr1
 have hs2:w.heap.size+1<wa.heap.size:=blk_lt hr2
 have r0:wa.cell? ⟨w.heap.size,0,none⟩=some (.slice ea en ec):=by rw [cell_blk hr1];rfl
 have r1:wa.cell? ⟨w.heap.size,1,none⟩=some (.slice va vn vc):=by rw [cell_blk hr1];rfl
 have r2:wa.cell? ⟨w.heap.size,2,none⟩=some (.int .i64 (rp.c.read:Int)):=by rw [cell_blk hr1];rfl
 have r3:wa.cell? ⟨w.heap.size,3,none⟩=some (.int .i64 (rp.c.write:Int)):=by rw [cell_blk hr1];rfl
 have r4:wa.cell? ⟨w.heap.size,4,none⟩=some (.int .i64 (rp.c.swap:Int)):=by rw [cell_blk hr1];rfl
 have r5:wa.cell? ⟨w.heap.size,5,none⟩=some (.int .i64 (rp.c.add:Int)):=by rw [cell_blk hr1];rfl
 have r6:wa.cell? ⟨w.heap.size,6,none⟩=some (.int .i64 (rp.c.fault:Int)):=by rw [cell_blk hr1];rfl
 have r7:wa.cell? ⟨w.heap.size,7,none⟩=some (.int .i64 (rp.ticks:Int)):=by rw [cell_blk hr1];rfl
 have r8:wa.cell? ⟨w.heap.size,8,none⟩=some (.int .i64 (rp.idle:Int)):=by rw [cell_blk hr1];rfl
 have s0:wa.cell? ⟨w.heap.size+1,0,none⟩=some (.slice ea2 en ec2):=by rw [cell_blk hr2];rfl
 have s1:wa.cell? ⟨w.heap.size+1,1,none⟩=some (.slice va2 vn vc2):=by rw [cell_blk hr2];rfl
 have s2:wa.cell? ⟨w.heap.size+1,2,none⟩=some (.int .i64 (rp.c.read:Int)):=by rw [cell_blk hr2];rfl
 have s3:wa.cell? ⟨w.heap.size+1,3,none⟩=some (.int .i64 (rp.c.write:Int)):=by rw [cell_blk hr2];rfl
 have s4:wa.cell? ⟨w.heap.size+1,4,none⟩=some (.int .i64 (rp.c.swap:Int)):=by rw [cell_blk hr2];rfl
 have s5:wa.cell? ⟨w.heap.size+1,5,none⟩=some (.int .i64 (rp.c.add:Int)):=by rw [cell_blk hr2];rfl
 have s6:wa.cell? ⟨w.heap.size+1,6,none⟩=some (.int .i64 (rp.c.fault:Int)):=by rw [cell_blk hr2];rfl
 have s7:wa.cell? ⟨w.heap.size+1,7,none⟩=some (.int .i64 (rp.ticks:Int)):=by rw [cell_blk hr2];rfl
 have s8:wa.cell? ⟨w.heap.size+1,8,none⟩=some (.int .i64 (rp.idle:Int)):=by rw [cell_blk hr2];rfl
 obtain⟨a9,c9,e9,hsw,_⟩:=sl_of_row (g:=u64G rp.words) hrep.words (by unfold maxLen;omega) (λj hj=>by simp [u64G,u64V,List.getD_eq_getElem?_getD,hj])
 simp only [Value.slice.injEq] at e9
 obtain⟨rfl,rfl,rfl⟩:=e9
 have SE:=Lib.hid (λ(u:World) (hu:Below wa.heap.size wa u)=>same_eq rp.words va va2 vc vc2 u ((hsw.grown hga).grown hu) ((hsw2.grown hga).grown hu))
 have Hrep:=Lib.hid (hrep.grown hga);have Hrep2:=Lib.hid (hrep2.grown hga);have Hga:=Lib.hid hga;have Hwa:=Lib.hid hwa;have Hen:=Lib.hid hen
 have R0:=Lib.hid r0;have S0:=Lib.hid s0
 have henl:en<=9223372036854775807:=by omega
 clear hrep hrep2 hga hwa hen hvn hr1 hr2 hsw hsw2
 unfold repV
 go_enter Tryz.func15,Tryz.ntmps15
 go_upto_region 1 with fail
 rw [<-Hwa.out]
 go_wp2_with fail
 refine(SE.out _ (Gr.refl _)).mono ?_
 rintro e w2 ⟨rfl,hb2⟩
 have q0:=(hb2.cell hs1).trans r0
 have Hb2:=Lib.hid hb2
 have S0:=Lib.hid s0;have Q0:=Lib.hid r0
 clear r0 s0 r1 s1 r2 s2 r3 s3 r4 s4 r5 s5 r6 s6 r7 s7 r8 s8 hb2
 go_wp2
 go_loopw [45] (λi wr=>∃ j:Nat,j<=en/\i=.int .i64 j/\Below wa.heap.size wa wr) (λi _=>en - (intOf i).toNat)
 case atStart=>exact⟨0,Nat.zero_le _,rfl,Hb2.out⟩
 case round=>
  clear q0
  obtain⟨j,hj,rfl,hb⟩:=hrel
  by_cases hlt:j<en
  ·obtain⟨g,la,lc,ka,kc,rfl,hgl,e0,e1,e2,e3,e4,e5,e6,e7,hls,hks,_⟩:=Hrep.out.ev8 Hen.out hlt hb
   obtain⟨g2,la2,lc2,ka2,kc2,rfl,hgl2,f0,f1,f2,f3,f4,f5,f6,f7,hls2,hks2,_⟩:=Hrep2.out.ev8 Hen.out hlt hb
   simp only at f0 f1 f2 f3 f4 f5 f6 f7 hls2 hks2
   obtain⟨E,hE⟩:∃ E,E=evAt rp.evs j:=⟨_,rfl⟩
   rw [<-hE] at e0 e1 e2 e3 e4 e5 e6 e7 f0 f1 f2 f3 f4 f5 f6 f7 hls hks hls2 hks2
   have EQ:=(λ(u:World) (h:Below wr.heap.size wr u)=>event_eq E la la2 ka ka2 lc lc2 kc kc2 u (hls.grown h) (hls2.grown h) (hks.grown h) (hks2.grown h))
   obtain⟨c,iv,rs,st,⟨er,vl,li⟩,ky⟩:=E
   unfold evV at EQ
   simp only at e0 e1 e2 e3 e4 e5 e6 e7 f0 f1 f2 f3 f4 f5 f6 f7 EQ
   obtain⟨ln,hln⟩:∃ ln,ln=li.length:=⟨_,rfl⟩
   obtain⟨kn,hkn⟩:∃ kn,kn=ky.length:=⟨_,rfl⟩
   rw [<-hln] at e6 f6 EQ
   rw [<-hkn] at e7 f7 EQ
   have q0:=(hb.cell hs1).trans Q0.out
   have s0:=(hb.cell hs2).trans S0.out
   have A0:=grown_cell q0;have B0:=grown_cell s0
   have E0:=grown_cell e0;have F0:=grown_cell f0
   have E1:=grown_cell e1;have F1:=grown_cell f1
   have E2:=grown_cell e2;have F2:=grown_cell f2
   have E3:=grown_cell e3;have F3:=grown_cell f3
   have E4:=grown_cell e4;have F4:=grown_cell f4
   have E5:=grown_cell e5;have F5:=grown_cell f5
   have E6:=grown_cell e6;have F6:=grown_cell f6
   have E7:=grown_cell e7;have F7:=grown_cell f7
   have HEQ:=Lib.hid EQ;have Hb:=Lib.hid hb
   have l1:(j:Int)<(en:Int):=by omega
   clear EQ hls hks hls2 hks2 hE hln hkn hb q0 s0 e0 f0 e1 f1 e2 f2 e3 f3 e4 f4 e5 f5 e6 f6 e7 f7
   go_wp2_with fail
   ((with_reducible refine wp_region_grown_lit (by kernel_rfl) (by kernel_rfl) ?_);(repeat ((go_big_quiet_want;go_big_quiet_op;first|go_big_quiet_on|((with_reducible apply Exists.intro);(with_reducible refine⟨λ_=>?_,?_⟩);((go_at_call 36;exact quietG (HEQ.out _ (GrownOf.below _))));go_big_quiet_on))));(with_reducible refine wpQuiet_nil ?_);intro _ hw';obtain⟨nq,hw''⟩:=hw';subst hw'')
   obtain⟨w3,hw3⟩:∃ w3,w3=nq.u:=⟨_,rfl⟩
   have hb3:=nq.below
   rw [<-hw3] at hb3 ⊢
   have Hb3:=Lib.hid hb3
   clear A0 B0 E0 F0 E1 F1 E2 F2 E3 F3 E4 F4 E5 F5 E6 F6 E7 F7 hw3 nq hb3
   go_wp2
   go_roundw
   case rel=>exact⟨j+1,by omega,by go_num,Gr.trans Hb.out Hb3.out⟩
   case measure=>simp [intOf]<;>omega
  ·have l1:¬ (j:Int)<(en:Int):=by omega
   have Hb:=Lib.hid hb
   clear hb
   go_wp2
   go_ret
   exact⟨rfl,Gr.trans Hga.out Hb.out⟩
end
section

/- What a law on plays has in hand: the loom's report, the reference's, and that they are one. -/
open Go.RowKit
def repOf (er:Int) (r:RepD):RepD:=if er=0 then r else ⟨[],[],c0,0,0⟩
theorem nil_rep (X:Nat->Prop) (B:Nat) (w:World):RepAt X B w (.slice none 0 0) (.slice none 0 0) [] ⟨[],[],c0,0,0⟩:=⟨⟨rfl,.inl ⟨rfl,rfl⟩⟩,rfl,λi hi=>absurd hi (Nat.not_lt_zero i),⟨rfl,.inl ⟨rfl,rfl⟩⟩⟩
theorem PlayRet.one {X:Nat->Prop} {w w':World} {er:Int} {r:RepD} {e:Ending} (h:PlayRet X w w' er r e):Below w.heap.size w w'/\∃ ea ec va vc ers,e=.returned (.tuple #[repV (.slice ea (repOf er r).evs.length ec) (.slice va (repOf er r).words.length vc) (repOf er r),.int .i64 er])/\RepAt X w.heap.size w' (.slice ea (repOf er r).evs.length ec) (.slice va (repOf er r).words.length vc) ers (repOf er r):=by
 obtain⟨ea,en,ec,va,vn,vc,rp,rfl,hb,hr⟩:=h
 refine⟨hb,ea,ec,va,vc,?_⟩
 rcases hr with⟨h0,rfl,rfl,rfl,rfl,rfl,rfl,rfl⟩|⟨h0,rfl,rfl,rfl,ers,hrep⟩
 ·have e0:repOf er r=⟨[],[],c0,0,0⟩:=if_neg h0
  rw [e0];exact⟨[],rfl,nil_rep _ _ _⟩
 ·have e0:repOf er rp=rp:=if_pos h0
  rw [e0];exact⟨ers,rfl,hrep⟩
theorem RefAny.one {X:Nat->Prop} {w w':World} {er:Int} {r:RepD} {e:Ending} (h:RefAny X w w' er r true e):Below w.heap.size w w'/\∃ ea ec va vc ers,e=.returned (.tuple #[repV (.slice ea (repOf er r).evs.length ec) (.slice va (repOf er r).words.length vc) (repOf er r),.int .i64 er])/\RepAt X w.heap.size w' (.slice ea (repOf er r).evs.length ec) (.slice none 0 0) ers { repOf er r with words:=[] }/\SlAt w' va (repOf er r).words.length 1 (u64G (repOf er r).words):=by
 obtain⟨hb,ea,en,ec,va,vn,vc,rp,lv,rfl,hr⟩:=h
 refine⟨hb,ea,ec,va,vc,?_⟩
 rcases hr with⟨h0,rfl,rfl,rfl,rfl,rfl,rfl,rfl⟩|⟨h0,rfl,rfl,rfl,ers,hrep,hsl,_⟩
 ·have e0:repOf er r=⟨[],[],c0,0,0⟩:=if_neg h0
  rw [e0];exact⟨[],rfl,nil_rep _ _ _,SlAt.nil _ _ _ _⟩
 ·have e0:repOf er rp=rp:=if_pos h0
  rw [e0];exact⟨ers,rfl,hrep,hsl⟩
end
section

/- Layer 8: the tally as the loom's object: the walks of its machines. -/
open Go.RowKit
inductive TaS where
 | count (seen:Bool) (v:Nat)
 | read (at_ sum:Nat) (key:List Int)
def taWhen (ticks:List Int) (inv s:Nat):Int:=if 0<s/\s<=ticks.length then max (inv:Int) (ticks.getD (s - 1) 0) else (inv:Int)
def taRead (wd:WD) (a:Nat):WD:={ wd with mem:=(memRead wd.mem (a:Int)).1 }
def taWrite (wd:WD) (p v:Nat):WD:={ wd with mem:=memWrite wd.mem (p:Int) (v+1),traces:=updT wd.traces 0 (wd.traces 0++[(wd.now:Int)]) }
def taGot (wd:WD) (a:Nat):Nat:=(memRead wd.mem (a:Int)).2
def taKey (wd:WD) (p s:Nat):List Int:=[2*taWhen (wd.traces 0) (wd.inv.getD p 0) s,2*(wd.now:Int)]
def tallyS (n:Nat):Sys where
 σ:=TaS
 ω:=Unit
 start:=λ_ _ _ c=>if c.kind=0 then .run (.count false 0) else if c.kind=1 then .run (.read 0 0 []) else .refuse 9
 step:=λ_ wd p s=>match s with
  | .count false _=>((),taRead wd p,.count true (taGot wd p),false)
  | .count true v=>((),taWrite wd p v,.count true v,true)
  | .read a s k=>if a+1<n then ((),taRead wd a,.read (a+1) (s+taGot wd a) k,false) else ((),taRead wd a,.read (a+1) (s+taGot wd a) (taKey wd p (s+taGot wd a)),true)
 answer:=λs=>match s with
  | .count _ _=>(⟨0,0,[]⟩,[])
  | .read _ s k=>(⟨0,s,[]⟩,k)
 late:=λ_ _ _ _=>none
def OwnTo (w w':World) (Mut B:Nat->Prop) (I:WIds) (N:Nat) (wd:WD) (b:Nat) (cells:Array Value) (T:TypeId) (done:Bool) (e:Ending):Prop:=
 e=.returned (.bool done)/\Chg (λk=>WSet I k∨B k) w w'/\WorldAt w' (mutTo Mut B (λk=>k=b)) I N wd/\w'.heap[b]?=some (.cells cells T (0,0))
theorem OwnTo.drewN {w w':World} {Mut B:Nat->Prop} {I:WIds} {N:Nat} {wd:WD} {b:Nat} {cells:Array Value} {T:TypeId} {done:Bool} {e:Ending} (h:OwnTo w w' Mut B I N wd b cells T done e) (n:Nat):OwnTo w (w'.drewN n) Mut B I N wd b cells T done e:=
 ⟨h.1,h.2.1.drewN n,h.2.2.1.keep (S:=noB) ((Chg.refl _ _).drewN n) (λ_ h=>h.elim) (λ_ h=>h.elim) (MutUp.refl _ _) (λk hk=>h.2.2.1.low k hk) h.2.2.1.muts,h.2.2.2⟩
end
section

/- Layer 10: a max register's machines, in plain numbers. -/
open Go.RowKit
structure WayD where
 k:Nat
 left:Nat
 turns:List (Nat×Bool)
 last:Nat
def way0 (m:Nat):WayD:=⟨1,m,[],0⟩
def WayD.turn (y:WayD) (r:Bool):WayD:=⟨2*y.k+r.toNat,y.left - 1,y.turns++[(y.k,r)],y.last⟩
def mxSet (tr:Int->List Int) (b k:Nat):Int:=(tr ((b+k - 1:Nat):Int)).headD 0
def mxKeyStep (S:Nat->Int) (t:Nat×Bool) (key:List Int):List Int:=
 if S t.1=0 then key
 else if t.2=false/\2*S t.1<key.headD 0 then (2*S t.1 - 1)::key
 else if t.2=true/\key.headD 0<=2*S t.1 then (2*S t.1)::key
 else key
def mxKey (S:Nat->Int) (turns:List (Nat×Bool)) (last:Int):List Int:=turns.foldr (mxKeyStep S) [2*last]
def wayLast (wd:WD) (p:Nat) (y:WayD):Int:=if y.last=0 then ((wd.inv.getD p 0:Nat):Int) else (y.last:Int)
def wayKey (b p:Nat) (wd:WD) (y:WayD):List Int:=mxKey (mxSet wd.traces b) y.turns (wayLast wd p y)
structure RdD where
 y:WayD
 val:Nat
 ky:List Int
structure WrD where
 y:WayD
 v:Nat
 up:Bool
 nx:Nat
 ky:List Int
def mxSkip (ts:List (Nat×Bool)):Nat->Nat
 | 0=>0
 | n+1=>if (ts.getD n (0,false)).2=true then n+1 else mxSkip ts n
def WrD.fin (x:WrD):WrD:={ x with up:=true,nx:=mxSkip x.y.turns x.y.turns.length }
def downN (v:Nat):Nat->WayD->WayD
 | 0,y=>y
 | n+1,y=>if v / 2^n % 2=1 then downN v n (y.turn true) else y
def WrD.down (x:WrD):WrD:=if (downN x.v x.y.left x.y).left=0 then ({ x with y:=downN x.v x.y.left x.y }:WrD).fin else { x with y:=downN x.v x.y.left x.y }
def newWr (m v:Nat):WrD:=(⟨way0 m,v,false,1,[]⟩:WrD).down
def rdTurn (wd:WD) (b:Nat) (y:WayD):Bool:=decide (taGot wd (b+y.k - 1)=1)
def WayD.look (y:WayD) (wd:WD):WayD:={ y with last:=wd.now }
def rdStep (b p:Nat) (wd:WD) (x:RdD):WD×RdD×Bool:=
 if 0<((x.y.look wd).turn (rdTurn wd b x.y)).left then (taRead wd (b+x.y.k - 1),⟨(x.y.look wd).turn (rdTurn wd b x.y),2*x.val+(rdTurn wd b x.y).toNat,x.ky⟩,false)
 else (taRead wd (b+x.y.k - 1),⟨(x.y.look wd).turn (rdTurn wd b x.y),2*x.val+(rdTurn wd b x.y).toNat,wayKey b p (taRead wd (b+x.y.k - 1)) ((x.y.look wd).turn (rdTurn wd b x.y))⟩,true)
def mxPut (b k:Nat) (wd:WD):WD:={ wd with mem:=memWrite wd.mem ((b+k - 1:Nat):Int) 1,traces:=if mxSet wd.traces b k=0 then updT wd.traces ((b+k - 1:Nat):Int) [(wd.now:Int)] else wd.traces }
def wrK (x:WrD):Nat:=(x.y.turns.getD (x.nx - 1) (0,false)).1
def wrGo (b:Nat) (wd:WD) (x:WrD):WD×WrD:=
 if x.up=true then (mxPut b (wrK x) wd,{ x with nx:=mxSkip x.y.turns (x.nx - 1) })
 else if taGot wd (b+x.y.k - 1)=1 then (taRead wd (b+x.y.k - 1),({ x with y:=x.y.look wd }:WrD).fin)
 else (taRead wd (b+x.y.k - 1),({ x with y:=(x.y.look wd).turn false }:WrD).down)
def WrD.done (x:WrD):Bool:=x.up && decide (x.nx=0)
def wrStep (b p:Nat) (wd:WD) (x:WrD):WD×WrD×Bool:=
 if (wrGo b wd x).2.done=true then ((wrGo b wd x).1,{ (wrGo b wd x).2 with ky:=wayKey b p (wrGo b wd x).1 (wrGo b wd x).2.y },true) else ((wrGo b wd x).1,(wrGo b wd x).2,false)
def wrLate (b p:Nat) (wd:WD) (x:WrD):List Int:=if x.up=false then [] else if (x.y.turns.any λt=>t.2 && decide (mxSet wd.traces b t.1=0))=true then [] else wayKey b p wd x.y
inductive MxS where
 | rd (x:RdD)
 | wr (x:WrD)
def maxS (m:Nat):Sys where
 σ:=MxS
 ω:=Unit
 start:=λ_ _ _ c=>if c.kind=1 then .run (.rd ⟨way0 m,0,[]⟩) else if c.kind≠0 then .refuse 9 else if c.a / 2^m≠0 then .refuse 10 else .run (.wr (newWr m c.a))
 step:=λ_ wd p s=>match s with
  | .rd x=>((),(rdStep 0 p wd x).1,.rd (rdStep 0 p wd x).2.1,(rdStep 0 p wd x).2.2)
  | .wr x=>((),(wrStep 0 p wd x).1,.wr (wrStep 0 p wd x).2.1,(wrStep 0 p wd x).2.2)
 answer:=λs=>match s with
  | .rd x=>(⟨0,x.val,[]⟩,x.ky)
  | .wr x=>(⟨0,0,[]⟩,x.ky)
 late:=λ_ wd p s=>match s with
  | .rd _=>none
  | .wr x=>some (wrLate 0 p wd x)
structure WayOk (m:Nat) (y:WayD):Prop where
 len:y.turns.length+y.left=m
 k1:1<=y.k
 k2:y.k<2^(y.turns.length+1)
 tk:∀ t,t∈y.turns->1<=t.1/\t.1<2^m
theorem WayOk.init (m:Nat):WayOk m (way0 m):=⟨by simp [way0],Nat.le_refl _,by simp [way0],λt h=>by cases h⟩
theorem WayOk.turn {m:Nat} {y:WayD} (h:WayOk m y) (hl:0<y.left) (r:Bool):WayOk m (y.turn r):=by
 have h1:=h.len;have h2:=h.k1;have h3:=h.k2
 refine⟨by simp [WayD.turn];omega,by show 1<=2*y.k+r.toNat;omega,?_,λt ht=>?_⟩
 ·show 2*y.k+r.toNat<2^((y.turns++[(y.k,r)]).length+1)
  rw [List.length_append,List.length_singleton,Nat.pow_succ]
  have:r.toNat<=1:=by cases r<;>decide
  omega
 ·have ht':t∈y.turns++[(y.k,r)]:=ht
  rcases List.mem_append.1 ht' with h9|h9
  ·exact h.tk t h9
  ·rw [List.mem_singleton.1 h9]
   refine⟨h2,Nat.lt_of_lt_of_le h3 (Nat.pow_le_pow_right (by decide) (by omega))⟩
theorem WayOk.look {m:Nat} {y:WayD} (h:WayOk m y) (wd:WD):WayOk m (y.look wd):=⟨h.len,h.k1,h.k2,h.tk⟩
theorem WayOk.klt {m:Nat} {y:WayD} (h:WayOk m y) (hl:0<y.left):y.k<2^m:=Nat.lt_of_lt_of_le h.k2 (Nat.pow_le_pow_right (by decide) (by have:=h.len;omega))
theorem WayOk.downN {m:Nat} (v:Nat):∀(n:Nat) {y:WayD},WayOk m y->y.left=n->WayOk m (downN v n y)
 | 0,y,h,_=>h
 | n+1,y,h,hl=>by
  unfold Go.Proofs.YteffgpcjfnjlkaaGreat.downN
  split
  ·exact WayOk.downN v n (h.turn (by omega) true) (by show y.left - 1=n;omega)
  ·exact h
theorem mxSkip_le (ts:List (Nat×Bool)):∀ n,mxSkip ts n<=n
 | 0=>Nat.le_refl _
 | n+1=>by
  unfold mxSkip
  split
  ·exact Nat.le_refl _
  ·exact Nat.le_succ_of_le (mxSkip_le ts n)
theorem mxSkip_right (ts:List (Nat×Bool)):∀ n,0<mxSkip ts n->(ts.getD (mxSkip ts n - 1) (0,false)).2=true
 | 0,h=>absurd h (Nat.lt_irrefl 0)
 | n+1,h=>by
  unfold mxSkip at h ⊢
  split
  ·rename_i h1;rw [Nat.add_sub_cancel];exact h1
  ·rename_i h1;rw [if_neg h1] at h;exact mxSkip_right ts n h
structure WrOk (m:Nat) (x:WrD):Prop where
 way:WayOk m x.y
 nx:x.nx<=x.y.turns.length+1
 up:x.up=true->x.nx<=x.y.turns.length
 v:x.v<2^m
theorem WrOk.fin {m:Nat} {x:WrD} (h:WrOk m x):WrOk m x.fin:=⟨h.way,Nat.le_succ_of_le (mxSkip_le _ _),λ_=>mxSkip_le _ _,h.v⟩
theorem WrOk.way' {m:Nat} {x:WrD} (h:WrOk m x) (hu:x.up=false) {y:WayD} (hy:WayOk m y) (hl:x.y.turns.length<=y.turns.length):WrOk m { x with y:=y }:=⟨hy,by have:=h.nx;show x.nx<=y.turns.length+1;omega,(λe=>by have e':x.up=true:=e;rw [hu] at e';cases e'),h.v⟩
theorem downN_len (v:Nat):∀(n:Nat) (y:WayD),y.turns.length<=(downN v n y).turns.length
 | 0,y=>Nat.le_refl _
 | n+1,y=>by
  unfold downN
  split
  ·exact Nat.le_trans (by simp [WayD.turn]) (downN_len v n (y.turn true))
  ·exact Nat.le_refl _
theorem WrOk.down {m:Nat} {x:WrD} (h:WrOk m x) (hu:x.up=false):WrOk m x.down:=by
 have h1:=h.way' hu (WayOk.downN x.v _ h.way rfl) (downN_len _ _ _)
 unfold WrD.down
 split
 ·exact h1.fin
 ·exact h1
theorem WrOk.init {m v:Nat} (hv:v<2^m):WrOk m (newWr m v):=WrOk.down (x:=⟨way0 m,v,false,1,[]⟩) ⟨WayOk.init m,by simp [way0],(λe=>by cases e),hv⟩ rfl
theorem WrOk.go {m:Nat} {x:WrD} (h:WrOk m x) (b:Nat) (wd:WD) (hl:x.up=false->0<x.y.left):WrOk m (wrGo b wd x).2:=by
 unfold wrGo
 split
 ·rename_i hu
  have h1:=h.up hu
  have h2:=mxSkip_le x.y.turns (x.nx - 1)
  exact⟨h.way,by show mxSkip x.y.turns (x.nx - 1)<=x.y.turns.length+1;omega,λ_=>by show mxSkip x.y.turns (x.nx - 1)<=x.y.turns.length;omega,h.v⟩
 ·rename_i hu
  have hu':x.up=false:=by simpa using hu
  split
  ·exact(h.way' hu' (h.way.look wd) (Nat.le_refl _)).fin
  ·exact(h.way' hu' ((h.way.look wd).turn (hl hu') false) (by simp [WayD.turn,WayD.look])).down hu'
theorem WrOk.step {m:Nat} {x:WrD} (h:WrOk m x) (b p:Nat) (wd:WD) (hl:x.up=false->0<x.y.left):WrOk m (wrStep b p wd x).2.1:=by
 have h1:=h.go b wd hl
 unfold wrStep
 split
 ·exact⟨h1.way,h1.nx,h1.up,h1.v⟩
 ·exact h1
def TrOk (wd:WD):Prop:=(∀ a x,x∈wd.traces a->0<=x/\x<=1000000)/\∀ p,wd.inv.getD p 0<=1000000
theorem TrOk.set {wd:WD} (h:TrOk wd) (b k:Nat):0<=mxSet wd.traces b k/\mxSet wd.traces b k<=1000000:=by
 unfold mxSet
 cases hx:wd.traces ((b+k - 1:Nat):Int) with
 | nil=>exact⟨Int.le_refl _,by decide⟩
 | cons a l=>exact h.1 _ a (by rw [hx];exact List.mem_cons_self ..)
theorem TrOk.read {wd:WD} (h:TrOk wd) (a:Nat):TrOk (taRead wd a):=h
theorem TrOk.put {wd:WD} (h:TrOk wd) (hn:wd.now<=1000000) (b k:Nat):TrOk (mxPut b k wd):=by
 refine⟨λa x hx=>?_,h.2⟩
 have hx':x∈(if mxSet wd.traces b k=0 then updT wd.traces ((b+k - 1:Nat):Int) [(wd.now:Int)] else wd.traces) a:=hx
 split at hx'
 ·unfold updT at hx'
  split at hx'
  ·rw [List.mem_singleton.1 hx'];omega
  ·exact h.1 a x hx'
 ·exact h.1 a x hx'
theorem mxKeyStep_small {S:Nat->Int} (hS:∀ k,0<=S k/\S k<=1000000) (t:Nat×Bool) {key:List Int} (hk:∀ x,x∈key->-1<=x/\x<=2000000):∀ x,x∈mxKeyStep S t key->-1<=x/\x<=2000000:=by
 have h1:=hS t.1
 intro x hx
 unfold mxKeyStep at hx
 split at hx
 ·exact hk x hx
 ·split at hx
  ·rcases List.mem_cons.1 hx with rfl|hx
   ·omega
   ·exact hk x hx
  ·split at hx
   ·rcases List.mem_cons.1 hx with rfl|hx
    ·omega
    ·exact hk x hx
   ·exact hk x hx
theorem mxKey_small {S:Nat->Int} (hS:∀ k,0<=S k/\S k<=1000000) {last:Int} (hl:0<=last/\last<=1000000):∀(ts:List (Nat×Bool)) (x:Int),x∈mxKey S ts last->-1<=x/\x<=2000000
 | [],x,hx=>by rw [List.mem_singleton.1 hx];omega
 | t::ts,x,hx=>mxKeyStep_small hS t (mxKey_small hS hl ts) x hx
theorem mxKeyStep_len (S:Nat->Int) (t:Nat×Bool) (key:List Int):key.length<=(mxKeyStep S t key).length/\(mxKeyStep S t key).length<=key.length+1:=by
 unfold mxKeyStep
 split
 ·exact⟨Nat.le_refl _,Nat.le_succ _⟩
 ·split
  ·exact⟨Nat.le_succ _,Nat.le_refl _⟩
  ·split
   ·exact⟨Nat.le_succ _,Nat.le_refl _⟩
   ·exact⟨Nat.le_refl _,Nat.le_succ _⟩
theorem mxKey_len (S:Nat->Int) (last:Int):∀ ts:List (Nat×Bool),1<=(mxKey S ts last).length/\(mxKey S ts last).length<=ts.length+1
 | []=>⟨Nat.le_refl _,Nat.le_refl _⟩
 | t::ts=>by
  have h1:=mxKeyStep_len S t (mxKey S ts last)
  have h2:=mxKey_len S last ts
  have e:mxKey S (t::ts) last=mxKeyStep S t (mxKey S ts last):=rfl
  rw [e,List.length_cons]
  omega
end
end Go.Proofs.YteffgpcjfnjlkaaGreat
