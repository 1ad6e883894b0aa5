/- Worlds of which only some blocks have turned. -/
import Derived.Test.YtlanekkbciffcaaG01
import Derived.Test.YtlanekkbciffcaaG03
import Derived.Deep.RegionHeld3
import Derived.Deep.AppendLies
import Derived.StillTailTactics
set_option maxRecDepth 100000
set_option linter.unusedVariables false
set_option linter.unusedSimpArgs false
set_option linter.unnecessarySimpa false
namespace Go.Proofs.Ytlanekkbciffcaa
section
open Go.RowKit
structure Chg (S:Nat->Prop) (w w':World):Prop where
 os:w'.os=w.os
 tape:w'.tape=w.tape
 output:w'.output=w.output
 size:w.heap.size<=w'.heap.size
 block:∀ k,k<w.heap.size->¬ S k->w'.heap[k]?=w.heap[k]?
theorem Chg.refl (S:Nat->Prop) (w:World):Chg S w w:=⟨rfl,rfl,rfl,Nat.le_refl _,λ_ _ _=>rfl⟩
theorem Chg.trans {S:Nat->Prop} {a b c:World} (h:Chg S a b) (k:Chg S b c):Chg S a c:=
 ⟨k.os.trans h.os,k.tape.trans h.tape,k.output.trans h.output,Nat.le_trans h.size k.size,λi hi hs=>(k.block i (Nat.lt_of_lt_of_le hi h.size) hs).trans (h.block i hi hs)⟩
theorem Chg.mono {S S':Nat->Prop} {a b:World} (h:Chg S a b) (hs:∀ k,k<a.heap.size->S k->S' k):Chg S' a b:=
 ⟨h.os,h.tape,h.output,h.size,λi hi hn=>h.block i hi (λx=>hn (hs i hi x))⟩
theorem Chg.of_below {S:Nat->Prop} {a b:World} (h:Below a.heap.size a b):Chg S a b:=⟨h.os,h.tape,h.output,h.size,λi hi _=>h.block i hi⟩
theorem Chg.below {S:Nat->Prop} {B:Nat} {a b:World} (h:Chg S a b) (hS:∀ k,S k->B<=k) (hB:B<=a.heap.size):Below B a b:=
 ⟨h.os,h.tape,h.output,h.size,λi hi=>h.block i (by omega) (λx=>by have:=hS i x;omega)⟩
theorem Chg.cell {S:Nat->Prop} {a b:World} (h:Chg S a b) {p:Addr} (hp:p.block<a.heap.size) (hS:¬ S p.block):b.cell? p=a.cell? p:=World.cell?_of_block (w:=a) (h.block _ hp hS)
theorem Chg.setCell {S:Nat->Prop} {a b:World} (h:Chg S a b) {p:Addr} (hp:S p.block∨a.heap.size<=p.block) (u:Value):Chg S a (b.setCell p u):=
 ⟨h.os,h.tape,h.output,by simpa [World.setCell] using h.size,λk hk hs=>by
  rw [Below.heap_setCell _ _ _ _ (by rintro rfl;rcases hp with hp|hp;exact hs hp;omega)]
  exact h.block k hk hs⟩
theorem Chg.alloc {S:Nat->Prop} {a b:World} (h:Chg S a b) (o:Obj):Chg S a (b.alloc o):=
 ⟨h.os,h.tape,h.output,by have:=h.size;simp;omega,λk hk hs=>(Below.heap_alloc _ _ _ (by have:=h.size;omega)).trans (h.block k hk hs)⟩
theorem Chg.drew {S:Nat->Prop} {a b:World} (h:Chg S a b):Chg S a b.drew:=⟨h.os,h.tape,h.output,h.size,h.block⟩
theorem Chg.drewN {S:Nat->Prop} {a b:World} (h:Chg S a b) (n:Nat):Chg S a (b.drewN n):=⟨h.os,h.tape,h.output,h.size,h.block⟩
theorem Chg.grown {S:Nat->Prop} {a b c:World} {row:Option Nat} (h:Chg S a b) (hg:b.grownBy c row) (hr:∀ k,row=some k->S k∨a.heap.size<=k):Chg S a c:=
 ⟨hg.os.trans h.os,hg.tape.trans h.tape,hg.output.trans h.output,Nat.le_trans h.size hg.size,λk hk hs=>
  (hg.block k (by have:=h.size;omega) (λe=>by rcases hr k e.symm with h1|h1;exact hs h1;omega)).trans (h.block k hk hs)⟩
theorem SlAt.chg {S:Nat->Prop} {w w':World} {a:Option Addr} {n k:Nat} {g:Nat->Nat->Value} (h:SlAt w a n k g) (hc:Chg S w w') (ha:∀ b off,a=some ⟨b,off,none⟩->¬ S b):SlAt w' a n k g:=by
 refine⟨h.1,λj hj=>?_⟩
 obtain⟨b,off,hab,hs,hcell⟩:=h.2 j hj
 exact⟨b,off,hab,Nat.lt_of_lt_of_le hs hc.size,λf hf=>by rw [hc.cell hs (ha b off hab)];exact hcell f hf⟩
theorem cell_blk {w:World} {b:Nat} {c:Array Value} {e:TypeId} {fz:Nat×Nat} (h:w.heap[b]?=some (.cells c e fz)) (j:Nat):w.cell? ⟨b,j,none⟩=c[j]?:=by
 simp only [World.cell?,h]
 rfl
theorem frozen_blk {w:World} {b:Nat} {c:Array Value} {e:TypeId} (h:w.heap[b]?=some (.cells c e (0,0))) (j:Nat):w.frozen? ⟨b,j,none⟩=false:=by
 simp [World.frozen?,h]
theorem blk_lt {w:World} {b:Nat} {o:Obj} (h:w.heap[b]?=some o):b<w.heap.size:=by
 rcases Nat.lt_or_ge b w.heap.size with h'|h'
 ·exact h'
 ·rw [Array.getElem?_eq_none h'] at h;cases h
theorem blk_set {w:World} {b:Nat} {c:Array Value} {e:TypeId} (h:w.heap[b]?=some (.cells c e (0,0))) (j:Nat) (v:Value):(w.setCell ⟨b,j,none⟩ v).heap[b]?=some (.cells (c.setIfInBounds j v) e (0,0)):=by
 simp [World.setCell,Array.getElem?_modify,h]
theorem blk_set_other {w:World} {b b':Nat} (hne:b'≠b) (j:Nat) (v:Value):(w.setCell ⟨b,j,none⟩ v).heap[b']?=w.heap[b']?:=Below.heap_setCell _ _ _ _ hne
theorem row_form {w:World} {B:Nat} {v:Value} {e:TypeId} {k n:Nat} {xs:List Value} (h:w.ownsRow B e k v n xs):∃ a c,v=.slice a n c:=by
 rcases h.2 with⟨h1,h0⟩|⟨q,cap,cur,h1,_⟩
 ·exact⟨none,0,by rw [h1,h0]⟩
 ·exact⟨_,_,h1⟩
theorem row_sl {w:World} {B:Nat} {a:Option Addr} {c:Nat} {e:TypeId} {n:Nat} {xs:List Value} {g:Nat->Nat->Value} (h:w.ownsRow B e 1 (.slice a n c) n xs) (hm:n<=maxLen) (hg:∀ j,j<n->xs[j]?=some (g j 0)) :
  SlAt w a n 1 g/\(∀ b off,a=some ⟨b,off,none⟩->B<=b):=by
 obtain⟨a',c',h1,h2,h3⟩:=sl_of_row h hm hg
 cases h1
 exact⟨h2,h3⟩
theorem box_keep {S:Nat->Prop} {a b:World} {k j:Nat} {v:Value} (hc:Chg S a b) (hk:¬ S k) (h:a.cell? ⟨k,j,none⟩=some v):b.cell? ⟨k,j,none⟩=some v:=by
 refine(hc.cell ?_ hk).trans h
 exact World.block_lt_of_cell? _ _ h
end
section

/- Contracts of package desc, and of its reference. -/
open Go.RowKit
def bN (b:Bool):Nat:=if b then 1 else 0
end
section

/- Contracts of package desc: what a word tells. -/
open Go.RowKit
def dP (x:Nat):Bool:=x % 2 == 1
def dT (x:Nat):Bool:=x / 2 % 2 == 1
def dL (x:Nat):Nat:=x / 4 % 1073741824
def dPh (x:Nat):Nat:=x / 4294967296
theorem unpack19 {x:Nat} (hx:U64 x):unpackGo x [1,1,30,32] 0=some [x % 2,x / 2 % 2,dL x,dPh x]:=by
 have h:=hx.lt
 simp [unpackGo,isB,dL,dPh]
 omega
theorem descUnpack_any (x:Nat) (w:World) (hx:U64 x) :
  Calls Try.prog 160 #[.int .u64 (x:Int)] w λe w'=>e=.returned (.agg #[.bool (dP x),.bool (dT x),.int .u64 (dL x:Int),.int .u64 (dPh x:Int)])/\Below w.heap.size w w':=by
 have hu:=unpack19 hx
 obtain⟨P,hP⟩:∃ P,P=x % 2:=⟨_,rfl⟩
 obtain⟨T,hT⟩:∃ T,T=x / 2 % 2:=⟨_,rfl⟩
 obtain⟨l,hl⟩:∃ l,l=dL x:=⟨_,rfl⟩
 obtain⟨ph,hph⟩:∃ ph,ph=dPh x:=⟨_,rfl⟩
 obtain⟨pb,hpb⟩:∃ pb,pb=dP x:=⟨_,rfl⟩
 obtain⟨tb,htb⟩:∃ tb,tb=dT x:=⟨_,rfl⟩
 have q1:((P:Int) == 1)=pb:=by rw [hpb,hP];unfold dP;rw [Bool.eq_iff_iff];simp;omega
 have q2:((T:Int) == 1)=tb:=by rw [htb,hT];unfold dT;rw [Bool.eq_iff_iff];simp;omega
 rw [<-hP,<-hT,<-hl,<-hph] at hu
 rw [<-hl,<-hph,<-hpb,<-htb]
 have Hu:=Lib.hid hu
 clear hu hP hT hl hph hpb htb
 go_enter Try.func160,Try.ntmps160
 go_wp2_with fail
 have hs:SlAt ((w.alloc (.cells #[.bool false,.bool false,.int .u64 0,.int .u64 0] 256)).alloc (.cells #[.int .i64 1,.int .i64 1,.int .i64 30,.int .i64 32] 3)) (some ⟨w.heap.size+1,0,none⟩) ([1,1,30,32]:List Int).length 1 (intG [1,1,30,32]):=by
  have:=sl_alloc (w.alloc (.cells #[.bool false,.bool false,.int .u64 0,.int .u64 0] 256)) #[.int .i64 1,.int .i64 1,.int .i64 30,.int .i64 32] 3 (n:=4) (k:=1) (g:=intG [1,1,30,32]) (by unfold maxLen;simp) (λj hj f hf=>by
   obtain rfl:f=0:=by omega
   obtain rfl|rfl|rfl|rfl:j=0∨j=1∨j=2∨j=3:=by omega
   all_goals rfl)
  simpa using this
 refine(unpack_any x [1,1,30,32] _ _ _ hs hx (by simp)).mono ?_
 rintro e w2 ⟨hb2,⟨hn,_⟩|⟨r,a',c',hr,rfl,hsl,hfr⟩⟩
 ·have:=hn.out;rw [Hu.out] at this;cases this
 obtain rfl:r=[P,T,l,ph]:=by have:=hr.out;rw [Hu.out] at this;simpa using this.symm
 clear hr hs
 obtain⟨_,hc⟩:=hsl
 obtain⟨b,off,rfl,hbs,hc0⟩:=hc 0 (by simp)
 obtain⟨b1,off1,h1,_,hc1⟩:=hc 1 (by simp)
 obtain⟨b2,off2,h2,_,hc2⟩:=hc 2 (by simp)
 obtain⟨b3,off3,h3,_,hc3⟩:=hc 3 (by simp)
 cases h1;cases h2;cases h3
 have hfb:=hfr b off rfl
 have k0:w2.cell? ⟨b,off,none⟩=some (.int .u64 (P:Int)):=by simpa [u64Gw] using hc0 0 (by omega)
 have k1:w2.cell? ⟨b,off+1,none⟩=some (.int .u64 (T:Int)):=by simpa [u64Gw] using hc1 0 (by omega)
 have k2:w2.cell? ⟨b,off+2,none⟩=some (.int .u64 (l:Int)):=by simpa [u64Gw] using hc2 0 (by omega)
 have k3:w2.cell? ⟨b,off+3,none⟩=some (.int .u64 (ph:Int)):=by simpa [u64Gw] using hc3 0 (by omega)
 have hd:w2.heap[w.heap.size]?=some (.cells #[.bool false,.bool false,.int .u64 0,.int .u64 0] 256 (0,0)):=by
  rw [hb2.block _ (by simp;omega),Below.heap_alloc _ _ _ (by simp)]
  exact heap_alloc_new _ _
 have Hd:=Lib.hid hd;have Hb2:=Lib.hid hb2
 have m0:w2.cell? ⟨w.heap.size,0,none⟩=some (.bool false):=by rw [cell_blk hd];rfl
 have m1:w2.cell? ⟨w.heap.size,1,none⟩=some (.bool false):=by rw [cell_blk hd];rfl
 have m2:w2.cell? ⟨w.heap.size,2,none⟩=some (.int .u64 0):=by rw [cell_blk hd];rfl
 have m3:w2.cell? ⟨w.heap.size,3,none⟩=some (.int .u64 0):=by rw [cell_blk hd];rfl
 have f0:w2.frozen? ⟨w.heap.size,0,none⟩=false:=frozen_blk hd 0
 have f1:w2.frozen? ⟨w.heap.size,1,none⟩=false:=frozen_blk hd 1
 have f2:w2.frozen? ⟨w.heap.size,2,none⟩=false:=frozen_blk hd 2
 have f3:w2.frozen? ⟨w.heap.size,3,none⟩=false:=frozen_blk hd 3
 clear hc0 hc1 hc2 hc3 hc hfr hd hb2
 go_wp2
 go_still_tail 15,(by kernel_rfl)
 change wpList _ _ _ _ _ w2.drew
 go_wp2
 have hfin:Below w.heap.size w w2:=Gr.trans (Gr.alloc (Gr.new _ _) _) Hb2.out
 refine bodyPost_ret (v:=.agg #[.bool pb,.bool tb,.int .u64 (l:Int),.int .u64 (ph:Int)]) (by simp [results,Try.results160,go_sem,m0,m1,m2,m3]) rfl ⟨rfl,?_⟩
 exact(((((hfin.setCell (Nat.le_refl _) _).setCell (Nat.le_refl _) _).setCell (Nat.le_refl _) _).setCell (Nat.le_refl _) _).drew)
theorem load_yes (x l:Nat) (w:World) (hx:U64 x) (hl:l<1073741824) :
  Calls Try.prog 166 #[.int .u64 (x:Int),.int .u64 (l:Int)] w λe w'=>e=.returned (.tuple #[.int .u64 (putN x 2 30 l:Nat),.int .i64 0])/\w=w':=by
 have H:=Lib.hid (put_yes x 2 30 l w (by decide) hx (by unfold U64;omega) (by simpa using hl))
 generalize putN x 2 30 l=y at H
 clear hl
 go_enter Try.func166,Try.ntmps166
 go_wp2_with fail
 refine(H.out).mono ?_
 rintro e w' ⟨rfl,rfl⟩
 go_wp2
 go_ret2
 exact⟨rfl,rfl⟩
theorem clr_val {x:Nat} (hx:U64 x):bits BinOp.andNot IntKind.u64 (x:Int) 1=((x / 2*2:Nat):Int):=by
 have h:=hx.lt
 have:=u64_andNot_nat x 1 h (by omega)
 rw [show((1:Nat):Int)=1 from rfl] at this
 rw [this]
 congr 1
 apply Nat.eq_of_testBit_eq
 intro i
 rw [Nat.testBit_and,show 18446744073709551615 - 1=2^64 - (1+1) by decide,Nat.testBit_two_pow_sub_succ (by decide),Nat.mul_comm,show 2*(x / 2)=2^1*(x / 2) by simp,Nat.testBit_two_pow_mul]
 by_cases c:1<=i
 ·have e1:Nat.testBit 1 i=false:=Nat.testBit_lt_two_pow (Nat.lt_of_lt_of_le (show 1<2^1 by decide) (Nat.pow_le_pow_right (by decide) c))
  have e2:(x / 2).testBit (i - 1)=x.testBit i:=by
   have:=Nat.testBit_div_two_pow (n:=1) x (i:=i - 1)
   rw [show i - 1+1=i by omega] at this
   simpa using this
  by_cases c3:i<64
  ·simp [c,e1,e2,c3]
  ·have e3:x.testBit i=false:=Nat.testBit_lt_two_pow (Nat.lt_of_lt_of_le (show x<2^64 by omega) (Nat.pow_le_pow_right (by omega) (by omega)))
   simp [c,e1,e2,e3]
 ·obtain rfl:i=0:=by omega
  simp
theorem descFinish_yes (x l:Nat) (w:World) (hx:U64 x) (hl:l<1073741824) :
  Calls Try.prog 161 #[.int .u64 (x:Int),.int .u64 (l:Int)] w λe w'=>e=.returned (.tuple #[.int .u64 (putN (x / 2*2) 2 30 l:Nat),.int .i64 0])/\w=w':=by
 have H:=load_yes (x / 2*2) l w (by have:=hx.lt;unfold U64;omega) hl
 rw [<-clr_val hx] at H
 generalize putN (x / 2*2) 2 30 l=y at H
 have H:=Lib.hid H
 clear hl
 go_enter Try.func161,Try.ntmps161
 go_wp2_with fail
 refine(H.out).mono ?_
 rintro e w' ⟨rfl,rfl⟩
 go_wp2
 go_ret2
 exact⟨rfl,rfl⟩
end
section

/- A region that draws its order: what is held of the world is asked only till one operation, number L, that waits for all that is taken first. -/
open Go.RowKit
section
variable {P:Program} {md:Region.Mode} {ops:Array Oper} {Q:Exit->Act->World->Prop} {S:World->Prop} {L:Nat}
def ClosedR (md:Region.Mode) (ops:Array Oper) (listed:Array Bool):Prop:=
 ∀(j:Nat) (o:Oper),ops[j]?=some o->listed.getD j false=true->∀ e∈o.after,Region.binds md e=true->listed.getD e.on false=true
theorem ClosedR.set {listed:Array Bool} (hc:ClosedR md ops listed) {i:Nat} (hi:i∈Region.ready md ops listed):ClosedR md ops (listed.setIfInBounds i true):=by
 intro j o ho hj e he hb
 obtain⟨_,o',ho',hall⟩:=mem_ready.1 hi
 by_cases hji:i=j
 ·subst hji
  rw [ho] at ho'
  cases ho'
  exact getD_set_true (hall e he hb)
 ·rw [getD_set_ne false hji] at hj
  exact getD_set_true (hc j o ho hj e he hb)
end
end
end Go.Proofs.Ytlanekkbciffcaa
