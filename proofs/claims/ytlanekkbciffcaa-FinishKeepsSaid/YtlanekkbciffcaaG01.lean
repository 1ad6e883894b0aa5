/- Plain arithmetic of bit fields of words: no program in sight. -/
import Derived.WalkKit
import Derived.Test.YtlanekkbciffcaaRows
import Derived.Lib.Hide
import Derived.WalkSpells
import Derived.WalkLawsBesides
import Derived.Handy
import Derived.Deep.QuietTactic
import Derived.BigQuiet
set_option maxRecDepth 100000
set_option linter.unusedVariables false
set_option linter.unusedSimpArgs false
set_option linter.unnecessarySimpa false
namespace Go.Proofs.Ytlanekkbciffcaa
section
open Go.RowKit
def U64 (x:Nat):Prop:=x<18446744073709551616
theorem U64.lt {x:Nat} (h:U64 x):x<18446744073709551616:=h
theorem pow64 {s:Nat} (h2:s<=64):2^s<=18446744073709551616:=by
 have:2^s<=2^64:=Nat.pow_le_pow_right (by omega) h2
 omega
theorem pow63 {s:Nat} (h2:s<64):2^s<=9223372036854775808:=by
 have:2^s<=2^63:=Nat.pow_le_pow_right (by omega) (by omega)
 omega
theorem pow1 (s:Nat):1<=2^s:=Nat.one_le_two_pow
theorem mask_val {s:Nat} (h:s<64):IntKind.u64.wrap (IntKind.u64.wrap ((2:Int)^s) - 1)=((2^s - 1:Nat):Int):=by
 have h1:=pow63 h
 have h2:=pow1 s
 have e:((2:Int)^s)=((2^s:Nat):Int):=by simp
 rw [e,IntKind.wrap_u64,IntKind.wrap_u64]
 omega
theorem get_val {x a s:Nat} (hx:U64 x) (h2:s<=64):bits BinOp.and IntKind.u64 ((x:Int) / 2^a) ((2^s - 1:Nat):Int)=((x / 2^a % 2^s:Nat):Int):=by
 have e:((x:Int) / 2^a)=((x / 2^a:Nat):Int):=by simp
 have h1:=pow64 h2
 have h3:x / 2^a<=x:=Nat.div_le_self _ _
 unfold U64 at hx
 rw [e,u64_and_nat _ _ (by omega) (by omega),Nat.and_two_pow_sub_one_eq_mod]
def putN (x a s v:Nat):Nat:=2^(a+s)*(x / 2^(a+s))+(2^a*v+x % 2^a)
theorem putN_low {x a s v:Nat} (hv:v<2^s):2^a*v+x % 2^a<2^(a+s):=by
 have h1:x % 2^a<2^a:=Nat.mod_lt _ (pow1 a)
 have h2:2^a*(v+1)<=2^a*2^s:=Nat.mul_le_mul_left _ hv
 rw [Nat.pow_add]
 rw [Nat.mul_add,Nat.mul_one] at h2
 omega
theorem putN_bit {x a s v:Nat} (hv:v<2^s) (i:Nat):(putN x a s v).testBit i=if a<=i/\i<a+s then v.testBit (i - a) else x.testBit i:=by
 unfold putN
 rw [Nat.testBit_two_pow_mul_add _ (putN_low hv),Nat.testBit_two_pow_mul_add _ (Nat.mod_lt _ (pow1 a))]
 by_cases h1:i<a+s
 ·by_cases h2:i<a
  ·simp [h1,h2];try omega
  ·simp [h1,h2];try omega
 ·rw [if_neg h1,if_neg (by omega),Nat.testBit_div_two_pow];congr 1;omega
theorem put_val {x a s v:Nat} (hx:U64 x) (h1:1<=s) (h:a+s<=64) (hv:v<2^s) :
  bits BinOp.or IntKind.u64 (bits BinOp.andNot IntKind.u64 (x:Int) (IntKind.u64.wrap (((2^s - 1:Nat):Int)*2^a))) (IntKind.u64.wrap ((v:Int)*2^a))=((putN x a s v:Nat):Int):=by
 have hx':=hx
 unfold U64 at hx'
 have e1:(((2^s - 1:Nat):Int)*2^a)=(((2^s - 1)*2^a:Nat):Int):=by simp
 have e2:((v:Int)*2^a)=((v*2^a:Nat):Int):=by simp
 have p:2^a*2^s<=18446744073709551616:=by rw [<-Nat.pow_add];exact pow64 h
 have m1:(2^s - 1)*2^a<18446744073709551616:=by
  have:2^a*(2^s - 1+1)<=18446744073709551616:=by rw [Nat.sub_add_cancel (pow1 s)];exact p
  have q:=pow1 a
  rw [Nat.mul_add,Nat.mul_one] at this
  rw [Nat.mul_comm]
  omega
 have m2:v*2^a<18446744073709551616:=by
  have:2^a*(v+1)<=2^a*2^s:=Nat.mul_le_mul_left _ hv
  have q:=pow1 a
  rw [Nat.mul_add,Nat.mul_one] at this
  rw [Nat.mul_comm]
  omega
 have w1:(((2^s - 1)*2^a:Nat):Int) % 18446744073709551616=(((2^s - 1)*2^a:Nat):Int):=by omega
 have w2:((v*2^a:Nat):Int) % 18446744073709551616=((v*2^a:Nat):Int):=by omega
 rw [e1,e2,IntKind.wrap_u64,IntKind.wrap_u64,w1,w2,
  u64_andNot_nat _ _ hx' m1,u64_or_nat _ _ (Nat.lt_of_le_of_lt Nat.and_le_left hx') m2]
 congr 1
 apply Nat.eq_of_testBit_eq
 intro i
 rw [putN_bit hv,Nat.testBit_or,Nat.testBit_and]
 have e3:18446744073709551615 - (2^s - 1)*2^a=2^64 - ((2^s - 1)*2^a+1):=by omega
 rw [e3,Nat.testBit_two_pow_sub_succ (by omega)]
 rw [Nat.mul_comm (2^s - 1),Nat.mul_comm v,Nat.testBit_two_pow_mul,Nat.testBit_two_pow_mul,Nat.testBit_two_pow_sub_one]
 by_cases c1:a<=i
 ·by_cases c2:i<a+s
  ·have d1:i - a<s:=by omega
   simp [c1,c2,d1]
  ·have d1:¬ i - a<s:=by omega
   have d2:v.testBit (i - a)=false:=Nat.testBit_lt_two_pow (Nat.lt_of_lt_of_le hv (Nat.pow_le_pow_right (by omega) (by omega)))
   by_cases c3:i<64
   ·simp [c1,c2,d1,d2,c3]
   ·have d3:x.testBit i=false:=Nat.testBit_lt_two_pow (Nat.lt_of_lt_of_le (show x<2^64 by omega) (Nat.pow_le_pow_right (by omega) (by omega)))
    simp [c1,c2,d1,d2,c3,d3]
 ·by_cases c3:i<64
  ·simp [c1,c3]
  ·omega
theorem over_val {s v:Nat} (hv:U64 v) (h2:s<=64):(bits BinOp.andNot IntKind.u64 (v:Int) ((2^s - 1:Nat):Int) != 0)=decide (2^s<=v):=by
 have h1:=pow64 h2
 have h3:=pow1 s
 have hv':=hv
 unfold U64 at hv'
 rw [u64_andNot_nat _ _ hv' (by omega)]
 have e3:18446744073709551615 - (2^s - 1)=2^64 - (2^s - 1+1):=by omega
 rw [e3]
 have key:v &&& (2^64 - (2^s - 1+1))=2^s*(v / 2^s):=by
  apply Nat.eq_of_testBit_eq
  intro i
  rw [Nat.testBit_and,Nat.testBit_two_pow_sub_succ (by omega),Nat.testBit_two_pow_sub_one,Nat.testBit_two_pow_mul]
  by_cases c1:s<=i
  ·have d:¬ i<s:=by omega
   by_cases c3:i<64
   ·simp [c1,d,c3,Nat.testBit_div_two_pow]
   ·have d3:v.testBit i=false:=Nat.testBit_lt_two_pow (Nat.lt_of_lt_of_le (show v<2^64 by omega) (Nat.pow_le_pow_right (by omega) (by omega)))
    simp [c1,d,c3,d3,Nat.testBit_div_two_pow]
  ·have d:i<s:=by omega
   simp [c1,d]
 rw [key]
 by_cases c:2^s<=v
 ·have:1<=v / 2^s:=(Nat.one_le_div_iff h3).2 c
  have q:0<2^s*(v / 2^s):=Nat.mul_pos h3 this
  simp only [c,decide_true,bne_iff_ne]
  omega
 ·have:v / 2^s=0:=Nat.div_eq_of_lt (by omega)
  rw [this]
  simp [c]
end
section

/- Contracts of package word's small functions. -/
open Go.RowKit
def isB (a s:Int):Bool:=decide (0<=a/\a<64/\1<=s/\s<=64 - a)
theorem isB_pos {a s:Int} (h:isB a s=true):0<=a/\a<64/\1<=s/\s<=64 - a:=by simpa [isB] using h
theorem ret_bool {a b:Bool} (h:a=b):Ending.returned (.bool a)=.returned (.bool b):=by rw [h]
theorem is_any (a s:Int) (w:World) :
  Calls Try.prog 171 #[.int .i64 a,.int .i64 s] w λe w'=>e=.returned (.bool (isB a s))/\w=w':=by
 go_enter Try.func171,Try.ntmps171
 go_wp2
 all_goals go_ret
 all_goals exact⟨ret_bool (by unfold isB;rw [Bool.eq_iff_iff];simp;omega),rfl⟩
theorem ret_u64 {a b:Int} (h:a=b):Ending.returned (.int .u64 a)=.returned (.int .u64 b):=by rw [h]
theorem mask_any (s:Nat) (w:World) (h1:1<=s) (h2:s<=64) :
  Calls Try.prog 172 #[.int .i64 (s:Int)] w λe w'=>e=.returned (.int .u64 ((2^s - 1:Nat):Int))/\w=w':=by
 go_enter Try.func172,Try.ntmps172
 go_wp2
 ·go_ret
  have e:s=64:=by omega
  subst e
  exact⟨ret_u64 (by decide),rfl⟩
 ·go_ret
  exact⟨ret_u64 (mask_val (by omega)),rfl⟩
theorem ret_u64e {a b:Int} {e:Int} (h:a=b):Ending.returned (.tuple #[.int .u64 a,.int .i64 e])=.returned (.tuple #[.int .u64 b,.int .i64 e]):=by rw [h]
theorem get_no (x a s:Int) (w:World) (h:isB a s=false) :
  Calls Try.prog 169 #[.int .u64 x,.int .i64 a,.int .i64 s] w λe w'=>e=.returned (.tuple #[.int .u64 0,.int .i64 1])/\w=w':=by
 go_enter Try.func169,Try.ntmps169
 go_wp2_with (go_at_call 171;refine(is_any _ _ _).mono ?_;rintro e w' ⟨rfl,rfl⟩)
 go_ret2
 exact⟨rfl,rfl⟩
theorem get_yes (x a s:Nat) (w:World) (hx:U64 x) (h:isB a s=true) :
  Calls Try.prog 169 #[.int .u64 (x:Int),.int .i64 (a:Int),.int .i64 (s:Int)] w λe w'=>e=.returned (.tuple #[.int .u64 ((x / 2^a % 2^s:Nat):Int),.int .i64 0])/\w=w':=by
 have hb:=isB_pos h
 go_enter Try.func169,Try.ntmps169
 go_wp2_with (first|(go_at_call 171;refine(is_any _ _ _).mono ?_;rintro e w' ⟨rfl,rfl⟩)|(go_at_call 172;refine(mask_any _ _ (by omega) (by omega)).mono ?_;rintro e w' ⟨rfl,rfl⟩))
 go_ret2
 exact⟨ret_u64e (get_val hx (by omega)),rfl⟩
theorem put_yes (x a s v:Nat) (w:World) (h:isB a s=true) (hx:U64 x) (hv:U64 v) (ho:v<2^s) :
  Calls Try.prog 170 #[.int .u64 (x:Int),.int .i64 (a:Int),.int .i64 (s:Int),.int .u64 (v:Int)] w λe w'=>e=.returned (.tuple #[.int .u64 (putN x a s v:Nat),.int .i64 0])/\w=w':=by
 have hb:=isB_pos h
 have ht:(bits BinOp.andNot IntKind.u64 (v:Int) ((2^s - 1:Nat):Int) != 0)=false:=by rw [over_val hv (by omega)];simp;omega
 have H:=put_val hx (by omega) (by omega) ho (a:=a)
 have HH:=Lib.hid H
 clear H ho
 go_enter Try.func170,Try.ntmps170
 go_wp2_with (first|(go_at_call 171;refine(is_any _ _ _).mono ?_;rintro e w' ⟨rfl,rfl⟩)|(go_at_call 172;refine(mask_any _ _ (by omega) (by omega)).mono ?_;rintro e w' ⟨rfl,rfl⟩))
 go_ret2
 exact⟨ret_u64e HH.out,rfl⟩
end
section

/- Slices that are read, whatever memory they lie in. -/
open Go.RowKit
def SlAt (w:World) (a:Option Addr) (n k:Nat) (g:Nat->Nat->Value):Prop:=
 n<=maxLen/\∀ j,j<n->∃ b off,a=some ⟨b,off,none⟩/\b<w.heap.size/\∀ f,f<k->w.cell? ⟨b,off+(j*k+f),none⟩=some (g j f)
theorem SlAt.below {w w':World} {a:Option Addr} {n k:Nat} {g:Nat->Nat->Value} (h:SlAt w a n k g) {B:Nat} (hb:Below B w w') (hB:∀ b off,a=some ⟨b,off,none⟩->b<B):SlAt w' a n k g:=by
 refine⟨h.1,λj hj=>?_⟩
 obtain⟨b,off,ha,hs,hc⟩:=h.2 j hj
 exact⟨b,off,ha,Nat.lt_of_lt_of_le hs hb.size,λf hf=>by rw [hb.cell (hB b off ha)];exact hc f hf⟩
theorem SlAt.grown {w w':World} {a:Option Addr} {n k:Nat} {g:Nat->Nat->Value} (h:SlAt w a n k g) (hb:Below w.heap.size w w'):SlAt w' a n k g:=by
 refine⟨h.1,λj hj=>?_⟩
 obtain⟨b,off,ha,hs,hc⟩:=h.2 j hj
 exact⟨b,off,ha,Nat.lt_of_lt_of_le hs hb.size,λf hf=>by rw [hb.cell hs];exact hc f hf⟩
theorem SlAt.nil (w:World) (a:Option Addr) (k:Nat) (g:Nat->Nat->Value):SlAt w a 0 k g:=⟨Nat.zero_le _,λj hj=>absurd hj (Nat.not_lt_zero j)⟩
theorem cell_new (w:World) (c:Array Value) (e:TypeId) (fz:Nat×Nat) (j:Nat):(w.alloc (.cells c e fz)).cell? ⟨w.heap.size,j,none⟩=c[j]?:=by
 have e1:(w.alloc (.cells c e fz)).heap[w.heap.size]?=some (.cells c e fz):=by
  show(w.heap.push _)[w.heap.size]?=_
  rw [Array.getElem?_push_size]
 simp only [World.cell?,e1]
 rfl
theorem box_cell {w w1:World} {c:Array Value} {e:TypeId} (hb:Below (w.alloc (.cells c e)).heap.size (w.alloc (.cells c e)) w1) (j:Nat):w1.cell? ⟨w.heap.size,j,none⟩=c[j]?:=by
 rw [hb.cell (by simp),cell_new]
theorem Gr.trans {a b c:World} (h:Below a.heap.size a b) (k:Below b.heap.size b c):Below a.heap.size a c:=h.trans (k.mono h.size)
theorem Gr.refl (a:World):Below a.heap.size a a:=Below.refl _ _
theorem Gr.alloc {a b:World} (h:Below a.heap.size a b) (o:Obj):Below a.heap.size a (b.alloc o):=h.alloc h.size o
theorem Gr.new (a:World) (o:Obj):Below a.heap.size a (a.alloc o):=Gr.alloc (Gr.refl a) o
theorem addr_add0 (g j:Nat):(⟨g,0,none⟩:Addr).add j=⟨g,j,none⟩:=by
 unfold Addr.add
 split<;>simp_all
theorem sl_of_row {w:World} {B:Nat} {v:Value} {e:TypeId} {n:Nat} {xs:List Value} {g:Nat->Nat->Value} (h:w.ownsRow B e 1 v n xs) (hm:n<=maxLen) (hg:∀ j,j<n->xs[j]?=some (g j 0)) :
  ∃ a c,v=.slice a n c/\SlAt w a n 1 g/\(∀ b off,a=some ⟨b,off,none⟩->B<=b):=by
 have hl:=h.lt
 have hcs:=h
 obtain⟨_,h2⟩:=h
 rcases h2 with⟨rfl,h0⟩|⟨q,cap,cur,rfl,hq,hh,_,_,_,_⟩
 ·exact⟨none,0,by rw [h0],by rw [h0];exact SlAt.nil _ _ _ _,λb off h=>by cases h⟩
 ·refine⟨_,cap,rfl,⟨hm,λj hj=>⟨q,0,rfl,(hl q rfl).2,λf hf=>?_⟩⟩,λb off h=>by cases h;exact hq⟩
  obtain rfl:f=0:=by omega
  have:=hcs.cells (g:=q) rfl j _ (hg j hj)
  rw [addr_add0] at this
  simpa using this
theorem below_drewN {B:Nat} {a w:World} (h:Below B a w) (n:Nat):Below B a (w.drewN n):=⟨h.os,h.tape,h.output,h.size,h.block⟩
theorem quietS {P:Program} {f:FuncId} {args:Array Value} {w:World} {n:Nat} {v:Value}
  (h:Calls P f args (w.drewN n) λe w'=>e=.returned v/\w.drewN n=w'):Calls P f args (w.drewN n) λe w''=>e=.returned v/\∃ m,w''=w.drewN m:=
 h.mono λ_ _ ⟨he,hm⟩=>⟨he,n,hm.symm⟩
theorem quietA {P:Program} {f:FuncId} {args:Array Value} {w:World} {a n:Nat} {v:Value}
  (h:Calls P f args (w.drewN (a+n)) λe w'=>e=.returned v/\w.drewN (a+n)=w'):Calls P f args (w.drewN (a+n)) λe w''=>e=.returned v/\∃ m,w''=w.drewN (a+m):=
 h.mono λ_ _ ⟨he,hm⟩=>⟨he,n,hm.symm⟩
end
end Go.Proofs.Ytlanekkbciffcaa
