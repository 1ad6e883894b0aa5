/- Contracts of word.Pack, word.Unpack. -/
import Derived.Test.YtlanekkbciffcaaG01
import Derived.Test.YtlanekkbciffcaaG02
import Derived.Deep.QuietTactic
import Derived.BigQuiet
set_option maxRecDepth 100000
set_option linter.unusedVariables false
set_option linter.unusedSimpArgs false
set_option linter.unnecessarySimpa false
namespace Go.Proofs.Ytlanekkbciffcaa
section
open Go.RowKit
theorem u64_info:(Try.prog.info? 37).map (λi=>(i.zero,i.size,i.bytes))=some (some (.int .u64 0),1,8):=by kernel_rfl
def unpackGo (x:Nat):List Int->Nat->Option (List Nat)
  | [],_=>some []
  | s::l,a=>if isB a s=false then none else (unpackGo x l (a+s.toNat)).map (λr=>x / 2^a % 2^s.toNat::r)
def u64Gw (l:List Nat) (j _f:Nat):Value:=.int .u64 ((l.getD j 0:Nat):Int)
theorem sl_of_owns {w:World} {B:Nat} {v:Value} {r:List Nat} (h:w.ownsRow B 37 1 v r.length (r.map λ(y:Nat)=>Value.int .u64 (y:Int))) (hm:r.length<=maxLen) :
    ∃ a c,v=.slice a r.length c/\SlAt w a r.length 1 (u64Gw r)/\(∀ b off,a=some ⟨b,off,none⟩->B<=b):=by
  have hl:=h.lt
  have hcs:=h
  obtain⟨_,h2⟩:=h
  rcases h2 with⟨rfl,h0⟩|⟨g,cap,cur,rfl,hg,hh,_,_,_,_⟩
  · exact⟨none,0,by rw [h0],by rw [h0];exact SlAt.nil _ _ _ _,λb off h=>by cases h⟩
  · refine⟨_,cap,rfl,⟨hm,λj hj=>⟨g,0,rfl,(hl g rfl).2,λf hf=>?_⟩⟩,λb off h=>by cases h;exact hg⟩
    obtain rfl:f=0:=by omega
    have:=hcs.cells (g:=g) rfl j (.int .u64 ((r.getD j 0:Nat):Int)) (by simp [List.getD_eq_getElem?_getD,hj])
    rw [addr_add0] at this
    simpa [u64Gw] using this
theorem unpack_any (x:Nat) (l:List Int) (a:Option Addr) (c:Nat) (w:World) (hs:SlAt w a l.length 1 (intG l)) (hx:U64 x) (hbig:l.length<=100000) :
    Calls Try.prog 165 #[.int .u64 (x:Int),.slice a l.length c] w λe w'=>Below w.heap.size w w'/\
      ((Hid (unpackGo x l 0=none)/\e=.returned (.tuple #[.slice none 0 0,.int .i64 1]))∨
       ∃(r:List Nat) (a':Option Addr) (c':Nat),Hid (unpackGo x l 0=some r)/\e=.returned (.tuple #[.slice a' r.length c',.int .i64 0])/\SlAt w' a' r.length 1 (u64Gw r)/\(∀ b off,a'=some ⟨b,off,none⟩->w.heap.size<=b)):=by
  obtain⟨hm,hc⟩:=hs
  unfold maxLen at hm
  obtain⟨i0,hi,hz0,hz1,hz2⟩:=info_parts u64_info
  go_enter Try.func165,Try.ntmps165
  go_wp2
  go_loopw [6,7,14] (λo p i wr=>∃(k pn:Nat) (r:List Nat),k<=l.length/\i=.int .i64 k/\p=.int .i64 pn/\pn<=64/\wr.ownsRow w.heap.size 37 1 o r.length (r.map λ(y:Nat)=>Value.int .u64 (y:Int))/\r.length=k/\Hid ((unpackGo x (l.drop k) pn).map (λq=>r++q)=unpackGo x l 0)/\Below w.heap.size w wr) (λ_ _ i _=>l.length - (intOf i).toNat)
  case atStart=>exact⟨0,0,[],Nat.zero_le _,rfl,rfl,by omega,World.ownsRow_nil _ _ _ _,rfl,by unfold Hid;rw [List.drop_zero];cases unpackGo x l 0<;>simp,Below.refl _ _⟩
  case round=>
    obtain⟨k,pn,r,hk,rfl,rfl,hp,hown,hr,hg,hb⟩:=hrel
    by_cases hlt:k<l.length
    · obtain⟨b,off,rfl,hbs,hcell⟩:=hc k hlt
      have h0:=(hb.cell (p:=⟨b,off+(k*1+0),none⟩) hbs).trans (hcell 0 (by omega))
      obtain⟨s,hsv⟩:∃ s,l[k]=s:=⟨_,rfl⟩
      have hd:List.drop k l=s::List.drop (k+1) l:=by rw [List.drop_eq_getElem_cons hlt,hsv]
      have h0':wr.cell? ⟨b,off+k,none⟩=some (.int .i64 s):=by rw [Nat.mul_one,Nat.add_zero] at h0;rw [h0];simp [intG,List.getD_eq_getElem?_getD,hlt,hsv]
      have hg2:=hg.out
      rw [hd] at hg2
      clear h0 hd hg hcell hc
      have Hr:=Lib.hid hr;clear hr
      by_cases hB:isB pn s=true
      · have hb3:=isB_pos hB
        obtain⟨sn,rfl⟩:=Int.eq_ofNat_of_zero_le (show 0<=s by omega)
        have hg3:(unpackGo x (List.drop (k+1) l) (pn+sn)).map (λq=>(r++[x / 2^pn % 2^sn])++q)=unpackGo x l 0:=by
          rw [<-hg2];simp [unpackGo,hB,Function.comp_def]
        have Hg:=Lib.hid hg3;clear hg3 hg2
        obtain⟨y,hy⟩:∃ y:Nat,y=x / 2^pn % 2^sn:=⟨_,rfl⟩
        rw [<-hy] at Hg
        have hget:=get_yes x pn sn wr hx hB
        rw [<-hy] at hget
        have Hget:=Lib.hid hget;have Hy:=Lib.hid hy;clear hget hy
        have Hown:=Lib.hid hown;clear hown
        go_wp2_with (first|(go_at_call 169;refine(Hget.out).mono ?_;rintro e w' ⟨rfl,rfl⟩)|(at_builtin;refine wpList_append_own _ rfl _ _ 28 rfl w.heap.size 37 i0 (.int .u64 0) 1 8 Try.underlying28 hi hz0 hz1 hz2 rfl (by decide) _ _ _ rfl (Hown.out.alloc _) ⟨wr.heap.size,0,none⟩ 1 1 [.int .u64 (y:Int)] rfl rfl ?c1 ?c2 ?c3 ?c4 ?c5 ?_))
        case c1=>exact cell_one_new _ _ _
        case c2=>simp [Value.oneCell']
        case c3=>have:=Hr.out;unfold maxLen;omega
        case c4=>have:=Hr.out;omega
        case c5=>have:=hb.size;simp;omega
        intro v' w1 hown' hgrow _
        have Hown':=Hown;clear Hown
        go_wp2
        go_roundw
        case rel=>
          have hr:=Hr.out
          refine⟨k+1,pn+sn,r++[y],by omega,by go_num,by go_num,by omega,?_,by simp [hr],Hg,?_⟩
          · simpa using hown'
          · exact(hb.alloc hb.size _).grown hgrow (by have:=hb.size;simp;omega) (λq hq=>(Hown'.out.lt q hq).1)
        case measure=>simp [intOf]<;>omega
      · have hB':isB pn s=false:=by simpa using hB
        have hg3:none=unpackGo x l 0:=by rw [<-hg2];simp [unpackGo,hB']
        have Hg:=Lib.hid hg3;clear hg3 hg2
        go_wp2_with (go_at_call 169;refine(get_no _ _ _ _ hB').mono ?_;rintro e w' ⟨rfl,rfl⟩)
        go_ret2
        exact⟨hb,.inl ⟨Hg.out.symm,rfl⟩⟩
    · go_wp2
      go_ret2
      obtain rfl:k=l.length:=by omega
      refine⟨hb,.inr ?_⟩
      have hfin:some r=unpackGo x l 0:=by have h:=hg.out;rw [List.drop_length] at h;simpa [unpackGo] using h
      obtain⟨a',c',rfl,h1,h2⟩:=sl_of_owns hown (by rw [hr];exact hm)
      exact⟨r,a',c',hfin.symm,rfl,h1,h2⟩
end
section

/- The laws of layer 1: the walks. -/
open Go.RowKit
end
section

/- Layer 1: the reference's Pack and Sizes; the laws WordPacks, WordBack: the walks. -/
open Go.RowKit
end
section

/- Contracts of package node, and of its reference: where fields of nodes stand. -/
open Go.RowKit
def rightB (n k:Int):Bool:=decide (1<=n/\n<=16/\1<=k/\k<=32)
theorem rightB_pos {n k:Int} (h:rightB n k=true):1<=n/\n<=16/\1<=k/\k<=32:=by simpa [rightB] using h
theorem nk_bound {n k:Int} (h:rightB n k=true):1<=n*k/\n*k<=512:=by
 obtain⟨h1,h2,h3,h4⟩:=rightB_pos h
 constructor
 ·calc (1:Int)=1*1:=rfl
   _<=n*k:=Int.mul_le_mul h1 h3 (by omega) (by omega)
 ·calc n*k<=16*32:=Int.mul_le_mul h2 h4 (by omega) (by omega)
   _=512:=rfl
theorem right_any (n k:Int) (w:World) :
  Calls Try.prog 92 #[.int .i64 n,.int .i64 k] w λe w'=>e=.returned (.bool (rightB n k))/\w=w':=by
 go_enter Try.func92,Try.ntmps92
 go_wp2
 all_goals go_ret
 all_goals exact⟨ret_bool (by unfold rightB;rw [Bool.eq_iff_iff];simp;omega),rfl⟩
theorem rright_any (n k:Int) (w:World) :
  Calls Try.prog 29 #[.int .i64 n,.int .i64 k] w λe w'=>e=.returned (.bool (rightB n k))/\w=w':=by
 go_enter Try.func29,Try.ntmps29
 go_wp2
 all_goals go_ret
 all_goals exact⟨ret_bool (by unfold rightB;rw [Bool.eq_iff_iff];simp;omega),rfl⟩
theorem size_yes (n k:Int) (w:World) (h:rightB n k=true) :
  Calls Try.prog 70 #[.int .i64 n,.int .i64 k] w λe w'=>e=.returned (.int .i64 (2+n+4*(1+n*k)))/\w=w':=by
 obtain⟨h1,h2,h3,h4⟩:=rightB_pos h
 obtain⟨h5,h6⟩:=nk_bound h
 go_enter Try.func70,Try.ntmps70
 go_wp2_with (go_at_call 92;refine(right_any _ _ _).mono ?_;rintro e w' ⟨rfl,rfl⟩)
 go_ret
 exact⟨rfl,rfl⟩
theorem rsize_yes (n k:Int) (w:World) (h:rightB n k=true) :
  Calls Try.prog 50 #[.int .i64 n,.int .i64 k] w λe w'=>e=.returned (.int .i64 (2+n+4*(1+n*k)))/\w=w':=by
 obtain⟨h1,h2,h3,h4⟩:=rightB_pos h
 obtain⟨h5,h6⟩:=nk_bound h
 go_enter Try.func50,Try.ntmps50
 go_wp2
 go_ret
 exact⟨rfl,rfl⟩
def atB (n k i f:Int):Bool:=rightB n k && decide (1<=i/\i<=1+n*k/\0<=f/\f<4)
theorem at_yes (n k i f:Int) (w:World) (h:atB n k i f=true) :
  Calls Try.prog 163 #[.int .i64 n,.int .i64 k,.int .i64 i,.int .i64 f] w λe w'=>e=.returned (.tuple #[.int .i64 (2+n+4*(i - 1)+f),.bool true])/\Below w.heap.size w w':=by
 unfold atB at h
 simp only [Bool.and_eq_true,decide_eq_true_eq] at h
 obtain⟨hr,h7,h8,h9,h10⟩:=h
 obtain⟨h1,h2,h3,h4⟩:=rightB_pos hr
 obtain⟨h5,h6⟩:=nk_bound hr
 obtain rfl|rfl|rfl|rfl:f=0∨f=1∨f=2∨f=3:=by omega
 all_goals
  go_enter Try.func163,Try.ntmps163
  go_wp2_with (go_at_call 92;refine(right_any _ _ _).mono ?_;rintro e w' ⟨rfl,rfl⟩)
  go_ret2
  exact⟨by simp,Gr.new _ _⟩
theorem at_no (n k i f:Int) (w:World) (h:atB n k i f=false) :
  Calls Try.prog 163 #[.int .i64 n,.int .i64 k,.int .i64 i,.int .i64 f] w λe w'=>e=.returned (.tuple #[.int .i64 0,.bool false])/\Below w.heap.size w w':=by
 by_cases hr:rightB n k=true
 ·obtain⟨h1,h2,h3,h4⟩:=rightB_pos hr
  obtain⟨h5,h6⟩:=nk_bound hr
  have h':i<1∨(1<=i/\1+n*k<i)∨(1<=i/\i<=1+n*k/\f<0)∨(1<=i/\i<=1+n*k/\4<=f):=by
   unfold atB at h
   rw [hr] at h
   simp only [Bool.true_and,decide_eq_false_iff_not] at h
   omega
  clear h
  rcases h' with c|⟨c,c2⟩|⟨c,c2,c3⟩|⟨c,c2,c3⟩
  all_goals
   go_enter Try.func163,Try.ntmps163
   go_wp2_with (go_at_call 92;refine(right_any _ _ _).mono ?_;rintro e w' ⟨rfl,rfl⟩)
   go_ret2
   exact⟨by simp,Gr.new _ _⟩
 ·have hr':rightB n k=false:=by simpa using hr
  clear h hr
  go_enter Try.func163,Try.ntmps163
  go_wp2_with (go_at_call 92;refine(right_any _ _ _).mono ?_;rintro e w' ⟨rfl,rfl⟩)
  go_ret2
  exact⟨by simp,Gr.new _ _⟩
def ownB (n k i:Int):Bool:=rightB n k && decide (2<=i/\i<=1+n*k)
theorem owner_yes (n k i:Int) (w:World) (h:ownB n k i=true) :
  Calls Try.prog 158 #[.int .i64 n,.int .i64 k,.int .i64 i] w λe w'=>e=.returned (.tuple #[.int .i64 ((i - 2) / k),.bool true])/\w=w':=by
 unfold ownB at h
 simp only [Bool.and_eq_true,decide_eq_true_eq] at h
 obtain⟨hr,h7,h8⟩:=h
 obtain⟨h1,h2,h3,h4⟩:=rightB_pos hr
 obtain⟨h5,h6⟩:=nk_bound hr
 go_enter Try.func158,Try.ntmps158
 go_wp2_with (go_at_call 92;refine(right_any _ _ _).mono ?_;rintro e w' ⟨rfl,rfl⟩)
 go_ret2
 exact⟨rfl,rfl⟩
theorem owner_no (n k i:Int) (w:World) (h:ownB n k i=false) :
  Calls Try.prog 158 #[.int .i64 n,.int .i64 k,.int .i64 i] w λe w'=>e=.returned (.tuple #[.int .i64 0,.bool false])/\w=w':=by
 by_cases hr:rightB n k=true
 ·obtain⟨h1,h2,h3,h4⟩:=rightB_pos hr
  obtain⟨h5,h6⟩:=nk_bound hr
  have h':i<2∨(2<=i/\1+n*k<i):=by
   unfold ownB at h
   rw [hr] at h
   simp only [Bool.true_and,decide_eq_false_iff_not] at h
   omega
  clear h
  rcases h' with c|⟨c,c2⟩
  all_goals
   go_enter Try.func158,Try.ntmps158
   go_wp2_with (go_at_call 92;refine(right_any _ _ _).mono ?_;rintro e w' ⟨rfl,rfl⟩)
   go_ret2
   exact⟨by simp,rfl⟩
 ·have hr':rightB n k=false:=by simpa using hr
  clear h hr
  go_enter Try.func158,Try.ntmps158
  go_wp2_with (go_at_call 92;refine(right_any _ _ _).mono ?_;rintro e w' ⟨rfl,rfl⟩)
  go_ret2
  exact⟨by simp,rfl⟩
end
section

/- Contracts of package node: the words. -/
open Go.RowKit
theorem sl_alloc (w:World) (arr:Array Value) (T:TypeId) {n k:Nat} {g:Nat->Nat->Value} (hn:n<=maxLen) (h:∀ j,j<n->∀ f,f<k->arr[j*k+f]?=some (g j f)) :
  SlAt (w.alloc (.cells arr T)) (some ⟨w.heap.size,0,none⟩) n k g:=
 ⟨hn,λj hj=>⟨_,_,rfl,by simp,λf hf=>by rw [Nat.zero_add,cell_new];exact h j hj f hf⟩⟩
theorem split_any (x:Nat) (w:World) (hx:U64 x) :
  Calls Try.prog 157 #[.int .u64 (x:Int)] w λe w'=>∃ a b:Nat,e=.returned (.tuple #[.int .i64 (a:Int),.int .u64 (b:Int)])/\w=w'/\Hid (a=x % 1024)/\Hid (b=x / 1024):=by
 go_enter Try.func157,Try.ntmps157
 go_wp2
 go_ret2
 exact⟨x % 1024,x / 1024,by simp,rfl,rfl,rfl⟩
theorem unstamp_any (x:Nat) (w:World) (hx:U64 x) :
  Calls Try.prog 164 #[.int .u64 (x:Int)] w λe w'=>∃ a b:Nat,e=.returned (.tuple #[.int .u64 (a:Int),.int .u64 (b:Int)])/\w=w'/\Hid (a=x / 1073741824)/\Hid (b=x % 1073741824):=by
 go_enter Try.func164,Try.ntmps164
 go_wp2
 go_ret2
 exact⟨x / 1073741824,x % 1073741824,by simp,rfl,rfl,rfl⟩
theorem unvalue_any (x:Nat) (w:World) (hx:U64 x) :
  Calls Try.prog 177 #[.int .u64 (x:Int)] w λe w'=>∃ a b:Nat,e=.returned (.tuple #[.int .u64 (a:Int),.int .u64 (b:Int)])/\w=w'/\Hid (a=x / 4294967296)/\Hid (b=x % 4294967296):=by
 go_enter Try.func177,Try.ntmps177
 go_wp2
 go_ret2
 exact⟨x / 4294967296,x % 4294967296,by simp,rfl,rfl,rfl⟩
end
end Go.Proofs.Ytlanekkbciffcaa
