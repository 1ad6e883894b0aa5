/- Contracts of package pick: New. -/
import Derived.Test.YteffgpcjfnjlkaaGreatX03
import Derived.Test.YteffgpcjfnjlkaaGreatX01
import Derived.Deep.QuietTactic
set_option maxRecDepth 100000
set_option linter.unusedVariables false
set_option linter.unusedSimpArgs false
set_option linter.unnecessarySimpa false
namespace Go.Proofs.YteffgpcjfnjlkaaGreat
open List renaming getElem_toArray → zq1, getElem_cons_zero → zq2, getElem_cons_succ → zq3, setIfInBounds_toArray → zq4, set_cons_zero → zq5, set_cons_succ → zq6
section
open Go.RowKit
def natV (i:Nat):Value:=.int .i64 (i:Int)
def d0:CallD:=⟨0,0,0,0,0,0⟩
def badT (n:Int) (x:CallD):Bool:=decide (x.thread<0∨n<=x.thread)
def wrongN (n:Int) (calls:List CallD):Int:=if n<1∨16<n then 1 else if 1000<calls.length then 3 else if calls.any (badT n)=true then 1 else 0
def anyBad (n:Int) (l:List CallD):Bool:=l.any (badT n)
structure NewSt (w wr:World) (calls:List CallD) (k:Nat) (M:Int->Value):Prop where
 line:wr.heap[w.heap.size+1]?=some (.cells #[.map (some w.heap.size),.int .i64 (calls.length:Int)] 128 (0,0))
 map:MapAt wr w.heap.size k M
 rows:∀ p,wr.ownsRow w.heap.size 3 1 (M p) (qOf calls k p).length ((qOf calls k p).map natV)
 apart:∀ p p',p≠p'->(M p).ownBlock=none∨(M p).ownBlock≠(M p').ownBlock
 below:Below w.heap.size w wr
theorem new_bad (n:Int) (a:Option Addr) (len c:Nat) (w:World) (er:Int) (hm:len<=maxLen) (h:(n<1∨16<n)/\er=1∨(1<=n/\n<=16/\1000<len)/\er=3) :
  Calls Tryz.prog 46 #[.int .i64 n,.slice a len c] w λe w'=>e=.returned (.tuple #[.pointer none,.int .i64 er])/\w=w':=by
 unfold maxLen at hm
 rcases h with⟨h|h,rfl⟩|⟨⟨h1,h2,h3⟩,rfl⟩
 ·go_enter Tryz.func46,Tryz.ntmps46
  go_wp2
  go_ret2
  exact⟨rfl,rfl⟩
 ·have h1:1<=n:=by omega
  go_enter Tryz.func46,Tryz.ntmps46
  go_wp2
  go_ret2
  exact⟨rfl,rfl⟩
 ·have h4:(1000:Int)<len:=by omega
  go_enter Tryz.func46,Tryz.ntmps46
  go_wp2
  go_ret2
  exact⟨rfl,rfl⟩
theorem call_cells {w:World} {a:Option Addr} {l:List CallD} (hs:SlAt w a l.length 6 (callG l)) {w':World} (hb:Below w.heap.size w w') {k:Nat} (hk:k<l.length) :
  ∃ b off,a=some ⟨b,off,none⟩/\w'.cell? ⟨b,off+k*6,none⟩=some (.int .i64 l[k].thread)/\w'.cell? ⟨b,off+k*6+1,none⟩=some (.int .i64 l[k].obj)/\w'.cell? ⟨b,off+k*6+2,none⟩=some (.int .i64 l[k].kind)/\
   w'.cell? ⟨b,off+k*6+3,none⟩=some (.int .u64 (l[k].a:Int))/\w'.cell? ⟨b,off+k*6+4,none⟩=some (.int .u64 (l[k].b:Int))/\w'.cell? ⟨b,off+k*6+5,none⟩=some (.int .u64 (l[k].c:Int)):=by
 obtain⟨b,off,ha,hc⟩:=hs.elem hb hk
 refine⟨b,off,ha,?_,?_,?_,?_,?_,?_⟩
 ·have:=hc 0 (by omega);rw [Nat.add_zero] at this;rw [this];simp [callG,List.getD_eq_getElem?_getD,hk]
 ·have:=hc 1 (by omega);rw [<-Nat.add_assoc] at this;rw [this];simp [callG,List.getD_eq_getElem?_getD,hk]
 ·have:=hc 2 (by omega);rw [<-Nat.add_assoc] at this;rw [this];simp [callG,List.getD_eq_getElem?_getD,hk]
 ·have:=hc 3 (by omega);rw [<-Nat.add_assoc] at this;rw [this];simp [callG,List.getD_eq_getElem?_getD,hk]
 ·have:=hc 4 (by omega);rw [<-Nat.add_assoc] at this;rw [this];simp [callG,List.getD_eq_getElem?_getD,hk]
 ·have:=hc 5 (by omega);rw [<-Nat.add_assoc] at this;rw [this];simp [callG,List.getD_eq_getElem?_getD,hk]
theorem int_info':(Tryz.prog.info? 3).map (λi=>(i.zero,i.size,i.bytes))=some (some (.int .i64 0),1,8):=by kernel_rfl
theorem step_mapUpdate_at (w:World) {ops:Array Oper} {o:Oper} {a:Act} {K:Act->World->Prop} {Q:Exit->Act->World->Prop} {E:Prop}
  (hg:o.guard=none) (m x v:Operand) (hop:o.op=Op.mapUpdate 126 m x v) (b n:Nat) (M:Int->Value)
  (hm:a.eval m=.map (some b)) (hown:MapAt w b n M) (hn:n<maxLen) (key:Int) (val:Value) (hx:a.eval x=.int .i64 key) (hv:a.eval v=val) (hw:(Lit.int .i64 key).wf=true)
  (hK:∀ w',MapAt w' b (n+1) (upd M key val)->w.grownBy w' (some b)->K (a.put o.dst undef) w') :
  if Region.wanted o (yielded ops a.tmps)=true then Oper.wp Tryz.prog o a w K Q else E:=by
 rw [if_pos (by simp [Region.wanted,hg])]
 obtain⟨w',hrun,r1,r2⟩:=hown.put hn hw val
 unfold Oper.wp
 simp [execOp,hop,hm,hx,hv,hrun,Result.andThen]
 exact hK w' r1 r2
def NewPost (n:Int) (l:List CallD) (w:World) (e:Ending) (w':World):Prop:=
 (anyBad n l=true/\e=.returned (.tuple #[.pointer none,.int .i64 1])/\Below w.heap.size w w')∨
 (anyBad n l=false/\e=.returned (.tuple #[.pointer (some ⟨w.heap.size+1,0,none⟩),.int .i64 0])/\∃ M,NewSt w w' l l.length M)
theorem new_go (n:Int) (l:List CallD) (a:Option Addr) (c:Nat) (w:World) (hs:SlAt w a l.length 6 (callG l)) (h1:1<=n) (h2:n<=16) (h3:l.length<=1000) (hwf:∀ x∈l,(Lit.int .i64 x.thread).wf=true) :
  Calls Tryz.prog 46 #[.int .i64 n,.slice a l.length c] w λe w'=>NewPost n l w e w':=by
 have Hs:=Lib.hid hs;have Hwf:=Lib.hid hwf;clear hs hwf
 have hmm:=@run_makeMap Tryz.prog
 obtain⟨i0,hi,hz0,hz1,hz2⟩:=info_parts int_info'
 go_enter Tryz.func46,Tryz.ntmps46
 go_wp2
 go_loopw [7,8,27] (λ_ _ i wr=>∃ k M,k<=l.length/\i=.int .i64 (k:Nat)/\NewSt w wr l k M/\Hid (∀ j,(h:j<k)->(hl:j<l.length)->badT n l[j]=false)) (λ_ _ i _=>l.length - (intOf i).toNat)
 case atStart=>
  refine⟨0,λ_=>.slice none 0 0,Nat.zero_le _,rfl,⟨?_,?_,λp=>World.ownsRow_nil _ _ _ _,λ_ _ _=>.inl rfl,Gr.alloc (Gr.new _ _) _⟩,λj h=>absurd h (Nat.not_lt_zero j)⟩
  ·have:=heap_alloc_new (w.alloc (.map #[] 0)) (.cells #[.map (some w.heap.size),.int .i64 (l.length:Int)] 128 (0,0))
   simpa using this
  ·exact MapAt.block (MapAt.made w) (Below.heap_alloc _ _ _ (by simp))
 case round=>
  obtain⟨k,M,hk,rfl,hst,hok⟩:=hrel
  by_cases hlt:k<l.length
  ·obtain⟨b,off,rfl,c0,c1,c2,c3,c4,c5⟩:=call_cells Hs.out hst.below hlt
   obtain⟨t,ht⟩:∃ t,t=l[k].thread:=⟨_,rfl⟩
   rw [<-ht] at c0
   have htw:(Lit.int .i64 t).wf=true:=by rw [ht];exact Hwf.out _ (List.getElem_mem hlt)
   have Ht:=Lib.hid ht
   have hany:t<0∨n<=t->anyBad n l=true:=λh=>by unfold anyBad;exact List.any_eq_true.2 ⟨l[k],List.getElem_mem hlt,by unfold badT;rw [<-Ht.out];simpa using h⟩
   clear ht
   by_cases hb1:t<0
   ·have Hany:=Lib.hid (hany (.inl hb1));clear hany
    go_wp2
    go_ret2
    exact .inl ⟨Hany.out,rfl,hst.below.alloc hst.below.size _⟩
   by_cases hb2:n<=t
   ·have Hany:=Lib.hid (hany (.inr hb2));clear hany
    go_wp2
    go_ret2
    exact .inl ⟨Hany.out,rfl,hst.below.alloc hst.below.size _⟩
   ·clear hany
    have hln:=hst.line
    have hbl0:wr.cell? ⟨w.heap.size+1,0,none⟩=some (.map (some w.heap.size)):=by rw [cell_blk hln];rfl
    have hlk:=hst.map.look htw
    have Hln:=Lib.hid hln;have Hlk:=Lib.hid hlk;clear hln hlk
    go_wp2
    obtain⟨C,hC⟩:∃ C:Array Value,C=#[.int .i64 t,.int .i64 l[k].obj,.int .i64 l[k].kind,.int .u64 (l[k].a:Int),.int .u64 (l[k].b:Int),.int .u64 (l[k].c:Int)]:=⟨_,rfl⟩
    rw [<-hC]
    have hC0:C[0]?=some (.int .i64 t):=by rw [hC];rfl
    clear hC c0 c1 c2 c3 c4 c5
    obtain⟨wb,hwb⟩:∃ wb,wb=wr.alloc (.cells C 48):=⟨_,rfl⟩
    have g1:wb.cell? ⟨w.heap.size+1,0,none⟩=some (.map (some w.heap.size)):=by rw [hwb,(Gr.new wr _).cell (blk_lt Hln.out)];exact hbl0
    have g2:wb.cell? ⟨wr.heap.size,0,none⟩=some (.int .i64 t):=by rw [hwb,cell_new];exact hC0
    have hgr:Below wr.heap.size wr wb:=by rw [hwb];exact Gr.new _ _
    have hsz:wr.heap.size<wb.heap.size:=by rw [hwb];simp
    rw [<-hwb]
    clear hwb hbl0 hC0
    have hmap:MapAt wb w.heap.size k M:=hst.map.block (hgr.block _ hst.map.lt)
    have hrow:∀ p,wb.ownsRow w.heap.size 3 1 (M p) (qOf l k p).length ((qOf l k p).map natV):=λp=>row_below (hst.rows p) hgr
    have Hmap:=Lib.hid hmap;have Hrow:=Lib.hid hrow
    refine wp_region_L (λx=>x.cell? ⟨w.heap.size+1,0,none⟩=some (.map (some w.heap.size))/\x.cell? ⟨wr.heap.size,0,none⟩=some (.int .i64 t)/\(Instr.lookup 126 (.map (some w.heap.size)) (.int .i64 t) false).run Tryz.prog x=.ok (M t) x) 16 (by kernel_rfl) ⟨g1,g2,(MapAt.block (w':=wb.drew) hmap rfl).look htw⟩ ?_
    intro hS hcl
    clear hmap hrow g1 g2
    refine wpAnyL_take (i:=0) (v:=(.pointer (some ⟨w.heap.size+1,0,none⟩))) 17 rfl (by kernel_rfl) (by kernel_rfl) (by kernel_rfl) (by kernel_rfl) (by kernel_rfl) hcl (λ_ _ _ h=>h) (Or.inl ⟨by rfl,?_⟩) hS ?_
    ·intro x hx;obtain⟨hx1,hx2,hx3⟩:=hx;go_simp
    clear hcl;intro hcl
    simp only [Act.put,zq4,zq5,zq6]
    refine wpAnyL_take (i:=1) (v:=(.pointer (some ⟨w.heap.size+1,0,none⟩))) 17 rfl (by kernel_rfl) (by kernel_rfl) (by kernel_rfl) (by kernel_rfl) (by kernel_rfl) hcl (λ_ _ _ h=>h) (Or.inl ⟨by rfl,?_⟩) hS ?_
    ·intro x hx;obtain⟨hx1,hx2,hx3⟩:=hx;go_simp
    clear hcl;intro hcl
    simp only [Act.put,zq4,zq5,zq6]
    refine wpAnyL_take (i:=2) (v:=(.pointer (some ⟨w.heap.size+1,0,none⟩))) 17 rfl (by kernel_rfl) (by kernel_rfl) (by kernel_rfl) (by kernel_rfl) (by kernel_rfl) hcl (λ_ _ _ h=>h) (Or.inl ⟨by rfl,?_⟩) hS ?_
    ·intro x hx;obtain⟨hx1,hx2,hx3⟩:=hx;go_simp
    clear hcl;intro hcl
    simp only [Act.put,zq4,zq5,zq6]
    refine wpAnyL_take (i:=3) (v:=(.map (some w.heap.size))) 17 rfl (by kernel_rfl) (by kernel_rfl) (by kernel_rfl) (by kernel_rfl) (by kernel_rfl) hcl (λ_ _ _ h=>h) (Or.inl ⟨by rfl,?_⟩) hS ?_
    ·intro x hx;obtain⟨hx1,hx2,hx3⟩:=hx;go_simp
    clear hcl;intro hcl
    simp only [Act.put,zq4,zq5,zq6]
    refine wpAnyL_take (i:=4) (v:=(.pointer (some ⟨wr.heap.size,0,none⟩))) 17 rfl (by kernel_rfl) (by kernel_rfl) (by kernel_rfl) (by kernel_rfl) (by kernel_rfl) hcl (λ_ _ _ h=>h) (Or.inl ⟨by rfl,?_⟩) hS ?_
    ·intro x hx;obtain⟨hx1,hx2,hx3⟩:=hx;go_simp
    clear hcl;intro hcl
    simp only [Act.put,zq4,zq5,zq6]
    refine wpAnyL_take (i:=5) (v:=(.int .i64 t)) 17 rfl (by kernel_rfl) (by kernel_rfl) (by kernel_rfl) (by kernel_rfl) (by kernel_rfl) hcl (λ_ _ _ h=>h) (Or.inl ⟨by rfl,?_⟩) hS ?_
    ·intro x hx;obtain⟨hx1,hx2,hx3⟩:=hx;go_simp
    clear hcl;intro hcl
    simp only [Act.put,zq4,zq5,zq6]
    refine wpAnyL_take (i:=6) (v:=(.pointer (some ⟨w.heap.size+1,0,none⟩))) 17 rfl (by kernel_rfl) (by kernel_rfl) (by kernel_rfl) (by kernel_rfl) (by kernel_rfl) hcl (λ_ _ _ h=>h) (Or.inl ⟨by rfl,?_⟩) hS ?_
    ·intro x hx;obtain⟨hx1,hx2,hx3⟩:=hx;go_simp
    clear hcl;intro hcl
    simp only [Act.put,zq4,zq5,zq6]
    refine wpAnyL_take (i:=7) (v:=(.pointer (some ⟨w.heap.size+1,0,none⟩))) 17 rfl (by kernel_rfl) (by kernel_rfl) (by kernel_rfl) (by kernel_rfl) (by kernel_rfl) hcl (λ_ _ _ h=>h) (Or.inl ⟨by rfl,?_⟩) hS ?_
    ·intro x hx;obtain⟨hx1,hx2,hx3⟩:=hx;go_simp
    clear hcl;intro hcl
    simp only [Act.put,zq4,zq5,zq6]
    refine wpAnyL_take (i:=8) (v:=(.pointer (some ⟨w.heap.size+1,0,none⟩))) 17 rfl (by kernel_rfl) (by kernel_rfl) (by kernel_rfl) (by kernel_rfl) (by kernel_rfl) hcl (λ_ _ _ h=>h) (Or.inl ⟨by rfl,?_⟩) hS ?_
    ·intro x hx;obtain⟨hx1,hx2,hx3⟩:=hx;go_simp
    clear hcl;intro hcl
    simp only [Act.put,zq4,zq5,zq6]
    refine wpAnyL_take (i:=9) (v:=(.map (some w.heap.size))) 17 rfl (by kernel_rfl) (by kernel_rfl) (by kernel_rfl) (by kernel_rfl) (by kernel_rfl) hcl (λ_ _ _ h=>h) (Or.inl ⟨by rfl,?_⟩) hS ?_
    ·intro x hx;obtain⟨hx1,hx2,hx3⟩:=hx;go_simp
    clear hcl;intro hcl
    simp only [Act.put,zq4,zq5,zq6]
    refine wpAnyL_take (i:=10) (v:=(.pointer (some ⟨wr.heap.size,0,none⟩))) 17 rfl (by kernel_rfl) (by kernel_rfl) (by kernel_rfl) (by kernel_rfl) (by kernel_rfl) hcl (λ_ _ _ h=>h) (Or.inl ⟨by rfl,?_⟩) hS ?_
    ·intro x hx;obtain⟨hx1,hx2,hx3⟩:=hx;go_simp
    clear hcl;intro hcl
    simp only [Act.put,zq4,zq5,zq6]
    refine wpAnyL_take (i:=11) (v:=(.int .i64 t)) 17 rfl (by kernel_rfl) (by kernel_rfl) (by kernel_rfl) (by kernel_rfl) (by kernel_rfl) hcl (λ_ _ _ h=>h) (Or.inl ⟨by rfl,?_⟩) hS ?_
    ·intro x hx;obtain⟨hx1,hx2,hx3⟩:=hx;go_simp
    clear hcl;intro hcl
    simp only [Act.put,zq4,zq5,zq6]
    refine wpAnyL_take (i:=12) (v:=(M t)) 17 rfl (by kernel_rfl) (by kernel_rfl) (by kernel_rfl) (by kernel_rfl) (by kernel_rfl) hcl (λ_ _ _ h=>h) (Or.inl ⟨by rfl,?_⟩) hS ?_
    ·intro x hx;obtain⟨hx1,hx2,hx3⟩:=hx;go_simp
    clear hcl;intro hcl
    simp only [Act.put,zq4,zq5,zq6]
    refine wpAnyL_take (i:=13) (v:=(.int .i64 (k:Int))) 17 rfl (by kernel_rfl) (by kernel_rfl) (by kernel_rfl) (by kernel_rfl) (by kernel_rfl) hcl (λ_ _ _ h=>h) (Or.inl ⟨by rfl,?_⟩) hS ?_
    ·intro x hx;obtain⟨hx1,hx2,hx3⟩:=hx;go_simp
    clear hcl;intro hcl
    simp only [Act.put,zq4,zq5,zq6]
    refine wpAnyL_one (i:=14) (by kernel_rfl) rfl hcl (λK' hK=>?_)
    have HK:=Lib.hid hK;clear hK
    go_simp
    have l1:w.heap.size+1<wb.heap.size:=World.block_lt_of_cell? _ _ hS.1
    have l2:=hst.below.size
    have hgd:Below wb.heap.size wb (wb.alloc (.cells #[.int .i64 (k:Int)] 3)).drew:=(Gr.new wb _).drew
    have s1:(wb.alloc (.cells #[.int .i64 (k:Int)] 3)).drew.cell? ⟨w.heap.size+1,0,none⟩=some (.map (some w.heap.size)):=by rw [hgd.cell l1];exact hS.1
    have s2:(wb.alloc (.cells #[.int .i64 (k:Int)] 3)).drew.cell? ⟨wr.heap.size,0,none⟩=some (.int .i64 t):=by rw [hgd.cell hsz];exact hS.2.1
    refine HK.out _ _ (λ_=>⟨s1,s2,(MapAt.block (w:=wb) Hmap.out (hgd.block _ Hmap.out.lt)).look htw⟩) (λhcl=>?_)
    clear HK
    have ol:(qOf l k t).length<=k:=qOf_len _ _ _
    refine wpAnyL_one (i:=15) (by kernel_rfl) rfl hcl (λK' hK=>?_)
    have HK:=Lib.hid hK;clear hK
    refine step_append_lies _ rfl (.tmp 53) (.tmp 55) 24 rfl w.heap.size 3 i0 (.int .i64 0) 1 8 Tryz.underlying24 hi hz0 hz1 hz2 rfl (by decide) (M t) _ _ rfl (((Hrow.out t).alloc _).drew)
      ⟨wb.heap.size,0,none⟩ 1 1 [.int .i64 (k:Int)] rfl rfl (World.news_of_block (cs:=#[.int .i64 (k:Int)]) (t:=3) (fr:=(0,0)) (heap_alloc_new wb _)) (by simp [Value.oneCell'])
      (by omega) (by unfold maxLen;omega) (by omega) (by simp;omega) (wb.heap.size+1) (by simp) ?_
    intro gg cap w3 hown hgrow hat hltg
    have hmap3:MapAt w3 w.heap.size k M:=MapAt.block (w:=wb) Hmap.out ((hgrow.block _ (by simp;have:=Hmap.out.lt;omega) (λe=>by
     have h1:=(Hrow.out t).lt _ e.symm
     obtain⟨D,⟨es,clock,h2,_⟩,_⟩:=Hmap.out
     obtain⟨_,h3⟩:=Hrow.out t
     rcases h3 with⟨h3,_⟩|⟨g,cap',cur,h3,_,h4,_⟩
     ·rw [h3] at e;cases e
     ·rw [h3] at e;simp only [Value.ownBlock,Option.some.injEq] at e;rw [<-e,h2] at h4;cases h4)).trans (hgd.block _ Hmap.out.lt))
    have hln3:w3.heap[w.heap.size+1]?=some (.cells #[.map (some w.heap.size),.int .i64 (l.length:Int)] 128 (0,0)):=by
     rw [hgrow.block _ (by simp;omega) (λe=>by
      obtain⟨_,h3⟩:=Hrow.out t
      rcases h3 with⟨h3,_⟩|⟨g,cap',cur,h3,_,h4,_⟩
      ·rw [h3] at e;cases e
      ·rw [h3] at e
       simp only [Value.ownBlock,Option.some.injEq] at e
       rw [<-e,hgr.block _ (blk_lt Hln.out),Hln.out] at h4
       simp at h4),hgd.block _ l1,hgr.block _ (blk_lt Hln.out)]
     exact Hln.out
    have s3:w3.cell? ⟨w.heap.size+1,0,none⟩=some (.map (some w.heap.size)):=by rw [cell_blk hln3];rfl
    have s4:w3.cell? ⟨wr.heap.size,0,none⟩=some (.int .i64 t):=by
     rw [hgrow.cell_far _ (by simp;omega) (λe=>by have h1:=(Hrow.out t).lt _ e.symm;have h2:=(hst.rows t).lt _ e.symm;simp at h2),s2]
    refine HK.out _ _ (λ_=>⟨s3,s4,hmap3.look htw⟩) (λhcl=>?_)
    clear HK
    refine wpAnyL_one (i:=16) (by kernel_rfl) rfl hcl (λK' hK=>?_)
    have HK:=Lib.hid hK;clear hK
    refine step_mapUpdate_at _ rfl (.tmp 44) (.tmp 46) (.tmp 56) rfl w.heap.size k M rfl hmap3 (by unfold maxLen;omega) t _ rfl rfl htw ?_
    intro w4 hmap4 hgrow4
    refine HK.out _ _ (λh=>by cases h.symm.trans (by kernel_rfl:_=true)) (λ_=>wpAnyL_done (by kernel_rfl) ?_ _)
    clear HK
    have hb3:Below w.heap.size w w3:=(((hst.below.trans (hgr.mono l2)).trans (hgd.mono (by omega))).grown hgrow (by simp;omega) (λq hq=>((Hrow.out t).lt q hq).1))
    have hb4:Below w.heap.size w w4:=hb3.grown hgrow4 hb3.size (λq hq=>by cases hq;exact Nat.le_refl _)
    have hq1:qOf l (k+1) t=qOf l k t++[k]:=by
     rw [qOf_succ,List.getD_eq_getElem?_getD]
     simp [hlt,<-Ht.out]
    have hq2:∀ p,p≠t->qOf l (k+1) p=qOf l k p:=λp hp=>by
     rw [qOf_succ,List.getD_eq_getElem?_getD]
     simp [hlt,<-Ht.out,Ne.symm hp]
    have hnb:(M t).ownBlock≠some w.heap.size:=λe=>by
     obtain⟨D,⟨es,clock,h2,_⟩,_⟩:=Hmap.out
     obtain⟨_,h3⟩:=Hrow.out t
     rcases h3 with⟨h3,_⟩|⟨g,cap',cur,h3,_,h4,_⟩
     ·rw [h3] at e;cases e
     ·rw [h3] at e;simp only [Value.ownBlock,Option.some.injEq] at e;rw [e,h2] at h4;cases h4
    have hgg:gg≠w.heap.size:=by rcases hat with h|h;rintro rfl;exact hnb h;omega
    have hst4:NewSt w w4 l (k+1) (upd M t (.slice (some ⟨gg,0,none⟩) ((qOf l k t).length+1) cap)):=by
     refine⟨?_,hmap4,λp=>?_,λp p' hp=>?_,hb4⟩
     ·rw [hgrow4.block _ (blk_lt hln3) (by simp)];exact hln3
     ·by_cases hp:p=t
      ·subst hp
       rw [upd_same,hq1]
       have h5:=hown.kept hgrow4 (.inr (by simpa [Value.ownBlock] using hgg))
       simpa [natV] using h5
      ·rw [upd_other _ _ hp,hq2 p hp]
       have h5:=(((Hrow.out p).alloc (.cells #[.int .i64 (k:Int)] 3)).drew.kept hgrow (hst.apart p t hp)).kept hgrow4 (by
        rcases Option.eq_none_or_eq_some (M p).ownBlock with h6|⟨g,h6⟩
        ·exact .inl h6
        ·right
         intro h7
         obtain⟨D,⟨es,clock,h2,_⟩,_⟩:=Hmap.out
         obtain⟨_,h3⟩:=Hrow.out p
         rcases h3 with⟨h3,_⟩|⟨g',cap',cur,h3,_,h4,_⟩
         ·rw [h3] at h7;cases h7
         ·rw [h3] at h7;simp only [Value.ownBlock,Option.some.injEq] at h7;rw [h7,h2] at h4;cases h4)
       exact h5
     ·have fresh:∀ p,p≠t->(M p).ownBlock=none∨(M p).ownBlock≠some gg:=λp hp=>by
       rcases hat with h|h
       ·rw [<-h];exact hst.apart p t hp
       ·right;intro h6;have:=((Hrow.out p).lt gg h6).2;omega
      by_cases hpt:p=t
      ·subst hpt
       rw [upd_same,upd_other _ _ hp.symm]
       right
       intro h6
       rcases fresh p' hp.symm with h7|h7
       ·rw [h7] at h6;cases h6
       ·exact h7 h6.symm
      ·rw [upd_other _ _ hpt]
       by_cases hpt':p'=t
       ·subst hpt'
        rw [upd_same]
        exact fresh p hpt
       ·rw [upd_other _ _ hpt']
        exact hst.apart p p' hp
    have hok':∀ j,(h:j<k+1)->(hl:j<l.length)->badT n l[j]=false:=λj h hl=>by
     rcases Nat.lt_succ_iff_lt_or_eq.1 h with h|rfl
     ·exact hok.out j h hl
     ·unfold badT;rw [<-Ht.out];simp;omega
    have Hst:=Lib.hid hst4;have Hok:=Lib.hid hok'
    clear hst4 hok' hmap4 hmap3 hln3 s1 s2 s3 s4 hS hown hgrow hgrow4 hat hq2 hcl
    go_wp2
    go_roundw
    case rel=>exact⟨k+1,_,by omega,by go_num,Hst.out,Hok.out⟩
    case measure=>simp [intOf]<;>omega
  ·obtain rfl:k=l.length:=by omega
   go_wp2
   go_ret2
   have hno:anyBad n l=false:=by
    unfold anyBad
    rw [List.any_eq_false]
    intro x hx
    obtain⟨j,hj,rfl⟩:=List.getElem_of_mem hx
    have:=hok.out j hj hj
    simp [this]
   exact .inr ⟨hno,rfl,M,hst⟩
end
section

/- Layer 6's reference: the tape of an operation, as it lies in memory. -/
open Go.RowKit
def intV (x:Int):Value:=.int .i64 x
structure TapeD where
 thread:Int
 inv:Int
 got:List Nat
 ticks:List Int
 at_:Nat
 fresh:Bool
 halt:Bool
 priv:Value
 err:Int
 val:Nat
 list:Value
 key:Value
structure TIds where
 tb:Nat
 pre:List Value
 post:List Value
 T:TypeId
 bW:Nat
 bw:Option Nat
 mks:Value
 trs:Value
def tapeL (bW:Nat) (G K:Value) (t:TapeD):List Value:=
 [.pointer (some ⟨bW,0,none⟩),.int .i64 t.thread,.int .i64 t.inv,G,K,.int .i64 (t.at_:Int),.bool t.fresh,.bool t.halt,t.priv,.int .i64 t.err,.int .u64 (t.val:Int),t.list,t.key]
structure TapeAt (w:World) (I:TIds) (G K L:Value) (t:TapeD) (m:MemD) (now:Nat):Prop where
 blk:w.heap[I.tb]?=some (.cells (I.pre++(tapeL I.bW G K t++I.post)).toArray I.T (0,0))
 mem:RMemAt w I.bW 106 [.int .i64 (now:Int),I.mks,I.trs,L] I.bw m
 got:w.ownsRow 0 46 1 G t.got.length (t.got.map u64V)
 ticks:w.ownsRow 0 3 1 K t.ticks.length (t.ticks.map intV)
 log:∃ n xs,n<=m.c.all/\w.ownsRow 0 219 6 L n xs
 typ:I.T≠46/\I.T≠3/\I.T≠219/\I.T≠106
 sep:∀ q,I.bw=some q->q≠I.tb/\G.ownBlock≠some q/\K.ownBlock≠some q/\L.ownBlock≠some q
 glen:t.got.length<=100000000
 klen:t.ticks.length<=100000000
def TSet (I:TIds) (G K L:Value) (k:Nat):Prop:=k=I.tb∨k=I.bW∨I.bw=some k∨G.ownBlock=some k∨K.ownBlock=some k∨L.ownBlock=some k
def KeepB (w:World) (V V':Value):Prop:=∀ b,V'.ownBlock=some b->V.ownBlock=some b∨w.heap.size<=b
structure TapeTo (w w':World) (I:TIds) (G K L G' K' L':Value):Prop where
 chg:Chg (TSet I G K L) w w'
 kg:KeepB w G G'
 kk:KeepB w K K'
 kl:KeepB w L L'
theorem KeepB.refl (w:World) (V:Value):KeepB w V V:=λ_ h=>.inl h
theorem KeepB.trans {w w1:World} {V V1 V2:Value} (h:KeepB w V V1) (h1:KeepB w1 V1 V2) (hs:w.heap.size<=w1.heap.size):KeepB w V V2:=λb hb=>by
 rcases h1 b hb with h9|h9
 ·exact h b h9
 ·exact .inr (by omega)
theorem chg_trans2 {S S1:Nat->Prop} {a b c:World} (h:Chg S a b) (k:Chg S1 b c) (hs:∀ x,x<a.heap.size->S1 x->S x):Chg S a c:=
 ⟨k.os.trans h.os,k.tape.trans h.tape,k.output.trans h.output,Nat.le_trans h.size k.size,λi hi hn=>(k.block i (Nat.lt_of_lt_of_le hi h.size) (λx=>hn (hs i hi x))).trans (h.block i hi hn)⟩
theorem TapeTo.refl (w:World) (I:TIds) (G K L:Value):TapeTo w w I G K L G K L:=⟨Chg.refl _ _,KeepB.refl _ _,KeepB.refl _ _,KeepB.refl _ _⟩
theorem TapeTo.trans {w w1 w2:World} {I:TIds} {G K L G1 K1 L1 G2 K2 L2:Value} (h:TapeTo w w1 I G K L G1 K1 L1) (h1:TapeTo w1 w2 I G1 K1 L1 G2 K2 L2):TapeTo w w2 I G K L G2 K2 L2:=by
 refine⟨chg_trans2 h.chg h1.chg (λx hx hs=>?_),h.kg.trans h1.kg h.chg.size,h.kk.trans h1.kk h.chg.size,h.kl.trans h1.kl h.chg.size⟩
 rcases hs with e|e|e|e|e|e
 ·exact .inl e
 ·exact .inr (.inl e)
 ·exact .inr (.inr (.inl e))
 ·rcases h.kg x e with h9|h9
  ·exact .inr (.inr (.inr (.inl h9)))
  ·omega
 ·rcases h.kk x e with h9|h9
  ·exact .inr (.inr (.inr (.inr (.inl h9))))
  ·omega
 ·rcases h.kl x e with h9|h9
  ·exact .inr (.inr (.inr (.inr (.inr h9))))
  ·omega
theorem row_type {w:World} {B:Nat} {e:TypeId} {k n:Nat} {V:Value} {xs:List Value} (h:w.ownsRow B e k V n xs) {b:Nat} (hb:V.ownBlock=some b):∃ cs fz,w.heap[b]?=some (.cells cs e fz):=by
 obtain⟨_,h2⟩:=h
 rcases h2 with⟨rfl,_⟩|⟨g,cap,cur,rfl,_,hh,_⟩
 ·cases hb
 ·cases hb;exact⟨_,_,hh⟩
theorem row_ne {w:World} {B:Nat} {e T:TypeId} {k n b:Nat} {V:Value} {xs:List Value} {cs:Array Value} {fz:Nat×Nat} (h:w.ownsRow B e k V n xs) (hb:w.heap[b]?=some (.cells cs T fz)) (hT:T≠e):V.ownBlock≠some b:=λe9=>by
 obtain⟨cs',fz',h'⟩:=row_type h e9
 rw [hb] at h'
 simp only [Option.some.injEq,Obj.cells.injEq] at h'
 exact hT h'.2.1
theorem row_row {w:World} {B B':Nat} {e e':TypeId} {k k' n n' b:Nat} {V V':Value} {xs xs':List Value} (h:w.ownsRow B e k V n xs) (h':w.ownsRow B' e' k' V' n' xs') (hT:e'≠e) (hb:V'.ownBlock=some b):V.ownBlock≠some b:=by
 obtain⟨cs',fz',h9⟩:=row_type h' hb
 exact row_ne h h9 hT
theorem RMemAt.wld {w:World} {b:Nat} {T:TypeId} {tail:List Value} {bw:Option Nat} {m:MemD} (h:RMemAt w b T tail bw m):∃ wa cap,CapOk wa m.ws.length cap/\w.heap[b]?=some (.cells (rmemCells wa m.ws.length cap m.c tail) T (0,0))/\SlAt w wa m.ws.length 1 (u64G m.ws)/\(∀ q off,wa=some ⟨q,off,none⟩->0<m.ws.length->off=0/\bw=some q):=by
 obtain⟨wa,cap,hl,hb,hw⟩:=h.blk
 have hlen:=h.len
 refine⟨wa,cap,hl,hb,⟨by unfold maxLen;omega,λj hj=>?_⟩,λq off e hp=>?_⟩
 ·obtain⟨q,rest,hq,ha,hr⟩:=hw (by omega)
  refine⟨q,0,ha,h.low q hq,λf hf=>?_⟩
  obtain rfl:f=0:=by omega
  rw [cell_blk hr]
  simp [u64G,u64V,List.getD_eq_getElem?_getD,hj,List.getElem?_append]
 ·obtain⟨q',rest,hq,ha,hr⟩:=hw hp
  rw [ha] at e
  cases e
  exact⟨rfl,hq⟩
theorem RMemAt.tail {w:World} {b:Nat} {T:TypeId} {tail:List Value} {bw:Option Nat} {m:MemD} (h:RMemAt w b T tail bw m) (i:Nat) (v:Value):RMemAt (w.setCell ⟨b,6+i,none⟩ v) b T (tail.set i v) bw m:=by
 obtain⟨wa,cap,hl,hb,hw⟩:=h.blk
 refine⟨⟨wa,cap,hl,?_,λhp=>?_⟩,h.apart,λq e=>by have:=h.low q e;simpa [World.setCell] using this,h.len,h.cnt,h.val⟩
 ·rw [blk_set hb]
  congr 2
  unfold rmemCells
  rw [show 6+i=i+6 by omega]
  simp [List.set]
 ·obtain⟨q,rest,hq,ha,hr⟩:=hw hp
  exact⟨q,rest,hq,ha,by rw [blk_set_other (by rintro rfl;exact h.apart hq)];exact hr⟩
theorem mid_get {pre X post:List Value} {i:Nat} (hi:i<X.length):(pre++(X++post)).toArray[pre.length+i]?=X[i]?:=by
 simp only [List.getElem?_toArray]
 rw [List.getElem?_append_right (by omega),Nat.add_sub_cancel_left,List.getElem?_append_left hi]
theorem mid_set {pre X post:List Value} {i:Nat} (hi:i<X.length) (v:Value):(pre++(X++post)).toArray.setIfInBounds (pre.length+i) v=(pre++(X.set i v++post)).toArray:=by
 rw [zq4,List.set_append_right _ _ (by omega),Nat.add_sub_cancel_left,List.set_append_left _ _ hi]
theorem TapeAt.cell {w:World} {I:TIds} {G K L:Value} {t:TapeD} {m:MemD} {now:Nat} (h:TapeAt w I G K L t m now) {i:Nat} (hi:i<13):w.cell? ⟨I.tb,I.pre.length+i,none⟩=(tapeL I.bW G K t)[i]?:=by
 rw [cell_blk h.blk];exact mid_get hi
theorem TapeAt.cell0 {w:World} {I:TIds} {G K L:Value} {t:TapeD} {m:MemD} {now:Nat} (h:TapeAt w I G K L t m now):w.cell? ⟨I.tb,I.pre.length,none⟩=some (.pointer (some ⟨I.bW,0,none⟩)):=h.cell (i:=0) (by omega)
theorem tape_set {w:World} {I:TIds} {G K:Value} {t:TapeD} (h:w.heap[I.tb]?=some (.cells (I.pre++(tapeL I.bW G K t++I.post)).toArray I.T (0,0))) {i:Nat} (hi:i<13) (v:Value) {G' K':Value} {t':TapeD} (hv:(tapeL I.bW G K t).set i v=tapeL I.bW G' K' t') :
  (w.setCell ⟨I.tb,I.pre.length+i,none⟩ v).heap[I.tb]?=some (.cells (I.pre++(tapeL I.bW G' K' t'++I.post)).toArray I.T (0,0)):=by
 rw [blk_set h,mid_set (by exact hi),hv]
theorem TapeAt.chg {S:Nat->Prop} {w w':World} {I:TIds} {G K L:Value} {t:TapeD} {m:MemD} {now:Nat} (h:TapeAt w I G K L t m now) (hc:Chg S w w') (hs:∀ k,TSet I G K L k->¬ S k):TapeAt w' I G K L t m now:=by
 obtain⟨n,xs,hn,hl⟩:=h.log
 refine⟨(hc.block _ (blk_lt h.blk) (hs _ (.inl rfl))).trans h.blk,h.mem.chg hc (hs _ (.inr (.inl rfl))) (λq e=>hs q (.inr (.inr (.inl e)))),?_,?_,⟨n,xs,hn,?_⟩,h.typ,h.sep,h.glen,h.klen⟩
 ·exact row_chg h.got hc (λb e=>hs b (.inr (.inr (.inr (.inl e)))))
 ·exact row_chg h.ticks hc (λb e=>hs b (.inr (.inr (.inr (.inr (.inl e))))))
 ·exact row_chg hl hc (λb e=>hs b (.inr (.inr (.inr (.inr (.inr e))))))
theorem TapeAt.put {w:World} {I:TIds} {G K L:Value} {t:TapeD} {m:MemD} {now:Nat} (h:TapeAt w I G K L t m now) {i:Nat} (hi:i<13) (v:Value) {t':TapeD} (hv:(tapeL I.bW G K t).set i v=tapeL I.bW G K t') (hg:t'.got=t.got) (hk:t'.ticks=t.ticks) :
  TapeAt (w.setCell ⟨I.tb,I.pre.length+i,none⟩ v) I G K L t' m now/\TapeTo w (w.setCell ⟨I.tb,I.pre.length+i,none⟩ v) I G K L G K L:=by
 have hc:Chg (λk=>k=I.tb) w (w.setCell ⟨I.tb,I.pre.length+i,none⟩ v):=(Chg.refl (λk=>k=I.tb) w).setCell (p:=⟨I.tb,I.pre.length+i,none⟩) (.inl rfl) v
 obtain⟨n,xs,hn,hl⟩:=h.log
 obtain⟨t1,t2,t3,t4⟩:=h.typ
 obtain⟨wa,cap,_,hb,_⟩:=h.mem.blk
 have hne:I.tb≠I.bW:=λe=>by
  have h1:=h.blk;rw [e,hb] at h1
  simp only [Option.some.injEq,Obj.cells.injEq] at h1
  exact t4 h1.2.1.symm
 refine⟨⟨tape_set h.blk hi v hv,h.mem.chg hc (λe=>hne e.symm) (λq e=>(h.sep q e).1),?_,?_,⟨n,xs,hn,?_⟩,h.typ,h.sep,by rw [hg];exact h.glen,by rw [hk];exact h.klen⟩,⟨hc.mono (λk _ e=>.inl e),KeepB.refl _ _,KeepB.refl _ _,KeepB.refl _ _⟩⟩
 ·rw [hg];exact row_chg h.got hc (λb e e9=>row_ne h.got h.blk t1 (e9 ▸ e))
 ·rw [hk];exact row_chg h.ticks hc (λb e e9=>row_ne h.ticks h.blk t2 (e9 ▸ e))
 ·exact row_chg hl hc (λb e e9=>row_ne hl h.blk t3 (e9 ▸ e))
end
section

/- Regions that draw their order, whose operations only read, and whose calls leave what was there: one walk in the order of the text serves every order. -/
open Go.RowKit
structure GrownOf (w:World) where
 u:World
 below:Below w.heap.size w u
instance grownOf_nonempty (w:World):Nonempty (GrownOf w):=⟨⟨w,Below.refl _ _⟩⟩
theorem wp_region_grown_lit {P:Program} {id:Nat} {Q:Exit->Act->World->Prop} {a:Act} {w:World} {l:List Oper} (hm:P.follows .mixedOrders=true) (hB:Region.lexB .any l.toArray=true)
  (h:wpQuiet P l.toArray (λw'=>∃ n:GrownOf w,w'=n.u) (λa'=>∀ w',(∃ n:GrownOf w,w'=n.u)->Q .normal a' w') l a):(Code.region id l.toArray true).wp P Q a w:=
 wp_region_quiet (C:=λw'=>∃ n:GrownOf w,w'=n.u) hm hB ⟨⟨_,(Below.refl w.heap.size w).drew⟩,rfl⟩ (by simpa using h)
theorem grown_cell {w:World} {p:Addr} {v:Value} (h:w.cell? p=some v):∀ n:GrownOf w,n.u.cell? p=some v:=λn=>(n.below.cell (World.block_lt_of_cell? _ _ h)).trans h
theorem quietG {P:Program} {f:FuncId} {args:Array Value} {w:World} {n:GrownOf w} {v:Value}
  (h:Calls P f args n.u λe w'=>e=.returned v/\Below n.u.heap.size n.u w'):Calls P f args n.u λe w''=>e=.returned v/\∃ m:GrownOf w,w''=m.u:=
 h.mono λ_ w' ⟨he,hb⟩=>⟨he,⟨w',Gr.trans n.below hb⟩,rfl⟩
end
end Go.Proofs.YteffgpcjfnjlkaaGreat
