/- Contracts of package pick: New. -/
import Derived.Test.YtfkokppncipgnaaGreatW03
import Derived.Test.YtfkokppncipgnaaGreatW01
import Derived.Deep.QuietTactic
import Derived.BigRegion
set_option maxRecDepth 100000
set_option linter.unusedVariables false
set_option linter.unusedSimpArgs false
set_option linter.unnecessarySimpa false
namespace Go.Proofs.YtfkokppncipgnaaGreat
open List renaming getElem_toArray → zq1, getElem_cons_zero → zq2, getElem_cons_succ → zq3, setIfInBounds_toArray → zq4, set_cons_zero → zq5, set_cons_succ → zq6
section
open Go.RowKit
def gD (i:Nat):Value:=.int .i64 (i:Int)
def d0:aD:=⟨0,0,0,0,0,0⟩
def BU (n:Int) (x:aD):Bool:=decide (x.thread<0∨n<=x.thread)
def gK (n:Int) (calls:List aD):Int:=if n<1∨16<n then 1 else if 1000<calls.length then 3 else if calls.any (BU n)=true then 1 else 0
def kC (n:Int) (l:List aD):Bool:=l.any (BU n)
structure ZH (w wr:World) (calls:List aD) (k:Nat) (M:Int->Value):Prop where
 line:wr.heap[w.heap.size+1]?=some (.cells #[.map (some w.heap.size),.int .i64 (calls.length:Int)] 120 (0,0))
 map:MapAt wr w.heap.size k M
 rows:∀ p,wr.ownsRow w.heap.size 3 1 (M p) (qOf calls k p).length ((qOf calls k p).map gD)
 apart:∀ p p',p≠p'->(M p).ownBlock=none∨(M p).ownBlock≠(M p').ownBlock
 below:Below w.heap.size w wr
theorem ZF (n:Int) (a:Option Addr) (len c:Nat) (w:World) (er:Int) (hm:len<=maxLen) (h:(n<1∨16<n)/\er=1∨(1<=n/\n<=16/\1000<len)/\er=3) :
  Calls Tryz.prog 31 #[.int .i64 n,.slice a len c] w λe w'=>e=.returned (.tuple #[.pointer none,.int .i64 er])/\w=w':=by
 unfold maxLen at hm
 rcases h with⟨h|h,rfl⟩|⟨⟨h1,h2,h3⟩,rfl⟩
 ·go_enter Tryz.func31,Tryz.ntmps31
  go_wp2
  go_ret2
  exact⟨rfl,rfl⟩
 ·have h1:1<=n:=by omega
  go_enter Tryz.func31,Tryz.ntmps31
  go_wp2
  go_ret2
  exact⟨rfl,rfl⟩
 ·have h4:(1000:Int)<len:=by omega
  go_enter Tryz.func31,Tryz.ntmps31
  go_wp2
  go_ret2
  exact⟨rfl,rfl⟩
theorem xY {w:World} {a:Option Addr} {l:List aD} (hs:cB w a l.length 6 (iX l)) {w':World} (hb:Below w.heap.size w w') {k:Nat} (hk:k<l.length) :
  ∃ b off,a=some ⟨b,off,none⟩/\w'.cell? ⟨b,off+k*6,none⟩=some (.int .i64 l[k].thread)/\w'.cell? ⟨b,off+k*6+1,none⟩=some (.int .i64 l[k].obj)/\w'.cell? ⟨b,off+k*6+2,none⟩=some (.int .i64 l[k].kind)/\
   w'.cell? ⟨b,off+k*6+3,none⟩=some (.int .u64 (l[k].a:Int))/\w'.cell? ⟨b,off+k*6+4,none⟩=some (.int .u64 (l[k].b:Int))/\w'.cell? ⟨b,off+k*6+5,none⟩=some (.int .u64 (l[k].c:Int)):=by
 obtain⟨b,off,ha,hc⟩:=hs.elem hb hk
 refine⟨b,off,ha,?_,?_,?_,?_,?_,?_⟩
 ·have:=hc 0 (by omega);rw [Nat.add_zero] at this;rw [this];simp [iX,List.getD_eq_getElem?_getD,hk]
 ·have:=hc 1 (by omega);rw [<-Nat.add_assoc] at this;rw [this];simp [iX,List.getD_eq_getElem?_getD,hk]
 ·have:=hc 2 (by omega);rw [<-Nat.add_assoc] at this;rw [this];simp [iX,List.getD_eq_getElem?_getD,hk]
 ·have:=hc 3 (by omega);rw [<-Nat.add_assoc] at this;rw [this];simp [iX,List.getD_eq_getElem?_getD,hk]
 ·have:=hc 4 (by omega);rw [<-Nat.add_assoc] at this;rw [this];simp [iX,List.getD_eq_getElem?_getD,hk]
 ·have:=hc 5 (by omega);rw [<-Nat.add_assoc] at this;rw [this];simp [iX,List.getD_eq_getElem?_getD,hk]
theorem Dk:(Tryz.prog.info? 3).map (λi=>(i.zero,i.size,i.bytes))=some (some (.int .i64 0),1,8):=by kernel_rfl
theorem CE (w:World) {ops:Array Oper} {o:Oper} {a:Act} {K:Act->World->Prop} {Q:Exit->Act->World->Prop} {E:Prop}
  (hg:o.guard=none) (m x v:Operand) (hop:o.op=Op.mapUpdate 118 m x v) (b n:Nat) (M:Int->Value)
  (hm:a.eval m=.map (some b)) (hown:MapAt w b n M) (hn:n<maxLen) (key:Int) (val:Value) (hx:a.eval x=.int .i64 key) (hv:a.eval v=val) (hw:(Lit.int .i64 key).wf=true)
  (hK:∀ w',MapAt w' b (n+1) (upd M key val)->w.grownBy w' (some b)->K (a.put o.dst undef) w') :
  if Region.wanted o (yielded ops a.tmps)=true then Oper.wp Tryz.prog o a w K Q else E:=by
 rw [if_pos (by simp [Region.wanted,hg])]
 obtain⟨w',hrun,r1,r2⟩:=hown.put hn hw val
 unfold Oper.wp
 simp [execOp,hop,hm,hx,hv,hrun,Result.andThen]
 exact hK w' r1 r2
def Mk (n:Int) (l:List aD) (w:World) (e:Ending) (w':World):Prop:=
 (kC n l=true/\e=.returned (.tuple #[.pointer none,.int .i64 1])/\Below w.heap.size w w')∨
 (kC n l=false/\e=.returned (.tuple #[.pointer (some ⟨w.heap.size+1,0,none⟩),.int .i64 0])/\∃ M,ZH w w' l l.length M)
theorem Rb (n:Int) (l:List aD) (a:Option Addr) (c:Nat) (w:World) (hs:cB w a l.length 6 (iX l)) (h1:1<=n) (h2:n<=16) (h3:l.length<=1000) (hwf:∀ x∈l,(Lit.int .i64 x.thread).wf=true) :
  Calls Tryz.prog 31 #[.int .i64 n,.slice a l.length c] w λe w'=>Mk n l w e w':=by
 have Hs:=Lib.hid hs;have Hwf:=Lib.hid hwf;clear hs hwf
 have hmm:=@run_makeMap Tryz.prog
 obtain⟨i0,hi,hz0,hz1,hz2⟩:=info_parts Dk
 go_enter Tryz.func31,Tryz.ntmps31
 go_wp2
 go_loopw [7,8,27] (λ_ _ i wr=>∃ k M,k<=l.length/\i=.int .i64 (k:Nat)/\ZH w wr l k M/\Hid (∀ j,(h:j<k)->(hl:j<l.length)->BU n l[j]=false)) (λ_ _ i _=>l.length - (intOf i).toNat)
 case atStart=>
  refine⟨0,λ_=>.slice none 0 0,Nat.zero_le _,rfl,⟨?_,?_,λp=>World.ownsRow_nil _ _ _ _,λ_ _ _=>.inl rfl,Gr.alloc (Gr.new _ _) _⟩,λj h=>absurd h (Nat.not_lt_zero j)⟩
  ·have:=heap_alloc_new (w.alloc (.map #[] 0)) (.cells #[.map (some w.heap.size),.int .i64 (l.length:Int)] 120 (0,0))
   simpa using this
  ·exact MapAt.block (MapAt.made w) (Below.heap_alloc _ _ _ (by simp))
 case round=>
  obtain⟨k,M,hk,rfl,hst,hok⟩:=hrel
  by_cases hlt:k<l.length
  ·obtain⟨b,off,rfl,c0,c1,c2,c3,c4,c5⟩:=xY Hs.out hst.below hlt
   obtain⟨t,ht⟩:∃ t,t=l[k].thread:=⟨_,rfl⟩
   rw [<-ht] at c0
   have htw:(Lit.int .i64 t).wf=true:=by rw [ht];exact Hwf.out _ (List.getElem_mem hlt)
   have Ht:=Lib.hid ht
   have hany:t<0∨n<=t->kC n l=true:=λh=>by unfold kC;exact List.any_eq_true.2 ⟨l[k],List.getElem_mem hlt,by unfold BU;rw [<-Ht.out];simpa using h⟩
   clear ht
   by_cases hb1:t<0
   ·have Hany:=Lib.hid (hany (.inl hb1));clear hany
    go_wp2
    go_ret2
    exact .inl ⟨Hany.out,rfl,hst.below.alloc hst.below.size _⟩
   by_cases hb2:n<=t
   ·have Hany:=Lib.hid (hany (.inr hb2));clear hany
    go_wp2
    go_ret2
    exact .inl ⟨Hany.out,rfl,hst.below.alloc hst.below.size _⟩
   ·clear hany
    have hln:=hst.line
    have Un:wr.cell? ⟨w.heap.size+1,0,none⟩=some (.map (some w.heap.size)):=by rw [aA hln];rfl
    have hlk:=hst.map.look htw
    have Hln:=Lib.hid hln;have Hlk:=Lib.hid hlk;clear hln hlk
    go_wp2
    obtain⟨C,hC⟩:∃ C:Array Value,C=#[.int .i64 t,.int .i64 l[k].obj,.int .i64 l[k].kind,.int .u64 (l[k].a:Int),.int .u64 (l[k].b:Int),.int .u64 (l[k].c:Int)]:=⟨_,rfl⟩
    rw [<-hC]
    have hC0:C[0]?=some (.int .i64 t):=by rw [hC];rfl
    clear hC c0 c1 c2 c3 c4 c5
    obtain⟨wb,hwb⟩:∃ wb,wb=wr.alloc (.cells C 48):=⟨_,rfl⟩
    have g1:wb.cell? ⟨w.heap.size+1,0,none⟩=some (.map (some w.heap.size)):=by rw [hwb,(Gr.new wr _).cell (aC Hln.out)];exact Un
    have g2:wb.cell? ⟨wr.heap.size,0,none⟩=some (.int .i64 t):=by rw [hwb,iI];exact hC0
    have hgr:Below wr.heap.size wr wb:=by rw [hwb];exact Gr.new _ _
    have hsz:wr.heap.size<wb.heap.size:=by rw [hwb];simp
    rw [<-hwb]
    clear hwb Un hC0
    have hmap:MapAt wb w.heap.size k M:=hst.map.block (hgr.block _ hst.map.lt)
    have hrow:∀ p,wb.ownsRow w.heap.size 3 1 (M p) (qOf l k p).length ((qOf l k p).map gD):=λp=>dV (hst.rows p) hgr
    have Hmap:=Lib.hid hmap;have Hrow:=Lib.hid hrow
    refine bU (λx=>x.cell? ⟨w.heap.size+1,0,none⟩=some (.map (some w.heap.size))/\x.cell? ⟨wr.heap.size,0,none⟩=some (.int .i64 t)/\(Instr.lookup 118 (.map (some w.heap.size)) (.int .i64 t) false).run Tryz.prog x=.ok (M t) x) 16 (by kernel_rfl) ⟨g1,g2,(MapAt.block (w':=wb.drew) hmap rfl).look htw⟩ ?_
    intro hS hcl
    clear hmap hrow g1 g2
    refine aZ (i:=0) (v:=(.pointer (some ⟨w.heap.size+1,0,none⟩))) 17 rfl (by kernel_rfl) (by kernel_rfl) (by kernel_rfl) (by kernel_rfl) (by kernel_rfl) hcl (λ_ _ _ h=>h) (Or.inl ⟨by rfl,?_⟩) hS ?_
    ·intro x hx;obtain⟨hx1,hx2,hx3⟩:=hx;go_simp
    clear hcl;intro hcl
    simp only [Act.put,zq4,zq5,zq6]
    refine aZ (i:=1) (v:=(.pointer (some ⟨w.heap.size+1,0,none⟩))) 17 rfl (by kernel_rfl) (by kernel_rfl) (by kernel_rfl) (by kernel_rfl) (by kernel_rfl) hcl (λ_ _ _ h=>h) (Or.inl ⟨by rfl,?_⟩) hS ?_
    ·intro x hx;obtain⟨hx1,hx2,hx3⟩:=hx;go_simp
    clear hcl;intro hcl
    simp only [Act.put,zq4,zq5,zq6]
    refine aZ (i:=2) (v:=(.pointer (some ⟨w.heap.size+1,0,none⟩))) 17 rfl (by kernel_rfl) (by kernel_rfl) (by kernel_rfl) (by kernel_rfl) (by kernel_rfl) hcl (λ_ _ _ h=>h) (Or.inl ⟨by rfl,?_⟩) hS ?_
    ·intro x hx;obtain⟨hx1,hx2,hx3⟩:=hx;go_simp
    clear hcl;intro hcl
    simp only [Act.put,zq4,zq5,zq6]
    refine aZ (i:=3) (v:=(.map (some w.heap.size))) 17 rfl (by kernel_rfl) (by kernel_rfl) (by kernel_rfl) (by kernel_rfl) (by kernel_rfl) hcl (λ_ _ _ h=>h) (Or.inl ⟨by rfl,?_⟩) hS ?_
    ·intro x hx;obtain⟨hx1,hx2,hx3⟩:=hx;go_simp
    clear hcl;intro hcl
    simp only [Act.put,zq4,zq5,zq6]
    refine aZ (i:=4) (v:=(.pointer (some ⟨wr.heap.size,0,none⟩))) 17 rfl (by kernel_rfl) (by kernel_rfl) (by kernel_rfl) (by kernel_rfl) (by kernel_rfl) hcl (λ_ _ _ h=>h) (Or.inl ⟨by rfl,?_⟩) hS ?_
    ·intro x hx;obtain⟨hx1,hx2,hx3⟩:=hx;go_simp
    clear hcl;intro hcl
    simp only [Act.put,zq4,zq5,zq6]
    refine aZ (i:=5) (v:=(.int .i64 t)) 17 rfl (by kernel_rfl) (by kernel_rfl) (by kernel_rfl) (by kernel_rfl) (by kernel_rfl) hcl (λ_ _ _ h=>h) (Or.inl ⟨by rfl,?_⟩) hS ?_
    ·intro x hx;obtain⟨hx1,hx2,hx3⟩:=hx;go_simp
    clear hcl;intro hcl
    simp only [Act.put,zq4,zq5,zq6]
    refine aZ (i:=6) (v:=(.pointer (some ⟨w.heap.size+1,0,none⟩))) 17 rfl (by kernel_rfl) (by kernel_rfl) (by kernel_rfl) (by kernel_rfl) (by kernel_rfl) hcl (λ_ _ _ h=>h) (Or.inl ⟨by rfl,?_⟩) hS ?_
    ·intro x hx;obtain⟨hx1,hx2,hx3⟩:=hx;go_simp
    clear hcl;intro hcl
    simp only [Act.put,zq4,zq5,zq6]
    refine aZ (i:=7) (v:=(.pointer (some ⟨w.heap.size+1,0,none⟩))) 17 rfl (by kernel_rfl) (by kernel_rfl) (by kernel_rfl) (by kernel_rfl) (by kernel_rfl) hcl (λ_ _ _ h=>h) (Or.inl ⟨by rfl,?_⟩) hS ?_
    ·intro x hx;obtain⟨hx1,hx2,hx3⟩:=hx;go_simp
    clear hcl;intro hcl
    simp only [Act.put,zq4,zq5,zq6]
    refine aZ (i:=8) (v:=(.pointer (some ⟨w.heap.size+1,0,none⟩))) 17 rfl (by kernel_rfl) (by kernel_rfl) (by kernel_rfl) (by kernel_rfl) (by kernel_rfl) hcl (λ_ _ _ h=>h) (Or.inl ⟨by rfl,?_⟩) hS ?_
    ·intro x hx;obtain⟨hx1,hx2,hx3⟩:=hx;go_simp
    clear hcl;intro hcl
    simp only [Act.put,zq4,zq5,zq6]
    refine aZ (i:=9) (v:=(.map (some w.heap.size))) 17 rfl (by kernel_rfl) (by kernel_rfl) (by kernel_rfl) (by kernel_rfl) (by kernel_rfl) hcl (λ_ _ _ h=>h) (Or.inl ⟨by rfl,?_⟩) hS ?_
    ·intro x hx;obtain⟨hx1,hx2,hx3⟩:=hx;go_simp
    clear hcl;intro hcl
    simp only [Act.put,zq4,zq5,zq6]
    refine aZ (i:=10) (v:=(.pointer (some ⟨wr.heap.size,0,none⟩))) 17 rfl (by kernel_rfl) (by kernel_rfl) (by kernel_rfl) (by kernel_rfl) (by kernel_rfl) hcl (λ_ _ _ h=>h) (Or.inl ⟨by rfl,?_⟩) hS ?_
    ·intro x hx;obtain⟨hx1,hx2,hx3⟩:=hx;go_simp
    clear hcl;intro hcl
    simp only [Act.put,zq4,zq5,zq6]
    refine aZ (i:=11) (v:=(.int .i64 t)) 17 rfl (by kernel_rfl) (by kernel_rfl) (by kernel_rfl) (by kernel_rfl) (by kernel_rfl) hcl (λ_ _ _ h=>h) (Or.inl ⟨by rfl,?_⟩) hS ?_
    ·intro x hx;obtain⟨hx1,hx2,hx3⟩:=hx;go_simp
    clear hcl;intro hcl
    simp only [Act.put,zq4,zq5,zq6]
    refine aZ (i:=12) (v:=(M t)) 17 rfl (by kernel_rfl) (by kernel_rfl) (by kernel_rfl) (by kernel_rfl) (by kernel_rfl) hcl (λ_ _ _ h=>h) (Or.inl ⟨by rfl,?_⟩) hS ?_
    ·intro x hx;obtain⟨hx1,hx2,hx3⟩:=hx;go_simp
    clear hcl;intro hcl
    simp only [Act.put,zq4,zq5,zq6]
    refine aZ (i:=13) (v:=(.int .i64 (k:Int))) 17 rfl (by kernel_rfl) (by kernel_rfl) (by kernel_rfl) (by kernel_rfl) (by kernel_rfl) hcl (λ_ _ _ h=>h) (Or.inl ⟨by rfl,?_⟩) hS ?_
    ·intro x hx;obtain⟨hx1,hx2,hx3⟩:=hx;go_simp
    clear hcl;intro hcl
    simp only [Act.put,zq4,zq5,zq6]
    refine aL (i:=14) (by kernel_rfl) rfl hcl (λK' hK=>?_)
    have HK:=Lib.hid hK;clear hK
    go_simp
    have l1:w.heap.size+1<wb.heap.size:=World.block_lt_of_cell? _ _ hS.1
    have l2:=hst.below.size
    have hgd:Below wb.heap.size wb (wb.alloc (.cells #[.int .i64 (k:Int)] 3)).drew:=(Gr.new wb _).drew
    have s1:(wb.alloc (.cells #[.int .i64 (k:Int)] 3)).drew.cell? ⟨w.heap.size+1,0,none⟩=some (.map (some w.heap.size)):=by rw [hgd.cell l1];exact hS.1
    have s2:(wb.alloc (.cells #[.int .i64 (k:Int)] 3)).drew.cell? ⟨wr.heap.size,0,none⟩=some (.int .i64 t):=by rw [hgd.cell hsz];exact hS.2.1
    refine HK.out _ _ (λ_=>⟨s1,s2,(MapAt.block (w:=wb) Hmap.out (hgd.block _ Hmap.out.lt)).look htw⟩) (λhcl=>?_)
    clear HK
    have ol:(qOf l k t).length<=k:=ZI _ _ _
    refine aL (i:=15) (by kernel_rfl) rfl hcl (λK' hK=>?_)
    have HK:=Lib.hid hK;clear hK
    refine step_append_lies _ rfl (.tmp 53) (.tmp 55) 24 rfl w.heap.size 3 i0 (.int .i64 0) 1 8 Tryz.underlying24 hi hz0 hz1 hz2 rfl (by decide) (M t) _ _ rfl (((Hrow.out t).alloc _).drew)
      ⟨wb.heap.size,0,none⟩ 1 1 [.int .i64 (k:Int)] rfl rfl (World.news_of_block (cs:=#[.int .i64 (k:Int)]) (t:=3) (fr:=(0,0)) (heap_alloc_new wb _)) (by simp [Value.oneCell'])
      (by omega) (by unfold maxLen;omega) (by omega) (by simp;omega) (wb.heap.size+1) (by simp) ?_
    intro gg cap w3 hown hgrow hat hltg
    have Kt:MapAt w3 w.heap.size k M:=MapAt.block (w:=wb) Hmap.out ((hgrow.block _ (by simp;have:=Hmap.out.lt;omega) (λe=>by
     have h1:=(Hrow.out t).lt _ e.symm
     obtain⟨D,⟨es,clock,h2,_⟩,_⟩:=Hmap.out
     obtain⟨_,h3⟩:=Hrow.out t
     rcases h3 with⟨h3,_⟩|⟨g,cap',cur,h3,_,h4,_⟩
     ·rw [h3] at e;cases e
     ·rw [h3] at e;simp only [Value.ownBlock,Option.some.injEq] at e;rw [<-e,h2] at h4;cases h4)).trans (hgd.block _ Hmap.out.lt))
    have Mi:w3.heap[w.heap.size+1]?=some (.cells #[.map (some w.heap.size),.int .i64 (l.length:Int)] 120 (0,0)):=by
     rw [hgrow.block _ (by simp;omega) (λe=>by
      obtain⟨_,h3⟩:=Hrow.out t
      rcases h3 with⟨h3,_⟩|⟨g,cap',cur,h3,_,h4,_⟩
      ·rw [h3] at e;cases e
      ·rw [h3] at e
       simp only [Value.ownBlock,Option.some.injEq] at e
       rw [<-e,hgr.block _ (aC Hln.out),Hln.out] at h4
       simp at h4),hgd.block _ l1,hgr.block _ (aC Hln.out)]
     exact Hln.out
    have s3:w3.cell? ⟨w.heap.size+1,0,none⟩=some (.map (some w.heap.size)):=by rw [aA Mi];rfl
    have s4:w3.cell? ⟨wr.heap.size,0,none⟩=some (.int .i64 t):=by
     rw [hgrow.cell_far _ (by simp;omega) (λe=>by have h1:=(Hrow.out t).lt _ e.symm;have h2:=(hst.rows t).lt _ e.symm;simp at h2),s2]
    refine HK.out _ _ (λ_=>⟨s3,s4,Kt.look htw⟩) (λhcl=>?_)
    clear HK
    refine aL (i:=16) (by kernel_rfl) rfl hcl (λK' hK=>?_)
    have HK:=Lib.hid hK;clear hK
    refine CE _ rfl (.tmp 44) (.tmp 46) (.tmp 56) rfl w.heap.size k M rfl Kt (by unfold maxLen;omega) t _ rfl rfl htw ?_
    intro w4 Om NV
    refine HK.out _ _ (λh=>by cases h.symm.trans (by kernel_rfl:_=true)) (λ_=>bV (by kernel_rfl) ?_ _)
    clear HK
    have hb3:Below w.heap.size w w3:=(((hst.below.trans (hgr.mono l2)).trans (hgd.mono (by omega))).grown hgrow (by simp;omega) (λq hq=>((Hrow.out t).lt q hq).1))
    have hb4:Below w.heap.size w w4:=hb3.grown NV hb3.size (λq hq=>by cases hq;exact Nat.le_refl _)
    have hq1:qOf l (k+1) t=qOf l k t++[k]:=by
     rw [WI,List.getD_eq_getElem?_getD]
     simp [hlt,<-Ht.out]
    have hq2:∀ p,p≠t->qOf l (k+1) p=qOf l k p:=λp hp=>by
     rw [WI,List.getD_eq_getElem?_getD]
     simp [hlt,<-Ht.out,Ne.symm hp]
    have hnb:(M t).ownBlock≠some w.heap.size:=λe=>by
     obtain⟨D,⟨es,clock,h2,_⟩,_⟩:=Hmap.out
     obtain⟨_,h3⟩:=Hrow.out t
     rcases h3 with⟨h3,_⟩|⟨g,cap',cur,h3,_,h4,_⟩
     ·rw [h3] at e;cases e
     ·rw [h3] at e;simp only [Value.ownBlock,Option.some.injEq] at e;rw [e,h2] at h4;cases h4
    have hgg:gg≠w.heap.size:=by rcases hat with h|h;rintro rfl;exact hnb h;omega
    have Wu:ZH w w4 l (k+1) (upd M t (.slice (some ⟨gg,0,none⟩) ((qOf l k t).length+1) cap)):=by
     refine⟨?_,Om,λp=>?_,λp p' hp=>?_,hb4⟩
     ·rw [NV.block _ (aC Mi) (by simp)];exact Mi
     ·by_cases hp:p=t
      ·subst hp
       rw [upd_same,hq1]
       have h5:=hown.kept NV (.inr (by simpa [Value.ownBlock] using hgg))
       simpa [gD] using h5
      ·rw [lK _ _ hp,hq2 p hp]
       have h5:=(((Hrow.out p).alloc (.cells #[.int .i64 (k:Int)] 3)).drew.kept hgrow (hst.apart p t hp)).kept NV (by
        rcases Option.eq_none_or_eq_some (M p).ownBlock with h6|⟨g,h6⟩
        ·exact .inl h6
        ·right
         intro h7
         obtain⟨D,⟨es,clock,h2,_⟩,_⟩:=Hmap.out
         obtain⟨_,h3⟩:=Hrow.out p
         rcases h3 with⟨h3,_⟩|⟨g',cap',cur,h3,_,h4,_⟩
         ·rw [h3] at h7;cases h7
         ·rw [h3] at h7;simp only [Value.ownBlock,Option.some.injEq] at h7;rw [h7,h2] at h4;cases h4)
       exact h5
     ·have fresh:∀ p,p≠t->(M p).ownBlock=none∨(M p).ownBlock≠some gg:=λp hp=>by
       rcases hat with h|h
       ·rw [<-h];exact hst.apart p t hp
       ·right;intro h6;have:=((Hrow.out p).lt gg h6).2;omega
      by_cases hpt:p=t
      ·subst hpt
       rw [upd_same,lK _ _ hp.symm]
       right
       intro h6
       rcases fresh p' hp.symm with h7|h7
       ·rw [h7] at h6;cases h6
       ·exact h7 h6.symm
      ·rw [lK _ _ hpt]
       by_cases hpt':p'=t
       ·subst hpt'
        rw [upd_same]
        exact fresh p hpt
       ·rw [lK _ _ hpt']
        exact hst.apart p p' hp
    have hok':∀ j,(h:j<k+1)->(hl:j<l.length)->BU n l[j]=false:=λj h hl=>by
     rcases Nat.lt_succ_iff_lt_or_eq.1 h with h|rfl
     ·exact hok.out j h hl
     ·unfold BU;rw [<-Ht.out];simp;omega
    have Hst:=Lib.hid Wu;have Hok:=Lib.hid hok'
    clear Wu hok' Om Kt Mi s1 s2 s3 s4 hS hown hgrow NV hat hq2 hcl
    go_wp2
    go_roundw
    case rel=>exact⟨k+1,_,by omega,by go_num,Hst.out,Hok.out⟩
    case measure=>simp [intOf]<;>omega
  ·obtain rfl:k=l.length:=by omega
   go_wp2
   go_ret2
   have hno:kC n l=false:=by
    unfold kC
    rw [List.any_eq_false]
    intro x hx
    obtain⟨j,hj,rfl⟩:=List.getElem_of_mem hx
    have:=hok.out j hj hj
    simp [this]
   exact .inr ⟨hno,rfl,M,hst⟩
end
section
open Go.RowKit
def Bv (x:Int):Value:=.int .i64 x
structure iZ where
 thread:Int
 inv:Int
 got:List Nat
 ticks:List Int
 at_:Nat
 fresh:Bool
 halt:Bool
 priv:Value
 err:Int
 val:Nat
 list:Value
 key:Value
structure wM where
 tb:Nat
 pre:List Value
 post:List Value
 T:TypeId
 bW:Nat
 bw:Option Nat
 mks:Value
 trs:Value
def iH (bW:Nat) (G K:Value) (t:iZ):List Value:=
 [.pointer (some ⟨bW,0,none⟩),.int .i64 t.thread,.int .i64 t.inv,G,K,.int .i64 (t.at_:Int),.bool t.fresh,.bool t.halt,t.priv,.int .i64 t.err,.int .u64 (t.val:Int),t.list,t.key]
structure dE (w:World) (I:wM) (G K L:Value) (t:iZ) (m:dR) (now:Nat):Prop where
 blk:w.heap[I.tb]?=some (.cells (I.pre++(iH I.bW G K t++I.post)).toArray I.T (0,0))
 mem:fP w I.bW 93 [.int .i64 (now:Int),I.mks,I.trs,L] I.bw m
 got:w.ownsRow 0 46 1 G t.got.length (t.got.map bI)
 ticks:w.ownsRow 0 3 1 K t.ticks.length (t.ticks.map Bv)
 log:∃ n xs,n<=m.c.all/\w.ownsRow 0 212 6 L n xs
 typ:I.T≠46/\I.T≠3/\I.T≠212/\I.T≠93
 sep:∀ q,I.bw=some q->q≠I.tb/\G.ownBlock≠some q/\K.ownBlock≠some q/\L.ownBlock≠some q
 glen:t.got.length<=100000000
 klen:t.ticks.length<=100000000
def AO (I:wM) (G K L:Value) (k:Nat):Prop:=k=I.tb∨k=I.bW∨I.bw=some k∨G.ownBlock=some k∨K.ownBlock=some k∨L.ownBlock=some k
def dY (w:World) (V V':Value):Prop:=∀ b,V'.ownBlock=some b->V.ownBlock=some b∨w.heap.size<=b
structure jF (w w':World) (I:wM) (G K L G' K' L':Value):Prop where
 chg:Chg (AO I G K L) w w'
 kg:dY w G G'
 kk:dY w K K'
 kl:dY w L L'
theorem dY.refl (w:World) (V:Value):dY w V V:=λ_ h=>.inl h
theorem dY.trans {w w1:World} {V V1 V2:Value} (h:dY w V V1) (h1:dY w1 V1 V2) (hs:w.heap.size<=w1.heap.size):dY w V V2:=λb hb=>by
 rcases h1 b hb with h9|h9
 ·exact h b h9
 ·exact .inr (by omega)
theorem xZ {S S1:Nat->Prop} {a b c:World} (h:Chg S a b) (k:Chg S1 b c) (hs:∀ x,x<a.heap.size->S1 x->S x):Chg S a c:=
 ⟨k.os.trans h.os,k.tape.trans h.tape,k.output.trans h.output,Nat.le_trans h.size k.size,λi hi hn=>(k.block i (Nat.lt_of_lt_of_le hi h.size) (λx=>hn (hs i hi x))).trans (h.block i hi hn)⟩
theorem jF.refl (w:World) (I:wM) (G K L:Value):jF w w I G K L G K L:=⟨Chg.refl _ _,dY.refl _ _,dY.refl _ _,dY.refl _ _⟩
theorem jF.trans {w w1 w2:World} {I:wM} {G K L G1 K1 L1 G2 K2 L2:Value} (h:jF w w1 I G K L G1 K1 L1) (h1:jF w1 w2 I G1 K1 L1 G2 K2 L2):jF w w2 I G K L G2 K2 L2:=by
 refine⟨xZ h.chg h1.chg (λx hx hs=>?_),h.kg.trans h1.kg h.chg.size,h.kk.trans h1.kk h.chg.size,h.kl.trans h1.kl h.chg.size⟩
 rcases hs with e|e|e|e|e|e
 ·exact .inl e
 ·exact .inr (.inl e)
 ·exact .inr (.inr (.inl e))
 ·rcases h.kg x e with h9|h9
  ·exact .inr (.inr (.inr (.inl h9)))
  ·omega
 ·rcases h.kk x e with h9|h9
  ·exact .inr (.inr (.inr (.inr (.inl h9))))
  ·omega
 ·rcases h.kl x e with h9|h9
  ·exact .inr (.inr (.inr (.inr (.inr h9))))
  ·omega
theorem gG {w:World} {B:Nat} {e:TypeId} {k n:Nat} {V:Value} {xs:List Value} (h:w.ownsRow B e k V n xs) {b:Nat} (hb:V.ownBlock=some b):∃ cs fz,w.heap[b]?=some (.cells cs e fz):=by
 obtain⟨_,h2⟩:=h
 rcases h2 with⟨rfl,_⟩|⟨g,cap,cur,rfl,_,hh,_⟩
 ·cases hb
 ·cases hb;exact⟨_,_,hh⟩
theorem dJ {w:World} {B:Nat} {e T:TypeId} {k n b:Nat} {V:Value} {xs:List Value} {cs:Array Value} {fz:Nat×Nat} (h:w.ownsRow B e k V n xs) (hb:w.heap[b]?=some (.cells cs T fz)) (hT:T≠e):V.ownBlock≠some b:=λe9=>by
 obtain⟨cs',fz',h'⟩:=gG h e9
 rw [hb] at h'
 simp only [Option.some.injEq,Obj.cells.injEq] at h'
 exact hT h'.2.1
theorem zX {w:World} {B B':Nat} {e e':TypeId} {k k' n n' b:Nat} {V V':Value} {xs xs':List Value} (h:w.ownsRow B e k V n xs) (h':w.ownsRow B' e' k' V' n' xs') (hT:e'≠e) (hb:V'.ownBlock=some b):V.ownBlock≠some b:=by
 obtain⟨cs',fz',h9⟩:=gG h' hb
 exact dJ h h9 hT
theorem fP.wld {w:World} {b:Nat} {T:TypeId} {tail:List Value} {bw:Option Nat} {m:dR} (h:fP w b T tail bw m):∃ wa cap,JK wa m.ws.length cap/\w.heap[b]?=some (.cells (eQ wa m.ws.length cap m.c tail) T (0,0))/\cB w wa m.ws.length 1 (fE m.ws)/\(∀ q off,wa=some ⟨q,off,none⟩->0<m.ws.length->off=0/\bw=some q):=by
 obtain⟨wa,cap,hl,hb,hw⟩:=h.blk
 have hlen:=h.len
 refine⟨wa,cap,hl,hb,⟨by unfold maxLen;omega,λj hj=>?_⟩,λq off e hp=>?_⟩
 ·obtain⟨q,rest,hq,ha,hr⟩:=hw (by omega)
  refine⟨q,0,ha,h.low q hq,λf hf=>?_⟩
  obtain rfl:f=0:=by omega
  rw [aA hr]
  simp [fE,bI,List.getD_eq_getElem?_getD,hj,List.getElem?_append]
 ·obtain⟨q',rest,hq,ha,hr⟩:=hw hp
  rw [ha] at e
  cases e
  exact⟨rfl,hq⟩
theorem fP.tail {w:World} {b:Nat} {T:TypeId} {tail:List Value} {bw:Option Nat} {m:dR} (h:fP w b T tail bw m) (i:Nat) (v:Value):fP (w.setCell ⟨b,6+i,none⟩ v) b T (tail.set i v) bw m:=by
 obtain⟨wa,cap,hl,hb,hw⟩:=h.blk
 refine⟨⟨wa,cap,hl,?_,λhp=>?_⟩,h.apart,λq e=>by have:=h.low q e;simpa [World.setCell] using this,h.len,h.cnt,h.val⟩
 ·rw [aG hb]
  congr 2
  unfold eQ
  rw [show 6+i=i+6 by omega]
  simp [List.set]
 ·obtain⟨q,rest,hq,ha,hr⟩:=hw hp
  exact⟨q,rest,hq,ha,by rw [aH (by rintro rfl;exact h.apart hq)];exact hr⟩
theorem fG {pre X post:List Value} {i:Nat} (hi:i<X.length):(pre++(X++post)).toArray[pre.length+i]?=X[i]?:=by
 simp only [List.getElem?_toArray]
 rw [List.getElem?_append_right (by omega),Nat.add_sub_cancel_left,List.getElem?_append_left hi]
theorem Al {pre X post:List Value} {i:Nat} (hi:i<X.length) (v:Value):(pre++(X++post)).toArray.setIfInBounds (pre.length+i) v=(pre++(X.set i v++post)).toArray:=by
 rw [zq4,List.set_append_right _ _ (by omega),Nat.add_sub_cancel_left,List.set_append_left _ _ hi]
theorem dE.cell {w:World} {I:wM} {G K L:Value} {t:iZ} {m:dR} {now:Nat} (h:dE w I G K L t m now) {i:Nat} (hi:i<13):w.cell? ⟨I.tb,I.pre.length+i,none⟩=(iH I.bW G K t)[i]?:=by
 rw [aA h.blk];exact fG hi
theorem dE.cell0 {w:World} {I:wM} {G K L:Value} {t:iZ} {m:dR} {now:Nat} (h:dE w I G K L t m now):w.cell? ⟨I.tb,I.pre.length,none⟩=some (.pointer (some ⟨I.bW,0,none⟩)):=h.cell (i:=0) (by omega)
theorem MJ {w:World} {I:wM} {G K:Value} {t:iZ} (h:w.heap[I.tb]?=some (.cells (I.pre++(iH I.bW G K t++I.post)).toArray I.T (0,0))) {i:Nat} (hi:i<13) (v:Value) {G' K':Value} {t':iZ} (hv:(iH I.bW G K t).set i v=iH I.bW G' K' t') :
  (w.setCell ⟨I.tb,I.pre.length+i,none⟩ v).heap[I.tb]?=some (.cells (I.pre++(iH I.bW G' K' t'++I.post)).toArray I.T (0,0)):=by
 rw [aG h,Al (by exact hi),hv]
theorem dE.chg {S:Nat->Prop} {w w':World} {I:wM} {G K L:Value} {t:iZ} {m:dR} {now:Nat} (h:dE w I G K L t m now) (hc:Chg S w w') (hs:∀ k,AO I G K L k->¬ S k):dE w' I G K L t m now:=by
 obtain⟨n,xs,hn,hl⟩:=h.log
 refine⟨(hc.block _ (aC h.blk) (hs _ (.inl rfl))).trans h.blk,h.mem.chg hc (hs _ (.inr (.inl rfl))) (λq e=>hs q (.inr (.inr (.inl e)))),?_,?_,⟨n,xs,hn,?_⟩,h.typ,h.sep,h.glen,h.klen⟩
 ·exact bB h.got hc (λb e=>hs b (.inr (.inr (.inr (.inl e)))))
 ·exact bB h.ticks hc (λb e=>hs b (.inr (.inr (.inr (.inr (.inl e))))))
 ·exact bB hl hc (λb e=>hs b (.inr (.inr (.inr (.inr (.inr e))))))
theorem dE.put {w:World} {I:wM} {G K L:Value} {t:iZ} {m:dR} {now:Nat} (h:dE w I G K L t m now) {i:Nat} (hi:i<13) (v:Value) {t':iZ} (hv:(iH I.bW G K t).set i v=iH I.bW G K t') (hg:t'.got=t.got) (hk:t'.ticks=t.ticks) :
  dE (w.setCell ⟨I.tb,I.pre.length+i,none⟩ v) I G K L t' m now/\jF w (w.setCell ⟨I.tb,I.pre.length+i,none⟩ v) I G K L G K L:=by
 have hc:Chg (λk=>k=I.tb) w (w.setCell ⟨I.tb,I.pre.length+i,none⟩ v):=(Chg.refl (λk=>k=I.tb) w).setCell (p:=⟨I.tb,I.pre.length+i,none⟩) (.inl rfl) v
 obtain⟨n,xs,hn,hl⟩:=h.log
 obtain⟨t1,t2,t3,t4⟩:=h.typ
 obtain⟨wa,cap,_,hb,_⟩:=h.mem.blk
 have hne:I.tb≠I.bW:=λe=>by
  have h1:=h.blk;rw [e,hb] at h1
  simp only [Option.some.injEq,Obj.cells.injEq] at h1
  exact t4 h1.2.1.symm
 refine⟨⟨MJ h.blk hi v hv,h.mem.chg hc (λe=>hne e.symm) (λq e=>(h.sep q e).1),?_,?_,⟨n,xs,hn,?_⟩,h.typ,h.sep,by rw [hg];exact h.glen,by rw [hk];exact h.klen⟩,⟨hc.mono (λk _ e=>.inl e),dY.refl _ _,dY.refl _ _,dY.refl _ _⟩⟩
 ·rw [hg];exact bB h.got hc (λb e e9=>dJ h.got h.blk t1 (e9 ▸ e))
 ·rw [hk];exact bB h.ticks hc (λb e e9=>dJ h.ticks h.blk t2 (e9 ▸ e))
 ·exact bB hl hc (λb e e9=>dJ hl h.blk t3 (e9 ▸ e))
end
section
open Go.RowKit
structure wD (w:World) where
 u:World
 below:Below w.heap.size w u
instance Bp (w:World):Nonempty (wD w):=⟨⟨w,Below.refl _ _⟩⟩
theorem bN {P:Program} {id:Nat} {Q:Exit->Act->World->Prop} {a:Act} {w:World} {l:List Oper} (hm:P.follows .mixedOrders=true) (hB:Region.lexB .any l.toArray=true)
  (h:wpQuiet P l.toArray (λw'=>∃ n:wD w,w'=n.u) (λa'=>∀ w',(∃ n:wD w,w'=n.u)->Q .normal a' w') l a):(Code.region id l.toArray true).wp P Q a w:=
 wp_region_quiet (C:=λw'=>∃ n:wD w,w'=n.u) hm hB ⟨⟨_,(Below.refl w.heap.size w).drew⟩,rfl⟩ (by simpa using h)
theorem aT {w:World} {p:Addr} {v:Value} (h:w.cell? p=some v):∀ n:wD w,n.u.cell? p=some v:=λn=>(n.below.cell (World.block_lt_of_cell? _ _ h)).trans h
theorem Pt {P:Program} {f:FuncId} {args:Array Value} {w:World} {n:wD w} {v:Value}
  (h:Calls P f args n.u λe w'=>e=.returned v/\Below n.u.heap.size n.u w'):Calls P f args n.u λe w''=>e=.returned v/\∃ m:wD w,w''=m.u:=
 h.mono λ_ w' ⟨he,hb⟩=>⟨he,⟨w',Gr.trans n.below hb⟩,rfl⟩
end
section
open Go.RowKit
def Ny (t:iZ) (v now:Nat):iZ:={ t with got:=t.got++[v],ticks:=t.ticks++[(now:Int)],at_:=t.at_+1,fresh:=false }
def CZ (w w':World) (I:wM) (G K L:Value) (t':iZ) (m':dR) (now:Nat):Prop:=∃ G' K' L',dE w' I G' K' L' t' m' now/\jF w w' I G K L G' K' L'
theorem dE.acc {w w1:World} {I:wM} {G K L:Value} {t:iZ} {m m1:dR} {now:Nat} (h:dE w I G K L t m now) (hm:fP w1 I.bW 93 [.int .i64 (now:Int),I.mks,I.trs,L] I.bw m1) (hc:Chg (bY I.bW I.bw) w w1) (hle:m.c.all<=m1.c.all) :
  dE w1 I G K L t m1 now/\jF w w1 I G K L G K L:=by
 obtain⟨n,xs,hn,hl⟩:=h.log
 obtain⟨t1,t2,t3,t4⟩:=h.typ
 obtain⟨wa,cap,_,hb,_⟩:=h.mem.blk
 have hne:I.tb≠I.bW:=λe=>by
  have h1:=h.blk;rw [e,hb] at h1
  simp only [Option.some.injEq,Obj.cells.injEq] at h1
  exact t4 h1.2.1.symm
 have row:∀ {e:TypeId} {k n:Nat} {V:Value} {xs:List Value},w.ownsRow 0 e k V n xs->93≠e->(∀ q,I.bw=some q->V.ownBlock≠some q)->w1.ownsRow 0 e k V n xs:=λh1 hT hq=>bB h1 hc (λb e hs=>by
  rcases hs with rfl|hs
  ·exact dJ h1 hb hT e
  ·exact hq b hs.symm e)
 refine⟨⟨(hc.block _ (aC h.blk) (λhs=>by
   rcases hs with e|e
   ·exact hne e
   ·exact(h.sep _ e.symm).1 rfl)).trans h.blk,hm,row h.got (by decide) (λq e=>(h.sep q e).2.1),row h.ticks (by decide) (λq e=>(h.sep q e).2.2.1),⟨n,xs,Nat.le_trans hn hle,row hl (by decide) (λq e=>(h.sep q e).2.2.2)⟩,h.typ,h.sep,h.glen,h.klen⟩,
  ⟨hc.mono (λk _ hs=>by
   rcases hs with e|e
   ·exact .inr (.inl e)
   ·exact .inr (.inr (.inl e.symm))),dY.refl _ _,dY.refl _ _,dY.refl _ _⟩⟩
theorem dE.ne {w:World} {I:wM} {G K L:Value} {t:iZ} {m:dR} {now:Nat} (h:dE w I G K L t m now):I.tb≠I.bW:=λe=>by
 obtain⟨wa,cap,_,hb,_⟩:=h.mem.blk
 have h1:=h.blk;rw [e,hb] at h1
 simp only [Option.some.injEq,Obj.cells.injEq] at h1
 exact h.typ.2.2.2 h1.2.1.symm
theorem dE.logged {w w1 w2:World} {I:wM} {G K L L':Value} {t:iZ} {m:dR} {now n:Nat} {xs:List Value} (h:dE w I G K L t m now) (hc:Chg (λk=>L.ownBlock=some k) w w1) (hk:dY w L L')
  (hl:w1.ownsRow 0 212 6 L' n xs) (hn:n<=m.c.all) (hw2:w2=w1.setCell ⟨I.bW,9,none⟩ L') :
  dE w2 I G K L' t m now/\jF w w2 I G K L G K L':=by
 obtain⟨n0,Zr,hn0,hl0⟩:=h.log
 obtain⟨t1,t2,t3,t4⟩:=h.typ
 obtain⟨wa,cap,_,hb,_⟩:=h.mem.blk
 have hL:∀ k,L.ownBlock=some k->k≠I.tb/\k≠I.bW/\G.ownBlock≠some k/\K.ownBlock≠some k:=λk e=>⟨λe9=>dJ hl0 h.blk t3 (e9 ▸ e),λe9=>dJ hl0 hb (by decide) (e9 ▸ e),λe9=>zX hl0 h.got (by decide) e9 e,λe9=>zX hl0 h.ticks (by decide) e9 e⟩
 have hL':∀ k,L'.ownBlock=some k->k≠I.bW:=λk e e9=>by
  have:w1.heap[I.bW]?=w.heap[I.bW]?:=hc.block _ (aC hb) (λe=>(hL _ e).2.1 rfl)
  exact dJ hl (this.trans hb) (by decide) (e9 ▸ e)
 have hm1:fP w1 I.bW 93 [.int .i64 (now:Int),I.mks,I.trs,L] I.bw m:=h.mem.chg hc (λe=>(hL _ e).2.1 rfl) (λq e e9=>(h.sep q e).2.2.2 e9)
 have hm2:=hm1.tail 3 L'
 have hcs:Chg (λk=>k=I.bW) w1 w2:=by rw [hw2];exact(Chg.refl (λk=>k=I.bW) w1).setCell (p:=⟨I.bW,9,none⟩) (.inl rfl) _
 have hc2:Chg (λk=>k=I.bW∨L.ownBlock=some k) w w2:=(hc.mono (λk _ e=>.inr e)).trans (hcs.mono (λk _ e=>.inl e))
 rw [<-hw2] at hm2
 refine⟨⟨(hc2.block _ (aC h.blk) (λhs=>by
   rcases hs with e|e
   ·exact h.ne e
   ·exact(hL _ e).1 rfl)).trans h.blk,hm2,?_,?_,⟨n,xs,hn,bB hl hcs (λb e e9=>hL' b e e9)⟩,h.typ,λq e=>?_,h.glen,h.klen⟩,
  ⟨hc2.mono (λk _ hs=>by
   rcases hs with e|e
   ·exact .inr (.inl e)
   ·exact .inr (.inr (.inr (.inr (.inr e))))),dY.refl _ _,dY.refl _ _,hk⟩⟩
 ·exact bB h.got hc2 (λb e hs=>by
   rcases hs with e9|e9
   ·exact dJ h.got hb (by decide) (e9 ▸ e)
   ·exact(hL b e9).2.2.1 e)
 ·exact bB h.ticks hc2 (λb e hs=>by
   rcases hs with e9|e9
   ·exact dJ h.ticks hb (by decide) (e9 ▸ e)
   ·exact(hL b e9).2.2.2 e)
 ·obtain⟨q1,q2,q3,q4⟩:=h.sep q e
  refine⟨q1,q2,q3,λe9=>?_⟩
  rcases hk q e9 with e8|e8
  ·exact q4 e8
  ·have:=h.mem.low q e;omega
theorem dE.gotten {w w1 w2:World} {I:wM} {G K L G':Value} {t:iZ} {m:dR} {now v:Nat} (h:dE w I G K L t m now) (hc:Chg (λk=>G.ownBlock=some k) w w1) (hk:dY w G G')
  (hl:w1.ownsRow 0 46 1 G' (t.got.length+1) (t.got.map bI++[bI v])) (hn:t.got.length+1<=100000000) (hw2:w2=w1.setCell ⟨I.tb,I.pre.length+3,none⟩ G') :
  dE w2 I G' K L { t with got:=t.got++[v] } m now/\jF w w2 I G K L G' K L:=by
 obtain⟨n0,Zr,hn0,hl0⟩:=h.log
 obtain⟨t1,t2,t3,t4⟩:=h.typ
 obtain⟨wa,cap,_,hb,_⟩:=h.mem.blk
 have hL:∀ k,G.ownBlock=some k->k≠I.tb/\k≠I.bW/\L.ownBlock≠some k/\K.ownBlock≠some k:=λk e=>⟨λe9=>dJ h.got h.blk t1 (e9 ▸ e),λe9=>dJ h.got hb (by decide) (e9 ▸ e),λe9=>zX h.got hl0 (by decide) e9 e,λe9=>zX h.got h.ticks (by decide) e9 e⟩
 have hb1:w1.heap[I.tb]?=some (.cells (I.pre++(iH I.bW G K t++I.post)).toArray I.T (0,0)):=(hc.block _ (aC h.blk) (λe=>(hL _ e).1 rfl)).trans h.blk
 have hL':∀ k,G'.ownBlock=some k->k≠I.tb:=λk e e9=>dJ hl hb1 t1 (e9 ▸ e)
 have hcs:Chg (λk=>k=I.tb) w1 w2:=by rw [hw2];exact(Chg.refl (λk=>k=I.tb) w1).setCell (p:=⟨I.tb,I.pre.length+3,none⟩) (.inl rfl) _
 have hc2:Chg (λk=>k=I.tb∨G.ownBlock=some k) w w2:=(hc.mono (λk _ e=>.inr e)).trans (hcs.mono (λk _ e=>.inl e))
 refine⟨⟨by rw [hw2];exact MJ hb1 (by omega) G' rfl,h.mem.chg hc2 (λhs=>?_) (λq e hs=>?_),?_,?_,⟨n0,Zr,hn0,?_⟩,h.typ,λq e=>?_,by simpa using hn,h.klen⟩,
  ⟨hc2.mono (λk _ hs=>by
   rcases hs with e|e
   ·exact .inl e
   ·exact .inr (.inr (.inr (.inl e)))),hk,dY.refl _ _,dY.refl _ _⟩⟩
 ·rcases hs with e|e
  ·exact h.ne e.symm
  ·exact(hL _ e).2.1 rfl
 ·rcases hs with e9|e9
  ·exact(h.sep q e).1 e9
  ·exact(h.sep q e).2.1 e9
 ·have:=bB hl hcs (λb e e9=>hL' b e e9)
  simpa using this
 ·exact bB h.ticks hc2 (λb e hs=>by
   rcases hs with e9|e9
   ·exact dJ h.ticks h.blk t2 (e9 ▸ e)
   ·exact(hL b e9).2.2.2 e)
 ·exact bB hl0 hc2 (λb e hs=>by
   rcases hs with e9|e9
   ·exact dJ hl0 h.blk t3 (e9 ▸ e)
   ·exact(hL b e9).2.2.1 e)
 ·obtain⟨q1,q2,q3,q4⟩:=h.sep q e
  refine⟨q1,λe9=>?_,q3,q4⟩
  rcases hk q e9 with e8|e8
  ·exact q2 e8
  ·have:=h.mem.low q e;omega
theorem dE.ticked {w w1 w2:World} {I:wM} {G K L K':Value} {t:iZ} {m:dR} {now:Nat} {v:Int} (h:dE w I G K L t m now) (hc:Chg (λk=>K.ownBlock=some k) w w1) (hk:dY w K K')
  (hl:w1.ownsRow 0 3 1 K' (t.ticks.length+1) (t.ticks.map Bv++[Bv v])) (hn:t.ticks.length+1<=100000000) (hw2:w2=w1.setCell ⟨I.tb,I.pre.length+4,none⟩ K') :
  dE w2 I G K' L { t with ticks:=t.ticks++[v] } m now/\jF w w2 I G K L G K' L:=by
 obtain⟨n0,Zr,hn0,hl0⟩:=h.log
 obtain⟨t1,t2,t3,t4⟩:=h.typ
 obtain⟨wa,cap,_,hb,_⟩:=h.mem.blk
 have hL:∀ k,K.ownBlock=some k->k≠I.tb/\k≠I.bW/\L.ownBlock≠some k/\G.ownBlock≠some k:=λk e=>⟨λe9=>dJ h.ticks h.blk t2 (e9 ▸ e),λe9=>dJ h.ticks hb (by decide) (e9 ▸ e),λe9=>zX h.ticks hl0 (by decide) e9 e,λe9=>zX h.ticks h.got (by decide) e9 e⟩
 have hb1:w1.heap[I.tb]?=some (.cells (I.pre++(iH I.bW G K t++I.post)).toArray I.T (0,0)):=(hc.block _ (aC h.blk) (λe=>(hL _ e).1 rfl)).trans h.blk
 have hL':∀ k,K'.ownBlock=some k->k≠I.tb:=λk e e9=>dJ hl hb1 t2 (e9 ▸ e)
 have hcs:Chg (λk=>k=I.tb) w1 w2:=by rw [hw2];exact(Chg.refl (λk=>k=I.tb) w1).setCell (p:=⟨I.tb,I.pre.length+4,none⟩) (.inl rfl) _
 have hc2:Chg (λk=>k=I.tb∨K.ownBlock=some k) w w2:=(hc.mono (λk _ e=>.inr e)).trans (hcs.mono (λk _ e=>.inl e))
 refine⟨⟨by rw [hw2];exact MJ hb1 (by omega) K' rfl,h.mem.chg hc2 (λhs=>?_) (λq e hs=>?_),?_,?_,⟨n0,Zr,hn0,?_⟩,h.typ,λq e=>?_,h.glen,by simpa using hn⟩,
  ⟨hc2.mono (λk _ hs=>by
   rcases hs with e|e
   ·exact .inl e
   ·exact .inr (.inr (.inr (.inr (.inl e))))),dY.refl _ _,hk,dY.refl _ _⟩⟩
 ·rcases hs with e|e
  ·exact h.ne e.symm
  ·exact(hL _ e).2.1 rfl
 ·rcases hs with e9|e9
  ·exact(h.sep q e).1 e9
  ·exact(h.sep q e).2.2.1 e9
 ·exact bB h.got hc2 (λb e hs=>by
   rcases hs with e9|e9
   ·exact dJ h.got h.blk t1 (e9 ▸ e)
   ·exact(hL b e9).2.2.2 e)
 ·have:=bB hl hcs (λb e e9=>hL' b e e9)
  simpa using this
 ·exact bB hl0 hc2 (λb e hs=>by
   rcases hs with e9|e9
   ·exact dJ hl0 h.blk t3 (e9 ▸ e)
   ·exact(hL b e9).2.2.1 e)
 ·obtain⟨q1,q2,q3,q4⟩:=h.sep q e
  refine⟨q1,q2,λe9=>?_,q4⟩
  rcases hk q e9 with e8|e8
  ·exact q3 e8
  ·have:=h.mem.low q e;omega
end
end Go.Proofs.YtfkokppncipgnaaGreat
