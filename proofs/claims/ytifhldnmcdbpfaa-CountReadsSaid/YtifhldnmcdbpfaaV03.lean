/- Contracts of package pick: New. -/
import Derived.Test.YtifhldnmcdbpfaaV02
set_option maxRecDepth 100000
set_option linter.unusedVariables false
set_option linter.unusedSimpArgs false
set_option linter.unnecessarySimpa false
namespace Go.Proofs.Ytifhldnmcdbpfaa
open List renaming getElem_toArray → zq1, getElem_cons_zero → zq2, getElem_cons_succ → zq3, setIfInBounds_toArray → zq4, set_cons_zero → zq5, set_cons_succ → zq6
section
open Go.RowKit
def fF (i:Nat):Value:=.int .i64 (i:Int)
def d0:aF:=⟨0,0,0,0,0,0⟩
def pG (n:Int) (x:aF):Bool:=decide (x.thread<0∨n<=x.thread)
def fH (n:Int) (calls:List aF):Int:=if n<1∨16<n then 1 else if 1000<calls.length then 3 else if calls.any (pG n)=true then 1 else 0
def iQ (n:Int) (l:List aF):Bool:=l.any (pG n)
structure CF (w wr:World) (calls:List aF) (k:Nat) (M:Int->Value):Prop where
 line:wr.heap[w.heap.size+1]?=some (.cells #[.map (some w.heap.size),.int .i64 (calls.length:Int)] 113 (0,0))
 map:MapAt wr w.heap.size k M
 rows:∀ p,wr.ownsRow w.heap.size 3 1 (M p) (qOf calls k p).length ((qOf calls k p).map fF)
 apart:∀ p p',p≠p'->(M p).ownBlock=none∨(M p).ownBlock≠(M p').ownBlock
 below:Below w.heap.size w wr
theorem BU (n:Int) (a:Option Addr) (len c:Nat) (w:World) (er:Int) (hm:len<=maxLen) (h:(n<1∨16<n)/\er=1∨(1<=n/\n<=16/\1000<len)/\er=3) :
  Calls Try.prog 40 #[.int .i64 n,.slice a len c] w λe w'=>e=.returned (.tuple #[.pointer none,.int .i64 er])/\w=w':=by
 unfold maxLen at hm
 rcases h with⟨h|h,rfl⟩|⟨⟨h1,h2,h3⟩,rfl⟩
 ·go_enter Try.func40,Try.ntmps40
  go_wp2
  go_ret2
  exact⟨rfl,rfl⟩
 ·have h1:1<=n:=by omega
  go_enter Try.func40,Try.ntmps40
  go_wp2
  go_ret2
  exact⟨rfl,rfl⟩
 ·have h4:(1000:Int)<len:=by omega
  go_enter Try.func40,Try.ntmps40
  go_wp2
  go_ret2
  exact⟨rfl,rfl⟩
theorem sF {w:World} {a:Option Addr} {l:List aF} (hs:bQ w a l.length 6 (gK l)) {w':World} (hb:Below w.heap.size w w') {k:Nat} (hk:k<l.length) :
  ∃ b off,a=some ⟨b,off,none⟩/\w'.cell? ⟨b,off+k*6,none⟩=some (.int .i64 l[k].thread)/\w'.cell? ⟨b,off+k*6+1,none⟩=some (.int .i64 l[k].obj)/\w'.cell? ⟨b,off+k*6+2,none⟩=some (.int .i64 l[k].kind)/\
   w'.cell? ⟨b,off+k*6+3,none⟩=some (.int .u64 (l[k].a:Int))/\w'.cell? ⟨b,off+k*6+4,none⟩=some (.int .u64 (l[k].b:Int))/\w'.cell? ⟨b,off+k*6+5,none⟩=some (.int .u64 (l[k].c:Int)):=by
 obtain⟨b,off,ha,hc⟩:=hs.elem hb hk
 refine⟨b,off,ha,?_,?_,?_,?_,?_,?_⟩
 ·have:=hc 0 (by omega);rw [Nat.add_zero] at this;rw [this];simp [gK,List.getD_eq_getElem?_getD,hk]
 ·have:=hc 1 (by omega);rw [<-Nat.add_assoc] at this;rw [this];simp [gK,List.getD_eq_getElem?_getD,hk]
 ·have:=hc 2 (by omega);rw [<-Nat.add_assoc] at this;rw [this];simp [gK,List.getD_eq_getElem?_getD,hk]
 ·have:=hc 3 (by omega);rw [<-Nat.add_assoc] at this;rw [this];simp [gK,List.getD_eq_getElem?_getD,hk]
 ·have:=hc 4 (by omega);rw [<-Nat.add_assoc] at this;rw [this];simp [gK,List.getD_eq_getElem?_getD,hk]
 ·have:=hc 5 (by omega);rw [<-Nat.add_assoc] at this;rw [this];simp [gK,List.getD_eq_getElem?_getD,hk]
theorem DZ:(Try.prog.info? 3).map (λi=>(i.zero,i.size,i.bytes))=some (some (.int .i64 0),1,8):=by kernel_rfl
theorem nG (w:World) {ops:Array Oper} {o:Oper} {a:Act} {K:Act->World->Prop} {Q:Exit->Act->World->Prop} {E:Prop}
  (hg:o.guard=none) (m x v:Operand) (hop:o.op=Op.mapUpdate 111 m x v) (b n:Nat) (M:Int->Value)
  (hm:a.eval m=.map (some b)) (hown:MapAt w b n M) (hn:n<maxLen) (key:Int) (val:Value) (hx:a.eval x=.int .i64 key) (hv:a.eval v=val) (hw:(Lit.int .i64 key).wf=true)
  (hK:∀ w',MapAt w' b (n+1) (upd M key val)->w.grownBy w' (some b)->K (a.put o.dst undef) w') :
  if Region.wanted o (yielded ops a.tmps)=true then Oper.wp Try.prog o a w K Q else E:=by
 rw [if_pos (by simp [Region.wanted,hg])]
 obtain⟨w',hrun,r1,r2⟩:=hown.put hn hw val
 unfold Oper.wp
 simp [execOp,hop,hm,hx,hv,hrun,Result.andThen]
 exact hK w' r1 r2
def KO (n:Int) (l:List aF) (w:World) (e:Ending) (w':World):Prop:=
 (iQ n l=true/\e=.returned (.tuple #[.pointer none,.int .i64 1])/\Below w.heap.size w w')∨
 (iQ n l=false/\e=.returned (.tuple #[.pointer (some ⟨w.heap.size+1,0,none⟩),.int .i64 0])/\∃ M,CF w w' l l.length M)
theorem PI (n:Int) (l:List aF) (a:Option Addr) (c:Nat) (w:World) (hs:bQ w a l.length 6 (gK l)) (h1:1<=n) (h2:n<=16) (h3:l.length<=1000) (hwf:∀ x∈l,(Lit.int .i64 x.thread).wf=true) :
  Calls Try.prog 40 #[.int .i64 n,.slice a l.length c] w λe w'=>KO n l w e w':=by
 have Hs:=Lib.hid hs;have Hwf:=Lib.hid hwf;clear hs hwf
 have hmm:=@run_makeMap Try.prog
 obtain⟨i0,hi,hz0,hz1,hz2⟩:=info_parts DZ
 go_enter Try.func40,Try.ntmps40
 go_wp2
 go_loopw [7,8,27] (λ_ _ i wr=>∃ k M,k<=l.length/\i=.int .i64 (k:Nat)/\CF w wr l k M/\Hid (∀ j,(h:j<k)->(hl:j<l.length)->pG n l[j]=false)) (λ_ _ i _=>l.length - (intOf i).toNat)
 case atStart=>
  refine⟨0,λ_=>.slice none 0 0,Nat.zero_le _,rfl,⟨?_,?_,λp=>World.ownsRow_nil _ _ _ _,λ_ _ _=>.inl rfl,Gr.alloc (Gr.new _ _) _⟩,λj h=>absurd h (Nat.not_lt_zero j)⟩
  ·have:=heap_alloc_new (w.alloc (.map #[] 0)) (.cells #[.map (some w.heap.size),.int .i64 (l.length:Int)] 113 (0,0))
   simpa using this
  ·exact MapAt.block (MapAt.made w) (Below.heap_alloc _ _ _ (by simp))
 case round=>
  obtain⟨k,M,hk,rfl,hst,hok⟩:=hrel
  by_cases hlt:k<l.length
  ·obtain⟨b,off,rfl,c0,c1,c2,c3,c4,c5⟩:=sF Hs.out hst.below hlt
   obtain⟨t,ht⟩:∃ t,t=l[k].thread:=⟨_,rfl⟩
   rw [<-ht] at c0
   have htw:(Lit.int .i64 t).wf=true:=by rw [ht];exact Hwf.out _ (List.getElem_mem hlt)
   have Ht:=Lib.hid ht
   have hany:t<0∨n<=t->iQ n l=true:=λh=>by unfold iQ;exact List.any_eq_true.2 ⟨l[k],List.getElem_mem hlt,by unfold pG;rw [<-Ht.out];simpa using h⟩
   clear ht
   by_cases hb1:t<0
   ·have Hany:=Lib.hid (hany (.inl hb1));clear hany
    go_wp2
    go_ret2
    exact .inl ⟨Hany.out,rfl,hst.below.alloc hst.below.size _⟩
   by_cases hb2:n<=t
   ·have Hany:=Lib.hid (hany (.inr hb2));clear hany
    go_wp2
    go_ret2
    exact .inl ⟨Hany.out,rfl,hst.below.alloc hst.below.size _⟩
   ·clear hany
    have hln:=hst.line
    have QU:wr.cell? ⟨w.heap.size+1,0,none⟩=some (.map (some w.heap.size)):=by rw [aA hln];rfl
    have hlk:=hst.map.look htw
    have Hln:=Lib.hid hln;have Hlk:=Lib.hid hlk;clear hln hlk
    go_wp2
    obtain⟨C,hC⟩:∃ C:Array Value,C=#[.int .i64 t,.int .i64 l[k].obj,.int .i64 l[k].kind,.int .u64 (l[k].a:Int),.int .u64 (l[k].b:Int),.int .u64 (l[k].c:Int)]:=⟨_,rfl⟩
    rw [<-hC]
    have hC0:C[0]?=some (.int .i64 t):=by rw [hC];rfl
    clear hC c0 c1 c2 c3 c4 c5
    obtain⟨wb,hwb⟩:∃ wb,wb=wr.alloc (.cells C 46):=⟨_,rfl⟩
    have g1:wb.cell? ⟨w.heap.size+1,0,none⟩=some (.map (some w.heap.size)):=by rw [hwb,(Gr.new wr _).cell (aC Hln.out)];exact QU
    have g2:wb.cell? ⟨wr.heap.size,0,none⟩=some (.int .i64 t):=by rw [hwb,eF];exact hC0
    have hgr:Below wr.heap.size wr wb:=by rw [hwb];exact Gr.new _ _
    have hsz:wr.heap.size<wb.heap.size:=by rw [hwb];simp
    rw [<-hwb]
    clear hwb QU hC0
    have hmap:MapAt wb w.heap.size k M:=hst.map.block (hgr.block _ hst.map.lt)
    have hrow:∀ p,wb.ownsRow w.heap.size 3 1 (M p) (qOf l k p).length ((qOf l k p).map fF):=λp=>pV (hst.rows p) hgr
    have Hmap:=Lib.hid hmap;have Hrow:=Lib.hid hrow
    refine lN (λx=>x.cell? ⟨w.heap.size+1,0,none⟩=some (.map (some w.heap.size))/\x.cell? ⟨wr.heap.size,0,none⟩=some (.int .i64 t)/\(Instr.lookup 111 (.map (some w.heap.size)) (.int .i64 t) false).run Try.prog x=.ok (M t) x) 16 (by kernel_rfl) ⟨g1,g2,(MapAt.block (w':=wb.drew) hmap rfl).look htw⟩ ?_
    intro hS hcl
    clear hmap hrow g1 g2
    refine aS (i:=0) (v:=(.pointer (some ⟨w.heap.size+1,0,none⟩))) 17 rfl (by kernel_rfl) (by kernel_rfl) (by kernel_rfl) (by kernel_rfl) (by kernel_rfl) hcl (λ_ _ _ h=>h) (Or.inl ⟨by rfl,?_⟩) hS ?_
    ·intro x hx;obtain⟨hx1,hx2,hx3⟩:=hx;go_simp
    clear hcl;intro hcl
    simp only [Act.put,zq4,zq5,zq6]
    refine aS (i:=1) (v:=(.pointer (some ⟨w.heap.size+1,0,none⟩))) 17 rfl (by kernel_rfl) (by kernel_rfl) (by kernel_rfl) (by kernel_rfl) (by kernel_rfl) hcl (λ_ _ _ h=>h) (Or.inl ⟨by rfl,?_⟩) hS ?_
    ·intro x hx;obtain⟨hx1,hx2,hx3⟩:=hx;go_simp
    clear hcl;intro hcl
    simp only [Act.put,zq4,zq5,zq6]
    refine aS (i:=2) (v:=(.pointer (some ⟨w.heap.size+1,0,none⟩))) 17 rfl (by kernel_rfl) (by kernel_rfl) (by kernel_rfl) (by kernel_rfl) (by kernel_rfl) hcl (λ_ _ _ h=>h) (Or.inl ⟨by rfl,?_⟩) hS ?_
    ·intro x hx;obtain⟨hx1,hx2,hx3⟩:=hx;go_simp
    clear hcl;intro hcl
    simp only [Act.put,zq4,zq5,zq6]
    refine aS (i:=3) (v:=(.map (some w.heap.size))) 17 rfl (by kernel_rfl) (by kernel_rfl) (by kernel_rfl) (by kernel_rfl) (by kernel_rfl) hcl (λ_ _ _ h=>h) (Or.inl ⟨by rfl,?_⟩) hS ?_
    ·intro x hx;obtain⟨hx1,hx2,hx3⟩:=hx;go_simp
    clear hcl;intro hcl
    simp only [Act.put,zq4,zq5,zq6]
    refine aS (i:=4) (v:=(.pointer (some ⟨wr.heap.size,0,none⟩))) 17 rfl (by kernel_rfl) (by kernel_rfl) (by kernel_rfl) (by kernel_rfl) (by kernel_rfl) hcl (λ_ _ _ h=>h) (Or.inl ⟨by rfl,?_⟩) hS ?_
    ·intro x hx;obtain⟨hx1,hx2,hx3⟩:=hx;go_simp
    clear hcl;intro hcl
    simp only [Act.put,zq4,zq5,zq6]
    refine aS (i:=5) (v:=(.int .i64 t)) 17 rfl (by kernel_rfl) (by kernel_rfl) (by kernel_rfl) (by kernel_rfl) (by kernel_rfl) hcl (λ_ _ _ h=>h) (Or.inl ⟨by rfl,?_⟩) hS ?_
    ·intro x hx;obtain⟨hx1,hx2,hx3⟩:=hx;go_simp
    clear hcl;intro hcl
    simp only [Act.put,zq4,zq5,zq6]
    refine aS (i:=6) (v:=(.pointer (some ⟨w.heap.size+1,0,none⟩))) 17 rfl (by kernel_rfl) (by kernel_rfl) (by kernel_rfl) (by kernel_rfl) (by kernel_rfl) hcl (λ_ _ _ h=>h) (Or.inl ⟨by rfl,?_⟩) hS ?_
    ·intro x hx;obtain⟨hx1,hx2,hx3⟩:=hx;go_simp
    clear hcl;intro hcl
    simp only [Act.put,zq4,zq5,zq6]
    refine aS (i:=7) (v:=(.pointer (some ⟨w.heap.size+1,0,none⟩))) 17 rfl (by kernel_rfl) (by kernel_rfl) (by kernel_rfl) (by kernel_rfl) (by kernel_rfl) hcl (λ_ _ _ h=>h) (Or.inl ⟨by rfl,?_⟩) hS ?_
    ·intro x hx;obtain⟨hx1,hx2,hx3⟩:=hx;go_simp
    clear hcl;intro hcl
    simp only [Act.put,zq4,zq5,zq6]
    refine aS (i:=8) (v:=(.pointer (some ⟨w.heap.size+1,0,none⟩))) 17 rfl (by kernel_rfl) (by kernel_rfl) (by kernel_rfl) (by kernel_rfl) (by kernel_rfl) hcl (λ_ _ _ h=>h) (Or.inl ⟨by rfl,?_⟩) hS ?_
    ·intro x hx;obtain⟨hx1,hx2,hx3⟩:=hx;go_simp
    clear hcl;intro hcl
    simp only [Act.put,zq4,zq5,zq6]
    refine aS (i:=9) (v:=(.map (some w.heap.size))) 17 rfl (by kernel_rfl) (by kernel_rfl) (by kernel_rfl) (by kernel_rfl) (by kernel_rfl) hcl (λ_ _ _ h=>h) (Or.inl ⟨by rfl,?_⟩) hS ?_
    ·intro x hx;obtain⟨hx1,hx2,hx3⟩:=hx;go_simp
    clear hcl;intro hcl
    simp only [Act.put,zq4,zq5,zq6]
    refine aS (i:=10) (v:=(.pointer (some ⟨wr.heap.size,0,none⟩))) 17 rfl (by kernel_rfl) (by kernel_rfl) (by kernel_rfl) (by kernel_rfl) (by kernel_rfl) hcl (λ_ _ _ h=>h) (Or.inl ⟨by rfl,?_⟩) hS ?_
    ·intro x hx;obtain⟨hx1,hx2,hx3⟩:=hx;go_simp
    clear hcl;intro hcl
    simp only [Act.put,zq4,zq5,zq6]
    refine aS (i:=11) (v:=(.int .i64 t)) 17 rfl (by kernel_rfl) (by kernel_rfl) (by kernel_rfl) (by kernel_rfl) (by kernel_rfl) hcl (λ_ _ _ h=>h) (Or.inl ⟨by rfl,?_⟩) hS ?_
    ·intro x hx;obtain⟨hx1,hx2,hx3⟩:=hx;go_simp
    clear hcl;intro hcl
    simp only [Act.put,zq4,zq5,zq6]
    refine aS (i:=12) (v:=(M t)) 17 rfl (by kernel_rfl) (by kernel_rfl) (by kernel_rfl) (by kernel_rfl) (by kernel_rfl) hcl (λ_ _ _ h=>h) (Or.inl ⟨by rfl,?_⟩) hS ?_
    ·intro x hx;obtain⟨hx1,hx2,hx3⟩:=hx;go_simp
    clear hcl;intro hcl
    simp only [Act.put,zq4,zq5,zq6]
    refine aS (i:=13) (v:=(.int .i64 (k:Int))) 17 rfl (by kernel_rfl) (by kernel_rfl) (by kernel_rfl) (by kernel_rfl) (by kernel_rfl) hcl (λ_ _ _ h=>h) (Or.inl ⟨by rfl,?_⟩) hS ?_
    ·intro x hx;obtain⟨hx1,hx2,hx3⟩:=hx;go_simp
    clear hcl;intro hcl
    simp only [Act.put,zq4,zq5,zq6]
    refine dA (i:=14) (by kernel_rfl) rfl hcl (λK' hK=>?_)
    have HK:=Lib.hid hK;clear hK
    go_simp
    have l1:w.heap.size+1<wb.heap.size:=World.block_lt_of_cell? _ _ hS.1
    have l2:=hst.below.size
    have hgd:Below wb.heap.size wb (wb.alloc (.cells #[.int .i64 (k:Int)] 3)).drew:=(Gr.new wb _).drew
    have s1:(wb.alloc (.cells #[.int .i64 (k:Int)] 3)).drew.cell? ⟨w.heap.size+1,0,none⟩=some (.map (some w.heap.size)):=by rw [hgd.cell l1];exact hS.1
    have s2:(wb.alloc (.cells #[.int .i64 (k:Int)] 3)).drew.cell? ⟨wr.heap.size,0,none⟩=some (.int .i64 t):=by rw [hgd.cell hsz];exact hS.2.1
    refine HK.out _ _ (λ_=>⟨s1,s2,(MapAt.block (w:=wb) Hmap.out (hgd.block _ Hmap.out.lt)).look htw⟩) (λhcl=>?_)
    clear HK
    have ol:(qOf l k t).length<=k:=BP _ _ _
    refine dA (i:=15) (by kernel_rfl) rfl hcl (λK' hK=>?_)
    have HK:=Lib.hid hK;clear hK
    refine step_append_lies _ rfl (.tmp 53) (.tmp 55) 24 rfl w.heap.size 3 i0 (.int .i64 0) 1 8 Try.underlying24 hi hz0 hz1 hz2 rfl (by decide) (M t) _ _ rfl (((Hrow.out t).alloc _).drew)
      ⟨wb.heap.size,0,none⟩ 1 1 [.int .i64 (k:Int)] rfl rfl (World.news_of_block (cs:=#[.int .i64 (k:Int)]) (t:=3) (fr:=(0,0)) (heap_alloc_new wb _)) (by simp [Value.oneCell'])
      (by omega) (by unfold maxLen;omega) (by omega) (by simp;omega) (wb.heap.size+1) (by simp) ?_
    intro gg cap w3 hown hgrow hat hltg
    have GN:MapAt w3 w.heap.size k M:=MapAt.block (w:=wb) Hmap.out ((hgrow.block _ (by simp;have:=Hmap.out.lt;omega) (λe=>by
     have h1:=(Hrow.out t).lt _ e.symm
     obtain⟨D,⟨es,clock,h2,_⟩,_⟩:=Hmap.out
     obtain⟨_,h3⟩:=Hrow.out t
     rcases h3 with⟨h3,_⟩|⟨g,cap',cur,h3,_,h4,_⟩
     ·rw [h3] at e;cases e
     ·rw [h3] at e;simp only [Value.ownBlock,Option.some.injEq] at e;rw [<-e,h2] at h4;cases h4)).trans (hgd.block _ Hmap.out.lt))
    have LV:w3.heap[w.heap.size+1]?=some (.cells #[.map (some w.heap.size),.int .i64 (l.length:Int)] 113 (0,0)):=by
     rw [hgrow.block _ (by simp;omega) (λe=>by
      obtain⟨_,h3⟩:=Hrow.out t
      rcases h3 with⟨h3,_⟩|⟨g,cap',cur,h3,_,h4,_⟩
      ·rw [h3] at e;cases e
      ·rw [h3] at e
       simp only [Value.ownBlock,Option.some.injEq] at e
       rw [<-e,hgr.block _ (aC Hln.out),Hln.out] at h4
       simp at h4),hgd.block _ l1,hgr.block _ (aC Hln.out)]
     exact Hln.out
    have s3:w3.cell? ⟨w.heap.size+1,0,none⟩=some (.map (some w.heap.size)):=by rw [aA LV];rfl
    have s4:w3.cell? ⟨wr.heap.size,0,none⟩=some (.int .i64 t):=by
     rw [hgrow.cell_far _ (by simp;omega) (λe=>by have h1:=(Hrow.out t).lt _ e.symm;have h2:=(hst.rows t).lt _ e.symm;simp at h2),s2]
    refine HK.out _ _ (λ_=>⟨s3,s4,GN.look htw⟩) (λhcl=>?_)
    clear HK
    refine dA (i:=16) (by kernel_rfl) rfl hcl (λK' hK=>?_)
    have HK:=Lib.hid hK;clear hK
    refine nG _ rfl (.tmp 44) (.tmp 46) (.tmp 56) rfl w.heap.size k M rfl GN (by unfold maxLen;omega) t _ rfl rfl htw ?_
    intro w4 MU sO
    refine HK.out _ _ (λh=>by cases h.symm.trans (by kernel_rfl:_=true)) (λ_=>kZ (by kernel_rfl) ?_ _)
    clear HK
    have hb3:Below w.heap.size w w3:=(((hst.below.trans (hgr.mono l2)).trans (hgd.mono (by omega))).grown hgrow (by simp;omega) (λq hq=>((Hrow.out t).lt q hq).1))
    have hb4:Below w.heap.size w w4:=hb3.grown sO hb3.size (λq hq=>by cases hq;exact Nat.le_refl _)
    have hq1:qOf l (k+1) t=qOf l k t++[k]:=by
     rw [wU,List.getD_eq_getElem?_getD]
     simp [hlt,<-Ht.out]
    have hq2:∀ p,p≠t->qOf l (k+1) p=qOf l k p:=λp hp=>by
     rw [wU,List.getD_eq_getElem?_getD]
     simp [hlt,<-Ht.out,Ne.symm hp]
    have hnb:(M t).ownBlock≠some w.heap.size:=λe=>by
     obtain⟨D,⟨es,clock,h2,_⟩,_⟩:=Hmap.out
     obtain⟨_,h3⟩:=Hrow.out t
     rcases h3 with⟨h3,_⟩|⟨g,cap',cur,h3,_,h4,_⟩
     ·rw [h3] at e;cases e
     ·rw [h3] at e;simp only [Value.ownBlock,Option.some.injEq] at e;rw [e,h2] at h4;cases h4
    have hgg:gg≠w.heap.size:=by rcases hat with h|h;rintro rfl;exact hnb h;omega
    have QX:CF w w4 l (k+1) (upd M t (.slice (some ⟨gg,0,none⟩) ((qOf l k t).length+1) cap)):=by
     refine⟨?_,MU,λp=>?_,λp p' hp=>?_,hb4⟩
     ·rw [sO.block _ (aC LV) (by simp)];exact LV
     ·by_cases hp:p=t
      ·subst hp
       rw [upd_same,hq1]
       have h5:=hown.kept sO (.inr (by simpa [Value.ownBlock] using hgg))
       simpa [fF] using h5
      ·rw [iH _ _ hp,hq2 p hp]
       have h5:=(((Hrow.out p).alloc (.cells #[.int .i64 (k:Int)] 3)).drew.kept hgrow (hst.apart p t hp)).kept sO (by
        rcases Option.eq_none_or_eq_some (M p).ownBlock with h6|⟨g,h6⟩
        ·exact .inl h6
        ·right
         intro h7
         obtain⟨D,⟨es,clock,h2,_⟩,_⟩:=Hmap.out
         obtain⟨_,h3⟩:=Hrow.out p
         rcases h3 with⟨h3,_⟩|⟨g',cap',cur,h3,_,h4,_⟩
         ·rw [h3] at h7;cases h7
         ·rw [h3] at h7;simp only [Value.ownBlock,Option.some.injEq] at h7;rw [h7,h2] at h4;cases h4)
       exact h5
     ·have fresh:∀ p,p≠t->(M p).ownBlock=none∨(M p).ownBlock≠some gg:=λp hp=>by
       rcases hat with h|h
       ·rw [<-h];exact hst.apart p t hp
       ·right;intro h6;have:=((Hrow.out p).lt gg h6).2;omega
      by_cases hpt:p=t
      ·subst hpt
       rw [upd_same,iH _ _ hp.symm]
       right
       intro h6
       rcases fresh p' hp.symm with h7|h7
       ·rw [h7] at h6;cases h6
       ·exact h7 h6.symm
      ·rw [iH _ _ hpt]
       by_cases hpt':p'=t
       ·subst hpt'
        rw [upd_same]
        exact fresh p hpt
       ·rw [iH _ _ hpt']
        exact hst.apart p p' hp
    have hok':∀ j,(h:j<k+1)->(hl:j<l.length)->pG n l[j]=false:=λj h hl=>by
     rcases Nat.lt_succ_iff_lt_or_eq.1 h with h|rfl
     ·exact hok.out j h hl
     ·unfold pG;rw [<-Ht.out];simp;omega
    have Hst:=Lib.hid QX;have Hok:=Lib.hid hok'
    clear QX hok' MU GN LV s1 s2 s3 s4 hS hown hgrow sO hat hq2 hcl
    go_wp2
    go_roundw
    case rel=>exact⟨k+1,_,by omega,by go_num,Hst.out,Hok.out⟩
    case measure=>simp [intOf]<;>omega
  ·obtain rfl:k=l.length:=by omega
   go_wp2
   go_ret2
   have hno:iQ n l=false:=by
    unfold iQ
    rw [List.any_eq_false]
    intro x hx
    obtain⟨j,hj,rfl⟩:=List.getElem_of_mem hx
    have:=hok.out j hj hj
    simp [this]
   exact .inr ⟨hno,rfl,M,hst⟩
end
section
open Go.RowKit
theorem ML {w:World} {B:Nat} {v:Value} {e:TypeId} {n:Nat} {xs:List Value} {g:Nat->Nat->Value} (h:w.ownsRow B e 1 v n xs) (hm:n<=maxLen) (hg:∀ j,j<n->xs[j]?=some (g j 0)) :
  ∃ a c,v=.slice a n c/\n<=c/\bQ w a n 1 g/\(∀ b off,a=some ⟨b,off,none⟩->B<=b/\v.ownBlock=some b):=by
 obtain⟨a,c,hv,hs,hB⟩:=uU h hm hg
 refine⟨a,c,hv,?_,hs,λb off e=>⟨hB b off e,by rw [hv,e];rfl⟩⟩
 obtain⟨_,h2⟩:=h
 rcases h2 with⟨h3,h0⟩|⟨q,cap,cur,h3,_,_,hn,_⟩
 ·omega
 ·rw [hv] at h3;cases h3;exact hn
theorem xG {w wr:World} {l:List aF} {M:Int->Value} (h:CF w wr l l.length M) (hl:l.length<=1000) :
  fD wr (λb=>w.heap.size<=b/\b<wr.heap.size) (w.heap.size+1) w.heap.size l.length M (qOf l l.length) (l.length:Int):=by
 refine⟨h.line,h.map,λp=>?_⟩
 have hq:=BP l l.length p
 obtain⟨a,c,h1,h2,h3,h4⟩:=ML (g:=JO (qOf l l.length p)) (h.rows p) (by unfold maxLen;omega) (λj hj=>by simp [JO,fF,List.getD_eq_getElem?_getD,hj])
 refine⟨a,c,h1,h2,h3,λb off e=>?_⟩
 have h5:=(h4 b off e).2
 obtain⟨_,h6⟩:=h.rows p
 rcases h6 with⟨h7,_⟩|⟨g,cap,cur,h7,h77,h8,_⟩
 ·rw [h7] at h5;cases h5
 ·rw [h7] at h5
  simp only [Value.ownBlock,Option.some.injEq] at h5
  subst h5
  refine⟨?_,?_,h77,aC h8⟩
  ·rintro rfl;rw [h.line] at h8;simp at h8
  ·rintro rfl
   obtain⟨D,⟨es,clock,h9,_⟩,_⟩:=h.map
   rw [h9] at h8;cases h8
def oD (l:List aF) (fin:List Bool) (p:Int) (i:Nat):Bool:=decide ((l.getD i d0).thread=p) && !(fin.getD i false)
def iI (l:List aF) (fin:List Bool) (p:Int):Option Nat:=(List.range l.length).find? (oD l fin p)
def qF (l:List aF) (fin:List Bool) (p:Int):List Nat:=(List.range l.length).filter (oD l fin p)
theorem MG (l:List aF) (p:Int):qF l (List.replicate l.length false) p=qOf l l.length p:=by
 unfold qF qOf
 apply List.filter_congr
 intro i hi
 have:=List.mem_range.1 hi
 unfold oD d0
 simp [List.getD_eq_getElem?_getD,List.getElem?_replicate,this]
theorem iY (l:List aF) (fin:List Bool) (p:Int):iI l fin p=(qF l fin p).head?:=by
 unfold iI qF
 rw [List.head?_filter]
theorem dO {l:List aF} {fin:List Bool} {p:Int} {i:Nat} (h:iI l fin p=some i):i<l.length/\(l.getD i d0).thread=p/\fin.getD i false=false:=by
 unfold iI at h
 have h1:=List.find?_some h
 have h2:=List.mem_of_find?_eq_some h
 unfold oD at h1
 simp at h1
 exact⟨List.mem_range.1 h2,by simpa using h1.1,by simpa using h1.2⟩
theorem IJ {l:List aF} {fin:List Bool} {p:Int} {i:Nat} {r:List Nat} (hlen:fin.length=l.length) (h:qF l fin p=i::r):qF l (fin.set i true)=qE (qF l fin) p:=by
 have hn:iI l fin p=some i:=by rw [iY,h];rfl
 obtain⟨hi,ht,hf⟩:=dO hn
 have hnd:(qF l fin p).Nodup:=List.Pairwise.filter _ List.nodup_range
 funext x
 have key:∀ j,oD l (fin.set i true) x j=(oD l fin x j && !(decide (j=i))):=by
  intro j
  unfold oD
  by_cases hj:j=i
  ·subst hj
   simp [List.getD_eq_getElem?_getD,List.getElem?_set,hlen,hi]
  ·simp [List.getD_eq_getElem?_getD,List.getElem?_set,Ne.symm hj,hj]
 unfold qE
 by_cases hx:x=p
 ·subst hx
  rw [if_pos rfl,h]
  have e1:qF l (fin.set i true) x=(qF l fin x).filter (λj=>!(decide (j=i))):=by
   unfold qF
   rw [List.filter_filter]
   apply List.filter_congr
   intro j _
   rw [key,Bool.and_comm]
  rw [e1,h]
  rw [h] at hnd
  simp only [List.tail_cons]
  rw [List.filter_cons_of_neg (by simp),List.filter_eq_self]
  intro j hj
  have:=(List.nodup_cons.1 hnd).1
  simp
  rintro rfl
  exact this hj
 ·rw [if_neg hx]
  unfold qF
  apply List.filter_congr
  intro j _
  rw [key]
  by_cases hj:j=i
  ·subst hj
   unfold oD
   rw [ht]
   simp [Ne.symm hx]
  ·simp [hj]
theorem iO {n:Int} {l:List aF} (h:fH n l=0):1<=n/\n<=16/\l.length<=1000/\iQ n l=false:=by
 unfold fH at h
 split at h
 ·cases h
 ·split at h
  ·cases h
  ·rename_i h1 h2
   refine⟨by omega,by omega,by omega,?_⟩
   unfold iQ
   cases hc:l.any (pG n) with
   | false=>rfl
   | true=>rw [hc] at h;simp at h
def OU (n:Int) (l:List aF) (w:World) (e:Ending) (w':World):Prop:=
 (fH n l≠0/\e=.returned (.tuple #[.pointer none,.int .i64 (fH n l)])/\Below w.heap.size w w')∨
 (fH n l=0/\e=.returned (.tuple #[.pointer (some ⟨w.heap.size+1,0,none⟩),.int .i64 0])/\Below w.heap.size w w'/\∃ M,fD w' (λb=>w.heap.size<=b/\b<w'.heap.size) (w.heap.size+1) w.heap.size l.length M (qF l (List.replicate l.length false)) (l.length:Int))
theorem CO (n:Int) (l:List aF) (a:Option Addr) (c:Nat) (w:World) (hs:bQ w a l.length 6 (gK l)) (hwf:∀ x∈l,(Lit.int .i64 x.thread).wf=true) :
  Calls Try.prog 40 #[.int .i64 n,.slice a l.length c] w λe w'=>OU n l w e w':=by
 by_cases h1:n<1∨16<n
 ·have hw:fH n l=1:=by unfold fH;rw [if_pos h1]
  refine(BU n a l.length c w 1 hs.1 (.inl ⟨h1,rfl⟩)).mono ?_
  rintro e w' ⟨rfl,rfl⟩
  exact .inl ⟨by rw [hw];decide,by rw [hw],Gr.refl _⟩
 by_cases h2:1000<l.length
 ·have hw:fH n l=3:=by unfold fH;rw [if_neg h1,if_pos h2]
  refine(BU n a l.length c w 3 hs.1 (.inr ⟨⟨by omega,by omega,h2⟩,rfl⟩)).mono ?_
  rintro e w' ⟨rfl,rfl⟩
  exact .inl ⟨by rw [hw];decide,by rw [hw],Gr.refl _⟩
 refine(PI n l a c w hs (by omega) (by omega) (by omega) hwf).mono ?_
 rintro e w' (⟨hb,rfl,hbel⟩|⟨hb,rfl,M,hst⟩)
 ·have hw:fH n l=1:=by unfold fH;rw [if_neg h1,if_neg h2];exact if_pos hb
  exact .inl ⟨by rw [hw];decide,by rw [hw],hbel⟩
 ·have hw:fH n l=0:=by unfold fH;rw [if_neg h1,if_neg h2];exact if_neg (by unfold iQ at hb;rw [hb];simp)
  have hq:qF l (List.replicate l.length false)=qOf l l.length:=funext (MG l)
  exact .inr ⟨hw,rfl,hst.below,M,by rw [hq];exact xG hst (by omega)⟩
theorem fD.chg {S:Nat->Prop} {w w':World} {Z:Nat->Prop} {bl bm n:Nat} {M:Int->Value} {q:Int->List Nat} {left:Int} (h:fD w Z bl bm n M q left) (hc:Chg S w w') (h1:¬ S bl) (h2:¬ S bm) (h3:∀ b,Z b->¬ S b):fD w' Z bl bm n M q left:=by
 refine⟨(hc.block _ (aC h.line) h1).trans h.line,h.map.block (hc.block _ h.map.lt h2),λp=>?_⟩
 obtain⟨a,c,g1,g2,g3,g4⟩:=h.rows p
 exact⟨a,c,g1,g2,g3.chg hc (λb off e=>h3 b (g4 b off e).2.2),g4⟩
theorem fD.mono {w:World} {Z Z':Nat->Prop} {bl bm n:Nat} {M:Int->Value} {q:Int->List Nat} {left:Int} (h:fD w Z bl bm n M q left) (hz:∀ b,Z b->Z' b):fD w Z' bl bm n M q left:=
 ⟨h.line,h.map,λp=>by obtain⟨a,c,g1,g2,g3,g4⟩:=h.rows p;exact⟨a,c,g1,g2,g3,λb off e=>⟨(g4 b off e).1,(g4 b off e).2.1,hz b (g4 b off e).2.2⟩⟩⟩
theorem mK (v:Value) (n:Nat):madeCells #[v] n=(List.replicate n v).toArray:=by
 unfold madeCells
 apply Array.ext
 ·simp
 ·intro i h1 h2
  simp at h1 h2 ⊢
  simp [Nat.mod_one]
end
end Go.Proofs.Ytifhldnmcdbpfaa
