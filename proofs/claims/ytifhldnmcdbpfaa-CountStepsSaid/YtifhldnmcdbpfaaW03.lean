/- Contracts of package pick: New. -/
import Derived.Test.YtifhldnmcdbpfaaW02
set_option maxRecDepth 100000
set_option linter.unusedVariables false
set_option linter.unusedSimpArgs false
set_option linter.unnecessarySimpa false
namespace Go.Proofs.Ytifhldnmcdbpfaa
open List renaming getElem_toArray → zq1, getElem_cons_zero → zq2, getElem_cons_succ → zq3, setIfInBounds_toArray → zq4, set_cons_zero → zq5, set_cons_succ → zq6
open Go.RowKit
def fG (i:Nat):Value:=.int .i64 (i:Int)
def d0:aF:=⟨0,0,0,0,0,0⟩
def pE (n:Int) (x:aF):Bool:=decide (x.thread<0∨n<=x.thread)
def fI (n:Int) (calls:List aF):Int:=if n<1∨16<n then 1 else if 1000<calls.length then 3 else if calls.any (pE n)=true then 1 else 0
def iQ (n:Int) (l:List aF):Bool:=l.any (pE n)
structure CQ (w wr:World) (calls:List aF) (k:Nat) (M:Int->Value):Prop where
 line:wr.heap[w.heap.size+1]?=some (.cells #[.map (some w.heap.size),.int .i64 (calls.length:Int)] 113 (0,0))
 map:MapAt wr w.heap.size k M
 rows:∀ p,wr.ownsRow w.heap.size 3 1 (M p) (qOf calls k p).length ((qOf calls k p).map fG)
 apart:∀ p p',p≠p'->(M p).ownBlock=none∨(M p).ownBlock≠(M p').ownBlock
 below:Below w.heap.size w wr
theorem BJ (n:Int) (a:Option Addr) (len c:Nat) (w:World) (er:Int) (hm:len<=maxLen) (h:(n<1∨16<n)/\er=1∨(1<=n/\n<=16/\1000<len)/\er=3) :
  Calls Try.prog 40 #[.int .i64 n,.slice a len c] w λe w'=>e=.returned (.tuple #[.pointer none,.int .i64 er])/\w=w':=by
 unfold maxLen at hm
 rcases h with⟨h|h,rfl⟩|⟨⟨h1,h2,h3⟩,rfl⟩
 ·go_enter Try.func40,Try.ntmps40
  go_wp2
  go_ret2
  exact⟨rfl,rfl⟩
 ·have h1:1<=n:=by omega
  go_enter Try.func40,Try.ntmps40
  go_wp2
  go_ret2
  exact⟨rfl,rfl⟩
 ·have h4:(1000:Int)<len:=by omega
  go_enter Try.func40,Try.ntmps40
  go_wp2
  go_ret2
  exact⟨rfl,rfl⟩
theorem sM {w:World} {a:Option Addr} {l:List aF} (hs:bS w a l.length 6 (gJ l)) {w':World} (hb:Below w.heap.size w w') {k:Nat} (hk:k<l.length) :
  ∃ b off,a=some ⟨b,off,none⟩/\w'.cell? ⟨b,off+k*6,none⟩=some (.int .i64 l[k].thread)/\w'.cell? ⟨b,off+k*6+1,none⟩=some (.int .i64 l[k].obj)/\w'.cell? ⟨b,off+k*6+2,none⟩=some (.int .i64 l[k].kind)/\
   w'.cell? ⟨b,off+k*6+3,none⟩=some (.int .u64 (l[k].a:Int))/\w'.cell? ⟨b,off+k*6+4,none⟩=some (.int .u64 (l[k].b:Int))/\w'.cell? ⟨b,off+k*6+5,none⟩=some (.int .u64 (l[k].c:Int)):=by
 obtain⟨b,off,ha,hc⟩:=hs.elem hb hk
 refine⟨b,off,ha,?_,?_,?_,?_,?_,?_⟩
 ·have:=hc 0 (by omega);rw [Nat.add_zero] at this;rw [this];simp [gJ,List.getD_eq_getElem?_getD,hk]
 ·have:=hc 1 (by omega);rw [<-Nat.add_assoc] at this;rw [this];simp [gJ,List.getD_eq_getElem?_getD,hk]
 ·have:=hc 2 (by omega);rw [<-Nat.add_assoc] at this;rw [this];simp [gJ,List.getD_eq_getElem?_getD,hk]
 ·have:=hc 3 (by omega);rw [<-Nat.add_assoc] at this;rw [this];simp [gJ,List.getD_eq_getElem?_getD,hk]
 ·have:=hc 4 (by omega);rw [<-Nat.add_assoc] at this;rw [this];simp [gJ,List.getD_eq_getElem?_getD,hk]
 ·have:=hc 5 (by omega);rw [<-Nat.add_assoc] at this;rw [this];simp [gJ,List.getD_eq_getElem?_getD,hk]
theorem CZ:(Try.prog.info? 3).map (λi=>(i.zero,i.size,i.bytes))=some (some (.int .i64 0),1,8):=by kernel_rfl
theorem nN (w:World) {ops:Array Oper} {o:Oper} {a:Act} {K:Act->World->Prop} {Q:Exit->Act->World->Prop} {E:Prop}
  (hg:o.guard=none) (m x v:Operand) (hop:o.op=Op.mapUpdate 111 m x v) (b n:Nat) (M:Int->Value)
  (hm:a.eval m=.map (some b)) (hown:MapAt w b n M) (hn:n<maxLen) (key:Int) (val:Value) (hx:a.eval x=.int .i64 key) (hv:a.eval v=val) (hw:(Lit.int .i64 key).wf=true)
  (hK:∀ w',MapAt w' b (n+1) (upd M key val)->w.grownBy w' (some b)->K (a.put o.dst undef) w') :
  if Region.wanted o (yielded ops a.tmps)=true then Oper.wp Try.prog o a w K Q else E:=by
 rw [if_pos (by simp [Region.wanted,hg])]
 obtain⟨w',hrun,r1,r2⟩:=hown.put hn hw val
 unfold Oper.wp
 simp [execOp,hop,hm,hx,hv,hrun,Result.andThen]
 exact hK w' r1 r2
def KZ (n:Int) (l:List aF) (w:World) (e:Ending) (w':World):Prop:=
 (iQ n l=true/\e=.returned (.tuple #[.pointer none,.int .i64 1])/\Below w.heap.size w w')∨
 (iQ n l=false/\e=.returned (.tuple #[.pointer (some ⟨w.heap.size+1,0,none⟩),.int .i64 0])/\∃ M,CQ w w' l l.length M)
theorem OI (n:Int) (l:List aF) (a:Option Addr) (c:Nat) (w:World) (hs:bS w a l.length 6 (gJ l)) (h1:1<=n) (h2:n<=16) (h3:l.length<=1000) (hwf:∀ x∈l,(Lit.int .i64 x.thread).wf=true) :
  Calls Try.prog 40 #[.int .i64 n,.slice a l.length c] w λe w'=>KZ n l w e w':=by
 have Hs:=Lib.hid hs;have Hwf:=Lib.hid hwf;clear hs hwf
 have hmm:=@run_makeMap Try.prog
 obtain⟨i0,hi,hz0,hz1,hz2⟩:=info_parts CZ
 go_enter Try.func40,Try.ntmps40
 go_wp2
 go_loopw [7,8,27] (λ_ _ i wr=>∃ k M,k<=l.length/\i=.int .i64 (k:Nat)/\CQ w wr l k M/\Hid (∀ j,(h:j<k)->(hl:j<l.length)->pE n l[j]=false)) (λ_ _ i _=>l.length - (intOf i).toNat)
 case atStart=>
  refine⟨0,λ_=>.slice none 0 0,Nat.zero_le _,rfl,⟨?_,?_,λp=>World.ownsRow_nil _ _ _ _,λ_ _ _=>.inl rfl,Gr.alloc (Gr.new _ _) _⟩,λj h=>absurd h (Nat.not_lt_zero j)⟩
  ·have:=heap_alloc_new (w.alloc (.map #[] 0)) (.cells #[.map (some w.heap.size),.int .i64 (l.length:Int)] 113 (0,0))
   simpa using this
  ·exact MapAt.block (MapAt.made w) (Below.heap_alloc _ _ _ (by simp))
 case round=>
  obtain⟨k,M,hk,rfl,hst,hok⟩:=hrel
  by_cases hlt:k<l.length
  ·obtain⟨b,off,rfl,c0,c1,c2,c3,c4,c5⟩:=sM Hs.out hst.below hlt
   obtain⟨t,ht⟩:∃ t,t=l[k].thread:=⟨_,rfl⟩
   rw [<-ht] at c0
   have htw:(Lit.int .i64 t).wf=true:=by rw [ht];exact Hwf.out _ (List.getElem_mem hlt)
   have Ht:=Lib.hid ht
   have hany:t<0∨n<=t->iQ n l=true:=λh=>by unfold iQ;exact List.any_eq_true.2 ⟨l[k],List.getElem_mem hlt,by unfold pE;rw [<-Ht.out];simpa using h⟩
   clear ht
   by_cases hb1:t<0
   ·have Hany:=Lib.hid (hany (.inl hb1));clear hany
    go_wp2
    go_ret2
    exact .inl ⟨Hany.out,rfl,hst.below.alloc hst.below.size _⟩
   by_cases hb2:n<=t
   ·have Hany:=Lib.hid (hany (.inr hb2));clear hany
    go_wp2
    go_ret2
    exact .inl ⟨Hany.out,rfl,hst.below.alloc hst.below.size _⟩
   ·clear hany
    have hln:=hst.line
    have QC:wr.cell? ⟨w.heap.size+1,0,none⟩=some (.map (some w.heap.size)):=by rw [aA hln];rfl
    have hlk:=hst.map.look htw
    have Hln:=Lib.hid hln;have Hlk:=Lib.hid hlk;clear hln hlk
    go_wp2
    obtain⟨C,hC⟩:∃ C:Array Value,C=#[.int .i64 t,.int .i64 l[k].obj,.int .i64 l[k].kind,.int .u64 (l[k].a:Int),.int .u64 (l[k].b:Int),.int .u64 (l[k].c:Int)]:=⟨_,rfl⟩
    rw [<-hC]
    have hC0:C[0]?=some (.int .i64 t):=by rw [hC];rfl
    clear hC c0 c1 c2 c3 c4 c5
    obtain⟨wb,hwb⟩:∃ wb,wb=wr.alloc (.cells C 46):=⟨_,rfl⟩
    have g1:wb.cell? ⟨w.heap.size+1,0,none⟩=some (.map (some w.heap.size)):=by rw [hwb,(Gr.new wr _).cell (aC Hln.out)];exact QC
    have g2:wb.cell? ⟨wr.heap.size,0,none⟩=some (.int .i64 t):=by rw [hwb,dZ];exact hC0
    have hgr:Below wr.heap.size wr wb:=by rw [hwb];exact Gr.new _ _
    have hsz:wr.heap.size<wb.heap.size:=by rw [hwb];simp
    rw [<-hwb]
    clear hwb QC hC0
    have hmap:MapAt wb w.heap.size k M:=hst.map.block (hgr.block _ hst.map.lt)
    have hrow:∀ p,wb.ownsRow w.heap.size 3 1 (M p) (qOf l k p).length ((qOf l k p).map fG):=λp=>oN (hst.rows p) hgr
    have Hmap:=Lib.hid hmap;have Hrow:=Lib.hid hrow
    refine kU (λx=>x.cell? ⟨w.heap.size+1,0,none⟩=some (.map (some w.heap.size))/\x.cell? ⟨wr.heap.size,0,none⟩=some (.int .i64 t)/\(Instr.lookup 111 (.map (some w.heap.size)) (.int .i64 t) false).run Try.prog x=.ok (M t) x) 16 (by kernel_rfl) ⟨g1,g2,(MapAt.block (w':=wb.drew) hmap rfl).look htw⟩ ?_
    intro hS hcl
    clear hmap hrow g1 g2
    refine aS (i:=0) (v:=(.pointer (some ⟨w.heap.size+1,0,none⟩))) 17 rfl (by kernel_rfl) (by kernel_rfl) (by kernel_rfl) (by kernel_rfl) (by kernel_rfl) hcl (λ_ _ _ h=>h) (Or.inl ⟨by rfl,?_⟩) hS ?_
    ·intro x hx;obtain⟨hx1,hx2,hx3⟩:=hx;go_simp
    clear hcl;intro hcl
    simp only [Act.put,zq4,zq5,zq6]
    refine aS (i:=1) (v:=(.pointer (some ⟨w.heap.size+1,0,none⟩))) 17 rfl (by kernel_rfl) (by kernel_rfl) (by kernel_rfl) (by kernel_rfl) (by kernel_rfl) hcl (λ_ _ _ h=>h) (Or.inl ⟨by rfl,?_⟩) hS ?_
    ·intro x hx;obtain⟨hx1,hx2,hx3⟩:=hx;go_simp
    clear hcl;intro hcl
    simp only [Act.put,zq4,zq5,zq6]
    refine aS (i:=2) (v:=(.pointer (some ⟨w.heap.size+1,0,none⟩))) 17 rfl (by kernel_rfl) (by kernel_rfl) (by kernel_rfl) (by kernel_rfl) (by kernel_rfl) hcl (λ_ _ _ h=>h) (Or.inl ⟨by rfl,?_⟩) hS ?_
    ·intro x hx;obtain⟨hx1,hx2,hx3⟩:=hx;go_simp
    clear hcl;intro hcl
    simp only [Act.put,zq4,zq5,zq6]
    refine aS (i:=3) (v:=(.map (some w.heap.size))) 17 rfl (by kernel_rfl) (by kernel_rfl) (by kernel_rfl) (by kernel_rfl) (by kernel_rfl) hcl (λ_ _ _ h=>h) (Or.inl ⟨by rfl,?_⟩) hS ?_
    ·intro x hx;obtain⟨hx1,hx2,hx3⟩:=hx;go_simp
    clear hcl;intro hcl
    simp only [Act.put,zq4,zq5,zq6]
    refine aS (i:=4) (v:=(.pointer (some ⟨wr.heap.size,0,none⟩))) 17 rfl (by kernel_rfl) (by kernel_rfl) (by kernel_rfl) (by kernel_rfl) (by kernel_rfl) hcl (λ_ _ _ h=>h) (Or.inl ⟨by rfl,?_⟩) hS ?_
    ·intro x hx;obtain⟨hx1,hx2,hx3⟩:=hx;go_simp
    clear hcl;intro hcl
    simp only [Act.put,zq4,zq5,zq6]
    refine aS (i:=5) (v:=(.int .i64 t)) 17 rfl (by kernel_rfl) (by kernel_rfl) (by kernel_rfl) (by kernel_rfl) (by kernel_rfl) hcl (λ_ _ _ h=>h) (Or.inl ⟨by rfl,?_⟩) hS ?_
    ·intro x hx;obtain⟨hx1,hx2,hx3⟩:=hx;go_simp
    clear hcl;intro hcl
    simp only [Act.put,zq4,zq5,zq6]
    refine aS (i:=6) (v:=(.pointer (some ⟨w.heap.size+1,0,none⟩))) 17 rfl (by kernel_rfl) (by kernel_rfl) (by kernel_rfl) (by kernel_rfl) (by kernel_rfl) hcl (λ_ _ _ h=>h) (Or.inl ⟨by rfl,?_⟩) hS ?_
    ·intro x hx;obtain⟨hx1,hx2,hx3⟩:=hx;go_simp
    clear hcl;intro hcl
    simp only [Act.put,zq4,zq5,zq6]
    refine aS (i:=7) (v:=(.pointer (some ⟨w.heap.size+1,0,none⟩))) 17 rfl (by kernel_rfl) (by kernel_rfl) (by kernel_rfl) (by kernel_rfl) (by kernel_rfl) hcl (λ_ _ _ h=>h) (Or.inl ⟨by rfl,?_⟩) hS ?_
    ·intro x hx;obtain⟨hx1,hx2,hx3⟩:=hx;go_simp
    clear hcl;intro hcl
    simp only [Act.put,zq4,zq5,zq6]
    refine aS (i:=8) (v:=(.pointer (some ⟨w.heap.size+1,0,none⟩))) 17 rfl (by kernel_rfl) (by kernel_rfl) (by kernel_rfl) (by kernel_rfl) (by kernel_rfl) hcl (λ_ _ _ h=>h) (Or.inl ⟨by rfl,?_⟩) hS ?_
    ·intro x hx;obtain⟨hx1,hx2,hx3⟩:=hx;go_simp
    clear hcl;intro hcl
    simp only [Act.put,zq4,zq5,zq6]
    refine aS (i:=9) (v:=(.map (some w.heap.size))) 17 rfl (by kernel_rfl) (by kernel_rfl) (by kernel_rfl) (by kernel_rfl) (by kernel_rfl) hcl (λ_ _ _ h=>h) (Or.inl ⟨by rfl,?_⟩) hS ?_
    ·intro x hx;obtain⟨hx1,hx2,hx3⟩:=hx;go_simp
    clear hcl;intro hcl
    simp only [Act.put,zq4,zq5,zq6]
    refine aS (i:=10) (v:=(.pointer (some ⟨wr.heap.size,0,none⟩))) 17 rfl (by kernel_rfl) (by kernel_rfl) (by kernel_rfl) (by kernel_rfl) (by kernel_rfl) hcl (λ_ _ _ h=>h) (Or.inl ⟨by rfl,?_⟩) hS ?_
    ·intro x hx;obtain⟨hx1,hx2,hx3⟩:=hx;go_simp
    clear hcl;intro hcl
    simp only [Act.put,zq4,zq5,zq6]
    refine aS (i:=11) (v:=(.int .i64 t)) 17 rfl (by kernel_rfl) (by kernel_rfl) (by kernel_rfl) (by kernel_rfl) (by kernel_rfl) hcl (λ_ _ _ h=>h) (Or.inl ⟨by rfl,?_⟩) hS ?_
    ·intro x hx;obtain⟨hx1,hx2,hx3⟩:=hx;go_simp
    clear hcl;intro hcl
    simp only [Act.put,zq4,zq5,zq6]
    refine aS (i:=12) (v:=(M t)) 17 rfl (by kernel_rfl) (by kernel_rfl) (by kernel_rfl) (by kernel_rfl) (by kernel_rfl) hcl (λ_ _ _ h=>h) (Or.inl ⟨by rfl,?_⟩) hS ?_
    ·intro x hx;obtain⟨hx1,hx2,hx3⟩:=hx;go_simp
    clear hcl;intro hcl
    simp only [Act.put,zq4,zq5,zq6]
    refine aS (i:=13) (v:=(.int .i64 (k:Int))) 17 rfl (by kernel_rfl) (by kernel_rfl) (by kernel_rfl) (by kernel_rfl) (by kernel_rfl) hcl (λ_ _ _ h=>h) (Or.inl ⟨by rfl,?_⟩) hS ?_
    ·intro x hx;obtain⟨hx1,hx2,hx3⟩:=hx;go_simp
    clear hcl;intro hcl
    simp only [Act.put,zq4,zq5,zq6]
    refine bZ (i:=14) (by kernel_rfl) rfl hcl (λK' hK=>?_)
    have HK:=Lib.hid hK;clear hK
    go_simp
    have l1:w.heap.size+1<wb.heap.size:=World.block_lt_of_cell? _ _ hS.1
    have l2:=hst.below.size
    have hgd:Below wb.heap.size wb (wb.alloc (.cells #[.int .i64 (k:Int)] 3)).drew:=(Gr.new wb _).drew
    have s1:(wb.alloc (.cells #[.int .i64 (k:Int)] 3)).drew.cell? ⟨w.heap.size+1,0,none⟩=some (.map (some w.heap.size)):=by rw [hgd.cell l1];exact hS.1
    have s2:(wb.alloc (.cells #[.int .i64 (k:Int)] 3)).drew.cell? ⟨wr.heap.size,0,none⟩=some (.int .i64 t):=by rw [hgd.cell hsz];exact hS.2.1
    refine HK.out _ _ (λ_=>⟨s1,s2,(MapAt.block (w:=wb) Hmap.out (hgd.block _ Hmap.out.lt)).look htw⟩) (λhcl=>?_)
    clear HK
    have ol:(qOf l k t).length<=k:=BO _ _ _
    refine bZ (i:=15) (by kernel_rfl) rfl hcl (λK' hK=>?_)
    have HK:=Lib.hid hK;clear hK
    refine step_append_lies _ rfl (.tmp 53) (.tmp 55) 24 rfl w.heap.size 3 i0 (.int .i64 0) 1 8 Try.underlying24 hi hz0 hz1 hz2 rfl (by decide) (M t) _ _ rfl (((Hrow.out t).alloc _).drew)
      ⟨wb.heap.size,0,none⟩ 1 1 [.int .i64 (k:Int)] rfl rfl (World.news_of_block (cs:=#[.int .i64 (k:Int)]) (t:=3) (fr:=(0,0)) (heap_alloc_new wb _)) (by simp [Value.oneCell'])
      (by omega) (by unfold maxLen;omega) (by omega) (by simp;omega) (wb.heap.size+1) (by simp) ?_
    intro gg cap w3 hown hgrow hat hltg
    have IA:MapAt w3 w.heap.size k M:=MapAt.block (w:=wb) Hmap.out ((hgrow.block _ (by simp;have:=Hmap.out.lt;omega) (λe=>by
     have h1:=(Hrow.out t).lt _ e.symm
     obtain⟨D,⟨es,clock,h2,_⟩,_⟩:=Hmap.out
     obtain⟨_,h3⟩:=Hrow.out t
     rcases h3 with⟨h3,_⟩|⟨g,cap',cur,h3,_,h4,_⟩
     ·rw [h3] at e;cases e
     ·rw [h3] at e;simp only [Value.ownBlock,Option.some.injEq] at e;rw [<-e,h2] at h4;cases h4)).trans (hgd.block _ Hmap.out.lt))
    have KG:w3.heap[w.heap.size+1]?=some (.cells #[.map (some w.heap.size),.int .i64 (l.length:Int)] 113 (0,0)):=by
     rw [hgrow.block _ (by simp;omega) (λe=>by
      obtain⟨_,h3⟩:=Hrow.out t
      rcases h3 with⟨h3,_⟩|⟨g,cap',cur,h3,_,h4,_⟩
      ·rw [h3] at e;cases e
      ·rw [h3] at e
       simp only [Value.ownBlock,Option.some.injEq] at e
       rw [<-e,hgr.block _ (aC Hln.out),Hln.out] at h4
       simp at h4),hgd.block _ l1,hgr.block _ (aC Hln.out)]
     exact Hln.out
    have s3:w3.cell? ⟨w.heap.size+1,0,none⟩=some (.map (some w.heap.size)):=by rw [aA KG];rfl
    have s4:w3.cell? ⟨wr.heap.size,0,none⟩=some (.int .i64 t):=by
     rw [hgrow.cell_far _ (by simp;omega) (λe=>by have h1:=(Hrow.out t).lt _ e.symm;have h2:=(hst.rows t).lt _ e.symm;simp at h2),s2]
    refine HK.out _ _ (λ_=>⟨s3,s4,IA.look htw⟩) (λhcl=>?_)
    clear HK
    refine bZ (i:=16) (by kernel_rfl) rfl hcl (λK' hK=>?_)
    have HK:=Lib.hid hK;clear hK
    refine nN _ rfl (.tmp 44) (.tmp 46) (.tmp 56) rfl w.heap.size k M rfl IA (by unfold maxLen;omega) t _ rfl rfl htw ?_
    intro w4 MO rW
    refine HK.out _ _ (λh=>by cases h.symm.trans (by kernel_rfl:_=true)) (λ_=>lH (by kernel_rfl) ?_ _)
    clear HK
    have hb3:Below w.heap.size w w3:=(((hst.below.trans (hgr.mono l2)).trans (hgd.mono (by omega))).grown hgrow (by simp;omega) (λq hq=>((Hrow.out t).lt q hq).1))
    have hb4:Below w.heap.size w w4:=hb3.grown rW hb3.size (λq hq=>by cases hq;exact Nat.le_refl _)
    have hq1:qOf l (k+1) t=qOf l k t++[k]:=by
     rw [xO,List.getD_eq_getElem?_getD]
     simp [hlt,<-Ht.out]
    have hq2:∀ p,p≠t->qOf l (k+1) p=qOf l k p:=λp hp=>by
     rw [xO,List.getD_eq_getElem?_getD]
     simp [hlt,<-Ht.out,Ne.symm hp]
    have hnb:(M t).ownBlock≠some w.heap.size:=λe=>by
     obtain⟨D,⟨es,clock,h2,_⟩,_⟩:=Hmap.out
     obtain⟨_,h3⟩:=Hrow.out t
     rcases h3 with⟨h3,_⟩|⟨g,cap',cur,h3,_,h4,_⟩
     ·rw [h3] at e;cases e
     ·rw [h3] at e;simp only [Value.ownBlock,Option.some.injEq] at e;rw [e,h2] at h4;cases h4
    have hgg:gg≠w.heap.size:=by rcases hat with h|h;rintro rfl;exact hnb h;omega
    have QP:CQ w w4 l (k+1) (upd M t (.slice (some ⟨gg,0,none⟩) ((qOf l k t).length+1) cap)):=by
     refine⟨?_,MO,λp=>?_,λp p' hp=>?_,hb4⟩
     ·rw [rW.block _ (aC KG) (by simp)];exact KG
     ·by_cases hp:p=t
      ·subst hp
       rw [upd_same,hq1]
       have h5:=hown.kept rW (.inr (by simpa [Value.ownBlock] using hgg))
       simpa [fG] using h5
      ·rw [iG _ _ hp,hq2 p hp]
       have h5:=(((Hrow.out p).alloc (.cells #[.int .i64 (k:Int)] 3)).drew.kept hgrow (hst.apart p t hp)).kept rW (by
        rcases Option.eq_none_or_eq_some (M p).ownBlock with h6|⟨g,h6⟩
        ·exact .inl h6
        ·right
         intro h7
         obtain⟨D,⟨es,clock,h2,_⟩,_⟩:=Hmap.out
         obtain⟨_,h3⟩:=Hrow.out p
         rcases h3 with⟨h3,_⟩|⟨g',cap',cur,h3,_,h4,_⟩
         ·rw [h3] at h7;cases h7
         ·rw [h3] at h7;simp only [Value.ownBlock,Option.some.injEq] at h7;rw [h7,h2] at h4;cases h4)
       exact h5
     ·have fresh:∀ p,p≠t->(M p).ownBlock=none∨(M p).ownBlock≠some gg:=λp hp=>by
       rcases hat with h|h
       ·rw [<-h];exact hst.apart p t hp
       ·right;intro h6;have:=((Hrow.out p).lt gg h6).2;omega
      by_cases hpt:p=t
      ·subst hpt
       rw [upd_same,iG _ _ hp.symm]
       right
       intro h6
       rcases fresh p' hp.symm with h7|h7
       ·rw [h7] at h6;cases h6
       ·exact h7 h6.symm
      ·rw [iG _ _ hpt]
       by_cases hpt':p'=t
       ·subst hpt'
        rw [upd_same]
        exact fresh p hpt
       ·rw [iG _ _ hpt']
        exact hst.apart p p' hp
    have hok':∀ j,(h:j<k+1)->(hl:j<l.length)->pE n l[j]=false:=λj h hl=>by
     rcases Nat.lt_succ_iff_lt_or_eq.1 h with h|rfl
     ·exact hok.out j h hl
     ·unfold pE;rw [<-Ht.out];simp;omega
    have Hst:=Lib.hid QP;have Hok:=Lib.hid hok'
    clear QP hok' MO IA KG s1 s2 s3 s4 hS hown hgrow rW hat hq2 hcl
    go_wp2
    go_roundw
    case rel=>exact⟨k+1,_,by omega,by go_num,Hst.out,Hok.out⟩
    case measure=>simp [intOf]<;>omega
  ·obtain rfl:k=l.length:=by omega
   go_wp2
   go_ret2
   have hno:iQ n l=false:=by
    unfold iQ
    rw [List.any_eq_false]
    intro x hx
    obtain⟨j,hj,rfl⟩:=List.getElem_of_mem hx
    have:=hok.out j hj hj
    simp [this]
   exact .inr ⟨hno,rfl,M,hst⟩
end Go.Proofs.Ytifhldnmcdbpfaa
