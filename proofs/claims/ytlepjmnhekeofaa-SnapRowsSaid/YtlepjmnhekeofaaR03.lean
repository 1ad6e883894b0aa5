/- Contracts of package pick. -/
import Derived.Test.YtlepjmnhekeofaaR01
import Derived.Test.YtlepjmnhekeofaaR02
import Derived.StillTailTactics
set_option maxRecDepth 100000
set_option linter.unusedVariables false
set_option linter.unusedSimpArgs false
set_option linter.unnecessarySimpa false
namespace Go.Proofs.Ytlepjmnhekeofaa
open Go.RowKit
structure CallD where
  thread:Int
  obj:Int
  kind:Int
  a:Nat
  b:Nat
  c:Nat
def callG (l:List CallD) (j f:Nat):Value:=
  let x:=l.getD j ⟨0,0,0,0,0,0⟩
  if f=0 then .int .i64 x.thread else if f=1 then .int .i64 x.obj else if f=2 then .int .i64 x.kind else if f=3 then .int .u64 (x.a:Int) else if f=4 then .int .u64 (x.b:Int) else .int .u64 (x.c:Int)
def natG (l:List Nat) (j _f:Nat):Value:=.int .i64 ((l.getD j 0:Nat):Int)
def qOf (calls:List CallD) (k:Nat) (p:Int):List Nat:=(List.range k).filter λi=>decide ((calls.getD i ⟨0,0,0,0,0,0⟩).thread=p)
theorem qOf_succ (calls:List CallD) (k:Nat) (p:Int):qOf calls (k+1) p=qOf calls k p++(if (calls.getD k ⟨0,0,0,0,0,0⟩).thread=p then [k] else []):=by
  unfold qOf
  rw [List.range_succ,List.filter_append]
  congr 1
  simp [List.filter_cons]
theorem qOf_len (calls:List CallD) (k:Nat) (p:Int):(qOf calls k p).length<=k:=by
  unfold qOf
  exact Nat.le_trans (List.length_filter_le _ _) (by simp)
structure LineAt (w:World) (Z:Nat->Prop) (bl bm n:Nat) (M:Int->Value) (q:Int->List Nat) (left:Int):Prop where
  line:w.heap[bl]?=some (.cells #[.map (some bm),.int .i64 left] 106 (0,0))
  map:MapAt w bm n M
  rows:∀ p,∃ a c,M p=.slice a (q p).length c/\(q p).length<=c/\SlAt w a (q p).length 1 (natG (q p))/\(∀ b off,a=some ⟨b,off,none⟩->b≠bl/\b≠bm/\Z b)
theorem now_no (Z:Nat->Prop) (bl bm n:Nat) (M:Int->Value) (q:Int->List Nat) (left p:Int) (w:World) (h:LineAt w Z bl bm n M q left) (hw:(Lit.int .i64 p).wf=true) (hq:(q p).length=0) :
    Calls Try.prog 57 #[.pointer (some ⟨bl,0,none⟩),.int .i64 p] w λe w'=>e=.returned (.tuple #[.int .i64 0,.bool false])/\w=w':=by
  have hl0:w.cell? ⟨bl,0,none⟩=some (.map (some bm)):=by rw [cell_blk h.line];rfl
  obtain⟨a,c,hM,hcap,hs,_⟩:=h.rows p
  have hlk:=h.map.look hw
  rw [hq] at hM
  rw [hM] at hlk
  clear h hM hs hq hcap
  go_enter Try.func57,Try.ntmps57
  go_wp2
  go_ret2
  exact⟨rfl,rfl⟩
theorem now_yes (Z:Nat->Prop) (bl bm n:Nat) (M:Int->Value) (q:Int->List Nat) (left p:Int) (w:World) (h:LineAt w Z bl bm n M q left) (hw:(Lit.int .i64 p).wf=true) (i:Nat) (r:List Nat) (hq:q p=i::r) :
    Calls Try.prog 57 #[.pointer (some ⟨bl,0,none⟩),.int .i64 p] w λe w'=>e=.returned (.tuple #[.int .i64 (i:Int),.bool true])/\w=w':=by
  have hl0:w.cell? ⟨bl,0,none⟩=some (.map (some bm)):=by rw [cell_blk h.line];rfl
  obtain⟨a,c,hM,hcap,hs,_⟩:=h.rows p
  have hlk:=h.map.look hw
  obtain⟨m,hm⟩:∃ m,m=r.length:=⟨_,rfl⟩
  have hlen:(q p).length=m+1:=by rw [hq,hm];rfl
  obtain⟨b,off,rfl,_,hc⟩:=hs.2 0 (by omega)
  have h0:w.cell? ⟨b,off,none⟩=some (.int .i64 (i:Int)):=by have:=hc 0 (by omega);simpa [natG,hq] using this
  have hmx:=hs.1
  rw [hlen] at hM hmx
  unfold maxLen at hmx
  rw [hM] at hlk
  clear h hM hs hq hc hlen hm hcap
  go_enter Try.func57,Try.ntmps57
  go_wp2
  go_ret2
  exact⟨rfl,rfl⟩
def qDrop (q:Int->List Nat) (p:Int):Int->List Nat:=λx=>if x=p then (q x).tail else q x
theorem finish_yes (Z:Nat->Prop) (bl bm n:Nat) (M:Int->Value) (q:Int->List Nat) (left p:Int) (w:World) (h:LineAt w Z bl bm n M q left) (hn:n<maxLen) (hw:(Lit.int .i64 p).wf=true) (i:Nat) (r:List Nat) (hq:q p=i::r)
    (hleft:-1000000<=left) (hleft2:left<=1000000) :
    Calls Try.prog 59 #[.pointer (some ⟨bl,0,none⟩),.int .i64 p] w λe w'=>e=.returned (.int .i64 0)/\Chg (λb=>b=bl∨b=bm) w w'/\
      ∃ M',LineAt w' Z bl bm (n+1) M' (qDrop q p) (left - 1):=by
  have H:=Lib.hid (now_yes Z bl bm n M q left p w h hw i r hq)
  have Hh:=Lib.hid h
  have hl0:w.cell? ⟨bl,0,none⟩=some (.map (some bm)):=by rw [cell_blk h.line];rfl
  have hlkd:=(MapAt.block (w':=w.drew) h.map rfl).look hw
  have hne:bl≠bm:=by
    rintro rfl
    obtain⟨D,⟨es,clock,h1,_⟩,_⟩:=h.map
    rw [h.line] at h1;cases h1
  obtain⟨a,c,hM,hcap,hs,hab⟩:=h.rows p
  have hlk:=h.map.look hw
  obtain⟨m,hm⟩:∃ m,m=r.length:=⟨_,rfl⟩
  have hlen:(q p).length=m+1:=by rw [hq,hm];rfl
  obtain⟨b,off,rfl,_,hc⟩:=hs.2 0 (by omega)
  have hmx:=hs.1
  rw [hlen] at hM hmx hcap
  unfold maxLen at hmx
  rw [hM] at hlk hlkd
  have hcap1:(1:Int)<=(m:Int)+1:=by omega
  have Hs:=Lib.hid hs;have Hm:=Lib.hid hm;have Hab:=Lib.hid hab;have Hlen:=Lib.hid hlen;have Hq:=Lib.hid hq;have HM:=Lib.hid hM
  clear h hs hq hc hlen hm hab hM
  by_cases hc1:c=1
  all_goals
    go_enter Try.func59,Try.ntmps59
    go_wp2_with (go_at_call 57;refine(H.out).mono ?_;rintro e w' ⟨rfl,rfl⟩)
    go_still_tail 12,(by kernel_rfl)
    change wpList _ _ _ _ _ w.drew
    go_wp2_with (at_mapUpdate;refine wpList_mapUpdate_at _ rfl _ _ _ rfl bm n M rfl (MapAt.block (w:=w) Hh.out.map rfl) hn p _ rfl rfl hw ?_)
    intro w2 hmap hgrow
    have hb2:w2.heap[bl]?=some (.cells #[.map (some bm),.int .i64 left] 106 (0,0)):=by rw [hgrow.block bl (blk_lt Hh.out.line) (by simpa using hne)];exact Hh.out.line
    have hl1:w2.cell? ⟨bl,1,none⟩=some (.int .i64 left):=by rw [cell_blk hb2];rfl
    have hf1:w2.frozen? ⟨bl,1,none⟩=false:=frozen_blk hb2 1
    have Hb2:=Lib.hid hb2;have Hmap:=Lib.hid hmap;have Hgrow:=Lib.hid hgrow
    clear hb2 hmap hgrow hlk hlkd
    go_wp2
    go_ret
    have hchg:Chg (λb=>b=bl∨b=bm) w (w2.setCell ⟨bl,1,none⟩ (.int .i64 (left - 1))):=((Chg.refl _ w).drew.grown Hgrow.out (λk hk=>by cases hk;exact .inl (.inr rfl))).setCell (.inl (.inl rfl)) _
    refine⟨rfl,hchg,_,⟨blk_set Hb2.out 1 (.int .i64 (left - 1)),Hmap.out.block (blk_set_other hne.symm 1 _),?_⟩⟩
    · intro x
      by_cases hx:x=p
      · subst hx
        rw [upd_same]
        have htl:qDrop q x x=r:=by simp [qDrop,Hq.out]
        have hrl:r.length=m:=Hm.out.symm
        rw [htl,hrl]
        refine⟨_,_,rfl,by omega,⟨by unfold maxLen;omega,λj hj=>?_⟩,?_⟩
        · obtain⟨b',off',e,hbs,hc⟩:=(Hs.out.chg hchg (λb' off' e=>by have:=Hab.out b' off' e;rintro(h|h);exact this.1 h;exact this.2.1 h)).2 (j+1) (by rw [Hlen.out];omega)
          cases e
          first
            | (refine⟨b,off+1,rfl,hbs,λf hf=>?_⟩
               obtain rfl:f=0:=by omega
               have:=hc 0 (by omega)
               rw [show off+1+(j*1+0)=off+((j+1)*1+0) by omega,this]
               simp [natG,Hq.out])
            | omega
        · intro b' off' e
          cases e
          exact Hab.out b off rfl
      · rw [upd_other _ _ hx]
        have htl:qDrop q p x=q x:=by simp [qDrop,hx]
        rw [htl]
        obtain⟨a',c',h1,h2,h3,h4⟩:=Hh.out.rows x
        exact⟨a',c',h1,h2,h3.chg hchg (λb' off' e=>by have:=h4 b' off' e;rintro(h|h);exact this.1 h;exact this.2.1 h),h4⟩
end Go.Proofs.Ytlepjmnhekeofaa
