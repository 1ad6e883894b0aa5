/- Worlds of which only some blocks have turned. -/
import Derived.Test.YtlepjmnhekeofaaS01
import Derived.Test.YtlepjmnhekeofaaS02
import Derived.StillTailTactics
set_option maxRecDepth 100000
set_option linter.unusedVariables false
set_option linter.unusedSimpArgs false
set_option linter.unnecessarySimpa false
namespace Go.Proofs.Ytlepjmnhekeofaa
section
open Go.RowKit
structure Chg (S:Nat->Prop) (w w':World):Prop where
 os:w'.os=w.os
 tape:w'.tape=w.tape
 output:w'.output=w.output
 size:w.heap.size<=w'.heap.size
 block:∀ k,k<w.heap.size->¬ S k->w'.heap[k]?=w.heap[k]?
theorem Chg.refl (S:Nat->Prop) (w:World):Chg S w w:=⟨rfl,rfl,rfl,Nat.le_refl _,λ_ _ _=>rfl⟩
theorem Chg.trans {S:Nat->Prop} {a b c:World} (h:Chg S a b) (k:Chg S b c):Chg S a c:=
 ⟨k.os.trans h.os,k.tape.trans h.tape,k.output.trans h.output,Nat.le_trans h.size k.size,λi hi hs=>(k.block i (Nat.lt_of_lt_of_le hi h.size) hs).trans (h.block i hi hs)⟩
theorem Chg.mono {S S':Nat->Prop} {a b:World} (h:Chg S a b) (hs:∀ k,k<a.heap.size->S k->S' k):Chg S' a b:=
 ⟨h.os,h.tape,h.output,h.size,λi hi hn=>h.block i hi (λx=>hn (hs i hi x))⟩
theorem Chg.of_below {S:Nat->Prop} {a b:World} (h:Below a.heap.size a b):Chg S a b:=⟨h.os,h.tape,h.output,h.size,λi hi _=>h.block i hi⟩
theorem Chg.below {S:Nat->Prop} {B:Nat} {a b:World} (h:Chg S a b) (hS:∀ k,S k->B<=k) (hB:B<=a.heap.size):Below B a b:=
 ⟨h.os,h.tape,h.output,h.size,λi hi=>h.block i (by omega) (λx=>by have:=hS i x;omega)⟩
theorem Chg.cell {S:Nat->Prop} {a b:World} (h:Chg S a b) {p:Addr} (hp:p.block<a.heap.size) (hS:¬ S p.block):b.cell? p=a.cell? p:=World.cell?_of_block (w:=a) (h.block _ hp hS)
theorem Chg.setCell {S:Nat->Prop} {a b:World} (h:Chg S a b) {p:Addr} (hp:S p.block∨a.heap.size<=p.block) (u:Value):Chg S a (b.setCell p u):=
 ⟨h.os,h.tape,h.output,by simpa [World.setCell] using h.size,λk hk hs=>by
  rw [Below.heap_setCell _ _ _ _ (by rintro rfl;rcases hp with hp|hp;exact hs hp;omega)]
  exact h.block k hk hs⟩
theorem Chg.alloc {S:Nat->Prop} {a b:World} (h:Chg S a b) (o:Obj):Chg S a (b.alloc o):=
 ⟨h.os,h.tape,h.output,by have:=h.size;simp;omega,λk hk hs=>(Below.heap_alloc _ _ _ (by have:=h.size;omega)).trans (h.block k hk hs)⟩
theorem Chg.drew {S:Nat->Prop} {a b:World} (h:Chg S a b):Chg S a b.drew:=⟨h.os,h.tape,h.output,h.size,h.block⟩
theorem Chg.drewN {S:Nat->Prop} {a b:World} (h:Chg S a b) (n:Nat):Chg S a (b.drewN n):=⟨h.os,h.tape,h.output,h.size,h.block⟩
theorem Chg.grown {S:Nat->Prop} {a b c:World} {row:Option Nat} (h:Chg S a b) (hg:b.grownBy c row) (hr:∀ k,row=some k->S k∨a.heap.size<=k):Chg S a c:=
 ⟨hg.os.trans h.os,hg.tape.trans h.tape,hg.output.trans h.output,Nat.le_trans h.size hg.size,λk hk hs=>
  (hg.block k (by have:=h.size;omega) (λe=>by rcases hr k e.symm with h1|h1;exact hs h1;omega)).trans (h.block k hk hs)⟩
theorem SlAt.chg {S:Nat->Prop} {w w':World} {a:Option Addr} {n k:Nat} {g:Nat->Nat->Value} (h:SlAt w a n k g) (hc:Chg S w w') (ha:∀ b off,a=some ⟨b,off,none⟩->¬ S b):SlAt w' a n k g:=by
 refine⟨h.1,λj hj=>?_⟩
 obtain⟨b,off,hab,hs,hcell⟩:=h.2 j hj
 exact⟨b,off,hab,Nat.lt_of_lt_of_le hs hc.size,λf hf=>by rw [hc.cell hs (ha b off hab)];exact hcell f hf⟩
theorem cell_blk {w:World} {b:Nat} {c:Array Value} {e:TypeId} {fz:Nat×Nat} (h:w.heap[b]?=some (.cells c e fz)) (j:Nat):w.cell? ⟨b,j,none⟩=c[j]?:=by
 simp only [World.cell?,h]
 rfl
theorem frozen_blk {w:World} {b:Nat} {c:Array Value} {e:TypeId} (h:w.heap[b]?=some (.cells c e (0,0))) (j:Nat):w.frozen? ⟨b,j,none⟩=false:=by
 simp [World.frozen?,h]
theorem blk_lt {w:World} {b:Nat} {o:Obj} (h:w.heap[b]?=some o):b<w.heap.size:=by
 rcases Nat.lt_or_ge b w.heap.size with h'|h'
 ·exact h'
 ·rw [Array.getElem?_eq_none h'] at h;cases h
theorem blk_set {w:World} {b:Nat} {c:Array Value} {e:TypeId} (h:w.heap[b]?=some (.cells c e (0,0))) (j:Nat) (v:Value):(w.setCell ⟨b,j,none⟩ v).heap[b]?=some (.cells (c.setIfInBounds j v) e (0,0)):=by
 simp [World.setCell,Array.getElem?_modify,h]
theorem blk_set_other {w:World} {b b':Nat} (hne:b'≠b) (j:Nat) (v:Value):(w.setCell ⟨b,j,none⟩ v).heap[b']?=w.heap[b']?:=Below.heap_setCell _ _ _ _ hne
theorem row_form {w:World} {B:Nat} {v:Value} {e:TypeId} {k n:Nat} {xs:List Value} (h:w.ownsRow B e k v n xs):∃ a c,v=.slice a n c:=by
 rcases h.2 with⟨h1,h0⟩|⟨q,cap,cur,h1,_⟩
 ·exact⟨none,0,by rw [h1,h0]⟩
 ·exact⟨_,_,h1⟩
theorem row_chg {S:Nat->Prop} {w w':World} {B:Nat} {v:Value} {e:TypeId} {k n:Nat} {xs:List Value} (h:w.ownsRow B e k v n xs) (hc:Chg S w w') (hS:∀ b,v.ownBlock=some b->¬ S b):w'.ownsRow B e k v n xs:=by
 obtain⟨h1,h2⟩:=h
 refine⟨h1,?_⟩
 rcases h2 with h2|⟨g,cap,cur,hv,hg,hh,r⟩
 ·exact .inl h2
 ·exact .inr ⟨g,cap,cur,hv,hg,(hc.block g (blk_lt hh) (hS g (by rw [hv];rfl))).trans hh,r⟩
theorem row_sl {w:World} {B:Nat} {a:Option Addr} {c:Nat} {e:TypeId} {n:Nat} {xs:List Value} {g:Nat->Nat->Value} (h:w.ownsRow B e 1 (.slice a n c) n xs) (hm:n<=maxLen) (hg:∀ j,j<n->xs[j]?=some (g j 0)) :
  SlAt w a n 1 g/\(∀ b off,a=some ⟨b,off,none⟩->B<=b):=by
 obtain⟨a',c',h1,h2,h3⟩:=sl_of_row h hm hg
 cases h1
 exact⟨h2,h3⟩
theorem undrew {w u:World} (h:Below w.drew.heap.size w.drew u):Below w.heap.size w u:=⟨h.os,h.tape,h.output,h.size,h.block⟩
theorem undrewN {w u:World} {n:Nat} (h:Below (w.drewN n).heap.size (w.drewN n) u):Below w.heap.size w u:=⟨h.os,h.tape,h.output,h.size,h.block⟩
theorem row_below {w w':World} {B:Nat} {v:Value} {e:TypeId} {k n:Nat} {xs:List Value} (h:w.ownsRow B e k v n xs) (hb:Below w.heap.size w w'):w'.ownsRow B e k v n xs:=
 h.kept (row:=none) ⟨hb.os,hb.tape,hb.output,hb.size,λi hi _=>hb.block i hi⟩ (by cases v.ownBlock<;>simp)
theorem box_keep {S:Nat->Prop} {a b:World} {k j:Nat} {v:Value} (hc:Chg S a b) (hk:¬ S k) (h:a.cell? ⟨k,j,none⟩=some v):b.cell? ⟨k,j,none⟩=some v:=by
 refine(hc.cell ?_ hk).trans h
 exact World.block_lt_of_cell? _ _ h
end
section

/- Contracts of package pick. -/
open Go.RowKit
structure CallD where
  thread:Int
  obj:Int
  kind:Int
  a:Nat
  b:Nat
  c:Nat
def callG (l:List CallD) (j f:Nat):Value:=
  let x:=l.getD j ⟨0,0,0,0,0,0⟩
  if f=0 then .int .i64 x.thread else if f=1 then .int .i64 x.obj else if f=2 then .int .i64 x.kind else if f=3 then .int .u64 (x.a:Int) else if f=4 then .int .u64 (x.b:Int) else .int .u64 (x.c:Int)
def natG (l:List Nat) (j _f:Nat):Value:=.int .i64 ((l.getD j 0:Nat):Int)
def qOf (calls:List CallD) (k:Nat) (p:Int):List Nat:=(List.range k).filter λi=>decide ((calls.getD i ⟨0,0,0,0,0,0⟩).thread=p)
theorem qOf_succ (calls:List CallD) (k:Nat) (p:Int):qOf calls (k+1) p=qOf calls k p++(if (calls.getD k ⟨0,0,0,0,0,0⟩).thread=p then [k] else []):=by
  unfold qOf
  rw [List.range_succ,List.filter_append]
  congr 1
  simp [List.filter_cons]
theorem qOf_len (calls:List CallD) (k:Nat) (p:Int):(qOf calls k p).length<=k:=by
  unfold qOf
  exact Nat.le_trans (List.length_filter_le _ _) (by simp)
structure LineAt (w:World) (Z:Nat->Prop) (bl bm n:Nat) (M:Int->Value) (q:Int->List Nat) (left:Int):Prop where
  line:w.heap[bl]?=some (.cells #[.map (some bm),.int .i64 left] 106 (0,0))
  map:MapAt w bm n M
  rows:∀ p,∃ a c,M p=.slice a (q p).length c/\(q p).length<=c/\SlAt w a (q p).length 1 (natG (q p))/\(∀ b off,a=some ⟨b,off,none⟩->b≠bl/\b≠bm/\Z b)
theorem now_no (Z:Nat->Prop) (bl bm n:Nat) (M:Int->Value) (q:Int->List Nat) (left p:Int) (w:World) (h:LineAt w Z bl bm n M q left) (hw:(Lit.int .i64 p).wf=true) (hq:(q p).length=0) :
    Calls Try.prog 57 #[.pointer (some ⟨bl,0,none⟩),.int .i64 p] w λe w'=>e=.returned (.tuple #[.int .i64 0,.bool false])/\w=w':=by
  have hl0:w.cell? ⟨bl,0,none⟩=some (.map (some bm)):=by rw [cell_blk h.line];rfl
  obtain⟨a,c,hM,hcap,hs,_⟩:=h.rows p
  have hlk:=h.map.look hw
  rw [hq] at hM
  rw [hM] at hlk
  clear h hM hs hq hcap
  go_enter Try.func57,Try.ntmps57
  go_wp2
  go_ret2
  exact⟨rfl,rfl⟩
theorem now_yes (Z:Nat->Prop) (bl bm n:Nat) (M:Int->Value) (q:Int->List Nat) (left p:Int) (w:World) (h:LineAt w Z bl bm n M q left) (hw:(Lit.int .i64 p).wf=true) (i:Nat) (r:List Nat) (hq:q p=i::r) :
    Calls Try.prog 57 #[.pointer (some ⟨bl,0,none⟩),.int .i64 p] w λe w'=>e=.returned (.tuple #[.int .i64 (i:Int),.bool true])/\w=w':=by
  have hl0:w.cell? ⟨bl,0,none⟩=some (.map (some bm)):=by rw [cell_blk h.line];rfl
  obtain⟨a,c,hM,hcap,hs,_⟩:=h.rows p
  have hlk:=h.map.look hw
  obtain⟨m,hm⟩:∃ m,m=r.length:=⟨_,rfl⟩
  have hlen:(q p).length=m+1:=by rw [hq,hm];rfl
  obtain⟨b,off,rfl,_,hc⟩:=hs.2 0 (by omega)
  have h0:w.cell? ⟨b,off,none⟩=some (.int .i64 (i:Int)):=by have:=hc 0 (by omega);simpa [natG,hq] using this
  have hmx:=hs.1
  rw [hlen] at hM hmx
  unfold maxLen at hmx
  rw [hM] at hlk
  clear h hM hs hq hc hlen hm hcap
  go_enter Try.func57,Try.ntmps57
  go_wp2
  go_ret2
  exact⟨rfl,rfl⟩
def qDrop (q:Int->List Nat) (p:Int):Int->List Nat:=λx=>if x=p then (q x).tail else q x
theorem finish_yes (Z:Nat->Prop) (bl bm n:Nat) (M:Int->Value) (q:Int->List Nat) (left p:Int) (w:World) (h:LineAt w Z bl bm n M q left) (hn:n<maxLen) (hw:(Lit.int .i64 p).wf=true) (i:Nat) (r:List Nat) (hq:q p=i::r)
    (hleft:-1000000<=left) (hleft2:left<=1000000) :
    Calls Try.prog 59 #[.pointer (some ⟨bl,0,none⟩),.int .i64 p] w λe w'=>e=.returned (.int .i64 0)/\Chg (λb=>b=bl∨b=bm) w w'/\
      ∃ M',LineAt w' Z bl bm (n+1) M' (qDrop q p) (left - 1):=by
  have H:=Lib.hid (now_yes Z bl bm n M q left p w h hw i r hq)
  have Hh:=Lib.hid h
  have hl0:w.cell? ⟨bl,0,none⟩=some (.map (some bm)):=by rw [cell_blk h.line];rfl
  have hlkd:=(MapAt.block (w':=w.drew) h.map rfl).look hw
  have hne:bl≠bm:=by
    rintro rfl
    obtain⟨D,⟨es,clock,h1,_⟩,_⟩:=h.map
    rw [h.line] at h1;cases h1
  obtain⟨a,c,hM,hcap,hs,hab⟩:=h.rows p
  have hlk:=h.map.look hw
  obtain⟨m,hm⟩:∃ m,m=r.length:=⟨_,rfl⟩
  have hlen:(q p).length=m+1:=by rw [hq,hm];rfl
  obtain⟨b,off,rfl,_,hc⟩:=hs.2 0 (by omega)
  have hmx:=hs.1
  rw [hlen] at hM hmx hcap
  unfold maxLen at hmx
  rw [hM] at hlk hlkd
  have hcap1:(1:Int)<=(m:Int)+1:=by omega
  have Hs:=Lib.hid hs;have Hm:=Lib.hid hm;have Hab:=Lib.hid hab;have Hlen:=Lib.hid hlen;have Hq:=Lib.hid hq;have HM:=Lib.hid hM
  clear h hs hq hc hlen hm hab hM
  by_cases hc1:c=1
  all_goals
    go_enter Try.func59,Try.ntmps59
    go_wp2_with (go_at_call 57;refine(H.out).mono ?_;rintro e w' ⟨rfl,rfl⟩)
    go_still_tail 12,(by kernel_rfl)
    change wpList _ _ _ _ _ w.drew
    go_wp2_with (at_mapUpdate;refine wpList_mapUpdate_at _ rfl _ _ _ rfl bm n M rfl (MapAt.block (w:=w) Hh.out.map rfl) hn p _ rfl rfl hw ?_)
    intro w2 hmap hgrow
    have hb2:w2.heap[bl]?=some (.cells #[.map (some bm),.int .i64 left] 106 (0,0)):=by rw [hgrow.block bl (blk_lt Hh.out.line) (by simpa using hne)];exact Hh.out.line
    have hl1:w2.cell? ⟨bl,1,none⟩=some (.int .i64 left):=by rw [cell_blk hb2];rfl
    have hf1:w2.frozen? ⟨bl,1,none⟩=false:=frozen_blk hb2 1
    have Hb2:=Lib.hid hb2;have Hmap:=Lib.hid hmap;have Hgrow:=Lib.hid hgrow
    clear hb2 hmap hgrow hlk hlkd
    go_wp2
    go_ret
    have hchg:Chg (λb=>b=bl∨b=bm) w (w2.setCell ⟨bl,1,none⟩ (.int .i64 (left - 1))):=((Chg.refl _ w).drew.grown Hgrow.out (λk hk=>by cases hk;exact .inl (.inr rfl))).setCell (.inl (.inl rfl)) _
    refine⟨rfl,hchg,_,⟨blk_set Hb2.out 1 (.int .i64 (left - 1)),Hmap.out.block (blk_set_other hne.symm 1 _),?_⟩⟩
    · intro x
      by_cases hx:x=p
      · subst hx
        rw [upd_same]
        have htl:qDrop q x x=r:=by simp [qDrop,Hq.out]
        have hrl:r.length=m:=Hm.out.symm
        rw [htl,hrl]
        refine⟨_,_,rfl,by omega,⟨by unfold maxLen;omega,λj hj=>?_⟩,?_⟩
        · obtain⟨b',off',e,hbs,hc⟩:=(Hs.out.chg hchg (λb' off' e=>by have:=Hab.out b' off' e;rintro(h|h);exact this.1 h;exact this.2.1 h)).2 (j+1) (by rw [Hlen.out];omega)
          cases e
          first
            | (refine⟨b,off+1,rfl,hbs,λf hf=>?_⟩
               obtain rfl:f=0:=by omega
               have:=hc 0 (by omega)
               rw [show off+1+(j*1+0)=off+((j+1)*1+0) by omega,this]
               simp [natG,Hq.out])
            | omega
        · intro b' off' e
          cases e
          exact Hab.out b off rfl
      · rw [upd_other _ _ hx]
        have htl:qDrop q p x=q x:=by simp [qDrop,hx]
        rw [htl]
        obtain⟨a',c',h1,h2,h3,h4⟩:=Hh.out.rows x
        exact⟨a',c',h1,h2,h3.chg hchg (λb' off' e=>by have:=h4 b' off' e;rintro(h|h);exact this.1 h;exact this.2.1 h),h4⟩
end
end Go.Proofs.Ytlepjmnhekeofaa
