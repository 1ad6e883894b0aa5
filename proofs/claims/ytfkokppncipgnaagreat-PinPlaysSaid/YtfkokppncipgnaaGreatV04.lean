/- Maps from ints to slices of ints, read as functions on keys. -/
import Derived.Test.YtfkokppncipgnaaGreatV01
import Derived.Maps.OwnOps
import Derived.Maps.Views
import Derived.StillTailTactics
set_option maxRecDepth 100000
set_option linter.unusedVariables false
set_option linter.unusedSimpArgs false
set_option linter.unnecessarySimpa false
namespace Go.Proofs.YtfkokppncipgnaaGreat
open List renaming getElem_toArray → zq1, getElem_cons_zero → zq2, getElem_cons_succ → zq3, setIfInBounds_toArray → zq4, set_cons_zero → zq5, set_cons_succ → zq6
section
open Go.RowKit
def RV (v:Value):Option (DataW Value×List MemPlace):=some (.held v,[])
def upd (M:Int->Value) (k:Int) (v:Value):Int->Value:=λx=>if x=k then v else M x
theorem upd_same (M:Int->Value) (k:Int) (v:Value):upd M k v k=v:=by simp [upd]
theorem upd_other (M:Int->Value) {k x:Int} (v:Value) (h:x≠k):upd M k v x=M x:=by simp [upd,h]
def MapAt (w:World) (b n:Nat) (M:Int->Value):Prop:=
 ∃ D:DataW Value,w.ownsMap Tryz.prog 3 RV b n D/\Maps.IsMap D/\∀ key,D.atKey (.int .i64 key) (.held (.slice none 0 0))=.held (M key)
theorem keyedInt:Maps.Keyed Tryz.prog 3:=Maps.int_keyed Tryz.underlying3
theorem keyInt {key:Int} (hw:(Lit.int .i64 key).wf=true):keyOf Tryz.prog 3 (.int .i64 key)=some (.int .i64 key):=Maps.keyOf_int_mk Tryz.underlying3 hw
theorem zeroInts (w:World):(zeroValue 24).run Tryz.prog w=.ok (.slice none 0 0) w:=by kernel_rfl
theorem MapAt.made (w:World):MapAt (w.alloc (.map #[] 0)) w.heap.size 0 (λ_=>.slice none 0 0):=
 ⟨.map [],World.ownsMap_made _ _ _ _,Maps.isMap_empty,λ_=>rfl⟩
theorem MapAt.lt {w:World} {b n:Nat} {M:Int->Value} (h:MapAt w b n M):b<w.heap.size:=by obtain⟨D,h1,_⟩:=h;exact h1.lt
theorem MapAt.mono {w:World} {b n n':Nat} {M:Int->Value} (h:MapAt w b n M) (hn:n<=n'):MapAt w b n' M:=by obtain⟨D,h1,h2⟩:=h;exact⟨D,h1.mono hn,h2⟩
theorem MapAt.block {w w':World} {b n:Nat} {M:Int->Value} (h:MapAt w b n M) (hb:w'.heap[b]?=w.heap[b]?):MapAt w' b n M:=by
 obtain⟨D,⟨es,clock,h1,h3⟩,h2⟩:=h
 exact⟨D,⟨es,clock,hb.trans h1,h3⟩,h2⟩
theorem MapAt.look {w:World} {b n:Nat} {M:Int->Value} (h:MapAt w b n M) {key:Int} (hw:(Lit.int .i64 key).wf=true) :
  (Instr.lookup 118 (.map (some b)) (.int .i64 key) false).run Tryz.prog w=.ok (M key) w:=by
 obtain⟨D,h1,_,h2⟩:=h
 obtain⟨v,ps,hrun,hv⟩:=h1.lookup keyedInt Tryz.underlying118 (zeroInts w) (zd:=.held (.slice none 0 0)) (zp:=[]) rfl (keyInt hw)
 rw [h2] at hv
 simp only [RV,Option.some.injEq,Prod.mk.injEq,DataW.held.injEq] at hv
 rw [hrun,hv.1]
theorem isKeyInt {key:Int}:WideAt.IsKeyLit (.int .i64 key):=by trivial
theorem MapAt.put {w:World} {b n:Nat} {M:Int->Value} (h:MapAt w b n M) (hn:n<maxLen) {key:Int} (hw:(Lit.int .i64 key).wf=true) (val:Value) :
  ∃ w',(Instr.mapUpdate 118 (.map (some b)) (.int .i64 key) val).run Tryz.prog w=.ok () w'/\MapAt w' b (n+1) (upd M key val)/\w.grownBy w' (some b):=by
 obtain⟨D,h1,h3,h2⟩:=h
 obtain⟨w',hrun,h4,h5⟩:=h1.update keyedInt Tryz.underlying118 hn (keyInt hw) (val:=val) (d:=.held val) (ps:=[]) rfl
 refine⟨w',hrun,⟨_,h4,h3.put _ _,λk=>?_⟩,h5⟩
 by_cases hk:k=key
 ·subst hk
  rw [Maps.atKey_put_same h3 isKeyInt,upd_same]
 ·rw [Maps.atKey_put_other (by simpa using hk),upd_other _ _ hk,h2]
theorem wpList_mapUpdate_at (w:World) {ops:Array Oper} {rest:List Oper} {o:Oper} {a:Act} {Q:Exit->Act->World->Prop}
  (hg:o.guard=none) (m x v:Operand) (hop:o.op=Op.mapUpdate 118 m x v) (b n:Nat) (M:Int->Value)
  (hm:a.eval m=.map (some b)) (hown:MapAt w b n M) (hn:n<maxLen) (key:Int) (val:Value) (hx:a.eval x=.int .i64 key) (hv:a.eval v=val) (hw:(Lit.int .i64 key).wf=true)
  (hK:∀ w',MapAt w' b (n+1) (upd M key val)->w.grownBy w' (some b)->wpList Tryz.prog ops Q rest (a.put o.dst undef) w') :
  wpList Tryz.prog ops Q (o::rest) a w:=by
 refine wpList_plain hg λK' hK'=>?_
 obtain⟨w',hrun,r1,r2⟩:=hown.put hn hw val
 unfold Oper.wp
 simp [execOp,hop,hm,hx,hv,hrun,Result.andThen]
 exact hK' _ _ (hK w' r1 r2)
end
section

/- Contracts of package pick. -/
open Go.RowKit
structure CallD where
  thread:Int
  obj:Int
  kind:Int
  a:Nat
  b:Nat
  c:Nat
def callG (l:List CallD) (j f:Nat):Value:=
  let x:=l.getD j ⟨0,0,0,0,0,0⟩
  if f=0 then .int .i64 x.thread else if f=1 then .int .i64 x.obj else if f=2 then .int .i64 x.kind else if f=3 then .int .u64 (x.a:Int) else if f=4 then .int .u64 (x.b:Int) else .int .u64 (x.c:Int)
def natG (l:List Nat) (j _f:Nat):Value:=.int .i64 ((l.getD j 0:Nat):Int)
def qOf (calls:List CallD) (k:Nat) (p:Int):List Nat:=(List.range k).filter λi=>decide ((calls.getD i ⟨0,0,0,0,0,0⟩).thread=p)
theorem qOf_succ (calls:List CallD) (k:Nat) (p:Int):qOf calls (k+1) p=qOf calls k p++(if (calls.getD k ⟨0,0,0,0,0,0⟩).thread=p then [k] else []):=by
  unfold qOf
  rw [List.range_succ,List.filter_append]
  congr 1
  simp [List.filter_cons]
theorem qOf_len (calls:List CallD) (k:Nat) (p:Int):(qOf calls k p).length<=k:=by
  unfold qOf
  exact Nat.le_trans (List.length_filter_le _ _) (by simp)
structure LineAt (w:World) (Z:Nat->Prop) (bl bm n:Nat) (M:Int->Value) (q:Int->List Nat) (left:Int):Prop where
  line:w.heap[bl]?=some (.cells #[.map (some bm),.int .i64 left] 120 (0,0))
  map:MapAt w bm n M
  rows:∀ p,∃ a c,M p=.slice a (q p).length c/\(q p).length<=c/\SlAt w a (q p).length 1 (natG (q p))/\(∀ b off,a=some ⟨b,off,none⟩->b≠bl/\b≠bm/\Z b)
theorem now_no (Z:Nat->Prop) (bl bm n:Nat) (M:Int->Value) (q:Int->List Nat) (left p:Int) (w:World) (h:LineAt w Z bl bm n M q left) (hw:(Lit.int .i64 p).wf=true) (hq:(q p).length=0) :
    Calls Tryz.prog 48 #[.pointer (some ⟨bl,0,none⟩),.int .i64 p] w λe w'=>e=.returned (.tuple #[.int .i64 0,.bool false])/\w=w':=by
  have hl0:w.cell? ⟨bl,0,none⟩=some (.map (some bm)):=by rw [cell_blk h.line];rfl
  obtain⟨a,c,hM,hcap,hs,_⟩:=h.rows p
  have hlk:=h.map.look hw
  rw [hq] at hM
  rw [hM] at hlk
  clear h hM hs hq hcap
  go_enter Tryz.func48,Tryz.ntmps48
  go_wp2
  go_ret2
  exact⟨rfl,rfl⟩
theorem now_yes (Z:Nat->Prop) (bl bm n:Nat) (M:Int->Value) (q:Int->List Nat) (left p:Int) (w:World) (h:LineAt w Z bl bm n M q left) (hw:(Lit.int .i64 p).wf=true) (i:Nat) (r:List Nat) (hq:q p=i::r) :
    Calls Tryz.prog 48 #[.pointer (some ⟨bl,0,none⟩),.int .i64 p] w λe w'=>e=.returned (.tuple #[.int .i64 (i:Int),.bool true])/\w=w':=by
  have hl0:w.cell? ⟨bl,0,none⟩=some (.map (some bm)):=by rw [cell_blk h.line];rfl
  obtain⟨a,c,hM,hcap,hs,_⟩:=h.rows p
  have hlk:=h.map.look hw
  obtain⟨m,hm⟩:∃ m,m=r.length:=⟨_,rfl⟩
  have hlen:(q p).length=m+1:=by rw [hq,hm];rfl
  obtain⟨b,off,rfl,_,hc⟩:=hs.2 0 (by omega)
  have h0:w.cell? ⟨b,off,none⟩=some (.int .i64 (i:Int)):=by have:=hc 0 (by omega);simpa [natG,hq] using this
  have hmx:=hs.1
  rw [hlen] at hM hmx
  unfold maxLen at hmx
  rw [hM] at hlk
  clear h hM hs hq hc hlen hm hcap
  go_enter Tryz.func48,Tryz.ntmps48
  go_wp2
  go_ret2
  exact⟨rfl,rfl⟩
def qDrop (q:Int->List Nat) (p:Int):Int->List Nat:=λx=>if x=p then (q x).tail else q x
theorem finish_yes (Z:Nat->Prop) (bl bm n:Nat) (M:Int->Value) (q:Int->List Nat) (left p:Int) (w:World) (h:LineAt w Z bl bm n M q left) (hn:n<maxLen) (hw:(Lit.int .i64 p).wf=true) (i:Nat) (r:List Nat) (hq:q p=i::r)
    (hleft:-1000000<=left) (hleft2:left<=1000000) :
    Calls Tryz.prog 50 #[.pointer (some ⟨bl,0,none⟩),.int .i64 p] w λe w'=>e=.returned (.int .i64 0)/\Chg (λb=>b=bl∨b=bm) w w'/\
      ∃ M',LineAt w' Z bl bm (n+1) M' (qDrop q p) (left - 1):=by
  have H:=Lib.hid (now_yes Z bl bm n M q left p w h hw i r hq)
  have Hh:=Lib.hid h
  have hl0:w.cell? ⟨bl,0,none⟩=some (.map (some bm)):=by rw [cell_blk h.line];rfl
  have hlkd:=(MapAt.block (w':=w.drew) h.map rfl).look hw
  have hne:bl≠bm:=by
    rintro rfl
    obtain⟨D,⟨es,clock,h1,_⟩,_⟩:=h.map
    rw [h.line] at h1;cases h1
  obtain⟨a,c,hM,hcap,hs,hab⟩:=h.rows p
  have hlk:=h.map.look hw
  obtain⟨m,hm⟩:∃ m,m=r.length:=⟨_,rfl⟩
  have hlen:(q p).length=m+1:=by rw [hq,hm];rfl
  obtain⟨b,off,rfl,_,hc⟩:=hs.2 0 (by omega)
  have hmx:=hs.1
  rw [hlen] at hM hmx hcap
  unfold maxLen at hmx
  rw [hM] at hlk hlkd
  have hcap1:(1:Int)<=(m:Int)+1:=by omega
  have Hs:=Lib.hid hs;have Hm:=Lib.hid hm;have Hab:=Lib.hid hab;have Hlen:=Lib.hid hlen;have Hq:=Lib.hid hq;have HM:=Lib.hid hM
  clear h hs hq hc hlen hm hab hM
  by_cases hc1:c=1
  all_goals
    go_enter Tryz.func50,Tryz.ntmps50
    go_wp2_with (go_at_call 48;refine(H.out).mono ?_;rintro e w' ⟨rfl,rfl⟩)
    go_still_tail 12,(by kernel_rfl)
    change wpList _ _ _ _ _ w.drew
    go_wp2_with (at_mapUpdate;refine wpList_mapUpdate_at _ rfl _ _ _ rfl bm n M rfl (MapAt.block (w:=w) Hh.out.map rfl) hn p _ rfl rfl hw ?_)
    intro w2 hmap hgrow
    have hb2:w2.heap[bl]?=some (.cells #[.map (some bm),.int .i64 left] 120 (0,0)):=by rw [hgrow.block bl (blk_lt Hh.out.line) (by simpa using hne)];exact Hh.out.line
    have hl1:w2.cell? ⟨bl,1,none⟩=some (.int .i64 left):=by rw [cell_blk hb2];rfl
    have hf1:w2.frozen? ⟨bl,1,none⟩=false:=frozen_blk hb2 1
    have Hb2:=Lib.hid hb2;have Hmap:=Lib.hid hmap;have Hgrow:=Lib.hid hgrow
    clear hb2 hmap hgrow hlk hlkd
    go_wp2
    go_ret
    have hchg:Chg (λb=>b=bl∨b=bm) w (w2.setCell ⟨bl,1,none⟩ (.int .i64 (left - 1))):=((Chg.refl _ w).drew.grown Hgrow.out (λk hk=>by cases hk;exact .inl (.inr rfl))).setCell (.inl (.inl rfl)) _
    refine⟨rfl,hchg,_,⟨blk_set Hb2.out 1 (.int .i64 (left - 1)),Hmap.out.block (blk_set_other hne.symm 1 _),?_⟩⟩
    · intro x
      by_cases hx:x=p
      · subst hx
        rw [upd_same]
        have htl:qDrop q x x=r:=by simp [qDrop,Hq.out]
        have hrl:r.length=m:=Hm.out.symm
        rw [htl,hrl]
        refine⟨_,_,rfl,by omega,⟨by unfold maxLen;omega,λj hj=>?_⟩,?_⟩
        · obtain⟨b',off',e,hbs,hc⟩:=(Hs.out.chg hchg (λb' off' e=>by have:=Hab.out b' off' e;rintro(h|h);exact this.1 h;exact this.2.1 h)).2 (j+1) (by rw [Hlen.out];omega)
          cases e
          first
            | (refine⟨b,off+1,rfl,hbs,λf hf=>?_⟩
               obtain rfl:f=0:=by omega
               have:=hc 0 (by omega)
               rw [show off+1+(j*1+0)=off+((j+1)*1+0) by omega,this]
               simp [natG,Hq.out])
            | omega
        · intro b' off' e
          cases e
          exact Hab.out b off rfl
      · rw [upd_other _ _ hx]
        have htl:qDrop q p x=q x:=by simp [qDrop,hx]
        rw [htl]
        obtain⟨a',c',h1,h2,h3,h4⟩:=Hh.out.rows x
        exact⟨a',c',h1,h2,h3.chg hchg (λb' off' e=>by have:=h4 b' off' e;rintro(h|h);exact this.1 h;exact this.2.1 h),h4⟩
end
section

/- Contracts of package pick: New. -/
open Go.RowKit
def natV (i:Nat):Value:=.int .i64 (i:Int)
def d0:CallD:=⟨0,0,0,0,0,0⟩
def badT (n:Int) (x:CallD):Bool:=decide (x.thread<0∨n<=x.thread)
def wrongN (n:Int) (calls:List CallD):Int:=if n<1∨16<n then 1 else if 1000<calls.length then 3 else if calls.any (badT n)=true then 1 else 0
def anyBad (n:Int) (l:List CallD):Bool:=l.any (badT n)
structure NewSt (w wr:World) (calls:List CallD) (k:Nat) (M:Int->Value):Prop where
 line:wr.heap[w.heap.size+1]?=some (.cells #[.map (some w.heap.size),.int .i64 (calls.length:Int)] 120 (0,0))
 map:MapAt wr w.heap.size k M
 rows:∀ p,wr.ownsRow w.heap.size 3 1 (M p) (qOf calls k p).length ((qOf calls k p).map natV)
 apart:∀ p p',p≠p'->(M p).ownBlock=none∨(M p).ownBlock≠(M p').ownBlock
 below:Below w.heap.size w wr
theorem new_bad (n:Int) (a:Option Addr) (len c:Nat) (w:World) (er:Int) (hm:len<=maxLen) (h:(n<1∨16<n)/\er=1∨(1<=n/\n<=16/\1000<len)/\er=3) :
  Calls Tryz.prog 31 #[.int .i64 n,.slice a len c] w λe w'=>e=.returned (.tuple #[.pointer none,.int .i64 er])/\w=w':=by
 unfold maxLen at hm
 rcases h with⟨h|h,rfl⟩|⟨⟨h1,h2,h3⟩,rfl⟩
 ·go_enter Tryz.func31,Tryz.ntmps31
  go_wp2
  go_ret2
  exact⟨rfl,rfl⟩
 ·have h1:1<=n:=by omega
  go_enter Tryz.func31,Tryz.ntmps31
  go_wp2
  go_ret2
  exact⟨rfl,rfl⟩
 ·have h4:(1000:Int)<len:=by omega
  go_enter Tryz.func31,Tryz.ntmps31
  go_wp2
  go_ret2
  exact⟨rfl,rfl⟩
theorem call_cells {w:World} {a:Option Addr} {l:List CallD} (hs:SlAt w a l.length 6 (callG l)) {w':World} (hb:Below w.heap.size w w') {k:Nat} (hk:k<l.length) :
  ∃ b off,a=some ⟨b,off,none⟩/\w'.cell? ⟨b,off+k*6,none⟩=some (.int .i64 l[k].thread)/\w'.cell? ⟨b,off+k*6+1,none⟩=some (.int .i64 l[k].obj)/\w'.cell? ⟨b,off+k*6+2,none⟩=some (.int .i64 l[k].kind)/\
   w'.cell? ⟨b,off+k*6+3,none⟩=some (.int .u64 (l[k].a:Int))/\w'.cell? ⟨b,off+k*6+4,none⟩=some (.int .u64 (l[k].b:Int))/\w'.cell? ⟨b,off+k*6+5,none⟩=some (.int .u64 (l[k].c:Int)):=by
 obtain⟨b,off,ha,hc⟩:=hs.elem hb hk
 refine⟨b,off,ha,?_,?_,?_,?_,?_,?_⟩
 ·have:=hc 0 (by omega);rw [Nat.add_zero] at this;rw [this];simp [callG,List.getD_eq_getElem?_getD,hk]
 ·have:=hc 1 (by omega);rw [<-Nat.add_assoc] at this;rw [this];simp [callG,List.getD_eq_getElem?_getD,hk]
 ·have:=hc 2 (by omega);rw [<-Nat.add_assoc] at this;rw [this];simp [callG,List.getD_eq_getElem?_getD,hk]
 ·have:=hc 3 (by omega);rw [<-Nat.add_assoc] at this;rw [this];simp [callG,List.getD_eq_getElem?_getD,hk]
 ·have:=hc 4 (by omega);rw [<-Nat.add_assoc] at this;rw [this];simp [callG,List.getD_eq_getElem?_getD,hk]
 ·have:=hc 5 (by omega);rw [<-Nat.add_assoc] at this;rw [this];simp [callG,List.getD_eq_getElem?_getD,hk]
theorem int_info':(Tryz.prog.info? 3).map (λi=>(i.zero,i.size,i.bytes))=some (some (.int .i64 0),1,8):=by kernel_rfl
theorem step_mapUpdate_at (w:World) {ops:Array Oper} {o:Oper} {a:Act} {K:Act->World->Prop} {Q:Exit->Act->World->Prop} {E:Prop}
  (hg:o.guard=none) (m x v:Operand) (hop:o.op=Op.mapUpdate 118 m x v) (b n:Nat) (M:Int->Value)
  (hm:a.eval m=.map (some b)) (hown:MapAt w b n M) (hn:n<maxLen) (key:Int) (val:Value) (hx:a.eval x=.int .i64 key) (hv:a.eval v=val) (hw:(Lit.int .i64 key).wf=true)
  (hK:∀ w',MapAt w' b (n+1) (upd M key val)->w.grownBy w' (some b)->K (a.put o.dst undef) w') :
  if Region.wanted o (yielded ops a.tmps)=true then Oper.wp Tryz.prog o a w K Q else E:=by
 rw [if_pos (by simp [Region.wanted,hg])]
 obtain⟨w',hrun,r1,r2⟩:=hown.put hn hw val
 unfold Oper.wp
 simp [execOp,hop,hm,hx,hv,hrun,Result.andThen]
 exact hK w' r1 r2
def NewPost (n:Int) (l:List CallD) (w:World) (e:Ending) (w':World):Prop:=
 (anyBad n l=true/\e=.returned (.tuple #[.pointer none,.int .i64 1])/\Below w.heap.size w w')∨
 (anyBad n l=false/\e=.returned (.tuple #[.pointer (some ⟨w.heap.size+1,0,none⟩),.int .i64 0])/\∃ M,NewSt w w' l l.length M)
theorem new_go (n:Int) (l:List CallD) (a:Option Addr) (c:Nat) (w:World) (hs:SlAt w a l.length 6 (callG l)) (h1:1<=n) (h2:n<=16) (h3:l.length<=1000) (hwf:∀ x∈l,(Lit.int .i64 x.thread).wf=true) :
  Calls Tryz.prog 31 #[.int .i64 n,.slice a l.length c] w λe w'=>NewPost n l w e w':=by
 have Hs:=Lib.hid hs;have Hwf:=Lib.hid hwf;clear hs hwf
 have hmm:=@run_makeMap Tryz.prog
 obtain⟨i0,hi,hz0,hz1,hz2⟩:=info_parts int_info'
 go_enter Tryz.func31,Tryz.ntmps31
 go_wp2
 go_loopw [7,8,27] (λ_ _ i wr=>∃ k M,k<=l.length/\i=.int .i64 (k:Nat)/\NewSt w wr l k M/\Hid (∀ j,(h:j<k)->(hl:j<l.length)->badT n l[j]=false)) (λ_ _ i _=>l.length - (intOf i).toNat)
 case atStart=>
  refine⟨0,λ_=>.slice none 0 0,Nat.zero_le _,rfl,⟨?_,?_,λp=>World.ownsRow_nil _ _ _ _,λ_ _ _=>.inl rfl,Gr.alloc (Gr.new _ _) _⟩,λj h=>absurd h (Nat.not_lt_zero j)⟩
  ·have:=heap_alloc_new (w.alloc (.map #[] 0)) (.cells #[.map (some w.heap.size),.int .i64 (l.length:Int)] 120 (0,0))
   simpa using this
  ·exact MapAt.block (MapAt.made w) (Below.heap_alloc _ _ _ (by simp))
 case round=>
  obtain⟨k,M,hk,rfl,hst,hok⟩:=hrel
  by_cases hlt:k<l.length
  ·obtain⟨b,off,rfl,c0,c1,c2,c3,c4,c5⟩:=call_cells Hs.out hst.below hlt
   obtain⟨t,ht⟩:∃ t,t=l[k].thread:=⟨_,rfl⟩
   rw [<-ht] at c0
   have htw:(Lit.int .i64 t).wf=true:=by rw [ht];exact Hwf.out _ (List.getElem_mem hlt)
   have Ht:=Lib.hid ht
   have hany:t<0∨n<=t->anyBad n l=true:=λh=>by unfold anyBad;exact List.any_eq_true.2 ⟨l[k],List.getElem_mem hlt,by unfold badT;rw [<-Ht.out];simpa using h⟩
   clear ht
   by_cases hb1:t<0
   ·have Hany:=Lib.hid (hany (.inl hb1));clear hany
    go_wp2
    go_ret2
    exact .inl ⟨Hany.out,rfl,hst.below.alloc hst.below.size _⟩
   by_cases hb2:n<=t
   ·have Hany:=Lib.hid (hany (.inr hb2));clear hany
    go_wp2
    go_ret2
    exact .inl ⟨Hany.out,rfl,hst.below.alloc hst.below.size _⟩
   ·clear hany
    have hln:=hst.line
    have hbl0:wr.cell? ⟨w.heap.size+1,0,none⟩=some (.map (some w.heap.size)):=by rw [cell_blk hln];rfl
    have hlk:=hst.map.look htw
    have Hln:=Lib.hid hln;have Hlk:=Lib.hid hlk;clear hln hlk
    go_wp2
    obtain⟨C,hC⟩:∃ C:Array Value,C=#[.int .i64 t,.int .i64 l[k].obj,.int .i64 l[k].kind,.int .u64 (l[k].a:Int),.int .u64 (l[k].b:Int),.int .u64 (l[k].c:Int)]:=⟨_,rfl⟩
    rw [<-hC]
    have hC0:C[0]?=some (.int .i64 t):=by rw [hC];rfl
    clear hC c0 c1 c2 c3 c4 c5
    obtain⟨wb,hwb⟩:∃ wb,wb=wr.alloc (.cells C 48):=⟨_,rfl⟩
    have g1:wb.cell? ⟨w.heap.size+1,0,none⟩=some (.map (some w.heap.size)):=by rw [hwb,(Gr.new wr _).cell (blk_lt Hln.out)];exact hbl0
    have g2:wb.cell? ⟨wr.heap.size,0,none⟩=some (.int .i64 t):=by rw [hwb,cell_new];exact hC0
    have hgr:Below wr.heap.size wr wb:=by rw [hwb];exact Gr.new _ _
    have hsz:wr.heap.size<wb.heap.size:=by rw [hwb];simp
    rw [<-hwb]
    clear hwb hbl0 hC0
    have hmap:MapAt wb w.heap.size k M:=hst.map.block (hgr.block _ hst.map.lt)
    have hrow:∀ p,wb.ownsRow w.heap.size 3 1 (M p) (qOf l k p).length ((qOf l k p).map natV):=λp=>row_below (hst.rows p) hgr
    have Hmap:=Lib.hid hmap;have Hrow:=Lib.hid hrow
    refine wp_region_L (λx=>x.cell? ⟨w.heap.size+1,0,none⟩=some (.map (some w.heap.size))/\x.cell? ⟨wr.heap.size,0,none⟩=some (.int .i64 t)/\(Instr.lookup 118 (.map (some w.heap.size)) (.int .i64 t) false).run Tryz.prog x=.ok (M t) x) 16 (by kernel_rfl) ⟨g1,g2,(MapAt.block (w':=wb.drew) hmap rfl).look htw⟩ ?_
    intro hS hcl
    clear hmap hrow g1 g2
    refine wpAnyL_take (i:=0) (v:=(.pointer (some ⟨w.heap.size+1,0,none⟩))) 17 rfl (by kernel_rfl) (by kernel_rfl) (by kernel_rfl) (by kernel_rfl) (by kernel_rfl) hcl (λ_ _ _ h=>h) (Or.inl ⟨by rfl,?_⟩) hS ?_
    ·intro x hx;obtain⟨hx1,hx2,hx3⟩:=hx;go_simp
    clear hcl;intro hcl
    simp only [Act.put,zq4,zq5,zq6]
    refine wpAnyL_take (i:=1) (v:=(.pointer (some ⟨w.heap.size+1,0,none⟩))) 17 rfl (by kernel_rfl) (by kernel_rfl) (by kernel_rfl) (by kernel_rfl) (by kernel_rfl) hcl (λ_ _ _ h=>h) (Or.inl ⟨by rfl,?_⟩) hS ?_
    ·intro x hx;obtain⟨hx1,hx2,hx3⟩:=hx;go_simp
    clear hcl;intro hcl
    simp only [Act.put,zq4,zq5,zq6]
    refine wpAnyL_take (i:=2) (v:=(.pointer (some ⟨w.heap.size+1,0,none⟩))) 17 rfl (by kernel_rfl) (by kernel_rfl) (by kernel_rfl) (by kernel_rfl) (by kernel_rfl) hcl (λ_ _ _ h=>h) (Or.inl ⟨by rfl,?_⟩) hS ?_
    ·intro x hx;obtain⟨hx1,hx2,hx3⟩:=hx;go_simp
    clear hcl;intro hcl
    simp only [Act.put,zq4,zq5,zq6]
    refine wpAnyL_take (i:=3) (v:=(.map (some w.heap.size))) 17 rfl (by kernel_rfl) (by kernel_rfl) (by kernel_rfl) (by kernel_rfl) (by kernel_rfl) hcl (λ_ _ _ h=>h) (Or.inl ⟨by rfl,?_⟩) hS ?_
    ·intro x hx;obtain⟨hx1,hx2,hx3⟩:=hx;go_simp
    clear hcl;intro hcl
    simp only [Act.put,zq4,zq5,zq6]
    refine wpAnyL_take (i:=4) (v:=(.pointer (some ⟨wr.heap.size,0,none⟩))) 17 rfl (by kernel_rfl) (by kernel_rfl) (by kernel_rfl) (by kernel_rfl) (by kernel_rfl) hcl (λ_ _ _ h=>h) (Or.inl ⟨by rfl,?_⟩) hS ?_
    ·intro x hx;obtain⟨hx1,hx2,hx3⟩:=hx;go_simp
    clear hcl;intro hcl
    simp only [Act.put,zq4,zq5,zq6]
    refine wpAnyL_take (i:=5) (v:=(.int .i64 t)) 17 rfl (by kernel_rfl) (by kernel_rfl) (by kernel_rfl) (by kernel_rfl) (by kernel_rfl) hcl (λ_ _ _ h=>h) (Or.inl ⟨by rfl,?_⟩) hS ?_
    ·intro x hx;obtain⟨hx1,hx2,hx3⟩:=hx;go_simp
    clear hcl;intro hcl
    simp only [Act.put,zq4,zq5,zq6]
    refine wpAnyL_take (i:=6) (v:=(.pointer (some ⟨w.heap.size+1,0,none⟩))) 17 rfl (by kernel_rfl) (by kernel_rfl) (by kernel_rfl) (by kernel_rfl) (by kernel_rfl) hcl (λ_ _ _ h=>h) (Or.inl ⟨by rfl,?_⟩) hS ?_
    ·intro x hx;obtain⟨hx1,hx2,hx3⟩:=hx;go_simp
    clear hcl;intro hcl
    simp only [Act.put,zq4,zq5,zq6]
    refine wpAnyL_take (i:=7) (v:=(.pointer (some ⟨w.heap.size+1,0,none⟩))) 17 rfl (by kernel_rfl) (by kernel_rfl) (by kernel_rfl) (by kernel_rfl) (by kernel_rfl) hcl (λ_ _ _ h=>h) (Or.inl ⟨by rfl,?_⟩) hS ?_
    ·intro x hx;obtain⟨hx1,hx2,hx3⟩:=hx;go_simp
    clear hcl;intro hcl
    simp only [Act.put,zq4,zq5,zq6]
    refine wpAnyL_take (i:=8) (v:=(.pointer (some ⟨w.heap.size+1,0,none⟩))) 17 rfl (by kernel_rfl) (by kernel_rfl) (by kernel_rfl) (by kernel_rfl) (by kernel_rfl) hcl (λ_ _ _ h=>h) (Or.inl ⟨by rfl,?_⟩) hS ?_
    ·intro x hx;obtain⟨hx1,hx2,hx3⟩:=hx;go_simp
    clear hcl;intro hcl
    simp only [Act.put,zq4,zq5,zq6]
    refine wpAnyL_take (i:=9) (v:=(.map (some w.heap.size))) 17 rfl (by kernel_rfl) (by kernel_rfl) (by kernel_rfl) (by kernel_rfl) (by kernel_rfl) hcl (λ_ _ _ h=>h) (Or.inl ⟨by rfl,?_⟩) hS ?_
    ·intro x hx;obtain⟨hx1,hx2,hx3⟩:=hx;go_simp
    clear hcl;intro hcl
    simp only [Act.put,zq4,zq5,zq6]
    refine wpAnyL_take (i:=10) (v:=(.pointer (some ⟨wr.heap.size,0,none⟩))) 17 rfl (by kernel_rfl) (by kernel_rfl) (by kernel_rfl) (by kernel_rfl) (by kernel_rfl) hcl (λ_ _ _ h=>h) (Or.inl ⟨by rfl,?_⟩) hS ?_
    ·intro x hx;obtain⟨hx1,hx2,hx3⟩:=hx;go_simp
    clear hcl;intro hcl
    simp only [Act.put,zq4,zq5,zq6]
    refine wpAnyL_take (i:=11) (v:=(.int .i64 t)) 17 rfl (by kernel_rfl) (by kernel_rfl) (by kernel_rfl) (by kernel_rfl) (by kernel_rfl) hcl (λ_ _ _ h=>h) (Or.inl ⟨by rfl,?_⟩) hS ?_
    ·intro x hx;obtain⟨hx1,hx2,hx3⟩:=hx;go_simp
    clear hcl;intro hcl
    simp only [Act.put,zq4,zq5,zq6]
    refine wpAnyL_take (i:=12) (v:=(M t)) 17 rfl (by kernel_rfl) (by kernel_rfl) (by kernel_rfl) (by kernel_rfl) (by kernel_rfl) hcl (λ_ _ _ h=>h) (Or.inl ⟨by rfl,?_⟩) hS ?_
    ·intro x hx;obtain⟨hx1,hx2,hx3⟩:=hx;go_simp
    clear hcl;intro hcl
    simp only [Act.put,zq4,zq5,zq6]
    refine wpAnyL_take (i:=13) (v:=(.int .i64 (k:Int))) 17 rfl (by kernel_rfl) (by kernel_rfl) (by kernel_rfl) (by kernel_rfl) (by kernel_rfl) hcl (λ_ _ _ h=>h) (Or.inl ⟨by rfl,?_⟩) hS ?_
    ·intro x hx;obtain⟨hx1,hx2,hx3⟩:=hx;go_simp
    clear hcl;intro hcl
    simp only [Act.put,zq4,zq5,zq6]
    refine wpAnyL_one (i:=14) (by kernel_rfl) rfl hcl (λK' hK=>?_)
    have HK:=Lib.hid hK;clear hK
    go_simp
    have l1:w.heap.size+1<wb.heap.size:=World.block_lt_of_cell? _ _ hS.1
    have l2:=hst.below.size
    have hgd:Below wb.heap.size wb (wb.alloc (.cells #[.int .i64 (k:Int)] 3)).drew:=(Gr.new wb _).drew
    have s1:(wb.alloc (.cells #[.int .i64 (k:Int)] 3)).drew.cell? ⟨w.heap.size+1,0,none⟩=some (.map (some w.heap.size)):=by rw [hgd.cell l1];exact hS.1
    have s2:(wb.alloc (.cells #[.int .i64 (k:Int)] 3)).drew.cell? ⟨wr.heap.size,0,none⟩=some (.int .i64 t):=by rw [hgd.cell hsz];exact hS.2.1
    refine HK.out _ _ (λ_=>⟨s1,s2,(MapAt.block (w:=wb) Hmap.out (hgd.block _ Hmap.out.lt)).look htw⟩) (λhcl=>?_)
    clear HK
    have ol:(qOf l k t).length<=k:=qOf_len _ _ _
    refine wpAnyL_one (i:=15) (by kernel_rfl) rfl hcl (λK' hK=>?_)
    have HK:=Lib.hid hK;clear hK
    refine step_append_lies _ rfl (.tmp 53) (.tmp 55) 24 rfl w.heap.size 3 i0 (.int .i64 0) 1 8 Tryz.underlying24 hi hz0 hz1 hz2 rfl (by decide) (M t) _ _ rfl (((Hrow.out t).alloc _).drew)
      ⟨wb.heap.size,0,none⟩ 1 1 [.int .i64 (k:Int)] rfl rfl (World.news_of_block (cs:=#[.int .i64 (k:Int)]) (t:=3) (fr:=(0,0)) (heap_alloc_new wb _)) (by simp [Value.oneCell'])
      (by omega) (by unfold maxLen;omega) (by omega) (by simp;omega) (wb.heap.size+1) (by simp) ?_
    intro gg cap w3 hown hgrow hat hltg
    have hmap3:MapAt w3 w.heap.size k M:=MapAt.block (w:=wb) Hmap.out ((hgrow.block _ (by simp;have:=Hmap.out.lt;omega) (λe=>by
     have h1:=(Hrow.out t).lt _ e.symm
     obtain⟨D,⟨es,clock,h2,_⟩,_⟩:=Hmap.out
     obtain⟨_,h3⟩:=Hrow.out t
     rcases h3 with⟨h3,_⟩|⟨g,cap',cur,h3,_,h4,_⟩
     ·rw [h3] at e;cases e
     ·rw [h3] at e;simp only [Value.ownBlock,Option.some.injEq] at e;rw [<-e,h2] at h4;cases h4)).trans (hgd.block _ Hmap.out.lt))
    have hln3:w3.heap[w.heap.size+1]?=some (.cells #[.map (some w.heap.size),.int .i64 (l.length:Int)] 120 (0,0)):=by
     rw [hgrow.block _ (by simp;omega) (λe=>by
      obtain⟨_,h3⟩:=Hrow.out t
      rcases h3 with⟨h3,_⟩|⟨g,cap',cur,h3,_,h4,_⟩
      ·rw [h3] at e;cases e
      ·rw [h3] at e
       simp only [Value.ownBlock,Option.some.injEq] at e
       rw [<-e,hgr.block _ (blk_lt Hln.out),Hln.out] at h4
       simp at h4),hgd.block _ l1,hgr.block _ (blk_lt Hln.out)]
     exact Hln.out
    have s3:w3.cell? ⟨w.heap.size+1,0,none⟩=some (.map (some w.heap.size)):=by rw [cell_blk hln3];rfl
    have s4:w3.cell? ⟨wr.heap.size,0,none⟩=some (.int .i64 t):=by
     rw [hgrow.cell_far _ (by simp;omega) (λe=>by have h1:=(Hrow.out t).lt _ e.symm;have h2:=(hst.rows t).lt _ e.symm;simp at h2),s2]
    refine HK.out _ _ (λ_=>⟨s3,s4,hmap3.look htw⟩) (λhcl=>?_)
    clear HK
    refine wpAnyL_one (i:=16) (by kernel_rfl) rfl hcl (λK' hK=>?_)
    have HK:=Lib.hid hK;clear hK
    refine step_mapUpdate_at _ rfl (.tmp 44) (.tmp 46) (.tmp 56) rfl w.heap.size k M rfl hmap3 (by unfold maxLen;omega) t _ rfl rfl htw ?_
    intro w4 hmap4 hgrow4
    refine HK.out _ _ (λh=>by cases h.symm.trans (by kernel_rfl:_=true)) (λ_=>wpAnyL_done (by kernel_rfl) ?_ _)
    clear HK
    have hb3:Below w.heap.size w w3:=(((hst.below.trans (hgr.mono l2)).trans (hgd.mono (by omega))).grown hgrow (by simp;omega) (λq hq=>((Hrow.out t).lt q hq).1))
    have hb4:Below w.heap.size w w4:=hb3.grown hgrow4 hb3.size (λq hq=>by cases hq;exact Nat.le_refl _)
    have hq1:qOf l (k+1) t=qOf l k t++[k]:=by
     rw [qOf_succ,List.getD_eq_getElem?_getD]
     simp [hlt,<-Ht.out]
    have hq2:∀ p,p≠t->qOf l (k+1) p=qOf l k p:=λp hp=>by
     rw [qOf_succ,List.getD_eq_getElem?_getD]
     simp [hlt,<-Ht.out,Ne.symm hp]
    have hnb:(M t).ownBlock≠some w.heap.size:=λe=>by
     obtain⟨D,⟨es,clock,h2,_⟩,_⟩:=Hmap.out
     obtain⟨_,h3⟩:=Hrow.out t
     rcases h3 with⟨h3,_⟩|⟨g,cap',cur,h3,_,h4,_⟩
     ·rw [h3] at e;cases e
     ·rw [h3] at e;simp only [Value.ownBlock,Option.some.injEq] at e;rw [e,h2] at h4;cases h4
    have hgg:gg≠w.heap.size:=by rcases hat with h|h;rintro rfl;exact hnb h;omega
    have hst4:NewSt w w4 l (k+1) (upd M t (.slice (some ⟨gg,0,none⟩) ((qOf l k t).length+1) cap)):=by
     refine⟨?_,hmap4,λp=>?_,λp p' hp=>?_,hb4⟩
     ·rw [hgrow4.block _ (blk_lt hln3) (by simp)];exact hln3
     ·by_cases hp:p=t
      ·subst hp
       rw [upd_same,hq1]
       have h5:=hown.kept hgrow4 (.inr (by simpa [Value.ownBlock] using hgg))
       simpa [natV] using h5
      ·rw [upd_other _ _ hp,hq2 p hp]
       have h5:=(((Hrow.out p).alloc (.cells #[.int .i64 (k:Int)] 3)).drew.kept hgrow (hst.apart p t hp)).kept hgrow4 (by
        rcases Option.eq_none_or_eq_some (M p).ownBlock with h6|⟨g,h6⟩
        ·exact .inl h6
        ·right
         intro h7
         obtain⟨D,⟨es,clock,h2,_⟩,_⟩:=Hmap.out
         obtain⟨_,h3⟩:=Hrow.out p
         rcases h3 with⟨h3,_⟩|⟨g',cap',cur,h3,_,h4,_⟩
         ·rw [h3] at h7;cases h7
         ·rw [h3] at h7;simp only [Value.ownBlock,Option.some.injEq] at h7;rw [h7,h2] at h4;cases h4)
       exact h5
     ·have fresh:∀ p,p≠t->(M p).ownBlock=none∨(M p).ownBlock≠some gg:=λp hp=>by
       rcases hat with h|h
       ·rw [<-h];exact hst.apart p t hp
       ·right;intro h6;have:=((Hrow.out p).lt gg h6).2;omega
      by_cases hpt:p=t
      ·subst hpt
       rw [upd_same,upd_other _ _ hp.symm]
       right
       intro h6
       rcases fresh p' hp.symm with h7|h7
       ·rw [h7] at h6;cases h6
       ·exact h7 h6.symm
      ·rw [upd_other _ _ hpt]
       by_cases hpt':p'=t
       ·subst hpt'
        rw [upd_same]
        exact fresh p hpt
       ·rw [upd_other _ _ hpt']
        exact hst.apart p p' hp
    have hok':∀ j,(h:j<k+1)->(hl:j<l.length)->badT n l[j]=false:=λj h hl=>by
     rcases Nat.lt_succ_iff_lt_or_eq.1 h with h|rfl
     ·exact hok.out j h hl
     ·unfold badT;rw [<-Ht.out];simp;omega
    have Hst:=Lib.hid hst4;have Hok:=Lib.hid hok'
    clear hst4 hok' hmap4 hmap3 hln3 s1 s2 s3 s4 hS hown hgrow hgrow4 hat hq2 hcl
    go_wp2
    go_roundw
    case rel=>exact⟨k+1,_,by omega,by go_num,Hst.out,Hok.out⟩
    case measure=>simp [intOf]<;>omega
  ·obtain rfl:k=l.length:=by omega
   go_wp2
   go_ret2
   have hno:anyBad n l=false:=by
    unfold anyBad
    rw [List.any_eq_false]
    intro x hx
    obtain⟨j,hj,rfl⟩:=List.getElem_of_mem hx
    have:=hok.out j hj hj
    simp [this]
   exact .inr ⟨hno,rfl,M,hst⟩
end
end Go.Proofs.YtfkokppncipgnaaGreat
