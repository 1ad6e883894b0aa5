/- Contracts of package pick: what a line is behind New, and how it goes on. -/
import Derived.Test.YtifhldnmcdbpfaaW03
import Derived.WalkKit
import Derived.Test.YtifhldnmcdbpfaaW01
import Derived.Test.YtifhldnmcdbpfaaW02
import Derived.StillTailTactics
set_option maxRecDepth 100000
set_option linter.unusedVariables false
set_option linter.unusedSimpArgs false
set_option linter.unnecessarySimpa false
namespace Go.Proofs.Ytifhldnmcdbpfaa
section
open Go.RowKit
theorem LJ {w:World} {B:Nat} {v:Value} {e:TypeId} {n:Nat} {xs:List Value} {g:Nat->Nat->Value} (h:w.ownsRow B e 1 v n xs) (hm:n<=maxLen) (hg:∀ j,j<n->xs[j]?=some (g j 0)) :
  ∃ a c,v=.slice a n c/\n<=c/\bS w a n 1 g/\(∀ b off,a=some ⟨b,off,none⟩->B<=b/\v.ownBlock=some b):=by
 obtain⟨a,c,hv,hs,hB⟩:=uI h hm hg
 refine⟨a,c,hv,?_,hs,λb off e=>⟨hB b off e,by rw [hv,e];rfl⟩⟩
 obtain⟨_,h2⟩:=h
 rcases h2 with⟨h3,h0⟩|⟨q,cap,cur,h3,_,_,hn,_⟩
 ·omega
 ·rw [hv] at h3;cases h3;exact hn
theorem yI {w wr:World} {l:List aF} {M:Int->Value} (h:CQ w wr l l.length M) (hl:l.length<=1000) :
  fC wr (λb=>w.heap.size<=b/\b<wr.heap.size) (w.heap.size+1) w.heap.size l.length M (qOf l l.length) (l.length:Int):=by
 refine⟨h.line,h.map,λp=>?_⟩
 have hq:=BO l l.length p
 obtain⟨a,c,h1,h2,h3,h4⟩:=LJ (g:=IE (qOf l l.length p)) (h.rows p) (by unfold maxLen;omega) (λj hj=>by simp [IE,fG,List.getD_eq_getElem?_getD,hj])
 refine⟨a,c,h1,h2,h3,λb off e=>?_⟩
 have h5:=(h4 b off e).2
 obtain⟨_,h6⟩:=h.rows p
 rcases h6 with⟨h7,_⟩|⟨g,cap,cur,h7,h77,h8,_⟩
 ·rw [h7] at h5;cases h5
 ·rw [h7] at h5
  simp only [Value.ownBlock,Option.some.injEq] at h5
  subst h5
  refine⟨?_,?_,h77,aC h8⟩
  ·rintro rfl;rw [h.line] at h8;simp at h8
  ·rintro rfl
   obtain⟨D,⟨es,clock,h9,_⟩,_⟩:=h.map
   rw [h9] at h8;cases h8
def nH (l:List aF) (fin:List Bool) (p:Int) (i:Nat):Bool:=decide ((l.getD i d0).thread=p) && !(fin.getD i false)
def iF (l:List aF) (fin:List Bool) (p:Int):Option Nat:=(List.range l.length).find? (nH l fin p)
def qF (l:List aF) (fin:List Bool) (p:Int):List Nat:=(List.range l.length).filter (nH l fin p)
theorem LQ (l:List aF) (p:Int):qF l (List.replicate l.length false) p=qOf l l.length p:=by
 unfold qF qOf
 apply List.filter_congr
 intro i hi
 have:=List.mem_range.1 hi
 unfold nH d0
 simp [List.getD_eq_getElem?_getD,List.getElem?_replicate,this]
theorem iW (l:List aF) (fin:List Bool) (p:Int):iF l fin p=(qF l fin p).head?:=by
 unfold iF qF
 rw [List.head?_filter]
theorem dO {l:List aF} {fin:List Bool} {p:Int} {i:Nat} (h:iF l fin p=some i):i<l.length/\(l.getD i d0).thread=p/\fin.getD i false=false:=by
 unfold iF at h
 have h1:=List.find?_some h
 have h2:=List.mem_of_find?_eq_some h
 unfold nH at h1
 simp at h1
 exact⟨List.mem_range.1 h2,by simpa using h1.1,by simpa using h1.2⟩
theorem IM {l:List aF} {fin:List Bool} {p:Int} {i:Nat} {r:List Nat} (hlen:fin.length=l.length) (h:qF l fin p=i::r):qF l (fin.set i true)=qI (qF l fin) p:=by
 have hn:iF l fin p=some i:=by rw [iW,h];rfl
 obtain⟨hi,ht,hf⟩:=dO hn
 have hnd:(qF l fin p).Nodup:=List.Pairwise.filter _ List.nodup_range
 funext x
 have key:∀ j,nH l (fin.set i true) x j=(nH l fin x j && !(decide (j=i))):=by
  intro j
  unfold nH
  by_cases hj:j=i
  ·subst hj
   simp [List.getD_eq_getElem?_getD,List.getElem?_set,hlen,hi]
  ·simp [List.getD_eq_getElem?_getD,List.getElem?_set,Ne.symm hj,hj]
 unfold qI
 by_cases hx:x=p
 ·subst hx
  rw [if_pos rfl,h]
  have e1:qF l (fin.set i true) x=(qF l fin x).filter (λj=>!(decide (j=i))):=by
   unfold qF
   rw [List.filter_filter]
   apply List.filter_congr
   intro j _
   rw [key,Bool.and_comm]
  rw [e1,h]
  rw [h] at hnd
  simp only [List.tail_cons]
  rw [List.filter_cons_of_neg (by simp),List.filter_eq_self]
  intro j hj
  have:=(List.nodup_cons.1 hnd).1
  simp
  rintro rfl
  exact this hj
 ·rw [if_neg hx]
  unfold qF
  apply List.filter_congr
  intro j _
  rw [key]
  by_cases hj:j=i
  ·subst hj
   unfold nH
   rw [ht]
   simp [Ne.symm hx]
  ·simp [hj]
theorem iL {n:Int} {l:List aF} (h:fI n l=0):1<=n/\n<=16/\l.length<=1000/\iQ n l=false:=by
 unfold fI at h
 split at h
 ·cases h
 ·split at h
  ·cases h
  ·rename_i h1 h2
   refine⟨by omega,by omega,by omega,?_⟩
   unfold iQ
   cases hc:l.any (pE n) with
   | false=>rfl
   | true=>rw [hc] at h;simp at h
def NS (n:Int) (l:List aF) (w:World) (e:Ending) (w':World):Prop:=
 (fI n l≠0/\e=.returned (.tuple #[.pointer none,.int .i64 (fI n l)])/\Below w.heap.size w w')∨
 (fI n l=0/\e=.returned (.tuple #[.pointer (some ⟨w.heap.size+1,0,none⟩),.int .i64 0])/\Below w.heap.size w w'/\∃ M,fC w' (λb=>w.heap.size<=b/\b<w'.heap.size) (w.heap.size+1) w.heap.size l.length M (qF l (List.replicate l.length false)) (l.length:Int))
theorem BU (n:Int) (l:List aF) (a:Option Addr) (c:Nat) (w:World) (hs:bS w a l.length 6 (gJ l)) (hwf:∀ x∈l,(Lit.int .i64 x.thread).wf=true) :
  Calls Try.prog 40 #[.int .i64 n,.slice a l.length c] w λe w'=>NS n l w e w':=by
 by_cases h1:n<1∨16<n
 ·have hw:fI n l=1:=by unfold fI;rw [if_pos h1]
  refine(BJ n a l.length c w 1 hs.1 (.inl ⟨h1,rfl⟩)).mono ?_
  rintro e w' ⟨rfl,rfl⟩
  exact .inl ⟨by rw [hw];decide,by rw [hw],Gr.refl _⟩
 by_cases h2:1000<l.length
 ·have hw:fI n l=3:=by unfold fI;rw [if_neg h1,if_pos h2]
  refine(BJ n a l.length c w 3 hs.1 (.inr ⟨⟨by omega,by omega,h2⟩,rfl⟩)).mono ?_
  rintro e w' ⟨rfl,rfl⟩
  exact .inl ⟨by rw [hw];decide,by rw [hw],Gr.refl _⟩
 refine(OI n l a c w hs (by omega) (by omega) (by omega) hwf).mono ?_
 rintro e w' (⟨hb,rfl,hbel⟩|⟨hb,rfl,M,hst⟩)
 ·have hw:fI n l=1:=by unfold fI;rw [if_neg h1,if_neg h2];exact if_pos hb
  exact .inl ⟨by rw [hw];decide,by rw [hw],hbel⟩
 ·have hw:fI n l=0:=by unfold fI;rw [if_neg h1,if_neg h2];exact if_neg (by unfold iQ at hb;rw [hb];simp)
  have hq:qF l (List.replicate l.length false)=qOf l l.length:=funext (LQ l)
  exact .inr ⟨hw,rfl,hst.below,M,by rw [hq];exact yI hst (by omega)⟩
theorem fC.chg {S:Nat->Prop} {w w':World} {Z:Nat->Prop} {bl bm n:Nat} {M:Int->Value} {q:Int->List Nat} {left:Int} (h:fC w Z bl bm n M q left) (hc:Chg S w w') (h1:¬ S bl) (h2:¬ S bm) (h3:∀ b,Z b->¬ S b):fC w' Z bl bm n M q left:=by
 refine⟨(hc.block _ (aC h.line) h1).trans h.line,h.map.block (hc.block _ h.map.lt h2),λp=>?_⟩
 obtain⟨a,c,g1,g2,g3,g4⟩:=h.rows p
 exact⟨a,c,g1,g2,g3.chg hc (λb off e=>h3 b (g4 b off e).2.2),g4⟩
theorem fC.mono {w:World} {Z Z':Nat->Prop} {bl bm n:Nat} {M:Int->Value} {q:Int->List Nat} {left:Int} (h:fC w Z bl bm n M q left) (hz:∀ b,Z b->Z' b):fC w Z' bl bm n M q left:=
 ⟨h.line,h.map,λp=>by obtain⟨a,c,g1,g2,g3,g4⟩:=h.rows p;exact⟨a,c,g1,g2,g3,λb off e=>⟨(g4 b off e).1,(g4 b off e).2.1,hz b (g4 b off e).2.2⟩⟩⟩
theorem mI (v:Value) (n:Nat):madeCells #[v] n=(List.replicate n v).toArray:=by
 unfold madeCells
 apply Array.ext
 ·simp
 ·intro i h1 h2
  simp at h1 h2 ⊢
  simp [Nat.mod_one]
end
section
open Go.RowKit
def U64 (x:Nat):Prop:=x<18446744073709551616
theorem U64.lt {x:Nat} (h:U64 x):x<18446744073709551616:=h
theorem QF {s:Nat} (h2:s<=64):2^s<=18446744073709551616:=by
 have:2^s<=2^64:=Nat.pow_le_pow_right (by omega) h2
 omega
theorem LD {x a s:Nat} (hx:U64 x) (h2:s<=64):bits BinOp.and IntKind.u64 ((x:Int) / 2^a) ((2^s - 1:Nat):Int)=((x / 2^a % 2^s:Nat):Int):=by
 have e:((x:Int) / 2^a)=((x / 2^a:Nat):Int):=by simp
 have h1:=QF h2
 have h3:x / 2^a<=x:=Nat.div_le_self _ _
 unfold U64 at hx
 rw [e,u64_and_nat _ _ (by omega) (by omega),Nat.and_two_pow_sub_one_eq_mod]
end
section
open Go.RowKit
theorem eX {w:World} {p q:Addr} (v:Value) (h:q.block≠p.block):(w.setCell p v).cell? q=w.cell? q:=World.cell?_of_block (w:=w) (Below.heap_setCell _ _ _ _ h)
theorem jL {w:World} {p q:Addr} (v:Value) (h:q.block≠p.block):(w.setCell p v).frozen? q=w.frozen? q:=by
 have:=Below.heap_setCell w p v _ h
 simp only [World.frozen?,this]
theorem FN (b:Nat) (w:World):Calls Try.prog 146 #[.pointer (some ⟨b,1,none⟩)] w λe w'=>e=.returned (.pointer (some ⟨b,1,none⟩))/\w=w':=by
 go_enter Try.func146,Try.ntmps146
 go_wp2
 go_ret
 exact⟨rfl,rfl⟩
theorem MM (b j b2 j2:Nat) (x o:Int) (w:World) (h:w.cell? ⟨b,j,none⟩=some (.int .u64 x)) (ho:w.cell? ⟨b2,j2,none⟩=some (.int .u64 o)) (hf:w.frozen? ⟨b2,j2,none⟩=false) :
  Calls Try.prog 147 #[.pointer (some ⟨b,j,none⟩),.pointer (some ⟨b2,j2,none⟩)] w λe w'=>e=.returned (.tuple #[])/\w'=w.setCell ⟨b2,j2,none⟩ (.int .u64 x):=by
 go_enter Try.func147,Try.ntmps147
 go_wp2
 go_end0
 exact⟨rfl,rfl⟩
theorem qD (u:World):Sem.run Try.prog (binOp BinOp.neq 147 Value.nilFunc Value.nilFunc) u=Result.ok (.bool false) u:=by
 first
 | kernel_rfl
 | rfl
theorem xB (bm bw j b2 j2:Nat) (len cap:Nat) (n x o:Int) (w:World) (h0:w.cell? ⟨bm,0,none⟩=some (.slice (some ⟨bw,0,none⟩) len cap)) (h1:w.cell? ⟨bm,1,none⟩=some (.int .i64 n)) (hn:0<=n) (hn2:n<1000000000000)
  (h6:w.cell? ⟨bm,6,none⟩=some .nilFunc) (hw:w.cell? ⟨bw,j,none⟩=some (.int .u64 x)) (hj:j<len) (hlen:len<=1048576) (hbw:bw≠bm) (ho:w.cell? ⟨b2,j2,none⟩=some (.int .u64 o)) (hf:w.frozen? ⟨b2,j2,none⟩=false) (hf1:w.frozen? ⟨bm,1,none⟩=false) (hb2:b2≠bm) (hb3:b2≠bw) :
  Calls Try.prog 145 #[.pointer (some ⟨bm,0,none⟩),.int .i64 0,.int .i64 (j:Int),.func (.func 146) #[] #[],.func (.func 147) #[] #[.pointer (some ⟨b2,j2,none⟩)]] w λe w'=>
   e=.returned (.tuple #[])/\w'=(w.setCell ⟨bm,1,none⟩ (.int .i64 (n+1))).setCell ⟨b2,j2,none⟩ (.int .u64 x):=by
 have hj1:(j:Int)<len:=by omega
 have C:=Lib.hid (FN bm)
 have hnn:=qD
 go_enter Try.func145,Try.ntmps145
 go_wp2_with fail
 refine(C.out _).mono ?_
 rintro e w1 ⟨rfl,rfl⟩
 have ho2:(w.setCell ⟨bm,1,none⟩ (.int .i64 (n+1))).cell? ⟨b2,j2,none⟩=some (.int .u64 o):=by rw [eX _ (by exact hb2)];exact ho
 have hf2:(w.setCell ⟨bm,1,none⟩ (.int .i64 (n+1))).frozen? ⟨b2,j2,none⟩=false:=by rw [jL _ (by exact hb2)];exact hf
 have hw2:(w.setCell ⟨bm,1,none⟩ (.int .i64 (n+1))).cell? ⟨bw,j,none⟩=some (.int .u64 x):=by rw [eX _ (by exact hbw)];exact hw
 go_wp2_with fail
 refine(MM bw j b2 j2 x o _ hw2 ho2 hf2).mono ?_
 rintro e w1 ⟨rfl,rfl⟩
 go_wp2
 go_end0
 exact⟨rfl,rfl⟩
theorem DW (b:Nat) (w:World):Calls Try.prog 154 #[.pointer (some ⟨b,1,none⟩)] w λe w'=>e=.returned (.pointer (some ⟨b,2,none⟩))/\w=w':=by
 go_enter Try.func154,Try.ntmps154
 go_wp2
 go_ret
 exact⟨rfl,rfl⟩
theorem JO (b j b2 j2:Nat) (v o:Int) (w:World) (h:w.cell? ⟨b,j,none⟩=some (.int .u64 o)) (hf:w.frozen? ⟨b,j,none⟩=false) (hv:w.cell? ⟨b2,j2,none⟩=some (.int .u64 v)) :
  Calls Try.prog 155 #[.pointer (some ⟨b,j,none⟩),.pointer (some ⟨b2,j2,none⟩)] w λe w'=>e=.returned (.tuple #[])/\w'=w.setCell ⟨b,j,none⟩ (.int .u64 v):=by
 go_enter Try.func155,Try.ntmps155
 go_wp2
 go_end0
 exact⟨rfl,rfl⟩
theorem wG (bm bw j b2 j2:Nat) (len cap:Nat) (n x o:Int) (w:World) (h0:w.cell? ⟨bm,0,none⟩=some (.slice (some ⟨bw,0,none⟩) len cap)) (h1:w.cell? ⟨bm,2,none⟩=some (.int .i64 n)) (hn:0<=n) (hn2:n<1000000000000)
  (h6:w.cell? ⟨bm,6,none⟩=some .nilFunc) (hw:w.cell? ⟨bw,j,none⟩=some (.int .u64 x)) (hfw:w.frozen? ⟨bw,j,none⟩=false) (hj:j<len) (hlen:len<=1048576) (hbw:bw≠bm) (ho:w.cell? ⟨b2,j2,none⟩=some (.int .u64 o)) (hf1:w.frozen? ⟨bm,2,none⟩=false) (hb2:b2≠bm) :
  Calls Try.prog 145 #[.pointer (some ⟨bm,0,none⟩),.int .i64 1,.int .i64 (j:Int),.func (.func 154) #[] #[],.func (.func 155) #[] #[.pointer (some ⟨b2,j2,none⟩)]] w λe w'=>
   e=.returned (.tuple #[])/\w'=(w.setCell ⟨bm,2,none⟩ (.int .i64 (n+1))).setCell ⟨bw,j,none⟩ (.int .u64 o):=by
 have hj1:(j:Int)<len:=by omega
 have C:=Lib.hid (DW bm)
 have hnn:=qD
 go_enter Try.func145,Try.ntmps145
 go_wp2_with fail
 refine(C.out _).mono ?_
 rintro e w1 ⟨rfl,rfl⟩
 have ho2:(w.setCell ⟨bm,2,none⟩ (.int .i64 (n+1))).cell? ⟨b2,j2,none⟩=some (.int .u64 o):=by rw [eX _ (by exact hb2)];exact ho
 have hw2:(w.setCell ⟨bm,2,none⟩ (.int .i64 (n+1))).cell? ⟨bw,j,none⟩=some (.int .u64 x):=by rw [eX _ (by exact hbw)];exact hw
 have hf2:(w.setCell ⟨bm,2,none⟩ (.int .i64 (n+1))).frozen? ⟨bw,j,none⟩=false:=by rw [jL _ (by exact hbw)];exact hfw
 go_wp2_with fail
 refine(JO bw j b2 j2 o x _ hw2 hf2 ho2).mono ?_
 rintro e w1 ⟨rfl,rfl⟩
 go_wp2
 go_end0
 exact⟨rfl,rfl⟩
end
section
open Go.RowKit
theorem uL:(Try.prog.info? 3).map (λi=>(i.zero,i.size,i.bytes))=some (some (.int .i64 0),1,8):=by kernel_rfl
theorem wB:(Try.prog.info? 40).map (λi=>(i.zero,i.size,i.bytes))=some (some (.int .u64 0),1,8):=by kernel_rfl
theorem uV (a:Option Addr) (n c:Nat) (g:Nat->Nat->Value) (w:World) (hs:bS w a n 1 g) (h1:∀ j,(g j 0).oneCell'=true) (hn:n<=1000000000) (hc:a=none->c=0) :
  Calls Try.prog 79 #[.slice a n c] w λe w'=>∃ v,e=.returned v/\w'.ownsRow w.heap.size 40 1 v n ((List.range n).map λj=>g j 0)/\Below w.heap.size w w'/\(v=.slice none 0 0↔a=none):=by
 have Hs:=Lib.hid hs;have H1:=Lib.hid h1
 obtain⟨i0,hi,hz0,hz1,hz2⟩:=info_parts wB
 have hnl:∀ u:World,(binOp .eql 28 (.slice a n c) (.slice none 0 0)).run Try.prog u=.ok (.bool a.isNone) u:=λu=>Lib.run_eql_slice_nil u _ 40 _ _ _ _ _ Try.underlying28
 clear hs h1
 cases a with
 | none=>
  obtain rfl:n=0:=by
   rcases Nat.eq_zero_or_pos n with h|h
   ·exact h
   ·obtain⟨b,off,h0,_⟩:=Hs.out.2 0 h;cases h0
  obtain rfl:=hc rfl
  simp only [Option.isNone_none] at hnl
  clear hc
  go_enter Try.func79,Try.ntmps79
  go_wp2
  go_ret
  exact⟨_,rfl,World.ownsRow_nil _ _ _ _,Gr.refl _,by simp⟩
 | some ad=>
  simp only [Option.isNone_some] at hnl
  clear hc
  have hown:(w.alloc (.cells #[] 40)).ownsRow w.heap.size 40 1 (.slice (some ⟨w.heap.size,0,none⟩) 0 0) 0 []:=World.ownsRow_made w #[] 0 (Nat.le_refl _) (Nat.zero_le _) rfl
  have hnew:∀ j u,((List.range n).map λj=>g j 0)[j]?=some u->(w.alloc (.cells #[] 40)).cell? (ad.add j)=some u:=by
   intro j u hu
   simp only [List.getElem?_map,Option.map_eq_some_iff] at hu
   obtain⟨i,hi2,rfl⟩:=hu
   rw [List.getElem?_eq_some_iff] at hi2
   obtain⟨hj,rfl⟩:=hi2
   simp only [List.length_range] at hj
   rw [List.getElem_range]
   obtain⟨b,off,h0,hb,hcell⟩:=(Hs.out.grown (Gr.new w (.cells #[] 40))).2 j hj
   cases h0
   have:=hcell 0 (by omega)
   rw [Nat.mul_one,Nat.add_zero] at this
   rw [<-this]
   unfold Addr.add
   split
   ·rename_i h;rw [h];rfl
   ·rfl
  have Hnew:=Lib.hid hnew;have Hown:=Lib.hid hown
  clear hnew hown
  go_enter Try.func79,Try.ntmps79
  go_wp2_with (at_builtin;refine wpList_append_own _ rfl (.tmp 5) (.tmp 6) 28 rfl w.heap.size 40 i0 (.int .u64 0) 1 8 Try.underlying28 hi hz0 hz1 hz2 rfl (by decide) (.slice (some ⟨w.heap.size,0,none⟩) 0 0) 0 [] rfl Hown.out ad n c ((List.range n).map λj=>g j 0) rfl ?c1 Hnew.out ?c2 ?c3 ?c4 ?c5 ?_)
  case c1=>simp
  case c2=>
   intro u hu
   obtain⟨j,_,rfl⟩:=List.mem_map.1 hu
   exact H1.out j
  case c3=>unfold maxLen;omega
  case c4=>omega
  case c5=>simp
  intro v w1 hown1 hgrow hnil
  have Hg:=Lib.hid hgrow;have Ho:=Lib.hid hown1;have Hn:=Lib.hid hnil
  clear hgrow hown1 hnil
  go_wp2
  go_ret
  refine⟨v,rfl,?_,(Gr.new w _).grown Hg.out (by simp) (λk hk=>by simp only [Value.ownBlock,Option.some.injEq] at hk;omega),?_⟩
  ·have h5:=Ho.out
   simpa using h5
  ·constructor
   ·intro h;exact absurd h (by simpa using Hn.out)
   ·intro h;cases h
theorem EW (a:Option Addr) (n c:Nat) (g:Nat->Nat->Value) (w:World) (hs:bS w a n 1 g) (h1:∀ j,(g j 0).oneCell'=true) (hn:n<=1000000000) (hc:a=none->c=0) :
  Calls Try.prog 179 #[.slice a n c] w λe w'=>∃ v,e=.returned v/\w'.ownsRow w.heap.size 3 1 v n ((List.range n).map λj=>g j 0)/\Below w.heap.size w w'/\(v=.slice none 0 0↔a=none):=by
 have Hs:=Lib.hid hs;have H1:=Lib.hid h1
 obtain⟨i0,hi,hz0,hz1,hz2⟩:=info_parts uL
 have hnl:∀ u:World,(binOp .eql 24 (.slice a n c) (.slice none 0 0)).run Try.prog u=.ok (.bool a.isNone) u:=λu=>Lib.run_eql_slice_nil u _ 3 _ _ _ _ _ Try.underlying24
 clear hs h1
 cases a with
 | none=>
  obtain rfl:n=0:=by
   rcases Nat.eq_zero_or_pos n with h|h
   ·exact h
   ·obtain⟨b,off,h0,_⟩:=Hs.out.2 0 h;cases h0
  obtain rfl:=hc rfl
  simp only [Option.isNone_none] at hnl
  clear hc
  go_enter Try.func179,Try.ntmps179
  go_wp2
  go_ret
  exact⟨_,rfl,World.ownsRow_nil _ _ _ _,Gr.refl _,by simp⟩
 | some ad=>
  simp only [Option.isNone_some] at hnl
  clear hc
  have hown:(w.alloc (.cells #[] 3)).ownsRow w.heap.size 3 1 (.slice (some ⟨w.heap.size,0,none⟩) 0 0) 0 []:=World.ownsRow_made w #[] 0 (Nat.le_refl _) (Nat.zero_le _) rfl
  have hnew:∀ j u,((List.range n).map λj=>g j 0)[j]?=some u->(w.alloc (.cells #[] 3)).cell? (ad.add j)=some u:=by
   intro j u hu
   simp only [List.getElem?_map,Option.map_eq_some_iff] at hu
   obtain⟨i,hi2,rfl⟩:=hu
   rw [List.getElem?_eq_some_iff] at hi2
   obtain⟨hj,rfl⟩:=hi2
   simp only [List.length_range] at hj
   rw [List.getElem_range]
   obtain⟨b,off,h0,hb,hcell⟩:=(Hs.out.grown (Gr.new w (.cells #[] 3))).2 j hj
   cases h0
   have:=hcell 0 (by omega)
   rw [Nat.mul_one,Nat.add_zero] at this
   rw [<-this]
   unfold Addr.add
   split
   ·rename_i h;rw [h];rfl
   ·rfl
  have Hnew:=Lib.hid hnew;have Hown:=Lib.hid hown
  clear hnew hown
  go_enter Try.func179,Try.ntmps179
  go_wp2_with (at_builtin;refine wpList_append_own _ rfl (.tmp 5) (.tmp 6) 24 rfl w.heap.size 3 i0 (.int .i64 0) 1 8 Try.underlying24 hi hz0 hz1 hz2 rfl (by decide) (.slice (some ⟨w.heap.size,0,none⟩) 0 0) 0 [] rfl Hown.out ad n c ((List.range n).map λj=>g j 0) rfl ?c1 Hnew.out ?c2 ?c3 ?c4 ?c5 ?_)
  case c1=>simp
  case c2=>
   intro u hu
   obtain⟨j,_,rfl⟩:=List.mem_map.1 hu
   exact H1.out j
  case c3=>unfold maxLen;omega
  case c4=>omega
  case c5=>simp
  intro v w1 hown1 hgrow hnil
  have Hg:=Lib.hid hgrow;have Ho:=Lib.hid hown1;have Hn:=Lib.hid hnil
  clear hgrow hown1 hnil
  go_wp2
  go_ret
  refine⟨v,rfl,?_,(Gr.new w _).grown Hg.out (by simp) (λk hk=>by simp only [Value.ownBlock,Option.some.injEq] at hk;omega),?_⟩
  ·have h5:=Ho.out
   simpa using h5
  ·constructor
   ·intro h;exact absurd h (by simpa using Hn.out)
   ·intro h;cases h
end
end Go.Proofs.Ytifhldnmcdbpfaa
