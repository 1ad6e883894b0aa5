/- Layer 6: the order of keys, in plain lists. -/
import Derived.Test.YtlepjmnhekeofaaW18
import Derived.Test.YtlepjmnhekeofaaW13
import Derived.Test.YtlepjmnhekeofaaW17
import Derived.Laws.CopyOwn
set_option maxRecDepth 100000
set_option linter.unusedVariables false
set_option linter.unusedSimpArgs false
set_option linter.unnecessarySimpa false
namespace Go.Proofs.Ytlepjmnhekeofaa
section
open Go.RowKit
def keyLt:List Int->List Int->Bool
 | [],[]=>false
 | [],_::_=>true
 | _::_,[]=>false
 | a::l1,b::l2=>if a=b then keyLt l1 l2 else decide (a<b)
theorem keyLt_irrefl:∀ a,keyLt a a=false
 | []=>rfl
 | a::l1=>by unfold keyLt;rw [if_pos rfl];exact keyLt_irrefl l1
theorem keyLt_trans:∀ a b c,keyLt a b=true->keyLt b c=true->keyLt a c=true
 | [],[],_,h,_=>by simp [keyLt] at h
 | [],_::_,[],_,h=>by simp [keyLt] at h
 | [],_::_,_::_,_,_=>rfl
 | _::_,[],_,h,_=>by simp [keyLt] at h
 | _::_,_::_,[],_,h=>by simp [keyLt] at h
 | a::l1,b::l2,c::l3,h,k=>by
  unfold keyLt at h k ⊢
  by_cases h1:a=b
  ·subst h1
   rw [if_pos rfl] at h
   by_cases h2:a=c
   ·rw [if_pos h2] at k ⊢;exact keyLt_trans l1 l2 l3 h k
   ·rw [if_neg h2] at k ⊢;exact k
  ·rw [if_neg h1] at h
   have h':a<b:=of_decide_eq_true h
   by_cases h2:b=c
   ·subst h2;rw [if_neg h1];exact h
   ·rw [if_neg h2] at k
    have k':b<c:=of_decide_eq_true k
    rw [if_neg (by omega)];exact decide_eq_true (by omega)
theorem keyLt_tri:∀ a b,keyLt a b=true∨a=b∨keyLt b a=true
 | [],[]=>.inr (.inl rfl)
 | [],_::_=>.inl rfl
 | _::_,[]=>.inr (.inr rfl)
 | a::l1,b::l2=>by
  unfold keyLt
  by_cases h:a=b
  ·subst h
   simp only [if_true]
   rcases keyLt_tri l1 l2 with h|h|h
   ·exact .inl h
   ·exact .inr (.inl (by rw [h]))
   ·exact .inr (.inr h)
  ·rw [if_neg h,if_neg (Ne.symm h)]
   rcases Int.lt_or_gt_of_ne h with h1|h1
   ·exact .inl (decide_eq_true h1)
   ·exact .inr (.inr (decide_eq_true h1))
theorem keyLt_head {a b:List Int} (ha:a≠[]) (hb:b≠[]) (h:a.headD 0<b.headD 0):keyLt a b=true:=by
 match a,b,ha,hb with
 | x::_,y::_,_,_=>
  simp only [List.headD_cons] at h
  unfold keyLt;rw [if_neg (by omega)];exact decide_eq_true h
def kAt (evs:List EvD) (i:Nat):List Int:=(evAt evs i).key
def evLt (evs:List EvD) (i j:Nat):Prop:=keyLt (kAt evs i) (kAt evs j)=true∨(kAt evs i=kAt evs j/\i<j)
theorem evLt_irrefl (evs:List EvD) (i:Nat):¬ evLt evs i i:=by
 rintro(h|h)
 ·rw [keyLt_irrefl] at h;cases h
 ·omega
theorem evLt_trans {evs:List EvD} {i j k:Nat} (h:evLt evs i j) (g:evLt evs j k):evLt evs i k:=by
 rcases h with h|⟨h,h'⟩<;>rcases g with g|⟨g,g'⟩
 ·exact .inl (keyLt_trans _ _ _ h g)
 ·exact .inl (by rw [<-g];exact h)
 ·exact .inl (by rw [h];exact g)
 ·exact .inr ⟨h.trans g,by omega⟩
theorem evLt_asymm {evs:List EvD} {i j:Nat} (h:evLt evs i j):¬ evLt evs j i:=λg=>evLt_irrefl evs i (evLt_trans h g)
theorem evLt_tri (evs:List EvD) (i j:Nat):evLt evs i j∨i=j∨evLt evs j i:=by
 rcases keyLt_tri (kAt evs i) (kAt evs j) with h|h|h
 ·exact .inl (.inl h)
 ·rcases Nat.lt_trichotomy i j with g|g|g
  ·exact .inl (.inr ⟨h,g⟩)
  ·exact .inr (.inl g)
  ·exact .inr (.inr (.inr ⟨h.symm,g⟩))
 ·exact .inr (.inr (.inl h))
def insAt (evs:List EvD) (out:List Nat) (i:Nat):Nat->Nat
 | 0=>0
 | k+1=>if keyLt (kAt evs i) (kAt evs (out.getD k 0)) then insAt evs out i k else k+1
theorem insAt_le (evs:List EvD) (out:List Nat) (i:Nat):∀ k,insAt evs out i k<=k
 | 0=>Nat.le_refl _
 | k+1=>by unfold insAt;split;exact Nat.le_succ_of_le (insAt_le evs out i k);exact Nat.le_refl _
def insK (evs:List EvD) (out:List Nat) (i:Nat):List Nat:=out.take (insAt evs out i out.length)++i::out.drop (insAt evs out i out.length)
def orderK (evs:List EvD):Nat->List Nat
 | 0=>[]
 | i+1=>if kAt evs i=[] then orderK evs i else insK evs (orderK evs i) i
def orderD (evs:List EvD):List Nat:=orderK evs evs.length
theorem insAt_spec {evs:List EvD} {out:List Nat} {i:Nat}:∀ k,k<=out.length->(∀ j,insAt evs out i k<=j->j<k->keyLt (kAt evs i) (kAt evs (out.getD j 0))=true)/\(0<insAt evs out i k->keyLt (kAt evs i) (kAt evs (out.getD (insAt evs out i k - 1) 0))=false)
 | 0,_=>⟨λj _ h=>by omega,λh=>by simp [insAt] at h⟩
 | k+1,hk=>by
  unfold insAt
  by_cases h:keyLt (kAt evs i) (kAt evs (out.getD k 0))=true
  ·rw [if_pos h]
   obtain⟨a,b⟩:=insAt_spec (evs:=evs) (out:=out) (i:=i) k (by omega)
   refine⟨λj h1 h2=>?_,b⟩
   by_cases hj:j=k
   ·rw [hj];exact h
   ·exact a j h1 (by omega)
  ·rw [if_neg h]
   exact⟨λj h1 h2=>by omega,λ_=>by simpa using h⟩
theorem insK_mem {evs:List EvD} {out:List Nat} {i x:Nat}:x∈insK evs out i↔x=i∨x∈out:=by
 unfold insK
 rw [List.mem_append,List.mem_cons]
 constructor
 ·rintro(h|h|h)
  ·exact .inr (List.mem_of_mem_take h)
  ·exact .inl h
  ·exact .inr (List.mem_of_mem_drop h)
 ·rintro(h|h)
  ·exact .inr (.inl h)
  ·rw [<-List.take_append_drop (insAt evs out i out.length) out,List.mem_append] at h
   rcases h with h|h
   ·exact .inl h
   ·exact .inr (.inr h)
theorem insK_sorted {evs:List EvD} {out:List Nat} {i:Nat} (h:out.Pairwise (evLt evs)) (hi:∀ x∈out,x<i):(insK evs out i).Pairwise (evLt evs):=by
 obtain⟨k,hk⟩:∃ k,k=insAt evs out i out.length:=⟨_,rfl⟩
 obtain⟨s1,s2⟩:=insAt_spec (evs:=evs) (out:=out) (i:=i) out.length (Nat.le_refl _)
 have hle:=insAt_le evs out i out.length
 unfold insK
 rw [<-hk] at s1 s2 hle ⊢
 have hsp:=h
 rw [<-List.take_append_drop k out,List.pairwise_append] at hsp
 obtain⟨a1,a2,a3⟩:=hsp
 have hpre:∀ x∈out.take k,evLt evs x i:=by
  intro x hx
  have hk0:0<k:=by
   rcases Nat.eq_zero_or_pos k with h0|h0
   ·rw [h0] at hx;simp at hx
   ·exact h0
  have hb:=s2 hk0
  have hlast:out.getD (k - 1) 0∈out:=by rw [List.getD_eq_getElem?_getD,List.getElem?_eq_getElem (by omega)];exact List.getElem_mem _
  have hlt:evLt evs (out.getD (k - 1) 0) i:=by
   rcases evLt_tri evs (out.getD (k - 1) 0) i with h1|h1|h1
   ·exact h1
   ·have:=hi _ hlast;omega
   ·rcases h1 with h1|⟨_,h1⟩
    ·rw [hb] at h1;cases h1
    ·have:=hi _ hlast;omega
  obtain⟨j,hj,rfl⟩:=List.mem_iff_getElem.1 hx
  have hj':j<k:=by simp at hj;omega
  rw [List.getElem_take]
  by_cases hjk:j=k - 1
  ·subst hjk
   rw [List.getD_eq_getElem?_getD,List.getElem?_eq_getElem (by omega)] at hlt
   exact hlt
  ·refine evLt_trans ?_ hlt
   rw [List.getD_eq_getElem?_getD,List.getElem?_eq_getElem (by omega)]
   exact List.pairwise_iff_getElem.1 h j (k - 1) (by omega) (by omega) (by omega)
 have hpost:∀ x∈out.drop k,evLt evs i x:=by
  intro x hx
  obtain⟨j,hj,rfl⟩:=List.mem_iff_getElem.1 hx
  rw [List.getElem_drop]
  have hj':k+j<out.length:=by simp at hj;omega
  have:=s1 (k+j) (by omega) hj'
  rw [List.getD_eq_getElem?_getD,List.getElem?_eq_getElem hj'] at this
  exact .inl this
 rw [List.pairwise_append,List.pairwise_cons]
 refine⟨a1,⟨hpost,a2⟩,λx hx y hy=>?_⟩
 simp only [List.mem_cons] at hy
 rcases hy with rfl|hy
 ·exact hpre x hx
 ·exact a3 x hx y hy
theorem orderK_spec (evs:List EvD):∀ k,(orderK evs k).Pairwise (evLt evs)/\(∀ x,x∈orderK evs k↔x<k/\kAt evs x≠[])
 | 0=>⟨List.Pairwise.nil,λx=>by simp [orderK]⟩
 | k+1=>by
  obtain⟨h1,h2⟩:=orderK_spec evs k
  unfold orderK
  by_cases h:kAt evs k=[]
  ·rw [if_pos h]
   refine⟨h1,λx=>?_⟩
   rw [h2]
   constructor
   ·rintro⟨a,b⟩;exact⟨by omega,b⟩
   ·rintro⟨a,b⟩
    refine⟨?_,b⟩
    have:x≠k:=by rintro rfl;exact b h
    omega
  ·rw [if_neg h]
   refine⟨insK_sorted h1 (λx hx=>((h2 x).1 hx).1),λx=>?_⟩
   rw [insK_mem,h2]
   constructor
   ·rintro(rfl|⟨a,b⟩)
    ·exact⟨by omega,h⟩
    ·exact⟨by omega,b⟩
   ·rintro⟨a,b⟩
    by_cases hx:x=k
    ·exact .inl hx
    ·exact .inr ⟨by omega,b⟩
theorem orderD_mem {evs:List EvD} {i:Nat} (h:i∈orderD evs):i<evs.length/\kAt evs i≠[]:=((orderK_spec evs evs.length).2 i).1 h
theorem orderK_len (evs:List EvD):∀ k,(orderK evs k).length<=k
 | 0=>Nat.le_refl _
 | k+1=>by
  unfold orderK;split
  ·exact Nat.le_succ_of_le (orderK_len evs k)
  ·unfold insK
   rw [List.length_append,List.length_cons,List.length_take,List.length_drop]
   have:=orderK_len evs k
   have:=insAt_le evs (orderK evs k) k (orderK evs k).length
   omega
def Fold (ap:List Nat->CallD->List Nat×AnsD) (calls:List CallD) (evs:List EvD):List Nat->List Nat->Prop
 | _,[]=>True
 | st,i::l=>
  if (calls.getD (evAt evs i).call d0).obj≠0 then ((evAt evs i).resp≠0->(evAt evs i).ans=⟨12,0,[]⟩)/\Fold ap calls evs st l
  else ((evAt evs i).resp≠0->(evAt evs i).ans=(ap st (calls.getD (evAt evs i).call d0)).2)/\Fold ap calls evs (ap st (calls.getD (evAt evs i).call d0)).1 l
def foldTo (ap:List Nat->CallD->List Nat×AnsD) (calls:List CallD) (evs:List EvD):List Nat->List Nat->List Nat
 | st,[]=>st
 | st,i::l=>foldTo ap calls evs (if (calls.getD (evAt evs i).call d0).obj≠0 then st else (ap st (calls.getD (evAt evs i).call d0)).1) l
end
section

/- Layer 9: adder.Play. -/
open Go.RowKit
abbrev adderS:Sys:=onceSys adderRef adderAct
end
section

/- Layer 9: tickets, in plain numbers. -/
open Go.RowKit
def tkCall (n k:Nat):CallD:=⟨((k % n:Nat):Int),0,2,0,0,0⟩
def tk (n m:Nat):List CallD:=(List.range m).map (tkCall n)
structure TkInv (st:PlayD adderS) (k:Nat):Prop where
 h16:st.hands.length=16
 none_:∀ p,(st.hands.getD p (none,0)).1=none
 now:st.wd.now=st.evs.length
 ws:st.wd.mem.ws=[st.evs.length]
 evs:∀ i,i<st.evs.length->(st.evs.getD i ev0).ans.val=i/\(st.evs.getD i ev0).resp=i+1
 len:st.evs.length<=k
end
section

/- Layer 9: the walk of AdderTickets. -/
open Go.RowKit
theorem RepAt.event {X:Nat->Prop} {B:Nat} {w:World} {ea:Option Addr} {en ec:Nat} {wv:Value} {ers:List (Value×Value)} {r:RepD} (h:RepAt X B w (.slice ea en ec) wv ers r) (hn:en=r.evs.length) (h0:0<en) :
  ∃ g,ea=some ⟨g,0,none⟩/\g<w.heap.size/\∀ i f,i<en->f<8->w.cell? ⟨g,i*8+f,none⟩=(evCells (r.evs.getD i ev0) (ers.getD i vv0))[f]?:=by
 obtain⟨g,c,h1,h2,h3⟩:=h.row.form (by omega)
 simp only [Value.slice.injEq] at h1
 obtain⟨rfl,h4,h5⟩:=h1
 refine⟨g,rfl,h3,λi f hi hf=>?_⟩
 have hr:=h.row
 rw [<-hn] at hr
 rw [hr.cellAt _ (by omega),evRow_get _ _ _ _ h.elen.symm (by omega) hf]
theorem RepAt.word {X:Nat->Prop} {B:Nat} {w:World} {ev:Value} {va:Option Addr} {vn vc:Nat} {ers:List (Value×Value)} {r:RepD} (h:RepAt X B w ev (.slice va vn vc) ers r) (hn:vn=r.words.length) (h0:0<vn) :
  ∃ q,va=some ⟨q,0,none⟩/\q<w.heap.size/\∀ j,j<vn->w.cell? ⟨q,j,none⟩=some (.int .u64 ((r.words.getD j 0:Nat):Int)):=by
 obtain⟨g,c,h1,h2,h3⟩:=h.words.form (by omega)
 simp only [Value.slice.injEq] at h1
 obtain⟨rfl,h4,h5⟩:=h1
 refine⟨g,rfl,h3,λj hj=>?_⟩
 have hr:=h.words
 rw [<-hn] at hr
 rw [hr.cellAt _ (by omega)]
 simp [u64V,List.getD_eq_getElem?_getD,show j<r.words.length by omega]
def callL (c:CallD):List Value:=[.int .i64 c.thread,.int .i64 c.obj,.int .i64 c.kind,.int .u64 (c.a:Int),.int .u64 (c.b:Int),.int .u64 (c.c:Int)]
theorem callL_get:∀(l:List CallD) (j f:Nat),j<l.length->f<6->(l.flatMap callL)[j*6+f]?=some (callG l j f)
 | [],j,_,h,_=>by simp at h
 | c::l,0,f,_,hf=>by
  simp only [List.flatMap_cons,Nat.zero_mul,Nat.zero_add]
  rw [List.getElem?_append_left (by simpa [callL] using hf)]
  match f,hf with
  | 0,_=>rfl
  | 1,_=>rfl
  | 2,_=>rfl
  | 3,_=>rfl
  | 4,_=>rfl
  | 5,_=>rfl
 | c::l,j+1,f,h,hf=>by
  simp only [List.flatMap_cons]
  rw [List.getElem?_append_right (by simp [callL];omega),show(j+1)*6+f - (callL c).length=j*6+f by simp [callL];omega,callL_get l j f (by simpa using h) hf]
  simp [callG]
theorem calls_block {w:World} {b:Nat} {l:List CallD} {fz:Nat×Nat} (h:w.heap[b]?=some (.cells (l.flatMap callL).toArray 46 fz)) (hl:l.length<=1000000):SlAt w (some ⟨b,0,none⟩) l.length 6 (callG l):=by
 refine⟨by unfold maxLen;omega,λj hj=>⟨b,0,rfl,blk_lt h,λf hf=>?_⟩⟩
 rw [Nat.zero_add,cell_blk h]
 simpa using callL_get l j f hj hf
theorem ints_block {w:World} {b:Nat} {l:List Int} {fz:Nat×Nat} (h:w.heap[b]?=some (.cells (l.map (Value.int .i64)).toArray 3 fz)) (hl:l.length<=1000000):SlAt w (some ⟨b,0,none⟩) l.length 1 (intG l):=by
 refine⟨by unfold maxLen;omega,λj hj=>⟨b,0,rfl,blk_lt h,λf hf=>?_⟩⟩
 obtain rfl:f=0:=by omega
 rw [cell_blk h]
 simp [intG,List.getD_eq_getElem?_getD,hj]
theorem callOk_small {t k:Int} (h1:0<=t) (h2:t<16) (h3:0<=k) (h4:k<16) {a b c:Nat} (ha:a<100) (hb:b<100) (hc:c<100):CallOk ⟨t,0,k,a,b,c⟩:=
 ⟨by simp [Lit.wf,IntKind.min,IntKind.max,IntKind.signed,IntKind.bits];omega,by rfl,by simp [Lit.wf,IntKind.min,IntKind.max,IntKind.signed,IntKind.bits];omega,by simp only;omega,by simp only;omega,by simp only;omega⟩
end
section

/- Layer 6: the order of keys: the walks of ahead, Order. -/
open Go.RowKit
theorem nameW {F:World->Prop} {W:World} (h:∀ w',w'=W->F w'):F W:=h W rfl
theorem keyLt_drop {xs ys:List Int} {k:Nat} (h1:k<xs.length) (h2:k<ys.length):keyLt (xs.drop k) (ys.drop k)=if xs.getD k 0=ys.getD k 0 then keyLt (xs.drop (k+1)) (ys.drop (k+1)) else decide (xs.getD k 0<ys.getD k 0):=by
 rw [List.drop_eq_getElem_cons h1,List.drop_eq_getElem_cons h2]
 simp only [keyLt,List.getD_eq_getElem?_getD,List.getElem?_eq_getElem h1,List.getElem?_eq_getElem h2,Option.getD_some]
theorem keyLt_end {xs ys:List Int} {k:Nat} (h1:k<=xs.length) (h2:k<=ys.length) (h:¬ (k<xs.length/\k<ys.length)):keyLt (xs.drop k) (ys.drop k)=decide (xs.length<ys.length):=by
 by_cases h3:k<xs.length
 ·have h4:ys.drop k=[]:=List.drop_eq_nil_of_le (by omega)
  rw [h4,List.drop_eq_getElem_cons h3]
  simp only [keyLt]
  symm;apply decide_eq_false;omega
 ·have h4:xs.drop k=[]:=List.drop_eq_nil_of_le (by omega)
  rw [h4]
  by_cases h5:k<ys.length
  ·rw [List.drop_eq_getElem_cons h5]
   simp only [keyLt]
   symm;apply decide_eq_true;omega
  ·rw [List.drop_eq_nil_of_le (by omega)]
   simp only [keyLt]
   symm;apply decide_eq_false;omega
set_option maxHeartbeats 4000000 in
theorem ahead_any (xs ys:List Int) (a a2:Option Addr) (c c2:Nat) (w:World) (hs:SlAt w a xs.length 1 (intG xs)) (hs2:SlAt w a2 ys.length 1 (intG ys)) :
  Calls Try.prog 68 #[.slice a xs.length c,.slice a2 ys.length c2] w λe w'=>e=.returned (.bool (keyLt xs ys))/\Below w.heap.size w w':=by
 have hm:=hs.1;have hm2:=hs2.1
 unfold maxLen at hm hm2
 obtain⟨r,hr⟩:∃ r,r=keyLt xs ys:=⟨_,rfl⟩
 rw [<-hr]
 obtain⟨n,hn⟩:∃ n,n=xs.length:=⟨_,rfl⟩
 obtain⟨m,hmm⟩:∃ m,m=ys.length:=⟨_,rfl⟩
 rw [<-hn] at hs hm ⊢
 rw [<-hmm] at hs2 hm2 ⊢
 have Hs:=Lib.hid hs;have Hs2:=Lib.hid hs2;have Hr:=Lib.hid hr;have Hn:=Lib.hid hn;have Hm:=Lib.hid hmm
 clear hs hs2 hr hn hmm
 go_enter Try.func68,Try.ntmps68
 go_wp2
 go_loopw [5] (λi wr=>∃ k:Nat,k<=n/\k<=m/\i=.int .i64 k/\Below w.heap.size w wr/\keyLt (xs.drop k) (ys.drop k)=r) (λi _=>n - (intOf i).toNat)
 case atStart=>exact⟨0,Nat.zero_le _,Nat.zero_le _,rfl,Gr.refl _,by rw [List.drop_zero,List.drop_zero];exact Hr.out.symm⟩
 case round=>
  obtain⟨k,hk,hk2,rfl,hb,hkey⟩:=hrel
  by_cases hlt:k<n
  ·by_cases hlt2:k<m
   ·obtain⟨b,o,rfl,h4⟩:=Hs.out.elem hb hlt
    obtain⟨b2,o2,rfl,h5⟩:=Hs2.out.elem hb hlt2
    obtain⟨x,hx⟩:∃ x,x=xs.getD k 0:=⟨_,rfl⟩
    obtain⟨y,hy⟩:∃ y,y=ys.getD k 0:=⟨_,rfl⟩
    have e4:wr.cell? ⟨b,o+k,none⟩=some (.int .i64 x):=by have h0:=h4 0 (by omega);rw [Nat.mul_one,Nat.add_zero] at h0;rw [h0,hx];rfl
    have e5:wr.cell? ⟨b2,o2+k,none⟩=some (.int .i64 y):=by have h0:=h5 0 (by omega);rw [Nat.mul_one,Nat.add_zero] at h0;rw [h0,hy];rfl
    have hstep:=keyLt_drop (xs:=xs) (ys:=ys) (k:=k) (by rw [<-Hn.out];exact hlt) (by rw [<-Hm.out];exact hlt2)
    rw [<-hx,<-hy,hkey] at hstep
    have l1:(k:Int)<n:=by omega
    have l2:(k:Int)<m:=by omega
    have Hb:=Lib.hid hb
    by_cases hxy:x=y
    ·rw [if_pos hxy] at hstep
     subst hxy
     have Hst:=Lib.hid hstep
     clear h4 h5 hb hx hy hstep hkey
     go_wp2_with fail
     go_quiet (fail)
     go_wp2
     go_roundw
     case rel=>exact⟨k+1,by omega,by omega,by go_num,below_drewN Hb.out nq,Hst.out.symm⟩
     case measure=>simp [intOf]<;>omega
    ·rw [if_neg hxy] at hstep
     subst hstep
     clear h4 h5 hb hx hy hkey
     go_wp2_with fail
     go_quiet (fail)
     revert nq;intro n1
     go_wp2_with fail
     go_quiet (fail)
     go_wp2
     go_ret
     first
     | exact⟨rfl,below_drewN Hb.out _⟩
     | exact⟨rfl,below_drewN (below_drewN Hb.out _) _⟩
   ·have hstep:=keyLt_end (xs:=xs) (ys:=ys) (k:=k) (by rw [<-Hn.out];exact hk) (by rw [<-Hm.out];exact hk2) (by rw [<-Hn.out,<-Hm.out];omega)
    rw [hkey,<-Hn.out,<-Hm.out] at hstep
    have hr1:r=false:=by rw [hstep];apply decide_eq_false;omega
    subst hr1
    have l1:(k:Int)<n:=by omega
    have l2:¬ (k:Int)<m:=by omega
    have l3:¬ (n:Int)<m:=by omega
    have Hb:=Lib.hid hb
    clear hb hstep hkey
    go_wp2
    go_ret
    exact⟨rfl,Hb.out⟩
  ·have hstep:=keyLt_end (xs:=xs) (ys:=ys) (k:=k) (by rw [<-Hn.out];exact hk) (by rw [<-Hm.out];exact hk2) (by rw [<-Hn.out,<-Hm.out];omega)
   rw [hkey,<-Hn.out,<-Hm.out] at hstep
   have l1:¬ (k:Int)<n:=by omega
   have Hb:=Lib.hid hb
   by_cases l3:(n:Int)<m
   ·have hr1:r=true:=by rw [hstep];apply decide_eq_true;omega
    subst hr1
    clear hb hstep hkey
    go_wp2
    go_ret
    exact⟨rfl,Hb.out⟩
   ·have hr1:r=false:=by rw [hstep];apply decide_eq_false;omega
    subst hr1
    clear hb hstep hkey
    go_wp2
    go_ret
    exact⟨rfl,Hb.out⟩
set_option maxHeartbeats 4000000 in
theorem ahead4_any (xs ys:List Int) (a a2:Option Addr) (c c2:Nat) (w:World) (hs:SlAt w a xs.length 1 (intG xs)) (hs2:SlAt w a2 ys.length 1 (intG ys)) :
  Calls Try.prog 55 #[.slice a xs.length c,.slice a2 ys.length c2] w λe w'=>e=.returned (.bool (keyLt xs ys))/\Below w.heap.size w w':=by
 have hm:=hs.1;have hm2:=hs2.1
 unfold maxLen at hm hm2
 obtain⟨r,hr⟩:∃ r,r=keyLt xs ys:=⟨_,rfl⟩
 rw [<-hr]
 obtain⟨n,hn⟩:∃ n,n=xs.length:=⟨_,rfl⟩
 obtain⟨m,hmm⟩:∃ m,m=ys.length:=⟨_,rfl⟩
 rw [<-hn] at hs hm ⊢
 rw [<-hmm] at hs2 hm2 ⊢
 have Hs:=Lib.hid hs;have Hs2:=Lib.hid hs2;have Hr:=Lib.hid hr;have Hn:=Lib.hid hn;have Hm:=Lib.hid hmm
 clear hs hs2 hr hn hmm
 go_enter Try.func55,Try.ntmps55
 go_wp2
 go_loopw [5] (λi wr=>∃ k:Nat,k<=n/\k<=m/\i=.int .i64 k/\Below w.heap.size w wr/\keyLt (xs.drop k) (ys.drop k)=r) (λi _=>n - (intOf i).toNat)
 case atStart=>exact⟨0,Nat.zero_le _,Nat.zero_le _,rfl,Gr.refl _,by rw [List.drop_zero,List.drop_zero];exact Hr.out.symm⟩
 case round=>
  obtain⟨k,hk,hk2,rfl,hb,hkey⟩:=hrel
  by_cases hlt:k<n
  ·by_cases hlt2:k<m
   ·obtain⟨b,o,rfl,h4⟩:=Hs.out.elem hb hlt
    obtain⟨b2,o2,rfl,h5⟩:=Hs2.out.elem hb hlt2
    obtain⟨x,hx⟩:∃ x,x=xs.getD k 0:=⟨_,rfl⟩
    obtain⟨y,hy⟩:∃ y,y=ys.getD k 0:=⟨_,rfl⟩
    have e4:wr.cell? ⟨b,o+k,none⟩=some (.int .i64 x):=by have h0:=h4 0 (by omega);rw [Nat.mul_one,Nat.add_zero] at h0;rw [h0,hx];rfl
    have e5:wr.cell? ⟨b2,o2+k,none⟩=some (.int .i64 y):=by have h0:=h5 0 (by omega);rw [Nat.mul_one,Nat.add_zero] at h0;rw [h0,hy];rfl
    have hstep:=keyLt_drop (xs:=xs) (ys:=ys) (k:=k) (by rw [<-Hn.out];exact hlt) (by rw [<-Hm.out];exact hlt2)
    rw [<-hx,<-hy,hkey] at hstep
    have l1:(k:Int)<n:=by omega
    have l2:(k:Int)<m:=by omega
    have Hb:=Lib.hid hb
    by_cases hxy:x=y
    ·rw [if_pos hxy] at hstep
     subst hxy
     have Hst:=Lib.hid hstep
     clear h4 h5 hb hx hy hstep hkey
     go_wp2_with fail
     go_quiet (fail)
     go_wp2
     go_roundw
     case rel=>exact⟨k+1,by omega,by omega,by go_num,below_drewN Hb.out nq,Hst.out.symm⟩
     case measure=>simp [intOf]<;>omega
    ·rw [if_neg hxy] at hstep
     subst hstep
     clear h4 h5 hb hx hy hkey
     go_wp2_with fail
     go_quiet (fail)
     revert nq;intro n1
     go_wp2_with fail
     go_quiet (fail)
     go_wp2
     go_ret
     first
     | exact⟨rfl,below_drewN Hb.out _⟩
     | exact⟨rfl,below_drewN (below_drewN Hb.out _) _⟩
   ·have hstep:=keyLt_end (xs:=xs) (ys:=ys) (k:=k) (by rw [<-Hn.out];exact hk) (by rw [<-Hm.out];exact hk2) (by rw [<-Hn.out,<-Hm.out];omega)
    rw [hkey,<-Hn.out,<-Hm.out] at hstep
    have hr1:r=false:=by rw [hstep];apply decide_eq_false;omega
    subst hr1
    have l1:(k:Int)<n:=by omega
    have l2:¬ (k:Int)<m:=by omega
    have l3:¬ (n:Int)<m:=by omega
    have Hb:=Lib.hid hb
    clear hb hstep hkey
    go_wp2
    go_ret
    exact⟨rfl,Hb.out⟩
  ·have hstep:=keyLt_end (xs:=xs) (ys:=ys) (k:=k) (by rw [<-Hn.out];exact hk) (by rw [<-Hm.out];exact hk2) (by rw [<-Hn.out,<-Hm.out];omega)
   rw [hkey,<-Hn.out,<-Hm.out] at hstep
   have l1:¬ (k:Int)<n:=by omega
   have Hb:=Lib.hid hb
   by_cases l3:(n:Int)<m
   ·have hr1:r=true:=by rw [hstep];apply decide_eq_true;omega
    subst hr1
    clear hb hstep hkey
    go_wp2
    go_ret
    exact⟨rfl,Hb.out⟩
   ·have hr1:r=false:=by rw [hstep];apply decide_eq_false;omega
    subst hr1
    clear hb hstep hkey
    go_wp2
    go_ret
    exact⟨rfl,Hb.out⟩
end
section

/- Layer 8: the tally as the loom's object: the walks of its machines. -/
open Go.RowKit
inductive TaS where
 | count (seen:Bool) (v:Nat)
 | read (at_ sum:Nat) (key:List Int)
def taWhen (ticks:List Int) (inv s:Nat):Int:=if 0<s/\s<=ticks.length then max (inv:Int) (ticks.getD (s - 1) 0) else (inv:Int)
def taRead (wd:WD) (a:Nat):WD:={ wd with mem:=(memRead wd.mem (a:Int)).1 }
def taWrite (wd:WD) (p v:Nat):WD:={ wd with mem:=memWrite wd.mem (p:Int) (v+1),traces:=updT wd.traces 0 (wd.traces 0++[(wd.now:Int)]) }
def taGot (wd:WD) (a:Nat):Nat:=(memRead wd.mem (a:Int)).2
def taKey (wd:WD) (p s:Nat):List Int:=[2*taWhen (wd.traces 0) (wd.inv.getD p 0) s,2*(wd.now:Int)]
def tallyS (n:Nat):Sys where
 σ:=TaS
 ω:=Unit
 start:=λ_ _ _ c=>if c.kind=0 then .run (.count false 0) else if c.kind=1 then .run (.read 0 0 []) else .refuse 9
 step:=λ_ wd p s=>match s with
  | .count false _=>((),taRead wd p,.count true (taGot wd p),false)
  | .count true v=>((),taWrite wd p v,.count true v,true)
  | .read a s k=>if a+1<n then ((),taRead wd a,.read (a+1) (s+taGot wd a) k,false) else ((),taRead wd a,.read (a+1) (s+taGot wd a) (taKey wd p (s+taGot wd a)),true)
 answer:=λs=>match s with
  | .count _ _=>(⟨0,0,[]⟩,[])
  | .read _ s k=>(⟨0,s,[]⟩,k)
 late:=λ_ _ _ _=>none
def OwnTo (w w':World) (Mut B:Nat->Prop) (I:WIds) (N:Nat) (wd:WD) (b:Nat) (cells:Array Value) (T:TypeId) (done:Bool) (e:Ending):Prop:=
 e=.returned (.bool done)/\Chg (λk=>WSet I k∨B k) w w'/\WorldAt w' (mutTo Mut B (λk=>k=b)) I N wd/\w'.heap[b]?=some (.cells cells T (0,0))
theorem OwnTo.drewN {w w':World} {Mut B:Nat->Prop} {I:WIds} {N:Nat} {wd:WD} {b:Nat} {cells:Array Value} {T:TypeId} {done:Bool} {e:Ending} (h:OwnTo w w' Mut B I N wd b cells T done e) (n:Nat):OwnTo w (w'.drewN n) Mut B I N wd b cells T done e:=
 ⟨h.1,h.2.1.drewN n,h.2.2.1.keep (S:=noB) ((Chg.refl _ _).drewN n) (λ_ h=>h.elim) (λ_ h=>h.elim) (MutUp.refl _ _) (λk hk=>h.2.2.1.low k hk) h.2.2.1.muts,h.2.2.2⟩
theorem memRead_val {w:World} {bm:Nat} {bw:Option Nat} {m:MemD} (h:MemAt w bm bw m) (a:Int):(memRead m a).2<18446744073709551616:=by
 unfold memRead
 split
 ·simp only;omega
 ·simp only
  rw [List.getD_eq_getElem?_getD]
  cases h9:m.ws[a.toNat]? with
  | none=>simp
  | some z=>exact h.val z (List.mem_of_getElem? h9)
end
section

/- Layer 8: the tally's machines: counting. -/
open Go.RowKit
theorem int_info9:(Try.prog.info? 3).map (λi=>(i.zero,i.size,i.bytes))=some (some (.int .i64 0),1,8):=by kernel_rfl
theorem make_ints (m:Nat) (v:Int) (hv:v=(m:Int)) (hm:m<=1000000) (u:World):(Instr.makeSlice 24 (.int .i64 v) (.int .i64 v)).run Try.prog u=.ok (.slice (some ⟨u.heap.size,0,none⟩) m m) (u.alloc (.cells (Array.replicate m (Value.int .i64 0)) 3)):=by
 subst hv
 obtain⟨i0,hi,hz0,hz1,hz2⟩:=info_parts int_info9
 have h:=run_make (P:=Try.prog) u 24 3 i0 (.int .i64 0) Try.underlying24 hi hz0 .i64 .i64 (m:Int) (m:Int) (by omega) (Int.le_refl _) (by rw [hz2];omega) (by omega)
 simpa [hz1,Value.cells,madeCells_one] using h
end
section

/- Layer 8: the tally's machines: reading. -/
open Go.RowKit
end
section

/- Layer 8: the tally as the loom's object. -/
open Go.RowKit
end
end Go.Proofs.Ytlepjmnhekeofaa
