/- Layer 6: the order of keys, in plain lists. -/
import Derived.Test.YtifhldnmcdbpfaaU14
import Derived.Test.YtifhldnmcdbpfaaU10
import Derived.Laws.CopyOwn
set_option maxRecDepth 100000
set_option linter.unusedVariables false
set_option linter.unusedSimpArgs false
set_option linter.unnecessarySimpa false
namespace Go.Proofs.Ytifhldnmcdbpfaa
section
open Go.RowKit
def bT:List Int->List Int->Bool
 | [],[]=>false
 | [],_::_=>true
 | _::_,[]=>false
 | a::l1,b::l2=>if a=b then bT l1 l2 else decide (a<b)
theorem qC:∀ a,bT a a=false
 | []=>rfl
 | a::l1=>by unfold bT;rw [if_pos rfl];exact qC l1
theorem rC:∀ a b c,bT a b=true->bT b c=true->bT a c=true
 | [],[],_,h,_=>by simp [bT] at h
 | [],_::_,[],_,h=>by simp [bT] at h
 | [],_::_,_::_,_,_=>rfl
 | _::_,[],_,h,_=>by simp [bT] at h
 | _::_,_::_,[],_,h=>by simp [bT] at h
 | a::l1,b::l2,c::l3,h,k=>by
  unfold bT at h k ⊢
  by_cases h1:a=b
  ·subst h1
   rw [if_pos rfl] at h
   by_cases h2:a=c
   ·rw [if_pos h2] at k ⊢;exact rC l1 l2 l3 h k
   ·rw [if_neg h2] at k ⊢;exact k
  ·rw [if_neg h1] at h
   have h':a<b:=of_decide_eq_true h
   by_cases h2:b=c
   ·subst h2;rw [if_neg h1];exact h
   ·rw [if_neg h2] at k
    have k':b<c:=of_decide_eq_true k
    rw [if_neg (by omega)];exact decide_eq_true (by omega)
theorem wE:∀ a b,bT a b=true∨a=b∨bT b a=true
 | [],[]=>.inr (.inl rfl)
 | [],_::_=>.inl rfl
 | _::_,[]=>.inr (.inr rfl)
 | a::l1,b::l2=>by
  unfold bT
  by_cases h:a=b
  ·subst h
   simp only [if_true]
   rcases wE l1 l2 with h|h|h
   ·exact .inl h
   ·exact .inr (.inl (by rw [h]))
   ·exact .inr (.inr h)
  ·rw [if_neg h,if_neg (Ne.symm h)]
   rcases Int.lt_or_gt_of_ne h with h1|h1
   ·exact .inl (decide_eq_true h1)
   ·exact .inr (.inr (decide_eq_true h1))
theorem AY {a b:List Int} (ha:a≠[]) (hb:b≠[]) (h:a.headD 0<b.headD 0):bT a b=true:=by
 match a,b,ha,hb with
 | x::_,y::_,_,_=>
  simp only [List.headD_cons] at h
  unfold bT;rw [if_neg (by omega)];exact decide_eq_true h
def kAt (evs:List EvD) (i:Nat):List Int:=(aB evs i).key
def jB (evs:List EvD) (i j:Nat):Prop:=bT (kAt evs i) (kAt evs j)=true∨(kAt evs i=kAt evs j/\i<j)
theorem mU (evs:List EvD) (i:Nat):¬ jB evs i i:=by
 rintro(h|h)
 ·rw [qC] at h;cases h
 ·omega
theorem uG {evs:List EvD} {i j k:Nat} (h:jB evs i j) (g:jB evs j k):jB evs i k:=by
 rcases h with h|⟨h,h'⟩<;>rcases g with g|⟨g,g'⟩
 ·exact .inl (rC _ _ _ h g)
 ·exact .inl (by rw [<-g];exact h)
 ·exact .inl (by rw [h];exact g)
 ·exact .inr ⟨h.trans g,by omega⟩
theorem uA {evs:List EvD} {i j:Nat} (h:jB evs i j):¬ jB evs j i:=λg=>mU evs i (uG h g)
theorem LB (evs:List EvD) (i j:Nat):jB evs i j∨i=j∨jB evs j i:=by
 rcases wE (kAt evs i) (kAt evs j) with h|h|h
 ·exact .inl (.inl h)
 ·rcases Nat.lt_trichotomy i j with g|g|g
  ·exact .inl (.inr ⟨h,g⟩)
  ·exact .inr (.inl g)
  ·exact .inr (.inr (.inr ⟨h.symm,g⟩))
 ·exact .inr (.inr (.inl h))
def gD (evs:List EvD) (out:List Nat) (i:Nat):Nat->Nat
 | 0=>0
 | k+1=>if bT (kAt evs i) (kAt evs (out.getD k 0)) then gD evs out i k else k+1
theorem uX (evs:List EvD) (out:List Nat) (i:Nat):∀ k,gD evs out i k<=k
 | 0=>Nat.le_refl _
 | k+1=>by unfold gD;split;exact Nat.le_succ_of_le (uX evs out i k);exact Nat.le_refl _
def wS (evs:List EvD) (out:List Nat) (i:Nat):List Nat:=out.take (gD evs out i out.length)++i::out.drop (gD evs out i out.length)
def bV (evs:List EvD):Nat->List Nat
 | 0=>[]
 | i+1=>if kAt evs i=[] then bV evs i else wS evs (bV evs i) i
def dD (evs:List EvD):List Nat:=bV evs evs.length
theorem sU {evs:List EvD} {out:List Nat} {i:Nat}:∀ k,k<=out.length->(∀ j,gD evs out i k<=j->j<k->bT (kAt evs i) (kAt evs (out.getD j 0))=true)/\(0<gD evs out i k->bT (kAt evs i) (kAt evs (out.getD (gD evs out i k - 1) 0))=false)
 | 0,_=>⟨λj _ h=>by omega,λh=>by simp [gD] at h⟩
 | k+1,hk=>by
  unfold gD
  by_cases h:bT (kAt evs i) (kAt evs (out.getD k 0))=true
  ·rw [if_pos h]
   obtain⟨a,b⟩:=sU (evs:=evs) (out:=out) (i:=i) k (by omega)
   refine⟨λj h1 h2=>?_,b⟩
   by_cases hj:j=k
   ·rw [hj];exact h
   ·exact a j h1 (by omega)
  ·rw [if_neg h]
   exact⟨λj h1 h2=>by omega,λ_=>by simpa using h⟩
theorem MS {evs:List EvD} {out:List Nat} {i x:Nat}:x∈wS evs out i↔x=i∨x∈out:=by
 unfold wS
 rw [List.mem_append,List.mem_cons]
 constructor
 ·rintro(h|h|h)
  ·exact .inr (List.mem_of_mem_take h)
  ·exact .inl h
  ·exact .inr (List.mem_of_mem_drop h)
 ·rintro(h|h)
  ·exact .inr (.inl h)
  ·rw [<-List.take_append_drop (gD evs out i out.length) out,List.mem_append] at h
   rcases h with h|h
   ·exact .inl h
   ·exact .inr (.inr h)
theorem yH {evs:List EvD} {out:List Nat} {i:Nat} (h:out.Pairwise (jB evs)) (hi:∀ x∈out,x<i):(wS evs out i).Pairwise (jB evs):=by
 obtain⟨k,hk⟩:∃ k,k=gD evs out i out.length:=⟨_,rfl⟩
 obtain⟨s1,s2⟩:=sU (evs:=evs) (out:=out) (i:=i) out.length (Nat.le_refl _)
 have hle:=uX evs out i out.length
 unfold wS
 rw [<-hk] at s1 s2 hle ⊢
 have hsp:=h
 rw [<-List.take_append_drop k out,List.pairwise_append] at hsp
 obtain⟨a1,a2,a3⟩:=hsp
 have hpre:∀ x∈out.take k,jB evs x i:=by
  intro x hx
  have hk0:0<k:=by
   rcases Nat.eq_zero_or_pos k with h0|h0
   ·rw [h0] at hx;simp at hx
   ·exact h0
  have hb:=s2 hk0
  have hlast:out.getD (k - 1) 0∈out:=by rw [List.getD_eq_getElem?_getD,List.getElem?_eq_getElem (by omega)];exact List.getElem_mem _
  have hlt:jB evs (out.getD (k - 1) 0) i:=by
   rcases LB evs (out.getD (k - 1) 0) i with h1|h1|h1
   ·exact h1
   ·have:=hi _ hlast;omega
   ·rcases h1 with h1|⟨_,h1⟩
    ·rw [hb] at h1;cases h1
    ·have:=hi _ hlast;omega
  obtain⟨j,hj,rfl⟩:=List.mem_iff_getElem.1 hx
  have hj':j<k:=by simp at hj;omega
  rw [List.getElem_take]
  by_cases hjk:j=k - 1
  ·subst hjk
   rw [List.getD_eq_getElem?_getD,List.getElem?_eq_getElem (by omega)] at hlt
   exact hlt
  ·refine uG ?_ hlt
   rw [List.getD_eq_getElem?_getD,List.getElem?_eq_getElem (by omega)]
   exact List.pairwise_iff_getElem.1 h j (k - 1) (by omega) (by omega) (by omega)
 have hpost:∀ x∈out.drop k,jB evs i x:=by
  intro x hx
  obtain⟨j,hj,rfl⟩:=List.mem_iff_getElem.1 hx
  rw [List.getElem_drop]
  have hj':k+j<out.length:=by simp at hj;omega
  have:=s1 (k+j) (by omega) hj'
  rw [List.getD_eq_getElem?_getD,List.getElem?_eq_getElem hj'] at this
  exact .inl this
 rw [List.pairwise_append,List.pairwise_cons]
 refine⟨a1,⟨hpost,a2⟩,λx hx y hy=>?_⟩
 simp only [List.mem_cons] at hy
 rcases hy with rfl|hy
 ·exact hpre x hx
 ·exact a3 x hx y hy
theorem iD (evs:List EvD):∀ k,(bV evs k).Pairwise (jB evs)/\(∀ x,x∈bV evs k↔x<k/\kAt evs x≠[])
 | 0=>⟨List.Pairwise.nil,λx=>by simp [bV]⟩
 | k+1=>by
  obtain⟨h1,h2⟩:=iD evs k
  unfold bV
  by_cases h:kAt evs k=[]
  ·rw [if_pos h]
   refine⟨h1,λx=>?_⟩
   rw [h2]
   constructor
   ·rintro⟨a,b⟩;exact⟨by omega,b⟩
   ·rintro⟨a,b⟩
    refine⟨?_,b⟩
    have:x≠k:=by rintro rfl;exact b h
    omega
  ·rw [if_neg h]
   refine⟨yH h1 (λx hx=>((h2 x).1 hx).1),λx=>?_⟩
   rw [MS,h2]
   constructor
   ·rintro(rfl|⟨a,b⟩)
    ·exact⟨by omega,h⟩
    ·exact⟨by omega,b⟩
   ·rintro⟨a,b⟩
    by_cases hx:x=k
    ·exact .inl hx
    ·exact .inr ⟨by omega,b⟩
theorem tH {evs:List EvD} {i:Nat} (h:i∈dD evs):i<evs.length/\kAt evs i≠[]:=((iD evs evs.length).2 i).1 h
theorem jS (evs:List EvD):∀ k,(bV evs k).length<=k
 | 0=>Nat.le_refl _
 | k+1=>by
  unfold bV;split
  ·exact Nat.le_succ_of_le (jS evs k)
  ·unfold wS
   rw [List.length_append,List.length_cons,List.length_take,List.length_drop]
   have:=jS evs k
   have:=uX evs (bV evs k) k (bV evs k).length
   omega
def Fold (ap:List Nat->aF->List Nat×lU) (calls:List aF) (evs:List EvD):List Nat->List Nat->Prop
 | _,[]=>True
 | st,i::l=>
  if (calls.getD (aB evs i).call d0).obj≠0 then ((aB evs i).resp≠0->(aB evs i).ans=⟨12,0,[]⟩)/\Fold ap calls evs st l
  else ((aB evs i).resp≠0->(aB evs i).ans=(ap st (calls.getD (aB evs i).call d0)).2)/\Fold ap calls evs (ap st (calls.getD (aB evs i).call d0)).1 l
def iT (ap:List Nat->aF->List Nat×lU) (calls:List aF) (evs:List EvD):List Nat->List Nat->List Nat
 | st,[]=>st
 | st,i::l=>iT ap calls evs (if (calls.getD (aB evs i).call d0).obj≠0 then st else (ap st (calls.getD (aB evs i).call d0)).1) l
end
section
open Go.RowKit
abbrev QW:Sys:=PI IQ KG
end
section
open Go.RowKit
def RS (n k:Nat):aF:=⟨((k % n:Nat):Int),0,2,0,0,0⟩
def tk (n m:Nat):List aF:=(List.range m).map (RS n)
structure XE (st:aP QW) (k:Nat):Prop where
 h16:st.hands.length=16
 none_:∀ p,(st.hands.getD p (none,0)).1=none
 now:st.wd.now=st.evs.length
 ws:st.wd.mem.ws=[st.evs.length]
 evs:∀ i,i<st.evs.length->(st.evs.getD i lG).ans.val=i/\(st.evs.getD i lG).resp=i+1
 len:st.evs.length<=k
end
section
open Go.RowKit
theorem fB.event {X:Nat->Prop} {B:Nat} {w:World} {ea:Option Addr} {en ec:Nat} {wv:Value} {ers:List (Value×Value)} {r:gT} (h:fB X B w (.slice ea en ec) wv ers r) (hn:en=r.evs.length) (h0:0<en) :
  ∃ g,ea=some ⟨g,0,none⟩/\g<w.heap.size/\∀ i f,i<en->f<8->w.cell? ⟨g,i*8+f,none⟩=(dL (r.evs.getD i lG) (ers.getD i sI))[f]?:=by
 obtain⟨g,c,h1,h2,h3⟩:=h.row.form (by omega)
 simp only [Value.slice.injEq] at h1
 obtain⟨rfl,h4,h5⟩:=h1
 refine⟨g,rfl,h3,λi f hi hf=>?_⟩
 have hr:=h.row
 rw [<-hn] at hr
 rw [hr.cellAt _ (by omega),qP _ _ _ _ h.elen.symm (by omega) hf]
theorem fB.word {X:Nat->Prop} {B:Nat} {w:World} {ev:Value} {va:Option Addr} {vn vc:Nat} {ers:List (Value×Value)} {r:gT} (h:fB X B w ev (.slice va vn vc) ers r) (hn:vn=r.words.length) (h0:0<vn) :
  ∃ q,va=some ⟨q,0,none⟩/\q<w.heap.size/\∀ j,j<vn->w.cell? ⟨q,j,none⟩=some (.int .u64 ((r.words.getD j 0:Nat):Int)):=by
 obtain⟨g,c,h1,h2,h3⟩:=h.words.form (by omega)
 simp only [Value.slice.injEq] at h1
 obtain⟨rfl,h4,h5⟩:=h1
 refine⟨g,rfl,h3,λj hj=>?_⟩
 have hr:=h.words
 rw [<-hn] at hr
 rw [hr.cellAt _ (by omega)]
 simp [cZ,List.getD_eq_getElem?_getD,show j<r.words.length by omega]
def sQ (c:aF):List Value:=[.int .i64 c.thread,.int .i64 c.obj,.int .i64 c.kind,.int .u64 (c.a:Int),.int .u64 (c.b:Int),.int .u64 (c.c:Int)]
theorem wK:∀(l:List aF) (j f:Nat),j<l.length->f<6->(l.flatMap sQ)[j*6+f]?=some (iE l j f)
 | [],j,_,h,_=>by simp at h
 | c::l,0,f,_,hf=>by
  simp only [List.flatMap_cons,Nat.zero_mul,Nat.zero_add]
  rw [List.getElem?_append_left (by simpa [sQ] using hf)]
  match f,hf with
  | 0,_=>rfl
  | 1,_=>rfl
  | 2,_=>rfl
  | 3,_=>rfl
  | 4,_=>rfl
  | 5,_=>rfl
 | c::l,j+1,f,h,hf=>by
  simp only [List.flatMap_cons]
  rw [List.getElem?_append_right (by simp [sQ];omega),show(j+1)*6+f - (sQ c).length=j*6+f by simp [sQ];omega,wK l j f (by simpa using h) hf]
  simp [iE]
theorem zU {w:World} {b:Nat} {l:List aF} {fz:Nat×Nat} (h:w.heap[b]?=some (.cells (l.flatMap sQ).toArray 46 fz)) (hl:l.length<=1000000):aW w (some ⟨b,0,none⟩) l.length 6 (iE l):=by
 refine⟨by unfold maxLen;omega,λj hj=>⟨b,0,rfl,aH h,λf hf=>?_⟩⟩
 rw [Nat.zero_add,aA h]
 simpa using wK l j f hj hf
theorem oJ {w:World} {b:Nat} {l:List Int} {fz:Nat×Nat} (h:w.heap[b]?=some (.cells (l.map (Value.int .i64)).toArray 3 fz)) (hl:l.length<=1000000):aW w (some ⟨b,0,none⟩) l.length 1 (iY l):=by
 refine⟨by unfold maxLen;omega,λj hj=>⟨b,0,rfl,aH h,λf hf=>?_⟩⟩
 obtain rfl:f=0:=by omega
 rw [aA h]
 simp [iY,List.getD_eq_getElem?_getD,hj]
theorem xG {t k:Int} (h1:0<=t) (h2:t<16) (h3:0<=k) (h4:k<16) {a b c:Nat} (ha:a<100) (hb:b<100) (hc:c<100):iJ ⟨t,0,k,a,b,c⟩:=
 ⟨by simp [Lit.wf,IntKind.min,IntKind.max,IntKind.signed,IntKind.bits];omega,by rfl,by simp [Lit.wf,IntKind.min,IntKind.max,IntKind.signed,IntKind.bits];omega,by simp only;omega,by simp only;omega,by simp only;omega⟩
end
section
open Go.RowKit
theorem DJ {F:World->Prop} {W:World} (h:∀ w',w'=W->F w'):F W:=h W rfl
theorem sW {xs ys:List Int} {k:Nat} (h1:k<xs.length) (h2:k<ys.length):bT (xs.drop k) (ys.drop k)=if xs.getD k 0=ys.getD k 0 then bT (xs.drop (k+1)) (ys.drop (k+1)) else decide (xs.getD k 0<ys.getD k 0):=by
 rw [List.drop_eq_getElem_cons h1,List.drop_eq_getElem_cons h2]
 simp only [bT,List.getD_eq_getElem?_getD,List.getElem?_eq_getElem h1,List.getElem?_eq_getElem h2,Option.getD_some]
theorem nM {xs ys:List Int} {k:Nat} (h1:k<=xs.length) (h2:k<=ys.length) (h:¬ (k<xs.length/\k<ys.length)):bT (xs.drop k) (ys.drop k)=decide (xs.length<ys.length):=by
 by_cases h3:k<xs.length
 ·have h4:ys.drop k=[]:=List.drop_eq_nil_of_le (by omega)
  rw [h4,List.drop_eq_getElem_cons h3]
  simp only [bT]
  symm;apply decide_eq_false;omega
 ·have h4:xs.drop k=[]:=List.drop_eq_nil_of_le (by omega)
  rw [h4]
  by_cases h5:k<ys.length
  ·rw [List.drop_eq_getElem_cons h5]
   simp only [bT]
   symm;apply decide_eq_true;omega
  ·rw [List.drop_eq_nil_of_le (by omega)]
   simp only [bT]
   symm;apply decide_eq_false;omega
set_option maxHeartbeats 4000000 in
theorem ES (xs ys:List Int) (a a2:Option Addr) (c c2:Nat) (w:World) (hs:aW w a xs.length 1 (iY xs)) (hs2:aW w a2 ys.length 1 (iY ys)) :
  Calls Try.prog 68 #[.slice a xs.length c,.slice a2 ys.length c2] w λe w'=>e=.returned (.bool (bT xs ys))/\Below w.heap.size w w':=by
 have hm:=hs.1;have hm2:=hs2.1
 unfold maxLen at hm hm2
 obtain⟨r,hr⟩:∃ r,r=bT xs ys:=⟨_,rfl⟩
 rw [<-hr]
 obtain⟨n,hn⟩:∃ n,n=xs.length:=⟨_,rfl⟩
 obtain⟨m,hmm⟩:∃ m,m=ys.length:=⟨_,rfl⟩
 rw [<-hn] at hs hm ⊢
 rw [<-hmm] at hs2 hm2 ⊢
 have Hs:=Lib.hid hs;have Hs2:=Lib.hid hs2;have Hr:=Lib.hid hr;have Hn:=Lib.hid hn;have Hm:=Lib.hid hmm
 clear hs hs2 hr hn hmm
 go_enter Try.func68,Try.ntmps68
 go_wp2
 go_loopw [5] (λi wr=>∃ k:Nat,k<=n/\k<=m/\i=.int .i64 k/\Below w.heap.size w wr/\bT (xs.drop k) (ys.drop k)=r) (λi _=>n - (intOf i).toNat)
 case atStart=>exact⟨0,Nat.zero_le _,Nat.zero_le _,rfl,Gr.refl _,by rw [List.drop_zero,List.drop_zero];exact Hr.out.symm⟩
 case round=>
  obtain⟨k,hk,hk2,rfl,hb,hkey⟩:=hrel
  by_cases hlt:k<n
  ·by_cases hlt2:k<m
   ·obtain⟨b,o,rfl,h4⟩:=Hs.out.elem hb hlt
    obtain⟨b2,o2,rfl,h5⟩:=Hs2.out.elem hb hlt2
    obtain⟨x,hx⟩:∃ x,x=xs.getD k 0:=⟨_,rfl⟩
    obtain⟨y,hy⟩:∃ y,y=ys.getD k 0:=⟨_,rfl⟩
    have e4:wr.cell? ⟨b,o+k,none⟩=some (.int .i64 x):=by have h0:=h4 0 (by omega);rw [Nat.mul_one,Nat.add_zero] at h0;rw [h0,hx];rfl
    have e5:wr.cell? ⟨b2,o2+k,none⟩=some (.int .i64 y):=by have h0:=h5 0 (by omega);rw [Nat.mul_one,Nat.add_zero] at h0;rw [h0,hy];rfl
    have hstep:=sW (xs:=xs) (ys:=ys) (k:=k) (by rw [<-Hn.out];exact hlt) (by rw [<-Hm.out];exact hlt2)
    rw [<-hx,<-hy,hkey] at hstep
    have l1:(k:Int)<n:=by omega
    have l2:(k:Int)<m:=by omega
    have Hb:=Lib.hid hb
    by_cases hxy:x=y
    ·rw [if_pos hxy] at hstep
     subst hxy
     have Hst:=Lib.hid hstep
     clear h4 h5 hb hx hy hstep hkey
     go_wp2_with fail
     go_quiet (fail)
     go_wp2
     go_roundw
     case rel=>exact⟨k+1,by omega,by omega,by go_num,below_drewN Hb.out nq,Hst.out.symm⟩
     case measure=>simp [intOf]<;>omega
    ·rw [if_neg hxy] at hstep
     subst hstep
     clear h4 h5 hb hx hy hkey
     go_wp2_with fail
     go_quiet (fail)
     revert nq;intro n1
     go_wp2_with fail
     go_quiet (fail)
     go_wp2
     go_ret
     first
     | exact⟨rfl,below_drewN Hb.out _⟩
     | exact⟨rfl,below_drewN (below_drewN Hb.out _) _⟩
   ·have hstep:=nM (xs:=xs) (ys:=ys) (k:=k) (by rw [<-Hn.out];exact hk) (by rw [<-Hm.out];exact hk2) (by rw [<-Hn.out,<-Hm.out];omega)
    rw [hkey,<-Hn.out,<-Hm.out] at hstep
    have hr1:r=false:=by rw [hstep];apply decide_eq_false;omega
    subst hr1
    have l1:(k:Int)<n:=by omega
    have l2:¬ (k:Int)<m:=by omega
    have l3:¬ (n:Int)<m:=by omega
    have Hb:=Lib.hid hb
    clear hb hstep hkey
    go_wp2
    go_ret
    exact⟨rfl,Hb.out⟩
  ·have hstep:=nM (xs:=xs) (ys:=ys) (k:=k) (by rw [<-Hn.out];exact hk) (by rw [<-Hm.out];exact hk2) (by rw [<-Hn.out,<-Hm.out];omega)
   rw [hkey,<-Hn.out,<-Hm.out] at hstep
   have l1:¬ (k:Int)<n:=by omega
   have Hb:=Lib.hid hb
   by_cases l3:(n:Int)<m
   ·have hr1:r=true:=by rw [hstep];apply decide_eq_true;omega
    subst hr1
    clear hb hstep hkey
    go_wp2
    go_ret
    exact⟨rfl,Hb.out⟩
   ·have hr1:r=false:=by rw [hstep];apply decide_eq_false;omega
    subst hr1
    clear hb hstep hkey
    go_wp2
    go_ret
    exact⟨rfl,Hb.out⟩
set_option maxHeartbeats 4000000 in
theorem BK (xs ys:List Int) (a a2:Option Addr) (c c2:Nat) (w:World) (hs:aW w a xs.length 1 (iY xs)) (hs2:aW w a2 ys.length 1 (iY ys)) :
  Calls Try.prog 54 #[.slice a xs.length c,.slice a2 ys.length c2] w λe w'=>e=.returned (.bool (bT xs ys))/\Below w.heap.size w w':=by
 have hm:=hs.1;have hm2:=hs2.1
 unfold maxLen at hm hm2
 obtain⟨r,hr⟩:∃ r,r=bT xs ys:=⟨_,rfl⟩
 rw [<-hr]
 obtain⟨n,hn⟩:∃ n,n=xs.length:=⟨_,rfl⟩
 obtain⟨m,hmm⟩:∃ m,m=ys.length:=⟨_,rfl⟩
 rw [<-hn] at hs hm ⊢
 rw [<-hmm] at hs2 hm2 ⊢
 have Hs:=Lib.hid hs;have Hs2:=Lib.hid hs2;have Hr:=Lib.hid hr;have Hn:=Lib.hid hn;have Hm:=Lib.hid hmm
 clear hs hs2 hr hn hmm
 go_enter Try.func54,Try.ntmps54
 go_wp2
 go_loopw [5] (λi wr=>∃ k:Nat,k<=n/\k<=m/\i=.int .i64 k/\Below w.heap.size w wr/\bT (xs.drop k) (ys.drop k)=r) (λi _=>n - (intOf i).toNat)
 case atStart=>exact⟨0,Nat.zero_le _,Nat.zero_le _,rfl,Gr.refl _,by rw [List.drop_zero,List.drop_zero];exact Hr.out.symm⟩
 case round=>
  obtain⟨k,hk,hk2,rfl,hb,hkey⟩:=hrel
  by_cases hlt:k<n
  ·by_cases hlt2:k<m
   ·obtain⟨b,o,rfl,h4⟩:=Hs.out.elem hb hlt
    obtain⟨b2,o2,rfl,h5⟩:=Hs2.out.elem hb hlt2
    obtain⟨x,hx⟩:∃ x,x=xs.getD k 0:=⟨_,rfl⟩
    obtain⟨y,hy⟩:∃ y,y=ys.getD k 0:=⟨_,rfl⟩
    have e4:wr.cell? ⟨b,o+k,none⟩=some (.int .i64 x):=by have h0:=h4 0 (by omega);rw [Nat.mul_one,Nat.add_zero] at h0;rw [h0,hx];rfl
    have e5:wr.cell? ⟨b2,o2+k,none⟩=some (.int .i64 y):=by have h0:=h5 0 (by omega);rw [Nat.mul_one,Nat.add_zero] at h0;rw [h0,hy];rfl
    have hstep:=sW (xs:=xs) (ys:=ys) (k:=k) (by rw [<-Hn.out];exact hlt) (by rw [<-Hm.out];exact hlt2)
    rw [<-hx,<-hy,hkey] at hstep
    have l1:(k:Int)<n:=by omega
    have l2:(k:Int)<m:=by omega
    have Hb:=Lib.hid hb
    by_cases hxy:x=y
    ·rw [if_pos hxy] at hstep
     subst hxy
     have Hst:=Lib.hid hstep
     clear h4 h5 hb hx hy hstep hkey
     go_wp2_with fail
     go_quiet (fail)
     go_wp2
     go_roundw
     case rel=>exact⟨k+1,by omega,by omega,by go_num,below_drewN Hb.out nq,Hst.out.symm⟩
     case measure=>simp [intOf]<;>omega
    ·rw [if_neg hxy] at hstep
     subst hstep
     clear h4 h5 hb hx hy hkey
     go_wp2_with fail
     go_quiet (fail)
     revert nq;intro n1
     go_wp2_with fail
     go_quiet (fail)
     go_wp2
     go_ret
     first
     | exact⟨rfl,below_drewN Hb.out _⟩
     | exact⟨rfl,below_drewN (below_drewN Hb.out _) _⟩
   ·have hstep:=nM (xs:=xs) (ys:=ys) (k:=k) (by rw [<-Hn.out];exact hk) (by rw [<-Hm.out];exact hk2) (by rw [<-Hn.out,<-Hm.out];omega)
    rw [hkey,<-Hn.out,<-Hm.out] at hstep
    have hr1:r=false:=by rw [hstep];apply decide_eq_false;omega
    subst hr1
    have l1:(k:Int)<n:=by omega
    have l2:¬ (k:Int)<m:=by omega
    have l3:¬ (n:Int)<m:=by omega
    have Hb:=Lib.hid hb
    clear hb hstep hkey
    go_wp2
    go_ret
    exact⟨rfl,Hb.out⟩
  ·have hstep:=nM (xs:=xs) (ys:=ys) (k:=k) (by rw [<-Hn.out];exact hk) (by rw [<-Hm.out];exact hk2) (by rw [<-Hn.out,<-Hm.out];omega)
   rw [hkey,<-Hn.out,<-Hm.out] at hstep
   have l1:¬ (k:Int)<n:=by omega
   have Hb:=Lib.hid hb
   by_cases l3:(n:Int)<m
   ·have hr1:r=true:=by rw [hstep];apply decide_eq_true;omega
    subst hr1
    clear hb hstep hkey
    go_wp2
    go_ret
    exact⟨rfl,Hb.out⟩
   ·have hr1:r=false:=by rw [hstep];apply decide_eq_false;omega
    subst hr1
    clear hb hstep hkey
    go_wp2
    go_ret
    exact⟨rfl,Hb.out⟩
end
section
open Go.RowKit
inductive TaS where
 | count (seen:Bool) (v:Nat)
 | read (at_ sum:Nat) (key:List Int)
def QV (ticks:List Int) (inv s:Nat):Int:=if 0<s/\s<=ticks.length then max (inv:Int) (ticks.getD (s - 1) 0) else (inv:Int)
def dM (wd:WD) (a:Nat):WD:={ wd with mem:=(dI wd.mem (a:Int)).1 }
def PK (wd:WD) (p v:Nat):WD:={ wd with mem:=iP wd.mem (p:Int) (v+1),traces:=vH wd.traces 0 (wd.traces 0++[(wd.now:Int)]) }
def dP (wd:WD) (a:Nat):Nat:=(dI wd.mem (a:Int)).2
def UV (wd:WD) (p s:Nat):List Int:=[2*QV (wd.traces 0) (wd.inv.getD p 0) s,2*(wd.now:Int)]
def KI (n:Nat):Sys where
 σ:=TaS
 ω:=Unit
 start:=λ_ _ _ c=>if c.kind=0 then .run (.count false 0) else if c.kind=1 then .run (.read 0 0 []) else .refuse 9
 step:=λ_ wd p s=>match s with
  | .count false _=>((),dM wd p,.count true (dP wd p),false)
  | .count true v=>((),PK wd p v,.count true v,true)
  | .read a s k=>if a+1<n then ((),dM wd a,.read (a+1) (s+dP wd a) k,false) else ((),dM wd a,.read (a+1) (s+dP wd a) (UV wd p (s+dP wd a)),true)
 answer:=λs=>match s with
  | .count _ _=>(⟨0,0,[]⟩,[])
  | .read _ s k=>(⟨0,s,[]⟩,k)
 late:=λ_ _ _ _=>none
def JC (w w':World) (Mut B:Nat->Prop) (I:eO) (N:Nat) (wd:WD) (b:Nat) (cells:Array Value) (T:TypeId) (done:Bool) (e:Ending):Prop:=
 e=.returned (.bool done)/\Chg (λk=>bC I k∨B k) w w'/\aT w' (fZ Mut B (λk=>k=b)) I N wd/\w'.heap[b]?=some (.cells cells T (0,0))
theorem JC.drewN {w w':World} {Mut B:Nat->Prop} {I:eO} {N:Nat} {wd:WD} {b:Nat} {cells:Array Value} {T:TypeId} {done:Bool} {e:Ending} (h:JC w w' Mut B I N wd b cells T done e) (n:Nat):JC w (w'.drewN n) Mut B I N wd b cells T done e:=
 ⟨h.1,h.2.1.drewN n,h.2.2.1.keep (S:=noB) ((Chg.refl _ _).drewN n) (λ_ h=>h.elim) (λ_ h=>h.elim) (bE.refl _ _) (λk hk=>h.2.2.1.low k hk) h.2.2.1.muts,h.2.2.2⟩
end
section
open Go.RowKit
theorem FR:(Try.prog.info? 3).map (λi=>(i.zero,i.size,i.bytes))=some (some (.int .i64 0),1,8):=by kernel_rfl
theorem GU (m:Nat) (v:Int) (hv:v=(m:Int)) (hm:m<=1000000) (u:World):(Instr.makeSlice 24 (.int .i64 v) (.int .i64 v)).run Try.prog u=.ok (.slice (some ⟨u.heap.size,0,none⟩) m m) (u.alloc (.cells (Array.replicate m (Value.int .i64 0)) 3)):=by
 subst hv
 obtain⟨i0,hi,hz0,hz1,hz2⟩:=info_parts FR
 have h:=run_make (P:=Try.prog) u 24 3 i0 (.int .i64 0) Try.underlying24 hi hz0 .i64 .i64 (m:Int) (m:Int) (by omega) (Int.le_refl _) (by rw [hz2];omega) (by omega)
 simpa [hz1,Value.cells,nZ] using h
end
section
open Go.RowKit
end
section
open Go.RowKit
end
section
open Go.RowKit
def cnt (P:EvD->Bool) (l:List EvD):Nat:=(l.map λe=>if P e then 1 else 0).sum
theorem DX (P:EvD->Bool):cnt P []=0:=rfl
theorem mK (P:EvD->Bool) (e:EvD) (l:List EvD):cnt P (e::l)=(if P e then 1 else 0)+cnt P l:=rfl
theorem tN (P:EvD->Bool) (l m:List EvD):cnt P (l++m)=cnt P l+cnt P m:=by unfold cnt;rw [List.map_append,List.sum_append]
theorem NU (P:EvD->Bool) (l:List EvD) (k:Nat) (e:EvD) (hk:k<l.length):cnt P (l.set k e)+(if P (aB l k) then 1 else 0)=cnt P l+(if P e then 1 else 0):=kE _ l k e hk
theorem cnt_mono {P Q:EvD->Bool}:∀ {l:List EvD},(∀ i,i<l.length->P (aB l i)=true->Q (aB l i)=true)->cnt P l<=cnt Q l
 | [],_=>Nat.le_refl _
 | e::l,h=>by
  rw [mK,mK]
  have h1:=cnt_mono (P:=P) (Q:=Q) (l:=l) (λi hi hp=>h (i+1) (by simp;omega) hp)
  have h2:=h 0 (by simp)
  have h3:aB (e::l) 0=e:=rfl
  rw [h3] at h2
  cases hp:P e with
  | true=>rw [h2 hp];simp;omega
  | false=>simp;omega
theorem EU {P Q:EvD->Bool} {l:List EvD} (h:∀ i,i<l.length->P (aB l i)=Q (aB l i)):cnt P l=cnt Q l:=
 Nat.le_antisymm (cnt_mono λi hi hp=>by rw [<-h i hi];exact hp) (cnt_mono λi hi hp=>by rw [h i hi];exact hp)
variable {S:Sys}
theorem From.cnt {calls:List aF} {st:aP S} {q i k:Nat} {s:S.σ} {aU:List EvD} {bQ:WD} (h:From calls st q i k s aU bQ) {P:EvD->Bool} (hP:∀ e,e.resp=0->P e=false) (e:EvD):cnt P (aU.set k e)=cnt P st.evs+(if P e then 1 else 0):=by
 have h1:=NU P aU k e h.len
 rw [hP _ h.open_] at h1
 have h2:Go.Proofs.Ytifhldnmcdbpfaa.cnt P aU=Go.Proofs.Ytifhldnmcdbpfaa.cnt P st.evs:=by
  cases h with
  | old k s hh hk hc hr=>rfl
  | new s hh hs=>rw [tN,mK,hP _ rfl,DX];simp
 rw [h2] at h1
 simpa using h1
end
section
open Go.RowKit
section
variable (w:World) (Mut:Nat->Prop) (I:eO) (N:Nat) (wd:WD) (b bc ba:Nat) (c:aF)
end
end
section
open Go.RowKit
end
section
open Go.RowKit
end
end Go.Proofs.Ytifhldnmcdbpfaa
