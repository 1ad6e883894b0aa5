/- Slices that are read, whatever memory they lie in. -/
import Derived.Test.YtifhldnmcdbpfaaRows
import Derived.WalkKit
import Derived.WalkSpells
import Derived.WalkLawsBesides
import Derived.Handy
import Derived.Lib.Hide
import Derived.Deep.QuietTactic
import Derived.BigQuiet
import Derived.ProofKit
import Derived.OpenShut
import Derived.Deep.Slices
import Derived.Maps.OwnOps
import Derived.Maps.Views
set_option maxRecDepth 100000
set_option linter.unusedVariables false
set_option linter.unusedSimpArgs false
set_option linter.unnecessarySimpa false
namespace Go.Proofs.Ytifhldnmcdbpfaa
section
open Go.RowKit
theorem zs {α : Type} : (∀ (l : List α) (i : Nat) (h : i < l.toArray.size), l.toArray[i]'h = l[i]'(by simpa using h)) ∧ (∀ (a : α) (l : List α) (h : 0 < (a :: l).length), (a :: l)[0]'h = a) ∧ (∀ (a : α) (l : List α) (i : Nat) (h : i + 1 < (a :: l).length), (a :: l)[i + 1]'h = l[i]'(by simpa using h)) ∧ (∀ (l : List α) (i : Nat) (a : α), l.toArray.setIfInBounds i a = (l.set i a).toArray) ∧ (∀ (x : α) (l : List α) (a : α), (x :: l).set 0 a = a :: l) ∧ (∀ (x : α) (l : List α) (i : Nat) (a : α), (x :: l).set (i + 1) a = x :: l.set i a) :=
  ⟨fun _ _ _ => rfl, fun _ _ _ => rfl, fun _ _ _ _ => rfl, fun _ _ _ => List.setIfInBounds_toArray .., fun _ _ _ => rfl, fun _ _ _ _ => rfl⟩
def bS (w:World) (a:Option Addr) (n k:Nat) (g:Nat->Nat->Value):Prop:=
 n<=maxLen/\∀ j,j<n->∃ b off,a=some ⟨b,off,none⟩/\b<w.heap.size/\∀ f,f<k->w.cell? ⟨b,off+(j*k+f),none⟩=some (g j f)
theorem bS.below {w w':World} {a:Option Addr} {n k:Nat} {g:Nat->Nat->Value} (h:bS w a n k g) {B:Nat} (hb:Below B w w') (hB:∀ b off,a=some ⟨b,off,none⟩->b<B):bS w' a n k g:=by
 refine⟨h.1,λj hj=>?_⟩
 obtain⟨b,off,ha,hs,hc⟩:=h.2 j hj
 exact⟨b,off,ha,Nat.lt_of_lt_of_le hs hb.size,λf hf=>by rw [hb.cell (hB b off ha)];exact hc f hf⟩
theorem bS.grown {w w':World} {a:Option Addr} {n k:Nat} {g:Nat->Nat->Value} (h:bS w a n k g) (hb:Below w.heap.size w w'):bS w' a n k g:=by
 refine⟨h.1,λj hj=>?_⟩
 obtain⟨b,off,ha,hs,hc⟩:=h.2 j hj
 exact⟨b,off,ha,Nat.lt_of_lt_of_le hs hb.size,λf hf=>by rw [hb.cell hs];exact hc f hf⟩
theorem bS.nil (w:World) (a:Option Addr) (k:Nat) (g:Nat->Nat->Value):bS w a 0 k g:=⟨Nat.zero_le _,λj hj=>absurd hj (Nat.not_lt_zero j)⟩
theorem dZ (w:World) (c:Array Value) (e:TypeId) (fz:Nat×Nat) (j:Nat):(w.alloc (.cells c e fz)).cell? ⟨w.heap.size,j,none⟩=c[j]?:=by
 have e1:(w.alloc (.cells c e fz)).heap[w.heap.size]?=some (.cells c e fz):=by
  show(w.heap.push _)[w.heap.size]?=_
  rw [Array.getElem?_push_size]
 simp only [World.cell?,e1]
 rfl
theorem Gr.trans {a b c:World} (h:Below a.heap.size a b) (k:Below b.heap.size b c):Below a.heap.size a c:=h.trans (k.mono h.size)
theorem Gr.refl (a:World):Below a.heap.size a a:=Below.refl _ _
theorem Gr.alloc {a b:World} (h:Below a.heap.size a b) (o:Obj):Below a.heap.size a (b.alloc o):=h.alloc h.size o
theorem Gr.new (a:World) (o:Obj):Below a.heap.size a (a.alloc o):=Gr.alloc (Gr.refl a) o
theorem oZ (g j:Nat):(⟨g,0,none⟩:Addr).add j=⟨g,j,none⟩:=by
 unfold Addr.add
 split<;>simp_all
theorem uI {w:World} {B:Nat} {v:Value} {e:TypeId} {n:Nat} {xs:List Value} {g:Nat->Nat->Value} (h:w.ownsRow B e 1 v n xs) (hm:n<=maxLen) (hg:∀ j,j<n->xs[j]?=some (g j 0)) :
  ∃ a c,v=.slice a n c/\bS w a n 1 g/\(∀ b off,a=some ⟨b,off,none⟩->B<=b):=by
 have hl:=h.lt
 have hcs:=h
 obtain⟨_,h2⟩:=h
 rcases h2 with⟨rfl,h0⟩|⟨q,cap,cur,rfl,hq,hh,_,_,_,_⟩
 ·exact⟨none,0,by rw [h0],by rw [h0];exact bS.nil _ _ _ _,λb off h=>by cases h⟩
 ·refine⟨_,cap,rfl,⟨hm,λj hj=>⟨q,0,rfl,(hl q rfl).2,λf hf=>?_⟩⟩,λb off h=>by cases h;exact hq⟩
  obtain rfl:f=0:=by omega
  have:=hcs.cells (g:=q) rfl j _ (hg j hj)
  rw [oZ] at this
  simpa using this
theorem AF {w:World} {B:Nat} {v:Value} {e:TypeId} {n k:Nat} {xs:List Value} {g:Nat->Nat->Value} (h:w.ownsRow B e k v n xs) (hm:n<=maxLen) (hg:∀ j,j<n->∀ f,f<k->xs[j*k+f]?=some (g j f)) :
  ∃ a c,v=.slice a n c/\bS w a n k g/\(∀ b off,a=some ⟨b,off,none⟩->B<=b):=by
 have hl:=h.lt
 have hcs:=h
 obtain⟨_,h2⟩:=h
 rcases h2 with⟨rfl,h0⟩|⟨q,cap,cur,rfl,hq,hh,_,_,_,_⟩
 ·exact⟨none,0,by rw [h0],by rw [h0];exact bS.nil _ _ _ _,λb off h=>by cases h⟩
 ·refine⟨_,cap,rfl,⟨hm,λj hj=>⟨q,0,rfl,(hl q rfl).2,λf hf=>?_⟩⟩,λb off h=>by cases h;exact hq⟩
  have:=hcs.cells (g:=q) rfl (j*k+f) _ (hg j hj f hf)
  rw [oZ] at this
  simpa using this
theorem below_drewN {B:Nat} {a w:World} (h:Below B a w) (n:Nat):Below B a (w.drewN n):=⟨h.os,h.tape,h.output,h.size,h.block⟩
theorem bS.elem {w:World} {a:Option Addr} {n k:Nat} {g:Nat->Nat->Value} (h:bS w a n k g) {w':World} (hb:Below w.heap.size w w') {j:Nat} (hj:j<n) :
  ∃ b off,a=some ⟨b,off,none⟩/\∀ f,f<k->w'.cell? ⟨b,off+(j*k+f),none⟩=some (g j f):=by
 obtain⟨b,off,ha,hs,hc⟩:=(h.grown hb).2 j hj
 exact⟨b,off,ha,hc⟩
end
section
open Go.ChangeShapes Go.WideShapes Go.ChangeAt Go.RowKit
theorem laidOut:laidOutB Try.prog=true:=by kernel_rfl
theorem own:ownKnob Try.prog.godebug=none:=by kernel_rfl
theorem mJ {H:Type} {enc:TypeId×Value->H} {W W':World} (hb:Below W.heap.size W W') :
  ∀(ts:List TypeId) (vs:List Value) (ds:List (DataW H)) (ps:List MemPlace),(∀ t∈ts,Try.prog.readableRec t=true/\t<Try.prog.types.size)->(∀ p∈ps,p.block<W.heap.size)->
   DataW.TrodAll enc Try.prog W 0 (λ_=>true) true ts vs ds ps->DataW.TrodAll enc Try.prog W' 0 (λb=>decide (b<W.heap.size)) true ts vs ds ps
 | [],[],[],_,_,_,h=>h
 | t::ts,v::vs,d::ds,ps,hr,hp,h=>by
  obtain⟨p,q,h1,h2,rfl⟩:=h
  exact⟨p,q,Below.trod laidOut (hr t (by simp)).1 (hr t (by simp)).2 h1 hb (λx hx=>hp x (by simp [hx])),mJ hb ts vs ds q (λt ht=>hr t (by simp [ht])) (λx hx=>hp x (by simp [hx])) h2,rfl⟩
 | [],[],_::_,_,_,_,h=>h.elim
 | [],_::_,_,_,_,_,h=>h.elim
 | _::_,[],_,_,_,_,h=>h.elim
 | _::_,_::_,[],_,_,_,h=>h.elim
theorem JW {H:Type} {enc:TypeId×Value->H} {f:Func} {s:ChangeSpec} {W W':World} {args:Array Value} {ds gs:List (DataW H)} {before:List MemPlace}
  (hvars:s.vars=[]) (hrt:f.resultTypes=#[4]) (hr:∀ t∈f.params.toList,Try.prog.readableRec t=true/\t<Try.prog.types.size)
  (hfn:(s.fn H (ds++gs)).results=[.lit (.bool true)]) (hfa:(s.fn H (ds++gs)).args=ds) (hfv:(s.fn H (ds++gs)).vars=[])
  (hW:DataW.Whole enc Try.prog f.params.toList s.vars false W args.toList ds gs before) (hb:Below W.heap.size W W') :
  s.post enc Try.prog f false true false false W args (.bool true) W':=by
 have hlt:=hW.lt
 have hW':=hW
 obtain⟨p,q,hA,hV,rfl,hfz,hnd⟩:=hW
 rw [hvars] at hV
 obtain⟨rfl,rfl⟩:=trodVars_none hV
 refine⟨ds,[],p++[],[],p,[],hW',?_,?_,?_,hb.frame _,λh=>by cases h⟩
 ·rw [hfn,hrt]
  exact trodAll_cons_mk (shut_bool Try.underlying4 _) trodAll_mk0
 ·rw [hfa]
  exact mJ hb _ _ _ _ hr (λx hx=>hlt x (by simp [hx])) hA
 ·rw [hfv,hvars];rfl
theorem mapM_each {α β:Type} {f:α->Option β}:∀ {l:List α} {r:List β},l.mapM f=some r->∀ x∈l,∃ y,f x=some y
 | [],_,_,x,hx=>by cases hx
 | a::l,r,h,x,hx=>by
  rw [List.mapM_cons] at h
  cases ha:f a with
  | none=>simp [ha] at h
  | some b=>
   cases hl:l.mapM f with
   | none=>simp [ha,hl] at h
   | some bs=>
    rcases List.mem_cons.1 hx with rfl|hx
    ·exact⟨b,ha⟩
    ·exact mapM_each hl x hx
theorem mapM_at {α β:Type} {f:α->Option β}:∀ {l:List α} {r:List β},l.mapM f=some r->∀(i:Nat) (hi:i<l.length),f l[i]=r[i]?
 | [],_,_,i,hi=>absurd hi (Nat.not_lt_zero i)
 | a::l,r,h,i,hi=>by
  rw [List.mapM_cons] at h
  cases ha:f a with
  | none=>simp [ha] at h
  | some b=>
   cases hl:l.mapM f with
   | none=>simp [ha,hl] at h
   | some bs=>
    simp [ha,hl] at h
    subst h
    cases i with
    | zero=>simpa using ha
    | succ i=>simpa using mapM_at hl i (by simpa using hi)
theorem fA {H:Type} {enc:TypeId×Value->H} {P:Program} {w:World} {base:Nat} {spare:Nat->Bool} {held:Bool} {fuel:Nat} {t:TypeId} {fs:Array Field} {cs:List Value} {x:DataW H×List MemPlace}
  (ht:P.underlying t=some (.struct fs)) (h:DataW.trod enc P w base spare held fuel t cs=some x) {f:Field} (hf:f∈fs.toList) {k:IntKind} (hk:P.underlying f.type=some (.int k)) (hc:P.cellsOf f.type=1) :
  ∃ n:Int,cs[f.offset]?=some (.int k n)/\(Lit.int k n).wf=true:=by
 cases fuel with
 | zero=>simp [DataW.trod] at h
 | succ m=>
  unfold DataW.trod at h
  simp only [ht] at h
  split at h
  ·rw [Option.map_eq_some_iff] at h
   obtain⟨xs,hxs,_⟩:=h
   obtain⟨y,hy⟩:=mapM_each hxs f hf
   rw [hc] at hy
   obtain⟨n,hn,_,hw⟩:=DataW.trod_int hk hy
   refine⟨n,?_,hw⟩
   have:((cs.drop f.offset).take 1)[0]?=some (.int k n):=by rw [hn];rfl
   simpa using this
  ·cases h
theorem qQ {H:Type} {enc:TypeId×Value->H} {P:Program} {w:World} {base:Nat} {spare:Nat->Bool} {held:Bool} {fuel:Nat} {t:TypeId} {fs:Array Field} {cs:List Value} {x:DataW H×List MemPlace}
  (ht:P.underlying t=some (.struct fs)) (h:DataW.trod enc P w base spare held fuel t cs=some x):cs.length=P.cellsOf t:=by
 cases fuel with
 | zero=>simp [DataW.trod] at h
 | succ m=>
  unfold DataW.trod at h
  simp only [ht] at h
  split at h
  ·assumption
  ·cases h
theorem kY (a:Addr) (n:Nat):(a.add n).block=a.block:=by unfold Addr.add;split<;>rfl
theorem LZ {W:World} {a:Addr} {v:Value} (h:W.cell? a=some v):a.block<W.heap.size:=by
 refine Nat.lt_of_not_le λhc=>?_
 have:W.heap[a.block]?=none:=by simp [hc]
 simp [World.cell?,this] at h
theorem JD {H:Type} {enc:TypeId×Value->H} {W:World} {base:Nat} {t e:TypeId} {v:Value} {d:DataW H} {ps:List MemPlace} (ht:Try.prog.underlying t=some (.slice e))
  (hv:Value.okWide Try.prog W .any base t v) (h:DataW.Trod enc Try.prog W 0 (λ_=>true) true t v d ps) (hlt:∀ p∈ps,p.block<W.heap.size) (hk:0<Try.prog.cellsOf e) {α:Type} (dflt:α) (R:α->List Value->Prop)
  (hR:∀ n cs x,DataW.trod enc Try.prog W 0 (λ_=>true) true n e cs=some x->∃ y,R y cs) (g:α->Nat->Value) (hg:∀ y cs,R y cs->cs.length=Try.prog.cellsOf e/\∀ f,f<Try.prog.cellsOf e->cs[f]?=some (g y f)) :
  ∃(a:Option Addr) (c:Nat) (l:List α),v=.slice a l.length c/\bS W a l.length (Try.prog.cellsOf e) (λj f=>g (l.getD j dflt) f)/\(∀ y∈l,∃ cs,R y cs)/\(a=none->c=0):=by
 obtain⟨fuel,hf⟩:=h
 obtain⟨a,len,cap,rfl⟩:=okWide_slice ht hv
 rcases Deep.open_slice ht hf with⟨hcs,_⟩|⟨a',len',cap',m,n,D,Pl,hcs,_,hl,hm,hm',hx,hel⟩
 ·simp [Value.cells] at hcs
  obtain⟨rfl,rfl,rfl⟩:=hcs
  exact⟨none,0,[],rfl,bS.nil _ _ _ _,(λy hy=>by cases hy),λ_=>rfl⟩
 ·simp [Value.cells] at hcs
  obtain⟨rfl,rfl,rfl⟩:=hcs
  have hm2:m=cap:=by simpa using hm'
  have each:∀ i,i<len->∃ y cs',R y cs'/\W.cells? 0 (a'.add (i*Try.prog.cellsOf e)) (Try.prog.cellsOf e)=some cs':=λi hi=>by
   obtain⟨cs',h1,h2⟩:=hel i (by omega)
   obtain⟨y,hy⟩:=hR _ _ _ h2
   exact⟨y,cs',hy,h1⟩
  have:∃ F:Nat->α,∀ i,i<len->∃ cs',R (F i) cs'/\W.cells? 0 (a'.add (i*Try.prog.cellsOf e)) (Try.prog.cellsOf e)=some cs':=by
   haveI:Inhabited α:=⟨dflt⟩
   exact Deep.choose_lt each
  obtain⟨F,hF⟩:=this
  have hlen:((List.range len).map F).length=len:=by simp
  refine⟨some a',cap,(List.range len).map F,by rw [hlen],⟨by rw [hlen];omega,λj hj=>?_⟩,(λy hy=>?_),λh=>by cases h⟩
  ·rw [hlen] at hj
   obtain⟨cs',h1,h2⟩:=hF j hj
   obtain⟨h3,h4⟩:=hg _ _ h1
   have h5:∀ f,f<Try.prog.cellsOf e->W.cell? ((a'.add (j*Try.prog.cellsOf e)).add f)=some (g (F j) f):=λf hf=>by
    unfold World.cells? at h2
    rw [if_pos (Nat.zero_le _)] at h2
    obtain⟨y,hy⟩:=mapM_each h2 f (List.mem_range.2 hf)
    rw [hy]
    have:=mapM_at h2 f (by simpa using hf)
    rw [List.getElem_range,hy,h4 f hf] at this
    exact this
   have hsp:a'.spot=none:=by
    have h6:=h5 0 hk
    rcases a' with⟨b,off,spot⟩
    cases spot with
    | none=>rfl
    | some s=>
     obtain⟨cs0,h10,h20⟩:=hF 0 (by omega)
     obtain⟨h30,h40⟩:=hg _ _ h10
     unfold World.cells? at h20
     rw [if_pos (Nat.zero_le _)] at h20
     obtain⟨y,hy⟩:=mapM_each h20 0 (List.mem_range.2 hk)
     simp only [Nat.zero_mul,Addr.add,if_pos,World.cell?] at hy
     split at hy<;>simp at hy
   obtain⟨b,off,spot⟩:=a'
   simp only at hsp
   subst hsp
   refine⟨b,off,rfl,?_,λf hf=>?_⟩
   ·have h6:=LZ (h5 0 hk)
    rw [kY,kY] at h6
    exact h6
   ·have h6:=h5 f hf
    have e1:((⟨b,off,none⟩:Addr).add (j*Try.prog.cellsOf e)).add f=⟨b,off+(j*Try.prog.cellsOf e+f),none⟩:=by
     rw [Deep.add_add];unfold Addr.add;split
     ·rename_i h0;rw [h0];rfl
     ·rfl
    rw [e1] at h6
    rw [h6]
    simp [List.getD_eq_getElem?_getD,hj]
  ·obtain⟨i,hi,rfl⟩:=List.mem_map.1 hy
   obtain⟨cs',h1,_⟩:=hF i (List.mem_range.1 hi)
   exact⟨cs',h1⟩
theorem BX {H:Type} {enc:TypeId×Value->H} {W:World} {base:Nat} {t e:TypeId} {v:Value} {d:DataW H} {ps:List MemPlace} (ht:Try.prog.underlying t=some (.slice e))
  (hv:Value.okWide Try.prog W .any base t v) (h:DataW.Trod enc Try.prog W 0 (λ_=>true) true t v d ps) (hlt:∀ p∈ps,p.block<W.heap.size) (hk:0<Try.prog.cellsOf e) {α:Type} (dflt:α) (R:α->List Value->Prop)
  (hR:∀ n cs x,DataW.trod enc Try.prog W 0 (λ_=>true) true n e cs=some x->∃ y,R y cs) (g:α->Nat->Value) (hg:∀ y cs,R y cs->cs.length=Try.prog.cellsOf e/\∀ f,f<Try.prog.cellsOf e->cs[f]?=some (g y f)) :
  ∃(a:Option Addr) (c:Nat) (l:List α),v=.slice a l.length c/\bS W a l.length (Try.prog.cellsOf e) (λj f=>g (l.getD j dflt) f)/\(∀ y∈l,∃ cs,R y cs):=by
 obtain⟨a,c,l,h1,h2,h3,_⟩:=JD ht hv h hlt hk dflt R hR g hg
 exact⟨a,c,l,h1,h2,h3⟩
theorem AO {x:Int} (h:(Lit.int .u64 x).wf=true):∃ n:Nat,x=(n:Int)/\n<18446744073709551616:=by
 have h2:0<=x/\x<=18446744073709551615:=by simpa [Lit.wf,IntKind.min,IntKind.max,IntKind.signed,IntKind.bits] using h
 exact⟨x.toNat,by omega,by omega⟩
def gQ (l:List Int) (j _f:Nat):Value:=.int .i64 (l.getD j 0)
theorem open_sl_ints {H:Type} {enc:TypeId×Value->H} {W:World} {base:Nat} {v:Value} {d:DataW H} {ps:List MemPlace}
  (hv:Value.okWide Try.prog W .any base 24 v) (h:DataW.Trod enc Try.prog W 0 (λ_=>true) true 24 v d ps) (hlt:∀ p∈ps,p.block<W.heap.size) :
  ∃(a:Option Addr) (c:Nat) (l:List Int),v=.slice a l.length c/\bS W a l.length 1 (gQ l)/\(∀ y∈l,(Lit.int .i64 y).wf=true):=by
 have hc:Try.prog.cellsOf 3=1:=by kernel_rfl
 obtain⟨a,c,l,h1,h2,h3⟩:=BX Try.underlying24 hv h hlt (by rw [hc];omega) (0:Int) (λy cs=>cs=[.int .i64 y]/\(Lit.int .i64 y).wf=true)
  (λn cs x hx=>by obtain⟨y,h1,_,h2⟩:=DataW.trod_int Try.underlying3 hx;exact⟨y,h1,h2⟩) (λy _=>.int .i64 y)
  (λy cs hy=>by obtain⟨rfl,_⟩:=hy;rw [hc];exact⟨rfl,λf hf=>by obtain rfl:f=0:=(by omega);rfl⟩)
 rw [hc] at h2
 exact⟨a,c,l,h1,h2,λy hy=>by obtain⟨cs,_,hw⟩:=h3 y hy;exact hw⟩
theorem qH {H:Type} {enc:TypeId×Value->H} {P:Program} {W:World} {base:Nat} {sp:Nat->Bool} {hd:Bool} :
  ∀(ts:List TypeId) (vs:List Value) (ds:List (DataW H)) (ps:List MemPlace),DataW.TrodAll enc P W base sp hd ts vs ds ps->ds.length=ts.length/\vs.length=ts.length
 | [],[],[],_,_=>⟨rfl,rfl⟩
 | _::ts,_::vs,_::ds,_,h=>by
  obtain⟨p,q,_,h2,_⟩:=h
  have:=qH ts vs ds q h2
  simp [this]
 | [],[],_::_,_,h=>h.elim
 | [],_::_,_,_,h=>h.elim
 | _::_,[],_,_,h=>h.elim
 | _::_,_::_,[],_,h=>h.elim
structure Handed {H:Type} (enc:TypeId×Value->H) (W:World) (ts:List TypeId) (args:Array Value) (ds:List (DataW H)) (ps:List MemPlace):Prop where
 ok:∀(j:Nat) t v,ts[j]?=some t->args[j]?=some v->∃ base,Value.okWide Try.prog W .any base t v
 trod:DataW.TrodAll enc Try.prog W 0 (λ_=>true) true ts args.toList ds ps
 lt:∀ p∈ps,p.block<W.heap.size
set_option maxRecDepth 100000 in
theorem lifted_of {k:FuncId} {fn:Func} {s:ChangeSpec} {conds:List PathCond} (hk:Try.prog.inits.idxOf? k=none) (hfn:Try.prog.funcs[k]?=some fn) (hvars:s.vars=[]) (hrt:fn.resultTypes=#[4])
  (hr:∀ t∈fn.params.toList,Try.prog.readableRec t=true/\t<Try.prog.types.size) (os:Os) (started:os.Started) (H:Type) (enc:TypeId×Value->H)
  (hspec:∀ ds:List (DataW H),ds.length=fn.params.toList.length->(s.fn H ds).results=[.lit (.bool true)]/\(s.fn H ds).args=ds/\(s.fn H ds).vars=[])
  (witness:∃(w:World) (tape:Tape) (i:Input),w.os=os/\(w.forCall tape i).Shaped Try.checked.prog/\i.vars=[]/\Input.okWide Try.checked.prog (w.forCall tape i) .any w.heap.size k i/\
   s.pre6 enc Try.checked.prog fn conds false (w.forCall tape i).memory i.args/\({}:Assume).holds Try.checked.prog (lone (Frame.enter Try.checked.prog k i.args .normal) [] (w.forCall tape i)))
  (contract:∀(W:World) (args:Array Value) (ds:List (DataW H)) (ps:List MemPlace),Handed enc W fn.params.toList args ds ps->Calls Try.prog k args W λe W'=>e=.returned (.bool true)/\Below W.heap.size W W') :
  ReturnsInHanded {} Try.checked os k .any (s.pre6 enc Try.prog fn conds false) (s.post enc Try.prog fn false true false false):=by
 refine returnsInHanded_of_change (C:=Try.checked) own started hk hfn witness ?_
 intro W base args ds gs before hval hW _ _
 have hW':=hW
 obtain⟨p,q,hA,hV,hpq,hfz,hnd⟩:=hW
 rw [hvars] at hV
 obtain⟨rfl,rfl⟩:=trodVars_none hV
 have hlen:=qH _ _ _ _ hA
 obtain⟨h1,h2,h3⟩:=hspec ds hlen.1
 have hH:Handed enc W fn.params.toList args ds p:=⟨λj t v h h'=>⟨base,hval j t v (by rw [<-Array.getElem?_toList];exact h) h'⟩,hA,λx hx=>hW'.lt x (by rw [hpq];simp [hx])⟩
 refine(contract W args ds p hH).mono ?_
 rintro e W' ⟨rfl,hb⟩
 exact⟨_,rfl,JW hvars hrt hr (by simpa using h1) (by simpa using h2) (by simpa using h3) hW' hb⟩
end
section
open Go.RowKit
def RV (v:Value):Option (DataW Value×List MemPlace):=some (.held v,[])
def upd (M:Int->Value) (k:Int) (v:Value):Int->Value:=λx=>if x=k then v else M x
theorem upd_same (M:Int->Value) (k:Int) (v:Value):upd M k v k=v:=by simp [upd]
theorem iG (M:Int->Value) {k x:Int} (v:Value) (h:x≠k):upd M k v x=M x:=by simp [upd,h]
def MapAt (w:World) (b n:Nat) (M:Int->Value):Prop:=
 ∃ D:DataW Value,w.ownsMap Try.prog 3 RV b n D/\Maps.IsMap D/\∀ key,D.atKey (.int .i64 key) (.held (.slice none 0 0))=.held (M key)
theorem yF:Maps.Keyed Try.prog 3:=Maps.int_keyed Try.underlying3
theorem IY {key:Int} (hw:(Lit.int .i64 key).wf=true):keyOf Try.prog 3 (.int .i64 key)=some (.int .i64 key):=Maps.keyOf_int_mk Try.underlying3 hw
theorem FV (w:World):(zeroValue 24).run Try.prog w=.ok (.slice none 0 0) w:=by kernel_rfl
theorem MapAt.made (w:World):MapAt (w.alloc (.map #[] 0)) w.heap.size 0 (λ_=>.slice none 0 0):=
 ⟨.map [],World.ownsMap_made _ _ _ _,Maps.isMap_empty,λ_=>rfl⟩
theorem MapAt.lt {w:World} {b n:Nat} {M:Int->Value} (h:MapAt w b n M):b<w.heap.size:=by obtain⟨D,h1,_⟩:=h;exact h1.lt
theorem MapAt.mono {w:World} {b n n':Nat} {M:Int->Value} (h:MapAt w b n M) (hn:n<=n'):MapAt w b n' M:=by obtain⟨D,h1,h2⟩:=h;exact⟨D,h1.mono hn,h2⟩
theorem MapAt.block {w w':World} {b n:Nat} {M:Int->Value} (h:MapAt w b n M) (hb:w'.heap[b]?=w.heap[b]?):MapAt w' b n M:=by
 obtain⟨D,⟨es,clock,h1,h3⟩,h2⟩:=h
 exact⟨D,⟨es,clock,hb.trans h1,h3⟩,h2⟩
theorem MapAt.look {w:World} {b n:Nat} {M:Int->Value} (h:MapAt w b n M) {key:Int} (hw:(Lit.int .i64 key).wf=true) :
  (Instr.lookup 111 (.map (some b)) (.int .i64 key) false).run Try.prog w=.ok (M key) w:=by
 obtain⟨D,h1,_,h2⟩:=h
 obtain⟨v,ps,hrun,hv⟩:=h1.lookup yF Try.underlying111 (FV w) (zd:=.held (.slice none 0 0)) (zp:=[]) rfl (IY hw)
 rw [h2] at hv
 simp only [RV,Option.some.injEq,Prod.mk.injEq,DataW.held.injEq] at hv
 rw [hrun,hv.1]
theorem IV {key:Int}:WideAt.IsKeyLit (.int .i64 key):=by trivial
theorem MapAt.put {w:World} {b n:Nat} {M:Int->Value} (h:MapAt w b n M) (hn:n<maxLen) {key:Int} (hw:(Lit.int .i64 key).wf=true) (val:Value) :
  ∃ w',(Instr.mapUpdate 111 (.map (some b)) (.int .i64 key) val).run Try.prog w=.ok () w'/\MapAt w' b (n+1) (upd M key val)/\w.grownBy w' (some b):=by
 obtain⟨D,h1,h3,h2⟩:=h
 obtain⟨w',hrun,h4,h5⟩:=h1.update yF Try.underlying111 hn (IY hw) (val:=val) (d:=.held val) (ps:=[]) rfl
 refine⟨w',hrun,⟨_,h4,h3.put _ _,λk=>?_⟩,h5⟩
 by_cases hk:k=key
 ·subst hk
  rw [Maps.atKey_put_same h3 IV,upd_same]
 ·rw [Maps.atKey_put_other (by simpa using hk),iG _ _ hk,h2]
theorem lX (w:World) {ops:Array Oper} {rest:List Oper} {o:Oper} {a:Act} {Q:Exit->Act->World->Prop}
  (hg:o.guard=none) (m x v:Operand) (hop:o.op=Op.mapUpdate 111 m x v) (b n:Nat) (M:Int->Value)
  (hm:a.eval m=.map (some b)) (hown:MapAt w b n M) (hn:n<maxLen) (key:Int) (val:Value) (hx:a.eval x=.int .i64 key) (hv:a.eval v=val) (hw:(Lit.int .i64 key).wf=true)
  (hK:∀ w',MapAt w' b (n+1) (upd M key val)->w.grownBy w' (some b)->wpList Try.prog ops Q rest (a.put o.dst undef) w') :
  wpList Try.prog ops Q (o::rest) a w:=by
 refine wpList_plain hg λK' hK'=>?_
 obtain⟨w',hrun,r1,r2⟩:=hown.put hn hw val
 unfold Oper.wp
 simp [execOp,hop,hm,hx,hv,hrun,Result.andThen]
 exact hK' _ _ (hK w' r1 r2)
end
end Go.Proofs.Ytifhldnmcdbpfaa
