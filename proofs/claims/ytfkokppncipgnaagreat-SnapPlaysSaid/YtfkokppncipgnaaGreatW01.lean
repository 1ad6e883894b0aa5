/- Slices that are read, whatever memory they lie in. -/
import Derived.Test.YtfkokppncipgnaaGreatRows
import Derived.WalkKit
import Derived.WalkSpells
import Derived.WalkLawsBesides
import Derived.Handy
import Derived.Lib.Hide
import Derived.Deep.QuietTactic
import Derived.BigQuiet
import Derived.ProofKit
import Derived.OpenShut
import Derived.Deep.Slices
import Derived.Deep.RegionHeld3
import Derived.Deep.AppendLies
import Derived.StillTailTactics
set_option maxRecDepth 100000
set_option linter.unusedVariables false
set_option linter.unusedSimpArgs false
set_option linter.unnecessarySimpa false
namespace Go.Proofs.YtfkokppncipgnaaGreat
section
open Go.RowKit
theorem zs {α : Type} : (∀ (l : List α) (i : Nat) (h : i < l.toArray.size), l.toArray[i]'h = l[i]'(by simpa using h)) ∧ (∀ (a : α) (l : List α) (h : 0 < (a :: l).length), (a :: l)[0]'h = a) ∧ (∀ (a : α) (l : List α) (i : Nat) (h : i + 1 < (a :: l).length), (a :: l)[i + 1]'h = l[i]'(by simpa using h)) ∧ (∀ (l : List α) (i : Nat) (a : α), l.toArray.setIfInBounds i a = (l.set i a).toArray) ∧ (∀ (x : α) (l : List α) (a : α), (x :: l).set 0 a = a :: l) ∧ (∀ (x : α) (l : List α) (i : Nat) (a : α), (x :: l).set (i + 1) a = x :: l.set i a) :=
  ⟨fun _ _ _ => rfl, fun _ _ _ => rfl, fun _ _ _ _ => rfl, fun _ _ _ => List.setIfInBounds_toArray .., fun _ _ _ => rfl, fun _ _ _ _ => rfl⟩
def cB (w:World) (a:Option Addr) (n k:Nat) (g:Nat->Nat->Value):Prop:=
 n<=maxLen/\∀ j,j<n->∃ b off,a=some ⟨b,off,none⟩/\b<w.heap.size/\∀ f,f<k->w.cell? ⟨b,off+(j*k+f),none⟩=some (g j f)
theorem cB.below {w w':World} {a:Option Addr} {n k:Nat} {g:Nat->Nat->Value} (h:cB w a n k g) {B:Nat} (hb:Below B w w') (hB:∀ b off,a=some ⟨b,off,none⟩->b<B):cB w' a n k g:=by
 refine⟨h.1,λj hj=>?_⟩
 obtain⟨b,off,ha,hs,hc⟩:=h.2 j hj
 exact⟨b,off,ha,Nat.lt_of_lt_of_le hs hb.size,λf hf=>by rw [hb.cell (hB b off ha)];exact hc f hf⟩
theorem cB.grown {w w':World} {a:Option Addr} {n k:Nat} {g:Nat->Nat->Value} (h:cB w a n k g) (hb:Below w.heap.size w w'):cB w' a n k g:=by
 refine⟨h.1,λj hj=>?_⟩
 obtain⟨b,off,ha,hs,hc⟩:=h.2 j hj
 exact⟨b,off,ha,Nat.lt_of_lt_of_le hs hb.size,λf hf=>by rw [hb.cell hs];exact hc f hf⟩
theorem cB.nil (w:World) (a:Option Addr) (k:Nat) (g:Nat->Nat->Value):cB w a 0 k g:=⟨Nat.zero_le _,λj hj=>absurd hj (Nat.not_lt_zero j)⟩
theorem iI (w:World) (c:Array Value) (e:TypeId) (fz:Nat×Nat) (j:Nat):(w.alloc (.cells c e fz)).cell? ⟨w.heap.size,j,none⟩=c[j]?:=by
 have e1:(w.alloc (.cells c e fz)).heap[w.heap.size]?=some (.cells c e fz):=by
  show(w.heap.push _)[w.heap.size]?=_
  rw [Array.getElem?_push_size]
 simp only [World.cell?,e1]
 rfl
theorem Gr.trans {a b c:World} (h:Below a.heap.size a b) (k:Below b.heap.size b c):Below a.heap.size a c:=h.trans (k.mono h.size)
theorem Gr.refl (a:World):Below a.heap.size a a:=Below.refl _ _
theorem Gr.alloc {a b:World} (h:Below a.heap.size a b) (o:Obj):Below a.heap.size a (b.alloc o):=h.alloc h.size o
theorem Gr.new (a:World) (o:Obj):Below a.heap.size a (a.alloc o):=Gr.alloc (Gr.refl a) o
theorem EO (g j:Nat):(⟨g,0,none⟩:Addr).add j=⟨g,j,none⟩:=by
 unfold Addr.add
 split<;>simp_all
theorem FM {w:World} {B:Nat} {v:Value} {e:TypeId} {n:Nat} {xs:List Value} {g:Nat->Nat->Value} (h:w.ownsRow B e 1 v n xs) (hm:n<=maxLen) (hg:∀ j,j<n->xs[j]?=some (g j 0)) :
  ∃ a c,v=.slice a n c/\cB w a n 1 g/\(∀ b off,a=some ⟨b,off,none⟩->B<=b):=by
 have hl:=h.lt
 have hcs:=h
 obtain⟨_,h2⟩:=h
 rcases h2 with⟨rfl,h0⟩|⟨q,cap,cur,rfl,hq,hh,_,_,_,_⟩
 ·exact⟨none,0,by rw [h0],by rw [h0];exact cB.nil _ _ _ _,λb off h=>by cases h⟩
 ·refine⟨_,cap,rfl,⟨hm,λj hj=>⟨q,0,rfl,(hl q rfl).2,λf hf=>?_⟩⟩,λb off h=>by cases h;exact hq⟩
  obtain rfl:f=0:=by omega
  have:=hcs.cells (g:=q) rfl j _ (hg j hj)
  rw [EO] at this
  simpa using this
theorem below_drewN {B:Nat} {a w:World} (h:Below B a w) (n:Nat):Below B a (w.drewN n):=⟨h.os,h.tape,h.output,h.size,h.block⟩
theorem cB.elem {w:World} {a:Option Addr} {n k:Nat} {g:Nat->Nat->Value} (h:cB w a n k g) {w':World} (hb:Below w.heap.size w w') {j:Nat} (hj:j<n) :
  ∃ b off,a=some ⟨b,off,none⟩/\∀ f,f<k->w'.cell? ⟨b,off+(j*k+f),none⟩=some (g j f):=by
 obtain⟨b,off,ha,hs,hc⟩:=(h.grown hb).2 j hj
 exact⟨b,off,ha,hc⟩
end
section
open Go.ChangeShapes Go.WideShapes Go.ChangeAt Go.RowKit
theorem laidOut:laidOutB Tryz.prog=true:=by kernel_rfl
theorem own:ownKnob Tryz.prog.godebug=none:=by kernel_rfl
theorem AV {H:Type} {enc:TypeId×Value->H} {W W':World} (hb:Below W.heap.size W W') :
  ∀(ts:List TypeId) (vs:List Value) (ds:List (DataW H)) (ps:List MemPlace),(∀ t∈ts,Tryz.prog.readableRec t=true/\t<Tryz.prog.types.size)->(∀ p∈ps,p.block<W.heap.size)->
   DataW.TrodAll enc Tryz.prog W 0 (λ_=>true) true ts vs ds ps->DataW.TrodAll enc Tryz.prog W' 0 (λb=>decide (b<W.heap.size)) true ts vs ds ps
 | [],[],[],_,_,_,h=>h
 | t::ts,v::vs,d::ds,ps,hr,hp,h=>by
  obtain⟨p,q,h1,h2,rfl⟩:=h
  exact⟨p,q,Below.trod laidOut (hr t (by simp)).1 (hr t (by simp)).2 h1 hb (λx hx=>hp x (by simp [hx])),AV hb ts vs ds q (λt ht=>hr t (by simp [ht])) (λx hx=>hp x (by simp [hx])) h2,rfl⟩
 | [],[],_::_,_,_,_,h=>h.elim
 | [],_::_,_,_,_,_,h=>h.elim
 | _::_,[],_,_,_,_,h=>h.elim
 | _::_,_::_,[],_,_,_,h=>h.elim
theorem Kr {H:Type} {enc:TypeId×Value->H} {f:Func} {s:ChangeSpec} {W W':World} {args:Array Value} {ds gs:List (DataW H)} {before:List MemPlace}
  (hvars:s.vars=[]) (hrt:f.resultTypes=#[4]) (hr:∀ t∈f.params.toList,Tryz.prog.readableRec t=true/\t<Tryz.prog.types.size)
  (hfn:(s.fn H (ds++gs)).results=[.lit (.bool true)]) (hfa:(s.fn H (ds++gs)).args=ds) (hfv:(s.fn H (ds++gs)).vars=[])
  (hW:DataW.Whole enc Tryz.prog f.params.toList s.vars false W args.toList ds gs before) (hb:Below W.heap.size W W') :
  s.post enc Tryz.prog f false true false false W args (.bool true) W':=by
 have hlt:=hW.lt
 have hW':=hW
 obtain⟨p,q,hA,hV,rfl,hfz,hnd⟩:=hW
 rw [hvars] at hV
 obtain⟨rfl,rfl⟩:=trodVars_none hV
 refine⟨ds,[],p++[],[],p,[],hW',?_,?_,?_,hb.frame _,λh=>by cases h⟩
 ·rw [hfn,hrt]
  exact trodAll_cons_mk (shut_bool Tryz.underlying4 _) trodAll_mk0
 ·rw [hfa]
  exact AV hb _ _ _ _ hr (λx hx=>hlt x (by simp [hx])) hA
 ·rw [hfv,hvars];rfl
theorem mapM_each {α β:Type} {f:α->Option β}:∀ {l:List α} {r:List β},l.mapM f=some r->∀ x∈l,∃ y,f x=some y
 | [],_,_,x,hx=>by cases hx
 | a::l,r,h,x,hx=>by
  rw [List.mapM_cons] at h
  cases ha:f a with
  | none=>simp [ha] at h
  | some b=>
   cases hl:l.mapM f with
   | none=>simp [ha,hl] at h
   | some bs=>
    rcases List.mem_cons.1 hx with rfl|hx
    ·exact⟨b,ha⟩
    ·exact mapM_each hl x hx
theorem mapM_at {α β:Type} {f:α->Option β}:∀ {l:List α} {r:List β},l.mapM f=some r->∀(i:Nat) (hi:i<l.length),f l[i]=r[i]?
 | [],_,_,i,hi=>absurd hi (Nat.not_lt_zero i)
 | a::l,r,h,i,hi=>by
  rw [List.mapM_cons] at h
  cases ha:f a with
  | none=>simp [ha] at h
  | some b=>
   cases hl:l.mapM f with
   | none=>simp [ha,hl] at h
   | some bs=>
    simp [ha,hl] at h
    subst h
    cases i with
    | zero=>simpa using ha
    | succ i=>simpa using mapM_at hl i (by simpa using hi)
theorem iF {H:Type} {enc:TypeId×Value->H} {P:Program} {w:World} {base:Nat} {spare:Nat->Bool} {held:Bool} {fuel:Nat} {t:TypeId} {fs:Array Field} {cs:List Value} {x:DataW H×List MemPlace}
  (ht:P.underlying t=some (.struct fs)) (h:DataW.trod enc P w base spare held fuel t cs=some x) {f:Field} (hf:f∈fs.toList) {k:IntKind} (hk:P.underlying f.type=some (.int k)) (hc:P.cellsOf f.type=1) :
  ∃ n:Int,cs[f.offset]?=some (.int k n)/\(Lit.int k n).wf=true:=by
 cases fuel with
 | zero=>simp [DataW.trod] at h
 | succ m=>
  unfold DataW.trod at h
  simp only [ht] at h
  split at h
  ·rw [Option.map_eq_some_iff] at h
   obtain⟨xs,hxs,_⟩:=h
   obtain⟨y,hy⟩:=mapM_each hxs f hf
   rw [hc] at hy
   obtain⟨n,hn,_,hw⟩:=DataW.trod_int hk hy
   refine⟨n,?_,hw⟩
   have:((cs.drop f.offset).take 1)[0]?=some (.int k n):=by rw [hn];rfl
   simpa using this
  ·cases h
theorem KM {H:Type} {enc:TypeId×Value->H} {P:Program} {w:World} {base:Nat} {spare:Nat->Bool} {held:Bool} {fuel:Nat} {t:TypeId} {fs:Array Field} {cs:List Value} {x:DataW H×List MemPlace}
  (ht:P.underlying t=some (.struct fs)) (h:DataW.trod enc P w base spare held fuel t cs=some x):cs.length=P.cellsOf t:=by
 cases fuel with
 | zero=>simp [DataW.trod] at h
 | succ m=>
  unfold DataW.trod at h
  simp only [ht] at h
  split at h
  ·assumption
  ·cases h
theorem zC (a:Addr) (n:Nat):(a.add n).block=a.block:=by unfold Addr.add;split<;>rfl
theorem Nn {W:World} {a:Addr} {v:Value} (h:W.cell? a=some v):a.block<W.heap.size:=by
 refine Nat.lt_of_not_le λhc=>?_
 have:W.heap[a.block]?=none:=by simp [hc]
 simp [World.cell?,this] at h
theorem Ez {H:Type} {enc:TypeId×Value->H} {W:World} {base:Nat} {t e:TypeId} {v:Value} {d:DataW H} {ps:List MemPlace} (ht:Tryz.prog.underlying t=some (.slice e))
  (hv:Value.okWide Tryz.prog W .any base t v) (h:DataW.Trod enc Tryz.prog W 0 (λ_=>true) true t v d ps) (hlt:∀ p∈ps,p.block<W.heap.size) (hk:0<Tryz.prog.cellsOf e) {α:Type} (dflt:α) (R:α->List Value->Prop)
  (hR:∀ n cs x,DataW.trod enc Tryz.prog W 0 (λ_=>true) true n e cs=some x->∃ y,R y cs) (g:α->Nat->Value) (hg:∀ y cs,R y cs->cs.length=Tryz.prog.cellsOf e/\∀ f,f<Tryz.prog.cellsOf e->cs[f]?=some (g y f)) :
  ∃(a:Option Addr) (c:Nat) (l:List α),v=.slice a l.length c/\cB W a l.length (Tryz.prog.cellsOf e) (λj f=>g (l.getD j dflt) f)/\(∀ y∈l,∃ cs,R y cs)/\(a=none->c=0):=by
 obtain⟨fuel,hf⟩:=h
 obtain⟨a,len,cap,rfl⟩:=okWide_slice ht hv
 rcases Deep.open_slice ht hf with⟨hcs,_⟩|⟨a',len',cap',m,n,D,Pl,hcs,_,hl,hm,hm',hx,hel⟩
 ·simp [Value.cells] at hcs
  obtain⟨rfl,rfl,rfl⟩:=hcs
  exact⟨none,0,[],rfl,cB.nil _ _ _ _,(λy hy=>by cases hy),λ_=>rfl⟩
 ·simp [Value.cells] at hcs
  obtain⟨rfl,rfl,rfl⟩:=hcs
  have hm2:m=cap:=by simpa using hm'
  have each:∀ i,i<len->∃ y cs',R y cs'/\W.cells? 0 (a'.add (i*Tryz.prog.cellsOf e)) (Tryz.prog.cellsOf e)=some cs':=λi hi=>by
   obtain⟨cs',h1,h2⟩:=hel i (by omega)
   obtain⟨y,hy⟩:=hR _ _ _ h2
   exact⟨y,cs',hy,h1⟩
  have:∃ F:Nat->α,∀ i,i<len->∃ cs',R (F i) cs'/\W.cells? 0 (a'.add (i*Tryz.prog.cellsOf e)) (Tryz.prog.cellsOf e)=some cs':=by
   haveI:Inhabited α:=⟨dflt⟩
   exact Deep.choose_lt each
  obtain⟨F,hF⟩:=this
  have hlen:((List.range len).map F).length=len:=by simp
  refine⟨some a',cap,(List.range len).map F,by rw [hlen],⟨by rw [hlen];omega,λj hj=>?_⟩,(λy hy=>?_),λh=>by cases h⟩
  ·rw [hlen] at hj
   obtain⟨cs',h1,h2⟩:=hF j hj
   obtain⟨h3,h4⟩:=hg _ _ h1
   have h5:∀ f,f<Tryz.prog.cellsOf e->W.cell? ((a'.add (j*Tryz.prog.cellsOf e)).add f)=some (g (F j) f):=λf hf=>by
    unfold World.cells? at h2
    rw [if_pos (Nat.zero_le _)] at h2
    obtain⟨y,hy⟩:=mapM_each h2 f (List.mem_range.2 hf)
    rw [hy]
    have:=mapM_at h2 f (by simpa using hf)
    rw [List.getElem_range,hy,h4 f hf] at this
    exact this
   have hsp:a'.spot=none:=by
    have h6:=h5 0 hk
    rcases a' with⟨b,off,spot⟩
    cases spot with
    | none=>rfl
    | some s=>
     obtain⟨cs0,h10,h20⟩:=hF 0 (by omega)
     obtain⟨h30,h40⟩:=hg _ _ h10
     unfold World.cells? at h20
     rw [if_pos (Nat.zero_le _)] at h20
     obtain⟨y,hy⟩:=mapM_each h20 0 (List.mem_range.2 hk)
     simp only [Nat.zero_mul,Addr.add,if_pos,World.cell?] at hy
     split at hy<;>simp at hy
   obtain⟨b,off,spot⟩:=a'
   simp only at hsp
   subst hsp
   refine⟨b,off,rfl,?_,λf hf=>?_⟩
   ·have h6:=Nn (h5 0 hk)
    rw [zC,zC] at h6
    exact h6
   ·have h6:=h5 f hf
    have e1:((⟨b,off,none⟩:Addr).add (j*Tryz.prog.cellsOf e)).add f=⟨b,off+(j*Tryz.prog.cellsOf e+f),none⟩:=by
     rw [Deep.add_add];unfold Addr.add;split
     ·rename_i h0;rw [h0];rfl
     ·rfl
    rw [e1] at h6
    rw [h6]
    simp [List.getD_eq_getElem?_getD,hj]
  ·obtain⟨i,hi,rfl⟩:=List.mem_map.1 hy
   obtain⟨cs',h1,_⟩:=hF i (List.mem_range.1 hi)
   exact⟨cs',h1⟩
theorem Ai {H:Type} {enc:TypeId×Value->H} {W:World} {base:Nat} {t e:TypeId} {v:Value} {d:DataW H} {ps:List MemPlace} (ht:Tryz.prog.underlying t=some (.slice e))
  (hv:Value.okWide Tryz.prog W .any base t v) (h:DataW.Trod enc Tryz.prog W 0 (λ_=>true) true t v d ps) (hlt:∀ p∈ps,p.block<W.heap.size) (hk:0<Tryz.prog.cellsOf e) {α:Type} (dflt:α) (R:α->List Value->Prop)
  (hR:∀ n cs x,DataW.trod enc Tryz.prog W 0 (λ_=>true) true n e cs=some x->∃ y,R y cs) (g:α->Nat->Value) (hg:∀ y cs,R y cs->cs.length=Tryz.prog.cellsOf e/\∀ f,f<Tryz.prog.cellsOf e->cs[f]?=some (g y f)) :
  ∃(a:Option Addr) (c:Nat) (l:List α),v=.slice a l.length c/\cB W a l.length (Tryz.prog.cellsOf e) (λj f=>g (l.getD j dflt) f)/\(∀ y∈l,∃ cs,R y cs):=by
 obtain⟨a,c,l,h1,h2,h3,_⟩:=Ez ht hv h hlt hk dflt R hR g hg
 exact⟨a,c,l,h1,h2,h3⟩
theorem XD {x:Int} (h:(Lit.int .u64 x).wf=true):∃ n:Nat,x=(n:Int)/\n<18446744073709551616:=by
 have h2:0<=x/\x<=18446744073709551615:=by simpa [Lit.wf,IntKind.min,IntKind.max,IntKind.signed,IntKind.bits] using h
 exact⟨x.toNat,by omega,by omega⟩
def kJ (l:List Int) (j _f:Nat):Value:=.int .i64 (l.getD j 0)
theorem open_sl_ints {H:Type} {enc:TypeId×Value->H} {W:World} {base:Nat} {v:Value} {d:DataW H} {ps:List MemPlace}
  (hv:Value.okWide Tryz.prog W .any base 24 v) (h:DataW.Trod enc Tryz.prog W 0 (λ_=>true) true 24 v d ps) (hlt:∀ p∈ps,p.block<W.heap.size) :
  ∃(a:Option Addr) (c:Nat) (l:List Int),v=.slice a l.length c/\cB W a l.length 1 (kJ l)/\(∀ y∈l,(Lit.int .i64 y).wf=true):=by
 have hc:Tryz.prog.cellsOf 3=1:=by kernel_rfl
 obtain⟨a,c,l,h1,h2,h3⟩:=Ai Tryz.underlying24 hv h hlt (by rw [hc];omega) (0:Int) (λy cs=>cs=[.int .i64 y]/\(Lit.int .i64 y).wf=true)
  (λn cs x hx=>by obtain⟨y,h1,_,h2⟩:=DataW.trod_int Tryz.underlying3 hx;exact⟨y,h1,h2⟩) (λy _=>.int .i64 y)
  (λy cs hy=>by obtain⟨rfl,_⟩:=hy;rw [hc];exact⟨rfl,λf hf=>by obtain rfl:f=0:=(by omega);rfl⟩)
 rw [hc] at h2
 exact⟨a,c,l,h1,h2,λy hy=>by obtain⟨cs,_,hw⟩:=h3 y hy;exact hw⟩
theorem II {H:Type} {enc:TypeId×Value->H} {P:Program} {W:World} {base:Nat} {sp:Nat->Bool} {hd:Bool} :
  ∀(ts:List TypeId) (vs:List Value) (ds:List (DataW H)) (ps:List MemPlace),DataW.TrodAll enc P W base sp hd ts vs ds ps->ds.length=ts.length/\vs.length=ts.length
 | [],[],[],_,_=>⟨rfl,rfl⟩
 | _::ts,_::vs,_::ds,_,h=>by
  obtain⟨p,q,_,h2,_⟩:=h
  have:=II ts vs ds q h2
  simp [this]
 | [],[],_::_,_,h=>h.elim
 | [],_::_,_,_,h=>h.elim
 | _::_,[],_,_,h=>h.elim
 | _::_,_::_,[],_,h=>h.elim
structure Handed {H:Type} (enc:TypeId×Value->H) (W:World) (ts:List TypeId) (args:Array Value) (ds:List (DataW H)) (ps:List MemPlace):Prop where
 ok:∀(j:Nat) t v,ts[j]?=some t->args[j]?=some v->∃ base,Value.okWide Tryz.prog W .any base t v
 trod:DataW.TrodAll enc Tryz.prog W 0 (λ_=>true) true ts args.toList ds ps
 lt:∀ p∈ps,p.block<W.heap.size
set_option maxRecDepth 100000 in
theorem lifted_of {k:FuncId} {fn:Func} {s:ChangeSpec} {conds:List PathCond} (hk:Tryz.prog.inits.idxOf? k=none) (hfn:Tryz.prog.funcs[k]?=some fn) (hvars:s.vars=[]) (hrt:fn.resultTypes=#[4])
  (hr:∀ t∈fn.params.toList,Tryz.prog.readableRec t=true/\t<Tryz.prog.types.size) (os:Os) (started:os.Started) (H:Type) (enc:TypeId×Value->H)
  (hspec:∀ ds:List (DataW H),ds.length=fn.params.toList.length->(s.fn H ds).results=[.lit (.bool true)]/\(s.fn H ds).args=ds/\(s.fn H ds).vars=[])
  (witness:∃(w:World) (tape:Tape) (i:Input),w.os=os/\(w.forCall tape i).Shaped Tryz.checked.prog/\i.vars=[]/\Input.okWide Tryz.checked.prog (w.forCall tape i) .any w.heap.size k i/\
   s.pre6 enc Tryz.checked.prog fn conds false (w.forCall tape i).memory i.args/\({}:Assume).holds Tryz.checked.prog (lone (Frame.enter Tryz.checked.prog k i.args .normal) [] (w.forCall tape i)))
  (contract:∀(W:World) (args:Array Value) (ds:List (DataW H)) (ps:List MemPlace),Handed enc W fn.params.toList args ds ps->Calls Tryz.prog k args W λe W'=>e=.returned (.bool true)/\Below W.heap.size W W') :
  ReturnsInHanded {} Tryz.checked os k .any (s.pre6 enc Tryz.prog fn conds false) (s.post enc Tryz.prog fn false true false false):=by
 refine returnsInHanded_of_change (C:=Tryz.checked) own started hk hfn witness ?_
 intro W base args ds gs before hval hW _ _
 have hW':=hW
 obtain⟨p,q,hA,hV,hpq,hfz,hnd⟩:=hW
 rw [hvars] at hV
 obtain⟨rfl,rfl⟩:=trodVars_none hV
 have hlen:=II _ _ _ _ hA
 obtain⟨h1,h2,h3⟩:=hspec ds hlen.1
 have hH:Handed enc W fn.params.toList args ds p:=⟨λj t v h h'=>⟨base,hval j t v (by rw [<-Array.getElem?_toList];exact h) h'⟩,hA,λx hx=>hW'.lt x (by rw [hpq];simp [hx])⟩
 refine(contract W args ds p hH).mono ?_
 rintro e W' ⟨rfl,hb⟩
 exact⟨_,rfl,Kr hvars hrt hr (by simpa using h1) (by simpa using h2) (by simpa using h3) hW' hb⟩
end
section
open Go.RowKit
section
variable {P:Program} {md:Region.Mode} {ops:Array Oper} {Q:Exit->Act->World->Prop} {S:World->Prop} {L:Nat}
def iV (md:Region.Mode) (ops:Array Oper) (listed:Array Bool):Prop:=
 ∀(j:Nat) (o:Oper),ops[j]?=some o->listed.getD j false=true->∀ e∈o.after,Region.binds md e=true->listed.getD e.on false=true
def wJ (md:Region.Mode) (ops:Array Oper) (i:Nat):Nat->Nat->Bool
 | 0,j=>j == i
 | f+1,j=>j == i || (match ops[j]? with|some o=>o.after.any λe=>Region.binds md e && wJ md ops i f e.on|none=>false)
theorem JF {i:Nat} {listed:Array Bool} (hc:iV md ops listed):∀(f j:Nat),wJ md ops i f j=true->j<ops.size->listed.getD j false=true->listed.getD i false=true
 | 0,j,h,_,hj=>by simp only [wJ,beq_iff_eq] at h;subst h;exact hj
 | f+1,j,h,hlt,hj=>by
  simp only [wJ,Bool.or_eq_true,beq_iff_eq] at h
  rcases h with rfl|h
  ·exact hj
  ·have ho:ops[j]?=some ops[j]:=by simp [hlt]
   rw [ho] at h
   simp only at h
   obtain⟨e,he,h2⟩:=Array.any_eq_true'.1 h
   simp only [Bool.and_eq_true] at h2
   have h3:=hc j _ ho hj e he h2.1
   by_cases hlt':e.on<ops.size
   ·exact JF hc f e.on h2.2 hlt' h3
   ·cases f with
    | zero=>have:=h2.2;simp only [wJ,beq_iff_eq] at this;rw [this] at h3;exact h3
    | succ f=>
     have h4:=h2.2
     simp only [wJ,Bool.or_eq_true,beq_iff_eq] at h4
     rcases h4 with h4|h4
     ·rw [h4] at h3;exact h3
     ·rw [show ops[e.on]?=none by simp;omega] at h4;cases h4
theorem iV.set {listed:Array Bool} (hc:iV md ops listed) {i:Nat} (hi:i∈Region.ready md ops listed):iV md ops (listed.setIfInBounds i true):=by
 intro j o ho hj e he hb
 obtain⟨_,o',ho',hall⟩:=mem_ready.1 hi
 by_cases hji:i=j
 ·subst hji
  rw [ho] at ho'
  cases ho'
  exact getD_set_true (hall e he hb)
 ·rw [getD_set_ne false hji] at hj
  exact getD_set_true (hc j o ho hj e he hb)
def wpAnyL (P:Program) (md:Region.Mode) (ops:Array Oper) (Q:Exit->Act->World->Prop) (S:World->Prop) (L:Nat):Nat->Array Bool->Act->World->Prop
 | 0,listed,a,w=>Region.ready md ops listed=[]/\Q .normal a w
 | fuel+1,listed,a,w=>
  (Region.ready md ops listed=[]->Q .normal a w)/\
  ∀ i∈Region.ready md ops listed,wpOp P ops Q i (λa' w'=>((listed.setIfInBounds i true).getD L true=false->S w')/\wpAnyL P md ops Q S L fuel (listed.setIfInBounds i true) a' w') a w
theorem MI:∀(fuel:Nat) (listed:Array Bool) (a:Act) (w:World),wpAnyL P md ops Q S L fuel listed a w->wpAny P md ops Q fuel listed a w
 | 0,_,_,_,h=>h
 | fuel+1,_,_,_,h=>⟨h.1,λi hi=>wpOp_mono (λa' w' h'=>MI fuel _ a' w' h'.2) (h.2 i hi)⟩
theorem VC {listed:Array Bool} {i:Nat} (h:listed.getD i true=false):listed.getD i false=false:=by
 rcases Nat.lt_or_ge i listed.size with h'|h'
 ·simp [h'] at h ⊢;exact h
 ·simp [Array.getElem?_eq_none h'] at h
theorem wpAnyL_first {i:Nat} {oi:Oper} {v:Value} (hi:ops[i]?=some oi) (hsel:∀(j:Nat) (o:Oper) cs b,ops[j]?=some o->o.op≠.select cs b)
  (hQ:∀ c a w,Q (.panic c) (a.put oi.dst v) w->Q (.panic c) a w) {F:Nat} (hneed:wJ md ops i F L=true) (hL:L<ops.size) (hiL:i≠L) :
  ∀(fuel:Nat) (listed:Array Bool) (a:Act) (w:World),
   (∀ j oj,ops[j]?=some oj->j≠i->listed.getD j true=false->(∀ e∈oj.after,Region.binds md e=true->e.on≠i)->oi.apart ops oj=true)->
   listed.size=ops.size->iV md ops listed->i∈Region.ready md ops listed->YieldsIf P ops S oi v a->S w->
   wpAnyL P md ops Q S L fuel (listed.setIfInBounds i true) (a.put oi.dst v) w->wpAnyL P md ops Q S L (fuel+1) listed a w:=by
 intro fuel
 induction fuel with
 | zero=>
  intro listed a w _ _ _ hr hy hS H
  refine⟨λh=>(by rw [h] at hr;cases hr),λj hj=>?_⟩
  by_cases hji:j=i
  ·subst hji;exact hy.wpOp hi hS ⟨λ_=>hS,H⟩
  ·have:=ready_mono hj hji
   rw [H.1] at this
   cases this
 | succ fuel ih=>
  intro listed a w hfree hsz hc hr hy hS H
  refine⟨λh=>(by rw [h] at hr;cases hr),λj hj=>?_⟩
  by_cases hji:j=i
  ·subst hji;exact hy.wpOp hi hS ⟨λ_=>hS,H⟩
  ·have h1:=H.2 j (ready_mono hj hji)
   obtain⟨hjun,oj,hoj,hall⟩:=mem_ready.1 hj
   have hnot:∀ e∈oj.after,Region.binds md e=true->e.on≠i:=λe he hb heq=>by
    have h1:=hall e he hb
    have h0:=VC (mem_ready.1 hr).1
    rw [heq,h0] at h1
    cases h1
   have h2:=wpOp_putIf hoj (hfree j oj hoj hji hjun hnot) (λcs b=>hsel i oi cs b hi) (λcs b=>hsel j oj cs b hoj) hQ hy h1
   have hfree':∀ k ok,ops[k]?=some ok->k≠i->(listed.setIfInBounds j true).getD k true=false->
     (∀ e∈ok.after,Region.binds md e=true->e.on≠i)->oi.apart ops ok=true:=λk ok hk hki hun hno=>by
    refine hfree k ok hk hki ?_ hno
    by_cases hjk:j=k
    ·subst hjk;exact hjun
    ·rw [getD_set_ne true hjk] at hun;exact hun
   have hc':=hc.set hj
   have hsz':(listed.setIfInBounds j true).size=ops.size:=by simpa using hsz
   have hri:=ready_mono hr (Ne.symm hji)
   have hLun:(listed.setIfInBounds j true).getD L true=false:=by
    cases hx:(listed.setIfInBounds j true).getD L true with
    | false=>rfl
    | true=>
     have hx':(listed.setIfInBounds j true).getD L false=true:=by
      simp only [Array.getD_eq_getD_getElem?] at hx ⊢
      rw [Array.getElem?_eq_getElem (by omega)] at hx ⊢
      simpa using hx
     have:=JF hc' F L hneed hL hx'
     rw [VC (mem_ready.1 hri).1] at this
     cases this
   refine wpOp_mono (λa' w' h3=>?_) h2
   obtain⟨hy',hS',hrest⟩:=h3
   have hSw:S w':=by
    refine hS' ?_
    rw [Array.setIfInBounds_comm _ _ (Ne.symm hji),getD_set_ne true hiL]
    exact hLun
   refine⟨λ_=>hSw,ih (listed.setIfInBounds j true) a' w' hfree' hsz' hc' hri hy' hSw ?_⟩
   rw [Array.setIfInBounds_comm _ _ hji]
   exact hrest
theorem aZ {i:Nat} {oi:Oper} {v:Value} {fuel:Nat} {listed:Array Bool} {a:Act} {w:World} (F:Nat) (hi:ops[i]?=some oi)
  (hs:Region.noSelect ops=true) (hf:Region.free md ops listed i=true) (hr:(Region.ready md ops listed).contains i=true) (hneed:wJ md ops i F L=true) (hL:decide (L<ops.size/\i≠L/\listed.size=ops.size)=true)
  (hc:iV md ops listed) (hQ:∀ c a w,Q (.panic c) (a.put oi.dst v) w->Q (.panic c) a w) (hy:YieldsIf P ops S oi v a) (hS:S w)
  (h:iV md ops (listed.setIfInBounds i true)->wpAnyL P md ops Q S L fuel (listed.setIfInBounds i true) (a.put oi.dst v) w):wpAnyL P md ops Q S L (fuel+1) listed a w:=by
 have h3:=of_decide_eq_true hL
 have hr':i∈Region.ready md ops listed:=by simpa using hr
 exact wpAnyL_first hi (Region.noSelect_spec hs) hQ hneed h3.1 h3.2.1 fuel listed a w (Region.free_spec hi hf) h3.2.2 hc hr' hy hS (h (hc.set hr'))
theorem wL {i:Nat} {oi:Oper} {v:Value} {fuel:Nat} {listed:Array Bool} {a:Act} {w:World} (F:Nat) (hi:ops[i]?=some oi)
  (hc:iV md ops listed) (hS:S w)
  (h:iV md ops (listed.setIfInBounds i true)->wpAnyL P md ops Q S L fuel (listed.setIfInBounds i true) (a.put oi.dst v) w)
  (hs:Region.noSelect ops=true:=by kernel_rfl) (hf:Region.free md ops listed i=true:=by kernel_rfl) (hr:(Region.ready md ops listed).contains i=true:=by kernel_rfl) (hneed:wJ md ops i F L=true:=by kernel_rfl) (hL:decide (L<ops.size/\i≠L/\listed.size=ops.size)=true:=by kernel_rfl)
  (hw:Region.wanted oi (yielded ops a.tmps)=true:=by rfl) (ht:∀ w,S w->(execOp a.eval oi).run P w=.ok (.value v) w:=by(intro w hSw;go_simp;with_reducible rfl))
  (hQ:∀ c a w,Q (.panic c) (a.put oi.dst v) w->Q (.panic c) a w:=by exact λ_ _ _ h=>h):wpAnyL P md ops Q S L (fuel+1) listed a w:=
 aZ F hi hs hf hr hneed hL hc hQ (Or.inl ⟨hw,ht⟩) hS h
theorem wK {i:Nat} {oi:Oper} {v:Value} {fuel:Nat} {listed:Array Bool} {a:Act} {w:World} (F:Nat) (hi:ops[i]?=some oi)
  (hc:iV md ops listed) (hS:S w)
  (h:iV md ops (listed.setIfInBounds i true)->wpAnyL P md ops Q S L fuel (listed.setIfInBounds i true) (a.put oi.dst v) w)
  (hs:Region.noSelect ops=true:=by kernel_rfl) (hf:Region.free md ops listed i=true:=by kernel_rfl) (hr:(Region.ready md ops listed).contains i=true:=by kernel_rfl) (hneed:wJ md ops i F L=true:=by kernel_rfl) (hL:decide (L<ops.size/\i≠L/\listed.size=ops.size)=true:=by kernel_rfl)
  (hw:Region.wanted oi (yielded ops a.tmps)=true:=by rfl) (ht:∀ w,S w->(execOp a.eval oi).run P w=.ok (.value v) w:=by(intro w hSw;go_simp;with_reducible rfl))
  (hQ:∀ c a w,Q (.panic c) (a.put oi.dst v) w->Q (.panic c) a w):wpAnyL P md ops Q S L (fuel+1) listed a w:=
 aZ F hi hs hf hr hneed hL hc hQ (Or.inl ⟨hw,ht⟩) hS h
theorem RL (n:Nat):iV md ops (Array.replicate n false):=by
 intro j o _ h
 simp [Array.getElem?_replicate] at h
 split at h<;>simp at h
theorem bU {id:Nat} {a:Act} {w:World} (S:World->Prop) (L:Nat) (hm:P.follows .mixedOrders=true) (hS:S w.drew)
  (h:S w.drew->iV .any ops (Array.replicate ops.size false)->wpAnyL P .any ops Q S L ops.size (Array.replicate ops.size false) a w.drew):(Code.region id ops true).wp P Q a w:=
 wp_region_any hm (MI _ _ _ _ (h hS (RL _)))
theorem aL {i:Nat} {o:Oper} {fuel:Nat} {listed:Array Bool} {a:Act} {w:World} (hr:Region.ready md ops listed=[i]) (ho:ops[i]?=some o) (hc:iV md ops listed)
  (h:∀ K':Act->World->Prop,(∀ a w,((listed.setIfInBounds i true).getD L true=false->S w)->(iV md ops (listed.setIfInBounds i true)->wpAnyL P md ops Q S L fuel (listed.setIfInBounds i true) a w)->K' a w)->
   if Region.wanted o (yielded ops a.tmps)=true then Oper.wp P o a w K' Q else K' (a.put o.dst undef) w):wpAnyL P md ops Q S L (fuel+1) listed a w:=by
 have hmem:i∈Region.ready md ops listed:=by rw [hr];simp
 refine⟨λh=>(by rw [hr] at h;cases h),λj hj=>?_⟩
 rw [hr] at hj
 obtain rfl:j=i:=by simpa using hj
 exact wpOp_step ho (λK' hK=>h K' (λa w h1 h2=>hK a w ⟨h1,h2 (hc.set hmem)⟩))
theorem bV {listed:Array Bool} {a:Act} {w:World} (hr:Region.ready md ops listed=[]) (h:Q .normal a w):∀ fuel,wpAnyL P md ops Q S L fuel listed a w
 | 0=>⟨hr,h⟩
 | fuel+1=>⟨λ_=>h,λi hi=>(by rw [hr] at hi;cases hi)⟩
end
end
section
open Go.RowKit
structure Chg (S:Nat->Prop) (w w':World):Prop where
 os:w'.os=w.os
 tape:w'.tape=w.tape
 output:w'.output=w.output
 size:w.heap.size<=w'.heap.size
 block:∀ k,k<w.heap.size->¬ S k->w'.heap[k]?=w.heap[k]?
theorem Chg.refl (S:Nat->Prop) (w:World):Chg S w w:=⟨rfl,rfl,rfl,Nat.le_refl _,λ_ _ _=>rfl⟩
theorem Chg.trans {S:Nat->Prop} {a b c:World} (h:Chg S a b) (k:Chg S b c):Chg S a c:=
 ⟨k.os.trans h.os,k.tape.trans h.tape,k.output.trans h.output,Nat.le_trans h.size k.size,λi hi hs=>(k.block i (Nat.lt_of_lt_of_le hi h.size) hs).trans (h.block i hi hs)⟩
theorem Chg.mono {S S':Nat->Prop} {a b:World} (h:Chg S a b) (hs:∀ k,k<a.heap.size->S k->S' k):Chg S' a b:=
 ⟨h.os,h.tape,h.output,h.size,λi hi hn=>h.block i hi (λx=>hn (hs i hi x))⟩
theorem Chg.of_below {S:Nat->Prop} {a b:World} (h:Below a.heap.size a b):Chg S a b:=⟨h.os,h.tape,h.output,h.size,λi hi _=>h.block i hi⟩
theorem Chg.below {S:Nat->Prop} {B:Nat} {a b:World} (h:Chg S a b) (hS:∀ k,S k->B<=k) (hB:B<=a.heap.size):Below B a b:=
 ⟨h.os,h.tape,h.output,h.size,λi hi=>h.block i (by omega) (λx=>by have:=hS i x;omega)⟩
theorem Chg.cell {S:Nat->Prop} {a b:World} (h:Chg S a b) {p:Addr} (hp:p.block<a.heap.size) (hS:¬ S p.block):b.cell? p=a.cell? p:=World.cell?_of_block (w:=a) (h.block _ hp hS)
theorem Chg.setCell {S:Nat->Prop} {a b:World} (h:Chg S a b) {p:Addr} (hp:S p.block∨a.heap.size<=p.block) (u:Value):Chg S a (b.setCell p u):=
 ⟨h.os,h.tape,h.output,by simpa [World.setCell] using h.size,λk hk hs=>by
  rw [Below.heap_setCell _ _ _ _ (by rintro rfl;rcases hp with hp|hp;exact hs hp;omega)]
  exact h.block k hk hs⟩
theorem Chg.alloc {S:Nat->Prop} {a b:World} (h:Chg S a b) (o:Obj):Chg S a (b.alloc o):=
 ⟨h.os,h.tape,h.output,by have:=h.size;simp;omega,λk hk hs=>(Below.heap_alloc _ _ _ (by have:=h.size;omega)).trans (h.block k hk hs)⟩
theorem Chg.drew {S:Nat->Prop} {a b:World} (h:Chg S a b):Chg S a b.drew:=⟨h.os,h.tape,h.output,h.size,h.block⟩
theorem Chg.drewN {S:Nat->Prop} {a b:World} (h:Chg S a b) (n:Nat):Chg S a (b.drewN n):=⟨h.os,h.tape,h.output,h.size,h.block⟩
theorem Chg.grown {S:Nat->Prop} {a b c:World} {row:Option Nat} (h:Chg S a b) (hg:b.grownBy c row) (hr:∀ k,row=some k->S k∨a.heap.size<=k):Chg S a c:=
 ⟨hg.os.trans h.os,hg.tape.trans h.tape,hg.output.trans h.output,Nat.le_trans h.size hg.size,λk hk hs=>
  (hg.block k (by have:=h.size;omega) (λe=>by rcases hr k e.symm with h1|h1;exact hs h1;omega)).trans (h.block k hk hs)⟩
theorem cB.chg {S:Nat->Prop} {w w':World} {a:Option Addr} {n k:Nat} {g:Nat->Nat->Value} (h:cB w a n k g) (hc:Chg S w w') (ha:∀ b off,a=some ⟨b,off,none⟩->¬ S b):cB w' a n k g:=by
 refine⟨h.1,λj hj=>?_⟩
 obtain⟨b,off,hab,hs,hcell⟩:=h.2 j hj
 exact⟨b,off,hab,Nat.lt_of_lt_of_le hs hc.size,λf hf=>by rw [hc.cell hs (ha b off hab)];exact hcell f hf⟩
theorem aA {w:World} {b:Nat} {c:Array Value} {e:TypeId} {fz:Nat×Nat} (h:w.heap[b]?=some (.cells c e fz)) (j:Nat):w.cell? ⟨b,j,none⟩=c[j]?:=by
 simp only [World.cell?,h]
 rfl
theorem aB {w:World} {b:Nat} {c:Array Value} {e:TypeId} (h:w.heap[b]?=some (.cells c e (0,0))) (j:Nat):w.frozen? ⟨b,j,none⟩=false:=by
 simp [World.frozen?,h]
theorem aC {w:World} {b:Nat} {o:Obj} (h:w.heap[b]?=some o):b<w.heap.size:=by
 rcases Nat.lt_or_ge b w.heap.size with h'|h'
 ·exact h'
 ·rw [Array.getElem?_eq_none h'] at h;cases h
theorem aG {w:World} {b:Nat} {c:Array Value} {e:TypeId} (h:w.heap[b]?=some (.cells c e (0,0))) (j:Nat) (v:Value):(w.setCell ⟨b,j,none⟩ v).heap[b]?=some (.cells (c.setIfInBounds j v) e (0,0)):=by
 simp [World.setCell,Array.getElem?_modify,h]
theorem aH {w:World} {b b':Nat} (hne:b'≠b) (j:Nat) (v:Value):(w.setCell ⟨b,j,none⟩ v).heap[b']?=w.heap[b']?:=Below.heap_setCell _ _ _ _ hne
theorem dX {w:World} {B:Nat} {v:Value} {e:TypeId} {k n:Nat} {xs:List Value} (h:w.ownsRow B e k v n xs):∃ a c,v=.slice a n c:=by
 rcases h.2 with⟨h1,h0⟩|⟨q,cap,cur,h1,_⟩
 ·exact⟨none,0,by rw [h1,h0]⟩
 ·exact⟨_,_,h1⟩
theorem bB {S:Nat->Prop} {w w':World} {B:Nat} {v:Value} {e:TypeId} {k n:Nat} {xs:List Value} (h:w.ownsRow B e k v n xs) (hc:Chg S w w') (hS:∀ b,v.ownBlock=some b->¬ S b):w'.ownsRow B e k v n xs:=by
 obtain⟨h1,h2⟩:=h
 refine⟨h1,?_⟩
 rcases h2 with h2|⟨g,cap,cur,hv,hg,hh,r⟩
 ·exact .inl h2
 ·exact .inr ⟨g,cap,cur,hv,hg,(hc.block g (aC hh) (hS g (by rw [hv];rfl))).trans hh,r⟩
theorem WA {w:World} {B B':Nat} {v:Value} {e:TypeId} {k n:Nat} {xs:List Value} (h:w.ownsRow B e k v n xs) (hB:B'<=B):w.ownsRow B' e k v n xs:=by
 obtain⟨h1,h2⟩:=h
 refine⟨h1,?_⟩
 rcases h2 with h2|⟨g,cap,cur,hv,hg,r⟩
 ·exact .inl h2
 ·exact .inr ⟨g,cap,cur,hv,by omega,r⟩
theorem wR {w:World} {B:Nat} {a:Option Addr} {c:Nat} {e:TypeId} {n:Nat} {xs:List Value} {g:Nat->Nat->Value} (h:w.ownsRow B e 1 (.slice a n c) n xs) (hm:n<=maxLen) (hg:∀ j,j<n->xs[j]?=some (g j 0)) :
  cB w a n 1 g/\(∀ b off,a=some ⟨b,off,none⟩->B<=b):=by
 obtain⟨a',c',h1,h2,h3⟩:=FM h hm hg
 cases h1
 exact⟨h2,h3⟩
theorem XQ {w u:World} (h:Below w.drew.heap.size w.drew u):Below w.heap.size w u:=⟨h.os,h.tape,h.output,h.size,h.block⟩
theorem TP {w u:World} {n:Nat} (h:Below (w.drewN n).heap.size (w.drewN n) u):Below w.heap.size w u:=⟨h.os,h.tape,h.output,h.size,h.block⟩
theorem dV {w w':World} {B:Nat} {v:Value} {e:TypeId} {k n:Nat} {xs:List Value} (h:w.ownsRow B e k v n xs) (hb:Below w.heap.size w w'):w'.ownsRow B e k v n xs:=
 h.kept (row:=none) ⟨hb.os,hb.tape,hb.output,hb.size,λi hi _=>hb.block i hi⟩ (by cases v.ownBlock<;>simp)
theorem aW {S:Nat->Prop} {a b:World} {k j:Nat} {v:Value} (hc:Chg S a b) (hk:¬ S k) (h:a.cell? ⟨k,j,none⟩=some v):b.cell? ⟨k,j,none⟩=some v:=by
 refine(hc.cell ?_ hk).trans h
 exact World.block_lt_of_cell? _ _ h
end
section
open Go.RowKit
def U64 (x:Nat):Prop:=x<18446744073709551616
theorem U64.lt {x:Nat} (h:U64 x):x<18446744073709551616:=h
end
section
open Go.RowKit
theorem fH {w:World} {p q:Addr} (v:Value) (h:q.block≠p.block):(w.setCell p v).cell? q=w.cell? q:=World.cell?_of_block (w:=w) (Below.heap_setCell _ _ _ _ h)
theorem iK {w:World} {p q:Addr} (v:Value) (h:q.block≠p.block):(w.setCell p v).frozen? q=w.frozen? q:=by
 have:=Below.heap_setCell w p v _ h
 simp only [World.frozen?,this]
theorem Ki (b:Nat) (w:World):Calls Tryz.prog 165 #[.pointer (some ⟨b,1,none⟩)] w λe w'=>e=.returned (.pointer (some ⟨b,1,none⟩))/\w=w':=by
 go_enter Tryz.func165,Tryz.ntmps165
 go_wp2
 go_ret
 exact⟨rfl,rfl⟩
theorem Np (b j b2 j2:Nat) (x o:Int) (w:World) (h:w.cell? ⟨b,j,none⟩=some (.int .u64 x)) (ho:w.cell? ⟨b2,j2,none⟩=some (.int .u64 o)) (hf:w.frozen? ⟨b2,j2,none⟩=false) :
  Calls Tryz.prog 166 #[.pointer (some ⟨b,j,none⟩),.pointer (some ⟨b2,j2,none⟩)] w λe w'=>e=.returned (.tuple #[])/\w'=w.setCell ⟨b2,j2,none⟩ (.int .u64 x):=by
 go_enter Tryz.func166,Tryz.ntmps166
 go_wp2
 go_end0
 exact⟨rfl,rfl⟩
theorem JB (u:World):Sem.run Tryz.prog (binOp BinOp.neq 148 Value.nilFunc Value.nilFunc) u=Result.ok (.bool false) u:=by
 first
 | kernel_rfl
 | rfl
theorem VE (bm bw j b2 j2:Nat) (len cap:Nat) (n x o:Int) (w:World) (h0:w.cell? ⟨bm,0,none⟩=some (.slice (some ⟨bw,0,none⟩) len cap)) (h1:w.cell? ⟨bm,1,none⟩=some (.int .i64 n)) (hn:0<=n) (hn2:n<1000000000000)
  (h6:w.cell? ⟨bm,6,none⟩=some .nilFunc) (hw:w.cell? ⟨bw,j,none⟩=some (.int .u64 x)) (hj:j<len) (hlen:len<=1048576) (hbw:bw≠bm) (ho:w.cell? ⟨b2,j2,none⟩=some (.int .u64 o)) (hf:w.frozen? ⟨b2,j2,none⟩=false) (hf1:w.frozen? ⟨bm,1,none⟩=false) (hb2:b2≠bm) (hb3:b2≠bw) :
  Calls Tryz.prog 164 #[.pointer (some ⟨bm,0,none⟩),.int .i64 0,.int .i64 (j:Int),.func (.func 165) #[] #[],.func (.func 166) #[] #[.pointer (some ⟨b2,j2,none⟩)]] w λe w'=>
   e=.returned (.tuple #[])/\w'=(w.setCell ⟨bm,1,none⟩ (.int .i64 (n+1))).setCell ⟨b2,j2,none⟩ (.int .u64 x):=by
 have hj1:(j:Int)<len:=by omega
 have C:=Lib.hid (Ki bm)
 have hnn:=JB
 go_enter Tryz.func164,Tryz.ntmps164
 go_wp2_with fail
 refine(C.out _).mono ?_
 rintro e w1 ⟨rfl,rfl⟩
 have ho2:(w.setCell ⟨bm,1,none⟩ (.int .i64 (n+1))).cell? ⟨b2,j2,none⟩=some (.int .u64 o):=by rw [fH _ (by exact hb2)];exact ho
 have hf2:(w.setCell ⟨bm,1,none⟩ (.int .i64 (n+1))).frozen? ⟨b2,j2,none⟩=false:=by rw [iK _ (by exact hb2)];exact hf
 have hw2:(w.setCell ⟨bm,1,none⟩ (.int .i64 (n+1))).cell? ⟨bw,j,none⟩=some (.int .u64 x):=by rw [fH _ (by exact hbw)];exact hw
 go_wp2_with fail
 refine(Np bw j b2 j2 x o _ hw2 ho2 hf2).mono ?_
 rintro e w1 ⟨rfl,rfl⟩
 go_wp2
 go_end0
 exact⟨rfl,rfl⟩
theorem Bh (b:Nat) (w:World):Calls Tryz.prog 170 #[.pointer (some ⟨b,1,none⟩)] w λe w'=>e=.returned (.pointer (some ⟨b,2,none⟩))/\w=w':=by
 go_enter Tryz.func170,Tryz.ntmps170
 go_wp2
 go_ret
 exact⟨rfl,rfl⟩
theorem Dy (b j b2 j2:Nat) (v o:Int) (w:World) (h:w.cell? ⟨b,j,none⟩=some (.int .u64 o)) (hf:w.frozen? ⟨b,j,none⟩=false) (hv:w.cell? ⟨b2,j2,none⟩=some (.int .u64 v)) :
  Calls Tryz.prog 171 #[.pointer (some ⟨b,j,none⟩),.pointer (some ⟨b2,j2,none⟩)] w λe w'=>e=.returned (.tuple #[])/\w'=w.setCell ⟨b,j,none⟩ (.int .u64 v):=by
 go_enter Tryz.func171,Tryz.ntmps171
 go_wp2
 go_end0
 exact⟨rfl,rfl⟩
theorem RS (bm bw j b2 j2:Nat) (len cap:Nat) (n x o:Int) (w:World) (h0:w.cell? ⟨bm,0,none⟩=some (.slice (some ⟨bw,0,none⟩) len cap)) (h1:w.cell? ⟨bm,2,none⟩=some (.int .i64 n)) (hn:0<=n) (hn2:n<1000000000000)
  (h6:w.cell? ⟨bm,6,none⟩=some .nilFunc) (hw:w.cell? ⟨bw,j,none⟩=some (.int .u64 x)) (hfw:w.frozen? ⟨bw,j,none⟩=false) (hj:j<len) (hlen:len<=1048576) (hbw:bw≠bm) (ho:w.cell? ⟨b2,j2,none⟩=some (.int .u64 o)) (hf1:w.frozen? ⟨bm,2,none⟩=false) (hb2:b2≠bm) :
  Calls Tryz.prog 164 #[.pointer (some ⟨bm,0,none⟩),.int .i64 1,.int .i64 (j:Int),.func (.func 170) #[] #[],.func (.func 171) #[] #[.pointer (some ⟨b2,j2,none⟩)]] w λe w'=>
   e=.returned (.tuple #[])/\w'=(w.setCell ⟨bm,2,none⟩ (.int .i64 (n+1))).setCell ⟨bw,j,none⟩ (.int .u64 o):=by
 have hj1:(j:Int)<len:=by omega
 have C:=Lib.hid (Bh bm)
 have hnn:=JB
 go_enter Tryz.func164,Tryz.ntmps164
 go_wp2_with fail
 refine(C.out _).mono ?_
 rintro e w1 ⟨rfl,rfl⟩
 have ho2:(w.setCell ⟨bm,2,none⟩ (.int .i64 (n+1))).cell? ⟨b2,j2,none⟩=some (.int .u64 o):=by rw [fH _ (by exact hb2)];exact ho
 have hw2:(w.setCell ⟨bm,2,none⟩ (.int .i64 (n+1))).cell? ⟨bw,j,none⟩=some (.int .u64 x):=by rw [fH _ (by exact hbw)];exact hw
 have hf2:(w.setCell ⟨bm,2,none⟩ (.int .i64 (n+1))).frozen? ⟨bw,j,none⟩=false:=by rw [iK _ (by exact hbw)];exact hfw
 go_wp2_with fail
 refine(Dy bw j b2 j2 o x _ hw2 hf2 ho2).mono ?_
 rintro e w1 ⟨rfl,rfl⟩
 go_wp2
 go_end0
 exact⟨rfl,rfl⟩
end
end Go.Proofs.YtfkokppncipgnaaGreat
