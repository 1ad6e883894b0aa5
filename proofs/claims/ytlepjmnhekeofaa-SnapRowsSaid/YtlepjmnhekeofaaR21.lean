/- Layer 6: a report's rows, in plain numbers: what roundelayplain.Rows asks for. -/
import Derived.Test.YtlepjmnhekeofaaR20
import Derived.Test.YtlepjmnhekeofaaR15
import Derived.Laws.CopyOwn
import Derived.Test.YtlepjmnhekeofaaR05
import Derived.Deep.DeepCutAuto
set_option maxRecDepth 100000
set_option linter.unusedVariables false
set_option linter.unusedSimpArgs false
set_option linter.unnecessarySimpa false
namespace Go.Proofs.Ytlepjmnhekeofaa
section
open Go.RowKit
variable {S:Sys}
theorem end_length {calls:List CallD} {st:PlayD S} (h:StGood calls st):(endD S st).length=st.evs.length:=by
 have:∀(l:List Nat) (evs:List EvD),(l.foldl (endEv S st) evs).length=evs.length:=by
  intro l
  induction l with
  | nil=>intro evs;rfl
  | cons p l ih=>
   intro evs
   rw [List.foldl_cons,ih]
   unfold endEv;split
   ·rfl
   ·rw [modEv_length]
 exact this _ _
structure RowGood (calls:List CallD) (n:Nat) (ticks:Nat) (e:EvD):Prop where
 call:e.call<calls.length
 thr:0<=(calls.getD e.call d0).thread/\(calls.getD e.call d0).thread<n
 inv1:1<=e.inv
 invt:e.inv<=ticks
 steps:1<=e.steps
 resp:e.resp≠0->e.inv<=e.resp/\e.resp<=ticks/\e.steps<=e.resp - e.inv+1/\Within e.key e.inv e.resp
 open_:e.resp=0->e.key=[]∨Within e.key e.inv ticks
structure RowsGood (calls:List CallD) (n:Nat) (r:RepD):Prop where
 n1:1<=n
 n16:n<=16
 ev:∀ i,i<r.evs.length->RowGood calls n r.ticks (evAt r.evs i)
 rise:∀ i j,i<j->j<r.evs.length->(evAt r.evs i).inv<(evAt r.evs j).inv
 same:∀ i j,i<j->j<r.evs.length->tn calls (evAt r.evs i)=tn calls (evAt r.evs j)->(evAt r.evs i).resp≠0/\(evAt r.evs i).resp<(evAt r.evs j).inv/\(evAt r.evs i).call<(evAt r.evs j).call
 sum:(r.evs.map (·.steps)).sum=r.ticks
 fault:r.c.fault=0
 all:r.c.read+r.c.write+r.c.swap+r.c.add<=r.ticks
 small:r.ticks<1000000
structure KeysFit (st:PlayD S):Prop where
 keys:∀ i,i<st.evs.length->(evAt st.evs i).resp≠0->Within (evAt st.evs i).key (evAt st.evs i).inv (evAt st.evs i).resp
 late:∀ p s k,st.hands.getD p (none,0)=(some s,k)->(S.late st.obj st.wd p s).getD (st.wd.marks.getD p [])=[]∨Within ((S.late st.obj st.wd p s).getD (st.wd.marks.getD p [])) (evAt st.evs k).inv st.wd.now
end
section

/- Layer 6: the order of keys, in plain lists. -/
open Go.RowKit
def keyLt:List Int->List Int->Bool
 | [],[]=>false
 | [],_::_=>true
 | _::_,[]=>false
 | a::l1,b::l2=>if a=b then keyLt l1 l2 else decide (a<b)
def kAt (evs:List EvD) (i:Nat):List Int:=(evAt evs i).key
def evLt (evs:List EvD) (i j:Nat):Prop:=keyLt (kAt evs i) (kAt evs j)=true∨(kAt evs i=kAt evs j/\i<j)
def insAt (evs:List EvD) (out:List Nat) (i:Nat):Nat->Nat
 | 0=>0
 | k+1=>if keyLt (kAt evs i) (kAt evs (out.getD k 0)) then insAt evs out i k else k+1
def insK (evs:List EvD) (out:List Nat) (i:Nat):List Nat:=out.take (insAt evs out i out.length)++i::out.drop (insAt evs out i out.length)
def orderK (evs:List EvD):Nat->List Nat
 | 0=>[]
 | i+1=>if kAt evs i=[] then orderK evs i else insK evs (orderK evs i) i
def orderD (evs:List EvD):List Nat:=orderK evs evs.length
def Fold (ap:List Nat->CallD->List Nat×AnsD) (calls:List CallD) (evs:List EvD):List Nat->List Nat->Prop
 | _,[]=>True
 | st,i::l=>
  if (calls.getD (evAt evs i).call d0).obj≠0 then ((evAt evs i).resp≠0->(evAt evs i).ans=⟨12,0,[]⟩)/\Fold ap calls evs st l
  else ((evAt evs i).resp≠0->(evAt evs i).ans=(ap st (calls.getD (evAt evs i).call d0)).2)/\Fold ap calls evs (ap st (calls.getD (evAt evs i).call d0)).1 l
end
section

/- Layer 9: adder.Play. -/
open Go.RowKit
abbrev adderS:Sys:=onceSys adderRef adderAct
end
section

/- Layer 9: tickets, in plain numbers. -/
open Go.RowKit
structure TkInv (st:PlayD adderS) (k:Nat):Prop where
 h16:st.hands.length=16
 none_:∀ p,(st.hands.getD p (none,0)).1=none
 now:st.wd.now=st.evs.length
 ws:st.wd.mem.ws=[st.evs.length]
 evs:∀ i,i<st.evs.length->(st.evs.getD i ev0).ans.val=i/\(st.evs.getD i ev0).resp=i+1
 len:st.evs.length<=k
end
section

/- Layer 9: the walk of AdderTickets. -/
open Go.RowKit
theorem RepAt.event {X:Nat->Prop} {B:Nat} {w:World} {ea:Option Addr} {en ec:Nat} {wv:Value} {ers:List (Value×Value)} {r:RepD} (h:RepAt X B w (.slice ea en ec) wv ers r) (hn:en=r.evs.length) (h0:0<en) :
  ∃ g,ea=some ⟨g,0,none⟩/\g<w.heap.size/\∀ i f,i<en->f<8->w.cell? ⟨g,i*8+f,none⟩=(evCells (r.evs.getD i ev0) (ers.getD i vv0))[f]?:=by
 obtain⟨g,c,h1,h2,h3⟩:=h.row.form (by omega)
 simp only [Value.slice.injEq] at h1
 obtain⟨rfl,h4,h5⟩:=h1
 refine⟨g,rfl,h3,λi f hi hf=>?_⟩
 have hr:=h.row
 rw [<-hn] at hr
 rw [hr.cellAt _ (by omega),evRow_get _ _ _ _ h.elen.symm (by omega) hf]
theorem RepAt.word {X:Nat->Prop} {B:Nat} {w:World} {ev:Value} {va:Option Addr} {vn vc:Nat} {ers:List (Value×Value)} {r:RepD} (h:RepAt X B w ev (.slice va vn vc) ers r) (hn:vn=r.words.length) (h0:0<vn) :
  ∃ q,va=some ⟨q,0,none⟩/\q<w.heap.size/\∀ j,j<vn->w.cell? ⟨q,j,none⟩=some (.int .u64 ((r.words.getD j 0:Nat):Int)):=by
 obtain⟨g,c,h1,h2,h3⟩:=h.words.form (by omega)
 simp only [Value.slice.injEq] at h1
 obtain⟨rfl,h4,h5⟩:=h1
 refine⟨g,rfl,h3,λj hj=>?_⟩
 have hr:=h.words
 rw [<-hn] at hr
 rw [hr.cellAt _ (by omega)]
 simp [u64V,List.getD_eq_getElem?_getD,show j<r.words.length by omega]
def callL (c:CallD):List Value:=[.int .i64 c.thread,.int .i64 c.obj,.int .i64 c.kind,.int .u64 (c.a:Int),.int .u64 (c.b:Int),.int .u64 (c.c:Int)]
theorem callL_get:∀(l:List CallD) (j f:Nat),j<l.length->f<6->(l.flatMap callL)[j*6+f]?=some (callG l j f)
 | [],j,_,h,_=>by simp at h
 | c::l,0,f,_,hf=>by
  simp only [List.flatMap_cons,Nat.zero_mul,Nat.zero_add]
  rw [List.getElem?_append_left (by simpa [callL] using hf)]
  match f,hf with
  | 0,_=>rfl
  | 1,_=>rfl
  | 2,_=>rfl
  | 3,_=>rfl
  | 4,_=>rfl
  | 5,_=>rfl
 | c::l,j+1,f,h,hf=>by
  simp only [List.flatMap_cons]
  rw [List.getElem?_append_right (by simp [callL];omega),show(j+1)*6+f - (callL c).length=j*6+f by simp [callL];omega,callL_get l j f (by simpa using h) hf]
  simp [callG]
theorem calls_block {w:World} {b:Nat} {l:List CallD} {fz:Nat×Nat} (h:w.heap[b]?=some (.cells (l.flatMap callL).toArray 46 fz)) (hl:l.length<=1000000):SlAt w (some ⟨b,0,none⟩) l.length 6 (callG l):=by
 refine⟨by unfold maxLen;omega,λj hj=>⟨b,0,rfl,blk_lt h,λf hf=>?_⟩⟩
 rw [Nat.zero_add,cell_blk h]
 simpa using callL_get l j f hj hf
theorem ints_block {w:World} {b:Nat} {l:List Int} {fz:Nat×Nat} (h:w.heap[b]?=some (.cells (l.map (Value.int .i64)).toArray 3 fz)) (hl:l.length<=1000000):SlAt w (some ⟨b,0,none⟩) l.length 1 (intG l):=by
 refine⟨by unfold maxLen;omega,λj hj=>⟨b,0,rfl,blk_lt h,λf hf=>?_⟩⟩
 obtain rfl:f=0:=by omega
 rw [cell_blk h]
 simp [intG,List.getD_eq_getElem?_getD,hj]
theorem callOk_small {t k:Int} (h1:0<=t) (h2:t<16) (h3:0<=k) (h4:k<16) {a b c:Nat} (ha:a<100) (hb:b<100) (hc:c<100):CallOk ⟨t,0,k,a,b,c⟩:=
 ⟨by simp [Lit.wf,IntKind.min,IntKind.max,IntKind.signed,IntKind.bits];omega,by rfl,by simp [Lit.wf,IntKind.min,IntKind.max,IntKind.signed,IntKind.bits];omega,by simp only;omega,by simp only;omega,by simp only;omega⟩
end
section

/- Layer 6: the order of keys: the walks of ahead, Order. -/
open Go.RowKit
end
section

/- Layer 8: the tally as the loom's object: the walks of its machines. -/
open Go.RowKit
inductive TaS where
 | count (seen:Bool) (v:Nat)
 | read (at_ sum:Nat) (key:List Int)
def taWhen (ticks:List Int) (inv s:Nat):Int:=if 0<s/\s<=ticks.length then max (inv:Int) (ticks.getD (s - 1) 0) else (inv:Int)
def taRead (wd:WD) (a:Nat):WD:={ wd with mem:=(memRead wd.mem (a:Int)).1 }
def taWrite (wd:WD) (p v:Nat):WD:={ wd with mem:=memWrite wd.mem (p:Int) (v+1),traces:=updT wd.traces 0 (wd.traces 0++[(wd.now:Int)]) }
def taGot (wd:WD) (a:Nat):Nat:=(memRead wd.mem (a:Int)).2
def taKey (wd:WD) (p s:Nat):List Int:=[2*taWhen (wd.traces 0) (wd.inv.getD p 0) s,2*(wd.now:Int)]
def tallyS (n:Nat):Sys where
 σ:=TaS
 ω:=Unit
 start:=λ_ _ _ c=>if c.kind=0 then .run (.count false 0) else if c.kind=1 then .run (.read 0 0 []) else .refuse 9
 step:=λ_ wd p s=>match s with
  | .count false _=>((),taRead wd p,.count true (taGot wd p),false)
  | .count true v=>((),taWrite wd p v,.count true v,true)
  | .read a s k=>if a+1<n then ((),taRead wd a,.read (a+1) (s+taGot wd a) k,false) else ((),taRead wd a,.read (a+1) (s+taGot wd a) (taKey wd p (s+taGot wd a)),true)
 answer:=λs=>match s with
  | .count _ _=>(⟨0,0,[]⟩,[])
  | .read _ s k=>(⟨0,s,[]⟩,k)
 late:=λ_ _ _ _=>none
def OwnTo (w w':World) (Mut B:Nat->Prop) (I:WIds) (N:Nat) (wd:WD) (b:Nat) (cells:Array Value) (T:TypeId) (done:Bool) (e:Ending):Prop:=
 e=.returned (.bool done)/\Chg (λk=>WSet I k∨B k) w w'/\WorldAt w' (mutTo Mut B (λk=>k=b)) I N wd/\w'.heap[b]?=some (.cells cells T (0,0))
theorem OwnTo.drewN {w w':World} {Mut B:Nat->Prop} {I:WIds} {N:Nat} {wd:WD} {b:Nat} {cells:Array Value} {T:TypeId} {done:Bool} {e:Ending} (h:OwnTo w w' Mut B I N wd b cells T done e) (n:Nat):OwnTo w (w'.drewN n) Mut B I N wd b cells T done e:=
 ⟨h.1,h.2.1.drewN n,h.2.2.1.keep (S:=noB) ((Chg.refl _ _).drewN n) (λ_ h=>h.elim) (λ_ h=>h.elim) (MutUp.refl _ _) (λk hk=>h.2.2.1.low k hk) h.2.2.1.muts,h.2.2.2⟩
theorem memRead_val {w:World} {bm:Nat} {bw:Option Nat} {m:MemD} (h:MemAt w bm bw m) (a:Int):(memRead m a).2<18446744073709551616:=by
 unfold memRead
 split
 ·simp only;omega
 ·simp only
  rw [List.getD_eq_getElem?_getD]
  cases h9:m.ws[a.toNat]? with
  | none=>simp
  | some z=>exact h.val z (List.mem_of_getElem? h9)
end
section

/- Layer 8: the tally's machines: counting. -/
open Go.RowKit
end
section

/- Layer 8: the tally's machines: reading. -/
open Go.RowKit
end
section

/- Layer 8: the tally as the loom's object. -/
open Go.RowKit
end
section

/- Counting events of a play, in plain numbers. -/
open Go.RowKit
def cnt (P:EvD->Bool) (l:List EvD):Nat:=(l.map λe=>if P e then 1 else 0).sum
theorem cnt_nil (P:EvD->Bool):cnt P []=0:=rfl
theorem cnt_cons (P:EvD->Bool) (e:EvD) (l:List EvD):cnt P (e::l)=(if P e then 1 else 0)+cnt P l:=rfl
theorem cnt_append (P:EvD->Bool) (l m:List EvD):cnt P (l++m)=cnt P l+cnt P m:=by unfold cnt;rw [List.map_append,List.sum_append]
theorem cnt_set (P:EvD->Bool) (l:List EvD) (k:Nat) (e:EvD) (hk:k<l.length):cnt P (l.set k e)+(if P (evAt l k) then 1 else 0)=cnt P l+(if P e then 1 else 0):=sum_map_set _ l k e hk
theorem cnt_mono {P Q:EvD->Bool}:∀ {l:List EvD},(∀ i,i<l.length->P (evAt l i)=true->Q (evAt l i)=true)->cnt P l<=cnt Q l
 | [],_=>Nat.le_refl _
 | e::l,h=>by
  rw [cnt_cons,cnt_cons]
  have h1:=cnt_mono (P:=P) (Q:=Q) (l:=l) (λi hi hp=>h (i+1) (by simp;omega) hp)
  have h2:=h 0 (by simp)
  have h3:evAt (e::l) 0=e:=rfl
  rw [h3] at h2
  cases hp:P e with
  | true=>rw [h2 hp];simp;omega
  | false=>simp;omega
theorem cnt_congr {P Q:EvD->Bool} {l:List EvD} (h:∀ i,i<l.length->P (evAt l i)=Q (evAt l i)):cnt P l=cnt Q l:=
 Nat.le_antisymm (cnt_mono λi hi hp=>by rw [<-h i hi];exact hp) (cnt_mono λi hi hp=>by rw [h i hi];exact hp)
theorem cnt_both {P Q R:EvD->Bool}:∀ {l:List EvD},(∀ i,i<l.length->(R (evAt l i)=(P (evAt l i) || Q (evAt l i)))/\¬ (P (evAt l i)=true/\Q (evAt l i)=true))->cnt R l=cnt P l+cnt Q l
 | [],_=>rfl
 | e::l,h=>by
  rw [cnt_cons,cnt_cons,cnt_cons]
  have h1:=cnt_both (P:=P) (Q:=Q) (R:=R) (l:=l) (λi hi=>h (i+1) (by simp;omega))
  obtain⟨h2,h3⟩:=h 0 (by simp)
  have h4:evAt (e::l) 0=e:=rfl
  rw [h4] at h2 h3
  rw [h2]
  cases hp:P e<;>cases hq:Q e<;>simp [hp,hq] at h3 ⊢<;>omega
theorem cnt_none:∀ l:List EvD,cnt (λ_=>false) l=0
 | []=>rfl
 | e::l=>by rw [cnt_cons,cnt_none l];rfl
theorem cnt_zero {P:EvD->Bool} {l:List EvD} (h:∀ i,i<l.length->P (evAt l i)=false):cnt P l=0:=by
 have:cnt P l<=cnt (λ_=>false) l:=cnt_mono λi hi hp=>by rw [h i hi] at hp;cases hp
 rw [cnt_none] at this
 omega
variable {S:Sys}
theorem From.cnt {calls:List CallD} {st:PlayD S} {q i k:Nat} {s:S.σ} {evs0:List EvD} {wd0:WD} (h:From calls st q i k s evs0 wd0) {P:EvD->Bool} (hP:∀ e,e.resp=0->P e=false) (e:EvD):cnt P (evs0.set k e)=cnt P st.evs+(if P e then 1 else 0):=by
 have h1:=cnt_set P evs0 k e h.len
 rw [hP _ h.open_] at h1
 have h2:Go.Proofs.Ytlepjmnhekeofaa.cnt P evs0=Go.Proofs.Ytlepjmnhekeofaa.cnt P st.evs:=by
  cases h with
  | old k s hh hk hc hr=>rfl
  | new s hh hs=>rw [cnt_append,cnt_cons,hP _ rfl,cnt_nil];simp
 rw [h2] at h1
 simpa using h1
end
section

/- Layer 6: cells as the loom's object. -/
open Go.RowKit
section
variable (w:World) (Mut:Nat->Prop) (I:WIds) (N:Nat) (wd:WD) (b bc ba:Nat) (c:CallD)
end
end
section

/- Layer 6: loom.Cells. -/
open Go.RowKit
end
section

/- Layer 6: two threads that add to a cell. -/
open Go.RowKit
end
section

/- What the checkers say of things that are alike. -/
open Go.RowKit
theorem same_eq (xs:List Nat) (a a2:Option Addr) (c c2:Nat) (w:World) (hs:SlAt w a xs.length 1 (u64G xs)) (hs2:SlAt w a2 xs.length 1 (u64G xs)) :
  Calls Try.prog 36 #[.slice a xs.length c,.slice a2 xs.length c2] w λe w'=>e=.returned (.bool true)/\Below w.heap.size w w':=by
 have hm:=hs.1
 unfold maxLen at hm
 have Hs:=Lib.hid hs;have Hs2:=Lib.hid hs2
 clear hs hs2
 go_enter Try.func36,Try.ntmps36
 go_wp2
 go_loopw [5,13] (λ_ i wr=>∃ k:Nat,k<=xs.length/\i=.int .i64 k/\Below w.heap.size w wr) (λ_ i _=>xs.length - (intOf i).toNat)
 case atStart=>exact⟨0,Nat.zero_le _,rfl,Gr.refl _⟩
 case round=>
  obtain⟨k,hk,rfl,hb⟩:=hrel
  by_cases hlt:k<xs.length
  ·obtain⟨b,o,rfl,h4⟩:=Hs.out.elem hb hlt
   obtain⟨b2,o2,rfl,h5⟩:=Hs2.out.elem hb hlt
   obtain⟨x,hx⟩:∃ x,x=xs.getD k 0:=⟨_,rfl⟩
   have e4:wr.cell? ⟨b,o+k,none⟩=some (.int .u64 (x:Int)):=by have h0:=h4 0 (by omega);rw [Nat.mul_one,Nat.add_zero] at h0;rw [h0,hx];rfl
   have e5:wr.cell? ⟨b2,o2+k,none⟩=some (.int .u64 (x:Int)):=by have h0:=h5 0 (by omega);rw [Nat.mul_one,Nat.add_zero] at h0;rw [h0,hx];rfl
   have l1:(k:Int)<xs.length:=by omega
   have Hb:=Lib.hid hb
   clear h4 h5 hb hx
   go_wp2_with fail
   go_quiet (fail)
   go_wp2
   go_roundw
   case rel=>exact⟨k+1,by omega,by go_num,below_drewN Hb.out _⟩
   case measure=>simp [intOf]<;>omega
  ·have l1:¬ (k:Int)<xs.length:=by omega
   have Hb:=Lib.hid hb
   clear hb
   go_wp2
   go_ret
   exact⟨rfl,Hb.out⟩
end
section

/- Layer 6: what has responded stays, in plain numbers. -/
open Go.RowKit
variable {S:Sys}
structure Stay (st st':PlayD S):Prop where
 len:st.evs.length<=st'.evs.length
 now:st.wd.now<=st'.wd.now
 idle:st.idle<=st'.idle
 inv:∀ i,i<st.evs.length->(evAt st'.evs i).inv=(evAt st.evs i).inv
 ev:∀ i,i<st.evs.length->(evAt st.evs i).resp≠0->evAt st'.evs i=evAt st.evs i
theorem Stay.refl (st:PlayD S):Stay st st:=⟨Nat.le_refl _,Nat.le_refl _,Nat.le_refl _,λ_ _=>rfl,λ_ _ _=>rfl⟩
theorem Stay.trans {a b c:PlayD S} (h:Stay a b) (k:Stay b c):Stay a c:=
 ⟨Nat.le_trans h.len k.len,Nat.le_trans h.now k.now,Nat.le_trans h.idle k.idle,λi hi=>(k.inv i (Nat.lt_of_lt_of_le hi h.len)).trans (h.inv i hi),λi hi hr=>(k.ev i (Nat.lt_of_lt_of_le hi h.len) (by rw [h.ev i hi hr];exact hr)).trans (h.ev i hi hr)⟩
end
section

/- Layer 7: the walk of ConsAgrees. -/
open Go.RowKit
end
section

/- Layer 6: the walk of LoomStays. -/
open Go.RowKit
theorem thr_ok {n:Int} {calls:List CallD} {np:Nat} (hck:checkN n calls np=0):∀ c,c<calls.length->0<=(calls.getD c d0).thread/\(calls.getD c d0).thread<n:=by
 obtain⟨hw0,_⟩:=checkN_zero hck
 obtain⟨z1,z2,z3,z4⟩:=wrongN_zero hw0
 intro c hcl
 unfold anyBad at z4
 rw [List.any_eq_false] at z4
 have e:calls.getD c d0=calls[c]:=by simp [List.getD_eq_getElem?_getD,hcl]
 have h9:badT n calls[c]=false:=by simpa using z4 calls[c] (List.getElem_mem hcl)
 rw [e]
 obtain⟨y,hy⟩:∃ y,y=calls[c]:=⟨_,rfl⟩
 rw [<-hy] at h9 ⊢
 unfold badT at h9
 simp at h9
 omega
theorem thr_16 {n:Int} {calls:List CallD} {np:Nat} (hck:checkN n calls np=0):∀ c,c<calls.length->0<=(calls.getD c d0).thread/\(calls.getD c d0).thread<16:=by
 obtain⟨hw0,_⟩:=checkN_zero hck
 obtain⟨z1,z2,z3,z4⟩:=wrongN_zero hw0
 intro c hc
 have:=thr_ok hck c hc
 omega
theorem SlAt.take {w:World} {a:Option Addr} {l:List Int} (h:SlAt w a l.length 1 (intG l)) (k:Nat) (hk:k<=l.length):SlAt w a (l.take k).length 1 (intG (l.take k)):=by
 have e:(l.take k).length=k:=by simp;omega
 rw [e]
 refine⟨Nat.le_trans hk h.1,λj hj=>?_⟩
 obtain⟨b,off,h1,h2,h3⟩:=h.2 j (by omega)
 refine⟨b,off,h1,h2,λf hf=>?_⟩
 rw [h3 f hf]
 unfold intG
 congr 2
 simp [List.getD_eq_getElem?_getD,List.getElem?_take,hj]
structure RepIn (w u:World) (b:Nat) (ea:Option Addr) (en ec:Nat) (va:Option Addr) (vn vc:Nat) (rp:RepD):Prop where
 ge:w.heap.size<=b
 blk:u.heap[b]?=some (.cells #[.slice ea en ec,.slice va vn vc,.int .i64 (rp.c.read:Int),.int .i64 (rp.c.write:Int),.int .i64 (rp.c.swap:Int),.int .i64 (rp.c.add:Int),.int .i64 (rp.c.fault:Int),.int .i64 (rp.ticks:Int),.int .i64 (rp.idle:Int)] 32 (0,0))
theorem RepIn.grown {w u u':World} {b:Nat} {ea:Option Addr} {en ec:Nat} {va:Option Addr} {vn vc:Nat} {rp:RepD} (h:RepIn w u b ea en ec va vn vc rp) (hb:Below u.heap.size u u'):RepIn w u' b ea en ec va vn vc rp:=⟨h.ge,(hb.block b (blk_lt h.blk)).trans h.blk⟩
theorem RepIn.cell {w u:World} {b:Nat} {ea:Option Addr} {en ec:Nat} {va:Option Addr} {vn vc:Nat} {rp:RepD} (h:RepIn w u b ea en ec va vn vc rp) (j:Nat):u.cell? ⟨b,j,none⟩=(#[.slice ea en ec,.slice va vn vc,.int .i64 (rp.c.read:Int),.int .i64 (rp.c.write:Int),.int .i64 (rp.c.swap:Int),.int .i64 (rp.c.add:Int),.int .i64 (rp.c.fault:Int),.int .i64 (rp.ticks:Int),.int .i64 (rp.idle:Int)]:Array Value)[j]?:=cell_blk h.blk j
end
end Go.Proofs.Ytlepjmnhekeofaa
