/- Counting events of a play, in plain numbers. -/
import Derived.Test.YtlepjmnhekeofaaW18
import Derived.Test.YtlepjmnhekeofaaW13
import Derived.Test.YtlepjmnhekeofaaW17
import Derived.Test.YtlepjmnhekeofaaW19
import Derived.Test.YtlepjmnhekeofaaW04
import Derived.Deep.DeepCutAuto
set_option maxRecDepth 100000
set_option linter.unusedVariables false
set_option linter.unusedSimpArgs false
set_option linter.unnecessarySimpa false
namespace Go.Proofs.Ytlepjmnhekeofaa
section
open Go.RowKit
def cnt (P:EvD->Bool) (l:List EvD):Nat:=(l.map λe=>if P e then 1 else 0).sum
theorem cnt_nil (P:EvD->Bool):cnt P []=0:=rfl
theorem cnt_cons (P:EvD->Bool) (e:EvD) (l:List EvD):cnt P (e::l)=(if P e then 1 else 0)+cnt P l:=rfl
theorem cnt_append (P:EvD->Bool) (l m:List EvD):cnt P (l++m)=cnt P l+cnt P m:=by unfold cnt;rw [List.map_append,List.sum_append]
theorem cnt_set (P:EvD->Bool) (l:List EvD) (k:Nat) (e:EvD) (hk:k<l.length):cnt P (l.set k e)+(if P (evAt l k) then 1 else 0)=cnt P l+(if P e then 1 else 0):=sum_map_set _ l k e hk
theorem cnt_mono {P Q:EvD->Bool}:∀ {l:List EvD},(∀ i,i<l.length->P (evAt l i)=true->Q (evAt l i)=true)->cnt P l<=cnt Q l
 | [],_=>Nat.le_refl _
 | e::l,h=>by
  rw [cnt_cons,cnt_cons]
  have h1:=cnt_mono (P:=P) (Q:=Q) (l:=l) (λi hi hp=>h (i+1) (by simp;omega) hp)
  have h2:=h 0 (by simp)
  have h3:evAt (e::l) 0=e:=rfl
  rw [h3] at h2
  cases hp:P e with
  | true=>rw [h2 hp];simp;omega
  | false=>simp;omega
theorem cnt_congr {P Q:EvD->Bool} {l:List EvD} (h:∀ i,i<l.length->P (evAt l i)=Q (evAt l i)):cnt P l=cnt Q l:=
 Nat.le_antisymm (cnt_mono λi hi hp=>by rw [<-h i hi];exact hp) (cnt_mono λi hi hp=>by rw [h i hi];exact hp)
variable {S:Sys}
theorem From.cnt {calls:List CallD} {st:PlayD S} {q i k:Nat} {s:S.σ} {evs0:List EvD} {wd0:WD} (h:From calls st q i k s evs0 wd0) {P:EvD->Bool} (hP:∀ e,e.resp=0->P e=false) (e:EvD):cnt P (evs0.set k e)=cnt P st.evs+(if P e then 1 else 0):=by
 have h1:=cnt_set P evs0 k e h.len
 rw [hP _ h.open_] at h1
 have h2:Go.Proofs.Ytlepjmnhekeofaa.cnt P evs0=Go.Proofs.Ytlepjmnhekeofaa.cnt P st.evs:=by
  cases h with
  | old k s hh hk hc hr=>rfl
  | new s hh hs=>rw [cnt_append,cnt_cons,hP _ rfl,cnt_nil];simp
 rw [h2] at h1
 simpa using h1
end
section

/- Layer 6: cells as the loom's object. -/
open Go.RowKit
section
variable (w:World) (Mut:Nat->Prop) (I:WIds) (N:Nat) (wd:WD) (b bc ba:Nat) (c:CallD)
end
end
section

/- Layer 6: loom.Cells. -/
open Go.RowKit
end
section

/- Layer 6: two threads that add to a cell. -/
open Go.RowKit
end
section

/- What the checkers say of things that are alike. -/
open Go.RowKit
theorem same_eq (xs:List Nat) (a a2:Option Addr) (c c2:Nat) (w:World) (hs:SlAt w a xs.length 1 (u64G xs)) (hs2:SlAt w a2 xs.length 1 (u64G xs)) :
  Calls Try.prog 36 #[.slice a xs.length c,.slice a2 xs.length c2] w λe w'=>e=.returned (.bool true)/\Below w.heap.size w w':=by
 have hm:=hs.1
 unfold maxLen at hm
 have Hs:=Lib.hid hs;have Hs2:=Lib.hid hs2
 clear hs hs2
 go_enter Try.func36,Try.ntmps36
 go_wp2
 go_loopw [5,13] (λ_ i wr=>∃ k:Nat,k<=xs.length/\i=.int .i64 k/\Below w.heap.size w wr) (λ_ i _=>xs.length - (intOf i).toNat)
 case atStart=>exact⟨0,Nat.zero_le _,rfl,Gr.refl _⟩
 case round=>
  obtain⟨k,hk,rfl,hb⟩:=hrel
  by_cases hlt:k<xs.length
  ·obtain⟨b,o,rfl,h4⟩:=Hs.out.elem hb hlt
   obtain⟨b2,o2,rfl,h5⟩:=Hs2.out.elem hb hlt
   obtain⟨x,hx⟩:∃ x,x=xs.getD k 0:=⟨_,rfl⟩
   have e4:wr.cell? ⟨b,o+k,none⟩=some (.int .u64 (x:Int)):=by have h0:=h4 0 (by omega);rw [Nat.mul_one,Nat.add_zero] at h0;rw [h0,hx];rfl
   have e5:wr.cell? ⟨b2,o2+k,none⟩=some (.int .u64 (x:Int)):=by have h0:=h5 0 (by omega);rw [Nat.mul_one,Nat.add_zero] at h0;rw [h0,hx];rfl
   have l1:(k:Int)<xs.length:=by omega
   have Hb:=Lib.hid hb
   clear h4 h5 hb hx
   go_wp2_with fail
   go_quiet (fail)
   go_wp2
   go_roundw
   case rel=>exact⟨k+1,by omega,by go_num,below_drewN Hb.out _⟩
   case measure=>simp [intOf]<;>omega
  ·have l1:¬ (k:Int)<xs.length:=by omega
   have Hb:=Lib.hid hb
   clear hb
   go_wp2
   go_ret
   exact⟨rfl,Hb.out⟩
theorem answer_eq (er:Int) (vl:Nat) (xs:List Nat) (a a2:Option Addr) (c c2:Nat) (w:World) (hs:SlAt w a xs.length 1 (u64G xs)) (hs2:SlAt w a2 xs.length 1 (u64G xs)) :
  Calls Try.prog 51 #[.agg #[.int .i64 er,.int .u64 (vl:Int),.slice a xs.length c],.agg #[.int .i64 er,.int .u64 (vl:Int),.slice a2 xs.length c2]] w λe w'=>e=.returned (.bool true)/\Below w.heap.size w w':=by
 have S:=Lib.hid (λ(u:World) (h:Below w.heap.size w u)=>same_eq xs a a2 c c2 u (hs.grown h) (hs2.grown h))
 obtain⟨n,hn⟩:∃ n,n=xs.length:=⟨_,rfl⟩
 rw [<-hn] at S ⊢
 clear hs hs2 hn
 go_enter Try.func51,Try.ntmps51
 go_wp2_with (go_at_call 36;refine(S.out _ (Gr.alloc (Gr.new _ _) _)).mono ?_;rintro e w' ⟨rfl,hb⟩)
 go_ret
 exact⟨rfl,Gr.trans (Gr.alloc (Gr.new _ _) _) hb⟩
end
section

/- Layer 6: what has responded stays, in plain numbers. -/
open Go.RowKit
variable {S:Sys}
structure Stay (st st':PlayD S):Prop where
 len:st.evs.length<=st'.evs.length
 now:st.wd.now<=st'.wd.now
 idle:st.idle<=st'.idle
 inv:∀ i,i<st.evs.length->(evAt st'.evs i).inv=(evAt st.evs i).inv
 ev:∀ i,i<st.evs.length->(evAt st.evs i).resp≠0->evAt st'.evs i=evAt st.evs i
theorem Stay.refl (st:PlayD S):Stay st st:=⟨Nat.le_refl _,Nat.le_refl _,Nat.le_refl _,λ_ _=>rfl,λ_ _ _=>rfl⟩
theorem Stay.trans {a b c:PlayD S} (h:Stay a b) (k:Stay b c):Stay a c:=
 ⟨Nat.le_trans h.len k.len,Nat.le_trans h.now k.now,Nat.le_trans h.idle k.idle,λi hi=>(k.inv i (Nat.lt_of_lt_of_le hi h.len)).trans (h.inv i hi),λi hi hr=>(k.ev i (Nat.lt_of_lt_of_le hi h.len) (by rw [h.ev i hi hr];exact hr)).trans (h.ev i hi hr)⟩
end
section

/- Layer 7: the walk of ConsAgrees. -/
open Go.RowKit
def manyB (l p:Nat):Bool:=decide ((60<l/\l<=1000)∨(600<p/\p<=65536)∨1100<l)
theorem many_any (ca pa:Option Addr) (l p cc pc:Nat) (w:World) (hl:l<=maxLen) (hp:p<=maxLen) :
    Calls Try.prog 13 #[.slice ca l cc,.slice pa p pc] w λe w'=>e=.returned (.bool (manyB l p))/\w=w':=by
  unfold maxLen at hl hp
  obtain⟨b,hb⟩:∃ b,b=manyB l p:=⟨_,rfl⟩
  rw [<-hb]
  by_cases h1:(60:Int)<(l:Int)<;>by_cases h2:(l:Int)<=1000<;>by_cases h3:(600:Int)<(p:Int)<;>by_cases h4:(p:Int)<=65536<;>by_cases h5:(1100:Int)<(l:Int)
  all_goals first|(exfalso;omega)|skip
  all_goals
    have hv:b=decide ((60<l/\l<=1000)∨(600<p/\p<=65536)∨1100<l):=hb
    first
      | (have hb2:b=true:=by rw [hv];simp;omega
         subst hb2;clear hb hv
         go_enter Try.func13,Try.ntmps13
         go_wp2
         go_ret
         exact⟨rfl,rfl⟩)
      | (have hb2:b=false:=by rw [hv];simp;omega
         subst hb2;clear hb hv
         go_enter Try.func13,Try.ntmps13
         go_wp2
         go_ret
         exact⟨rfl,rfl⟩)
theorem same_nil (w:World):Calls Try.prog 36 #[.slice none 0 0,.slice none 0 0] w λe w'=>e=.returned (.bool true)/\w=w':=by
  go_enter Try.func36,Try.ntmps36
  go_wp2
  go_loopw [13] (λi wr=>i=.int .i64 0/\wr=w) (λ_ _=>0)
  case atStart=>exact⟨rfl,rfl⟩
  case round=>
    obtain⟨rfl,rfl⟩:=hrel
    go_wp2
    go_ret
    exact⟨rfl,rfl⟩
theorem sameRep_nil (w:World):Calls Try.prog 30 #[.agg #[.slice none 0 0,.slice none 0 0,.int .i64 0,.int .i64 0,.int .i64 0,.int .i64 0,.int .i64 0,.int .i64 0,.int .i64 0],.agg #[.slice none 0 0,.slice none 0 0,.int .i64 0,.int .i64 0,.int .i64 0,.int .i64 0,.int .i64 0,.int .i64 0,.int .i64 0]] w λe w'=>e=.returned (.bool true)/\Below w.heap.size w w':=by
  have Sm:=Lib.hid same_nil
  go_enter Try.func30,Try.ntmps30
  go_wp2_with (go_at_call 36;refine(Sm.out _).mono ?_;rintro e w' ⟨rfl,rfl⟩)
  obtain⟨w2,hw2⟩:∃ w2,w2=(w.alloc (.cells #[.slice none 0 0,.slice none 0 0,.int .i64 0,.int .i64 0,.int .i64 0,.int .i64 0,.int .i64 0,.int .i64 0,.int .i64 0] 32)).alloc (.cells #[.slice none 0 0,.slice none 0 0,.int .i64 0,.int .i64 0,.int .i64 0,.int .i64 0,.int .i64 0,.int .i64 0,.int .i64 0] 32):=⟨_,rfl⟩
  rw [<-hw2]
  have hb:Below w.heap.size w w2:=by rw [hw2];exact Gr.alloc (Gr.new _ _) _
  have Hb:=Lib.hid hb
  clear hb hw2
  go_loopw [45] (λi wr=>i=.int .i64 0/\wr=w2) (λ_ _=>0)
  case atStart=>exact⟨rfl,rfl⟩
  case round=>
    obtain⟨rfl,rfl⟩:=hrel
    go_wp2
    go_ret
    exact⟨rfl,Hb.out⟩
theorem none_true (w:World):Calls Try.prog 16 #[.agg #[.slice none 0 0,.slice none 0 0,.int .i64 0,.int .i64 0,.int .i64 0,.int .i64 0,.int .i64 0,.int .i64 0,.int .i64 0]] w λe w'=>e=.returned (.bool true)/\Below w.heap.size w w':=by
  have Sm:=Lib.hid sameRep_nil
  go_enter Try.func16,Try.ntmps16
  go_wp2_with (go_at_call 30;refine(Sm.out _).mono ?_;rintro e w' ⟨rfl,hb⟩)
  go_ret
  exact⟨rfl,Gr.trans (Gr.new _ _) hb⟩
end
section

/- Layer 6: the walk of LoomStays. -/
open Go.RowKit
theorem thr_ok {n:Int} {calls:List CallD} {np:Nat} (hck:checkN n calls np=0):∀ c,c<calls.length->0<=(calls.getD c d0).thread/\(calls.getD c d0).thread<n:=by
 obtain⟨hw0,_⟩:=checkN_zero hck
 obtain⟨z1,z2,z3,z4⟩:=wrongN_zero hw0
 intro c hcl
 unfold anyBad at z4
 rw [List.any_eq_false] at z4
 have e:calls.getD c d0=calls[c]:=by simp [List.getD_eq_getElem?_getD,hcl]
 have h9:badT n calls[c]=false:=by simpa using z4 calls[c] (List.getElem_mem hcl)
 rw [e]
 obtain⟨y,hy⟩:∃ y,y=calls[c]:=⟨_,rfl⟩
 rw [<-hy] at h9 ⊢
 unfold badT at h9
 simp at h9
 omega
theorem thr_16 {n:Int} {calls:List CallD} {np:Nat} (hck:checkN n calls np=0):∀ c,c<calls.length->0<=(calls.getD c d0).thread/\(calls.getD c d0).thread<16:=by
 obtain⟨hw0,_⟩:=checkN_zero hck
 obtain⟨z1,z2,z3,z4⟩:=wrongN_zero hw0
 intro c hc
 have:=thr_ok hck c hc
 omega
theorem SlAt.take {w:World} {a:Option Addr} {l:List Int} (h:SlAt w a l.length 1 (intG l)) (k:Nat) (hk:k<=l.length):SlAt w a (l.take k).length 1 (intG (l.take k)):=by
 have e:(l.take k).length=k:=by simp;omega
 rw [e]
 refine⟨Nat.le_trans hk h.1,λj hj=>?_⟩
 obtain⟨b,off,h1,h2,h3⟩:=h.2 j (by omega)
 refine⟨b,off,h1,h2,λf hf=>?_⟩
 rw [h3 f hf]
 unfold intG
 congr 2
 simp [List.getD_eq_getElem?_getD,List.getElem?_take,hj]
structure RepIn (w u:World) (b:Nat) (ea:Option Addr) (en ec:Nat) (va:Option Addr) (vn vc:Nat) (rp:RepD):Prop where
 ge:w.heap.size<=b
 blk:u.heap[b]?=some (.cells #[.slice ea en ec,.slice va vn vc,.int .i64 (rp.c.read:Int),.int .i64 (rp.c.write:Int),.int .i64 (rp.c.swap:Int),.int .i64 (rp.c.add:Int),.int .i64 (rp.c.fault:Int),.int .i64 (rp.ticks:Int),.int .i64 (rp.idle:Int)] 32 (0,0))
theorem RepIn.grown {w u u':World} {b:Nat} {ea:Option Addr} {en ec:Nat} {va:Option Addr} {vn vc:Nat} {rp:RepD} (h:RepIn w u b ea en ec va vn vc rp) (hb:Below u.heap.size u u'):RepIn w u' b ea en ec va vn vc rp:=⟨h.ge,(hb.block b (blk_lt h.blk)).trans h.blk⟩
theorem RepIn.cell {w u:World} {b:Nat} {ea:Option Addr} {en ec:Nat} {va:Option Addr} {vn vc:Nat} {rp:RepD} (h:RepIn w u b ea en ec va vn vc rp) (j:Nat):u.cell? ⟨b,j,none⟩=(#[.slice ea en ec,.slice va vn vc,.int .i64 (rp.c.read:Int),.int .i64 (rp.c.write:Int),.int .i64 (rp.c.swap:Int),.int .i64 (rp.c.add:Int),.int .i64 (rp.c.fault:Int),.int .i64 (rp.ticks:Int),.int .i64 (rp.idle:Int)]:Array Value)[j]?:=cell_blk h.blk j
end
section

/- Layer 8: what every play of a tally keeps, in plain numbers. -/
open Go.RowKit
def objOf (calls:List CallD) (e:EvD):Int:=(calls.getD e.call d0).obj
def kindOf (calls:List CallD) (e:EvD):Int:=(calls.getD e.call d0).kind
def isK (calls:List CallD) (kd:Int) (e:EvD):Bool:=decide (objOf calls e=0) && decide (kindOf calls e=kd) && decide (e.resp≠0)
def tP1 (calls:List CallD) (t:Nat) (e:EvD):Bool:=isK calls 0 e && decide (tn calls e=t)
def tP2 (calls:List CallD) (a:Nat) (e:EvD):Bool:=isK calls 0 e && decide (tn calls e<a)
def tP3 (calls:List CallD) (a iv:Nat) (e:EvD):Bool:=isK calls 0 e && decide (tn calls e<a) && decide (e.resp<iv)
def tP4 (calls:List CallD) (t:Nat) (e:EvD):Bool:=isK calls 0 e && decide (e.resp<=t)
theorem isK_open {calls:List CallD} {kd:Int} {e:EvD} (h:e.resp=0):isK calls kd e=false:=by unfold isK;simp [h]
theorem tP4_open {calls:List CallD} {t:Nat} (e:EvD) (h:e.resp=0):tP4 calls t e=false:=by unfold tP4;rw [isK_open h];rfl
def taHand (n:Nat) (calls:List CallD) (st:PlayD (tallyS n)) (p:Nat) (e:EvD):TaS->Prop
 | .count seen v=>seen=true/\v=cnt (tP1 calls p) st.evs/\e.steps=1/\kindOf calls e=0
 | .read a s _=>a<n/\cnt (tP3 calls a e.inv) st.evs<=s/\s<=cnt (tP2 calls a) st.evs/\e.steps=a/\kindOf calls e=1/\(∀ i,i<st.evs.length->isK calls 0 (evAt st.evs i)=true->(evAt st.evs i).resp≠e.inv)
def taDone (n:Nat) (calls:List CallD) (evs:List EvD) (e:EvD):Prop:=
 if objOf calls e≠0 then e.ans=⟨12,0,[]⟩/\e.key=[2*(e.resp:Int)]/\e.steps=1
 else if kindOf calls e=0 then e.ans=⟨0,0,[]⟩/\e.key=[2*(e.resp:Int)]/\e.steps=2/\e.inv<e.resp
 else if kindOf calls e=1 then ∃ wn v:Nat,e.ans=⟨0,v,[]⟩/\e.key=[2*(wn:Int),2*(e.resp:Int)]/\e.inv<=wn/\wn<=e.resp/\cnt (tP4 calls wn) evs=v/\cnt (tP3 calls n e.inv) evs<=v/\v<=cnt (tP4 calls e.resp) evs/\e.steps=n
 else e.ans=⟨9,0,[]⟩/\e.key=[2*(e.resp:Int)]/\e.steps=1
structure TaInv (n:Nat) (calls:List CallD) (st:PlayD (tallyS n)):Prop where
 wlen:st.wd.mem.ws.length=n
 words:∀ t,t<n->st.wd.mem.ws.getD t 0=cnt (tP1 calls t) st.evs
 tr:∀ t:Nat,((st.wd.traces 0).filter λx=>decide (x<=(t:Int))).length=cnt (tP4 calls t) st.evs
 tinc:(st.wd.traces 0).Pairwise (·<·)
 tpos:∀ x∈st.wd.traces 0,1<=x/\x<=(st.wd.now:Int)
 hand:∀ p s k,st.hands.getD p (none,0)=(some s,k)->objOf calls (evAt st.evs k)=0/\taHand n calls st p (evAt st.evs k) s/\st.wd.inv.getD p 0=(evAt st.evs k).inv
 done:∀ i,i<st.evs.length->(evAt st.evs i).resp≠0->taDone n calls st.evs (evAt st.evs i)
 marks:st.wd.marks=List.replicate 16 []
 ilen:st.wd.inv.length=16
 fault:st.wd.mem.c.fault=0
 all:st.wd.mem.c.all<=st.wd.now
theorem From.tn {S:Sys} {calls:List CallD} {st:PlayD S} {q i k:Nat} {s:S.σ} {evs0:List EvD} {wd0:WD} (h:From calls st q i k s evs0 wd0) (hN:nowN calls st.fin (q:Int)=some i):tn calls (evAt evs0 k)=q:=by
 unfold Go.Proofs.Ytlepjmnhekeofaa.tn
 rw [h.call,(nowN_spec hN).2.1];simp
theorem From.apart {S:Sys} {calls:List CallD} {st:PlayD S} {q i k:Nat} {s:S.σ} {evs0:List EvD} {wd0:WD} (h:From calls st q i k s evs0 wd0) (hg:StGood calls st) (hN:nowN calls st.fin (q:Int)=some i) {p k2:Nat} {s2:S.σ} (hp:p≠q) (hh:st.hands.getD p (none,0)=(some s2,k2)):k2≠k/\k2<st.evs.length:=by
 obtain⟨a1,a2,a3,a4⟩:=hg.ev.hand p k2 (by unfold hndOf;rw [hh];rfl)
 refine⟨?_,a1⟩
 rintro rfl
 apply hp
 rw [<-a2,<-h.tn hN,h.obj.2 k2 a1]
theorem From.or {S:Sys} {calls:List CallD} {st:PlayD S} {q i k:Nat} {s:S.σ} {evs0:List EvD} {wd0:WD} (h:From calls st q i k s evs0 wd0) :
  (st.hands.getD q (none,0)=(some s,k)/\k<st.evs.length/\(evAt st.evs k).call=i/\(evAt st.evs k).resp=0/\evs0=st.evs/\wd0=st.wd.tick)∨
  ((st.hands.getD q (none,0)).1=none/\startD S st.obj (st.wd.tick.begin q) q (calls.getD i d0)=.run s/\k=st.evs.length/\evs0=st.evs++[newEv i (st.wd.tick.begin q)]/\wd0=st.wd.tick.begin q):=by
 cases h with
 | old k s hh hk hc hr=>exact .inl ⟨hh,hk,hc,hr,rfl,rfl⟩
 | new s hh hs=>exact .inr ⟨hh,hs,rfl,rfl,rfl⟩
theorem From.inv {S:Sys} {calls:List CallD} {st:PlayD S} {q i k:Nat} {s:S.σ} {evs0:List EvD} {wd0:WD} (h:From calls st q i k s evs0 wd0) {p:Nat} (hp:p≠q):wd0.inv.getD p 0=st.wd.inv.getD p 0:=by
 cases h with
 | old k s hh hk hc hr=>rfl
 | new s hh hs=>exact getD_set_neq (Ne.symm hp)
theorem begin_marks {wd:WD} {q:Nat} (h:wd.marks=List.replicate 16 []):(wd.tick.begin q).marks=List.replicate 16 []:=by
 show wd.marks.set q []=_
 rw [h]
 apply List.ext_getElem?
 intro j
 rw [List.getElem?_set]
 split
 ·rename_i e
  subst e
  rw [List.length_replicate,List.getElem?_replicate]
 ·rfl
theorem From.marks {S:Sys} {calls:List CallD} {st:PlayD S} {q i k:Nat} {s:S.σ} {evs0:List EvD} {wd0:WD} (h:From calls st q i k s evs0 wd0) (hm:st.wd.marks=List.replicate 16 []):wd0.marks=List.replicate 16 []:=by
 cases h with
 | old k s hh hk hc hr=>exact hm
 | new s hh hs=>exact begin_marks hm
theorem From.ilen {S:Sys} {calls:List CallD} {st:PlayD S} {q i k:Nat} {s:S.σ} {evs0:List EvD} {wd0:WD} (h:From calls st q i k s evs0 wd0) (hm:st.wd.inv.length=16):wd0.inv.length=16:=by
 cases h with
 | old k s hh hk hc hr=>exact hm
 | new s hh hs=>show(st.wd.inv.set q _).length=16;rw [List.length_set];exact hm
theorem n_ok {n:Int} {calls:List CallD} {np:Nat} (hck:checkN n calls np=0):1<=n/\n<=16:=by
 obtain⟨hw0,_⟩:=checkN_zero hck
 obtain⟨z1,z2,z3,z4⟩:=wrongN_zero hw0
 omega
theorem np_ok {n:Int} {calls:List CallD} {np:Nat} (hck:checkN n calls np=0):np<=65536:=by
 obtain⟨_,h⟩:=checkN_zero hck
 omega
end
section

/- Layer 6: the events behind a turn, beside those ahead of it. -/
open Go.RowKit
variable {S:Sys}
structure Next (calls:List CallD) (st:PlayD S) (q:Nat) (evs':List EvD) (k:Nat) (e1:EvD):Prop where
 lt:k<evs'.length
 self:evAt evs' k=e1
 other:∀ j,j<evs'.length->j≠k->j<st.evs.length/\evAt evs' j=evAt st.evs j
 size:st.evs.length<=evs'.length
 old:k<st.evs.length->(evAt st.evs k).resp=0
 cnt:∀ {P:EvD->Bool},(∀ e,e.resp=0->P e=false)->cnt P evs'=cnt P st.evs+(if P e1 then 1 else 0)
 apart:∀ p s2 k2,p≠q->st.hands.getD p (none,0)=(some s2,k2)->k2≠k/\k2<st.evs.length
 thr:tn calls e1=q
theorem From.next {calls:List CallD} {st:PlayD S} {q i k:Nat} {s:S.σ} {evs0:List EvD} {wd0:WD} (hg:StGood calls st) (hf:From calls st q i k s evs0 wd0) (hN:nowN calls st.fin (q:Int)=some i) (e1:EvD) (he:e1.call=(evAt evs0 k).call):Next calls st q (evs0.set k e1) k e1 where
 lt:=by rw [List.length_set];exact hf.len
 self:=hf.self e1
 other:=λj hj hjk=>hf.other e1 hj hjk
 size:=hf.size e1
 old:=λhk=>by have h1:=hf.obj.2 k hk;rw [<-h1];exact hf.open_
 cnt:=λhP=>hf.cnt hP e1
 apart:=λp s2 k2 hp hh=>hf.apart hg hN hp hh
 thr:=by have h1:=hf.tn hN;unfold Go.Proofs.Ytlepjmnhekeofaa.tn at h1 ⊢;rw [he];exact h1
theorem refuse_next {calls:List CallD} {st:PlayD S} {q i:Nat} (hg:StGood calls st) (hN:nowN calls st.fin (q:Int)=some i) (e1:EvD) (he:e1.call=i):Next calls st q (st.evs++[e1]) st.evs.length e1 where
 lt:=by simp
 self:=evAt_last
 other:=λj hj hjk=>by
  have h1:j<st.evs.length:=by simp at hj;omega
  exact⟨h1,evAt_old h1⟩
 size:=by simp
 old:=λhk=>absurd hk (Nat.lt_irrefl _)
 cnt:=λhP=>by rw [cnt_append,cnt_cons,cnt_nil];omega
 apart:=λp s2 k2 hp hh=>by
  obtain⟨a1,a2,a3,a4⟩:=hg.ev.hand p k2 (by unfold hndOf;rw [hh];rfl)
  exact⟨by omega,a1⟩
 thr:=by unfold tn;rw [he,(nowN_spec hN).2.1];simp
theorem Next.past {calls:List CallD} {st:PlayD S} {q k:Nat} {evs':List EvD} {e1:EvD} (h:Next calls st q evs' k e1) (hr:e1.resp=0∨e1.resp=st.wd.now+1) {t:Nat} (ht:t<=st.wd.now):Go.Proofs.Ytlepjmnhekeofaa.cnt (tP4 calls t) evs'=Go.Proofs.Ytlepjmnhekeofaa.cnt (tP4 calls t) st.evs:=by
 rw [h.cnt tP4_open]
 have:tP4 calls t e1=false:=by
  rcases hr with h0|h0
  ·exact tP4_open _ h0
  ·unfold tP4;rw [h0];simp;omega
 rw [this];simp
theorem Next.more {calls:List CallD} {st:PlayD S} {q k:Nat} {evs':List EvD} {e1:EvD} (h:Next calls st q evs' k e1) (h1:isK calls 0 e1=true) (h2:e1.resp=st.wd.now+1):Go.Proofs.Ytlepjmnhekeofaa.cnt (tP4 calls st.wd.now) st.evs+1<=Go.Proofs.Ytlepjmnhekeofaa.cnt (tP4 calls (st.wd.now+1)) evs':=by
 rw [h.cnt tP4_open]
 have h3:tP4 calls (st.wd.now+1) e1=true:=by unfold tP4;rw [h1,h2];simp
 rw [h3,if_pos rfl]
 have:Go.Proofs.Ytlepjmnhekeofaa.cnt (tP4 calls st.wd.now) st.evs<=Go.Proofs.Ytlepjmnhekeofaa.cnt (tP4 calls (st.wd.now+1)) st.evs:=cnt_mono λj _ hp=>by
  unfold tP4 at hp ⊢
  simp only [Bool.and_eq_true,decide_eq_true_eq] at hp ⊢
  exact⟨hp.1,by omega⟩
 omega
end
section

/- Layer 12: the door: what every play of one keeps, in plain numbers. -/
open Go.RowKit
inductive DoS where
 | take (at_ ph:Nat)
 | once (c:CallD) (r:Int×Nat)
def doWrite (wd:WD) (p v:Nat):WD:={ wd with mem:=memWrite wd.mem (p:Int) v }
def doorAct (c:CallD) (wd:WD):WD×(Int×Nat):=(taRead wd c.a,(0,taGot wd c.a))
def doorS (n:Nat):Sys where
 σ:=DoS
 ω:=Unit
 start:=λ_ _ _ c=>if c.kind=0 then .run (.take 0 0) else if c.kind≠1 then .refuse 9 else if c.a<n then .run (.once c (0,0)) else .refuse 10
 step:=λ_ wd p s=>match s with
  | .take a v=>if a<n then ((),taRead wd a,.take (a+1) (max v (taGot wd a)),false) else ((),doWrite wd p (v+1),.take a (v+1),true)
  | .once c _=>((),(doorAct c wd).1,.once c (doorAct c wd).2,true)
 answer:=λs=>match s with
  | .take _ v=>(⟨0,v,[]⟩,[])
  | .once _ r=>(⟨r.1,r.2,[]⟩,[])
 late:=λ_ _ _ _=>none
def doSeen (calls:List CallD) (evs:List EvD) (a iv v:Nat):Prop:=∀ i,i<evs.length->isK calls 0 (evAt evs i)=true->(evAt evs i).resp<iv->tn calls (evAt evs i)<a->(evAt evs i).ans.val<=v
def doHand (n:Nat) (calls:List CallD) (st:PlayD (doorS n)) (p:Nat) (e:EvD):DoS->Prop
 | .take a v=>a<=n/\v<=cnt (tP4 calls st.wd.now) st.evs/\(p<a->st.wd.mem.ws.getD p 0<=v)/\doSeen calls st.evs a e.inv v/\e.steps=a/\kindOf calls e=0/\1<=a
 | .once _ _=>False
def doDone (n:Nat) (calls:List CallD) (evs:List EvD) (e:EvD):Prop:=
 e.steps<=n+1/\(objOf calls e=0->kindOf calls e=0->e.inv<e.resp/\1<=e.ans.val/\e.ans.val<=cnt (tP4 calls e.resp) evs/\
  ∀ j,j<evs.length->isK calls 0 (evAt evs j)=true->(evAt evs j).resp<e.inv->(evAt evs j).ans.val<e.ans.val)
structure DoInv (n:Nat) (calls:List CallD) (st:PlayD (doorS n)):Prop where
 wlen:st.wd.mem.ws.length=n
 top:∀ t,t<n->st.wd.mem.ws.getD t 0<=cnt (tP4 calls st.wd.now) st.evs
 low:∀ i,i<st.evs.length->isK calls 0 (evAt st.evs i)=true->(evAt st.evs i).ans.val<=st.wd.mem.ws.getD (tn calls (evAt st.evs i)) 0
 hand:∀ p s k,st.hands.getD p (none,0)=(some s,k)->objOf calls (evAt st.evs k)=0/\doHand n calls st p (evAt st.evs k) s
 done:∀ i,i<st.evs.length->(evAt st.evs i).resp≠0->doDone n calls st.evs (evAt st.evs i)
end
end Go.Proofs.Ytlepjmnhekeofaa
