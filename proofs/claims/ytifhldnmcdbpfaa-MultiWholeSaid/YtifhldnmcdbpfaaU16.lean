/- What the checkers say of things that are alike. -/
import Derived.Test.YtifhldnmcdbpfaaU15
import Derived.Test.YtifhldnmcdbpfaaU04
import Derived.Test.YtifhldnmcdbpfaaU14
import Derived.Deep.DeepCutAuto
set_option maxRecDepth 100000
set_option linter.unusedVariables false
set_option linter.unusedSimpArgs false
set_option linter.unnecessarySimpa false
namespace Go.Proofs.Ytifhldnmcdbpfaa
section
open Go.RowKit
theorem same_eq (xs:List Nat) (a a2:Option Addr) (c c2:Nat) (w:World) (hs:aW w a xs.length 1 (dY xs)) (hs2:aW w a2 xs.length 1 (dY xs)) :
  Calls Try.prog 30 #[.slice a xs.length c,.slice a2 xs.length c2] w λe w'=>e=.returned (.bool true)/\Below w.heap.size w w':=by
 have hm:=hs.1
 unfold maxLen at hm
 have Hs:=Lib.hid hs;have Hs2:=Lib.hid hs2
 clear hs hs2
 go_enter Try.func30,Try.ntmps30
 go_wp2
 go_loopw [5,13] (λ_ i wr=>∃ k:Nat,k<=xs.length/\i=.int .i64 k/\Below w.heap.size w wr) (λ_ i _=>xs.length - (intOf i).toNat)
 case atStart=>exact⟨0,Nat.zero_le _,rfl,Gr.refl _⟩
 case round=>
  obtain⟨k,hk,rfl,hb⟩:=hrel
  by_cases hlt:k<xs.length
  ·obtain⟨b,o,rfl,h4⟩:=Hs.out.elem hb hlt
   obtain⟨b2,o2,rfl,h5⟩:=Hs2.out.elem hb hlt
   obtain⟨x,hx⟩:∃ x,x=xs.getD k 0:=⟨_,rfl⟩
   have e4:wr.cell? ⟨b,o+k,none⟩=some (.int .u64 (x:Int)):=by have h0:=h4 0 (by omega);rw [Nat.mul_one,Nat.add_zero] at h0;rw [h0,hx];rfl
   have e5:wr.cell? ⟨b2,o2+k,none⟩=some (.int .u64 (x:Int)):=by have h0:=h5 0 (by omega);rw [Nat.mul_one,Nat.add_zero] at h0;rw [h0,hx];rfl
   have l1:(k:Int)<xs.length:=by omega
   have Hb:=Lib.hid hb
   clear h4 h5 hb hx
   go_wp2_with fail
   go_quiet (fail)
   go_wp2
   go_roundw
   case rel=>exact⟨k+1,by omega,by go_num,below_drewN Hb.out _⟩
   case measure=>simp [intOf]<;>omega
  ·have l1:¬ (k:Int)<xs.length:=by omega
   have Hb:=Lib.hid hb
   clear hb
   go_wp2
   go_ret
   exact⟨rfl,Hb.out⟩
theorem HY (er:Int) (vl:Nat) (xs:List Nat) (a a2:Option Addr) (c c2:Nat) (w:World) (hs:aW w a xs.length 1 (dY xs)) (hs2:aW w a2 xs.length 1 (dY xs)) :
  Calls Try.prog 50 #[.agg #[.int .i64 er,.int .u64 (vl:Int),.slice a xs.length c],.agg #[.int .i64 er,.int .u64 (vl:Int),.slice a2 xs.length c2]] w λe w'=>e=.returned (.bool true)/\Below w.heap.size w w':=by
 have S:=Lib.hid (λ(u:World) (h:Below w.heap.size w u)=>same_eq xs a a2 c c2 u (hs.grown h) (hs2.grown h))
 obtain⟨n,hn⟩:∃ n,n=xs.length:=⟨_,rfl⟩
 rw [<-hn] at S ⊢
 clear hs hs2 hn
 go_enter Try.func50,Try.ntmps50
 go_wp2_with (go_at_call 30;refine(S.out _ (Gr.alloc (Gr.new _ _) _)).mono ?_;rintro e w' ⟨rfl,hb⟩)
 go_ret
 exact⟨rfl,Gr.trans (Gr.alloc (Gr.new _ _) _) hb⟩
end
section
open Go.RowKit
variable {S:Sys}
structure GA (st st':aP S):Prop where
 len:st.evs.length<=st'.evs.length
 now:st.wd.now<=st'.wd.now
 idle:st.idle<=st'.idle
 inv:∀ i,i<st.evs.length->(aB st'.evs i).inv=(aB st.evs i).inv
 ev:∀ i,i<st.evs.length->(aB st.evs i).resp≠0->aB st'.evs i=aB st.evs i
theorem GA.refl (st:aP S):GA st st:=⟨Nat.le_refl _,Nat.le_refl _,Nat.le_refl _,λ_ _=>rfl,λ_ _ _=>rfl⟩
theorem GA.trans {a b c:aP S} (h:GA a b) (k:GA b c):GA a c:=
 ⟨Nat.le_trans h.len k.len,Nat.le_trans h.now k.now,Nat.le_trans h.idle k.idle,λi hi=>(k.inv i (Nat.lt_of_lt_of_le hi h.len)).trans (h.inv i hi),λi hi hr=>(k.ev i (Nat.lt_of_lt_of_le hi h.len) (by rw [h.ev i hi hr];exact hr)).trans (h.ev i hi hr)⟩
end
section
open Go.RowKit
def DU (l p:Nat):Bool:=decide ((60<l/\l<=1000)∨(600<p/\p<=65536)∨1100<l)
theorem yB (ca pa:Option Addr) (l p cc pc:Nat) (w:World) (hl:l<=maxLen) (hp:p<=maxLen) :
    Calls Try.prog 10 #[.slice ca l cc,.slice pa p pc] w λe w'=>e=.returned (.bool (DU l p))/\w=w':=by
  unfold maxLen at hl hp
  obtain⟨b,hb⟩:∃ b,b=DU l p:=⟨_,rfl⟩
  rw [<-hb]
  by_cases h1:(60:Int)<(l:Int)<;>by_cases h2:(l:Int)<=1000<;>by_cases h3:(600:Int)<(p:Int)<;>by_cases h4:(p:Int)<=65536<;>by_cases h5:(1100:Int)<(l:Int)
  all_goals first|(exfalso;omega)|skip
  all_goals
    have hv:b=decide ((60<l/\l<=1000)∨(600<p/\p<=65536)∨1100<l):=hb
    first
      | (have hb2:b=true:=by rw [hv];simp;omega
         subst hb2;clear hb hv
         go_enter Try.func10,Try.ntmps10
         go_wp2
         go_ret
         exact⟨rfl,rfl⟩)
      | (have hb2:b=false:=by rw [hv];simp;omega
         subst hb2;clear hb hv
         go_enter Try.func10,Try.ntmps10
         go_wp2
         go_ret
         exact⟨rfl,rfl⟩)
theorem JU (w:World):Calls Try.prog 30 #[.slice none 0 0,.slice none 0 0] w λe w'=>e=.returned (.bool true)/\w=w':=by
  go_enter Try.func30,Try.ntmps30
  go_wp2
  go_loopw [13] (λi wr=>i=.int .i64 0/\wr=w) (λ_ _=>0)
  case atStart=>exact⟨rfl,rfl⟩
  case round=>
    obtain⟨rfl,rfl⟩:=hrel
    go_wp2
    go_ret
    exact⟨rfl,rfl⟩
theorem zK (w:World):Calls Try.prog 29 #[.agg #[.slice none 0 0,.slice none 0 0,.int .i64 0,.int .i64 0,.int .i64 0,.int .i64 0,.int .i64 0,.int .i64 0,.int .i64 0],.agg #[.slice none 0 0,.slice none 0 0,.int .i64 0,.int .i64 0,.int .i64 0,.int .i64 0,.int .i64 0,.int .i64 0,.int .i64 0]] w λe w'=>e=.returned (.bool true)/\Below w.heap.size w w':=by
  have Sm:=Lib.hid JU
  go_enter Try.func29,Try.ntmps29
  go_wp2_with (go_at_call 30;refine(Sm.out _).mono ?_;rintro e w' ⟨rfl,rfl⟩)
  obtain⟨w2,hw2⟩:∃ w2,w2=(w.alloc (.cells #[.slice none 0 0,.slice none 0 0,.int .i64 0,.int .i64 0,.int .i64 0,.int .i64 0,.int .i64 0,.int .i64 0,.int .i64 0] 32)).alloc (.cells #[.slice none 0 0,.slice none 0 0,.int .i64 0,.int .i64 0,.int .i64 0,.int .i64 0,.int .i64 0,.int .i64 0,.int .i64 0] 32):=⟨_,rfl⟩
  rw [<-hw2]
  have hb:Below w.heap.size w w2:=by rw [hw2];exact Gr.alloc (Gr.new _ _) _
  have Hb:=Lib.hid hb
  clear hb hw2
  go_loopw [45] (λi wr=>i=.int .i64 0/\wr=w2) (λ_ _=>0)
  case atStart=>exact⟨rfl,rfl⟩
  case round=>
    obtain⟨rfl,rfl⟩:=hrel
    go_wp2
    go_ret
    exact⟨rfl,Hb.out⟩
theorem none_true (w:World):Calls Try.prog 13 #[.agg #[.slice none 0 0,.slice none 0 0,.int .i64 0,.int .i64 0,.int .i64 0,.int .i64 0,.int .i64 0,.int .i64 0,.int .i64 0]] w λe w'=>e=.returned (.bool true)/\Below w.heap.size w w':=by
  have Sm:=Lib.hid zK
  go_enter Try.func13,Try.ntmps13
  go_wp2_with (go_at_call 29;refine(Sm.out _).mono ?_;rintro e w' ⟨rfl,hb⟩)
  go_ret
  exact⟨rfl,Gr.trans (Gr.new _ _) hb⟩
end
section
open Go.RowKit
theorem tK {n:Int} {calls:List aF} {np:Nat} (hck:checkN n calls np=0):∀ c,c<calls.length->0<=(calls.getD c d0).thread/\(calls.getD c d0).thread<n:=by
 obtain⟨hw0,_⟩:=jE hck
 obtain⟨z1,z2,z3,z4⟩:=kI hw0
 intro c hcl
 unfold jU at z4
 rw [List.any_eq_false] at z4
 have e:calls.getD c d0=calls[c]:=by simp [List.getD_eq_getElem?_getD,hcl]
 have h9:uW n calls[c]=false:=by simpa using z4 calls[c] (List.getElem_mem hcl)
 rw [e]
 obtain⟨y,hy⟩:∃ y,y=calls[c]:=⟨_,rfl⟩
 rw [<-hy] at h9 ⊢
 unfold uW at h9
 simp at h9
 omega
theorem DC {n:Int} {calls:List aF} {np:Nat} (hck:checkN n calls np=0):∀ c,c<calls.length->0<=(calls.getD c d0).thread/\(calls.getD c d0).thread<16:=by
 obtain⟨hw0,_⟩:=jE hck
 obtain⟨z1,z2,z3,z4⟩:=kI hw0
 intro c hc
 have:=tK hck c hc
 omega
theorem aW.take {w:World} {a:Option Addr} {l:List Int} (h:aW w a l.length 1 (iY l)) (k:Nat) (hk:k<=l.length):aW w a (l.take k).length 1 (iY (l.take k)):=by
 have e:(l.take k).length=k:=by simp;omega
 rw [e]
 refine⟨Nat.le_trans hk h.1,λj hj=>?_⟩
 obtain⟨b,off,h1,h2,h3⟩:=h.2 j (by omega)
 refine⟨b,off,h1,h2,λf hf=>?_⟩
 rw [h3 f hf]
 unfold iY
 congr 2
 simp [List.getD_eq_getElem?_getD,List.getElem?_take,hj]
structure qX (w u:World) (b:Nat) (ea:Option Addr) (en ec:Nat) (va:Option Addr) (vn vc:Nat) (rp:gT):Prop where
 ge:w.heap.size<=b
 blk:u.heap[b]?=some (.cells #[.slice ea en ec,.slice va vn vc,.int .i64 (rp.c.read:Int),.int .i64 (rp.c.write:Int),.int .i64 (rp.c.swap:Int),.int .i64 (rp.c.add:Int),.int .i64 (rp.c.fault:Int),.int .i64 (rp.ticks:Int),.int .i64 (rp.idle:Int)] 32 (0,0))
theorem qX.grown {w u u':World} {b:Nat} {ea:Option Addr} {en ec:Nat} {va:Option Addr} {vn vc:Nat} {rp:gT} (h:qX w u b ea en ec va vn vc rp) (hb:Below u.heap.size u u'):qX w u' b ea en ec va vn vc rp:=⟨h.ge,(hb.block b (aH h.blk)).trans h.blk⟩
theorem qX.cell {w u:World} {b:Nat} {ea:Option Addr} {en ec:Nat} {va:Option Addr} {vn vc:Nat} {rp:gT} (h:qX w u b ea en ec va vn vc rp) (j:Nat):u.cell? ⟨b,j,none⟩=(#[.slice ea en ec,.slice va vn vc,.int .i64 (rp.c.read:Int),.int .i64 (rp.c.write:Int),.int .i64 (rp.c.swap:Int),.int .i64 (rp.c.add:Int),.int .i64 (rp.c.fault:Int),.int .i64 (rp.ticks:Int),.int .i64 (rp.idle:Int)]:Array Value)[j]?:=aA h.blk j
end
section
open Go.RowKit
def bY (calls:List aF) (e:EvD):Int:=(calls.getD e.call d0).obj
def kindOf (calls:List aF) (e:EvD):Int:=(calls.getD e.call d0).kind
def isK (calls:List aF) (kd:Int) (e:EvD):Bool:=decide (bY calls e=0) && decide (kindOf calls e=kd) && decide (e.resp≠0)
def tP1 (calls:List aF) (t:Nat) (e:EvD):Bool:=isK calls 0 e && decide (tn calls e=t)
def tP2 (calls:List aF) (a:Nat) (e:EvD):Bool:=isK calls 0 e && decide (tn calls e<a)
def tP3 (calls:List aF) (a iv:Nat) (e:EvD):Bool:=isK calls 0 e && decide (tn calls e<a) && decide (e.resp<iv)
def tP4 (calls:List aF) (t:Nat) (e:EvD):Bool:=isK calls 0 e && decide (e.resp<=t)
theorem KL {calls:List aF} {kd:Int} {e:EvD} (h:e.resp=0):isK calls kd e=false:=by unfold isK;simp [h]
theorem oU {calls:List aF} {t:Nat} (e:EvD) (h:e.resp=0):tP4 calls t e=false:=by unfold tP4;rw [KL h];rfl
def QO (n:Nat) (calls:List aF) (st:aP (KI n)) (p:Nat) (e:EvD):TaS->Prop
 | .count seen v=>seen=true/\v=cnt (tP1 calls p) st.evs/\e.steps=1/\kindOf calls e=0
 | .read a s _=>a<n/\cnt (tP3 calls a e.inv) st.evs<=s/\s<=cnt (tP2 calls a) st.evs/\e.steps=a/\kindOf calls e=1/\(∀ i,i<st.evs.length->isK calls 0 (aB st.evs i)=true->(aB st.evs i).resp≠e.inv)
def QG (n:Nat) (calls:List aF) (evs:List EvD) (e:EvD):Prop:=
 if bY calls e≠0 then e.ans=⟨12,0,[]⟩/\e.key=[2*(e.resp:Int)]/\e.steps=1
 else if kindOf calls e=0 then e.ans=⟨0,0,[]⟩/\e.key=[2*(e.resp:Int)]/\e.steps=2/\e.inv<e.resp
 else if kindOf calls e=1 then ∃ wn v:Nat,e.ans=⟨0,v,[]⟩/\e.key=[2*(wn:Int),2*(e.resp:Int)]/\e.inv<=wn/\wn<=e.resp/\cnt (tP4 calls wn) evs=v/\cnt (tP3 calls n e.inv) evs<=v/\v<=cnt (tP4 calls e.resp) evs/\e.steps=n
 else e.ans=⟨9,0,[]⟩/\e.key=[2*(e.resp:Int)]/\e.steps=1
structure XW (n:Nat) (calls:List aF) (st:aP (KI n)):Prop where
 wlen:st.wd.mem.ws.length=n
 words:∀ t,t<n->st.wd.mem.ws.getD t 0=cnt (tP1 calls t) st.evs
 tr:∀ t:Nat,((st.wd.traces 0).filter λx=>decide (x<=(t:Int))).length=cnt (tP4 calls t) st.evs
 tinc:(st.wd.traces 0).Pairwise (·<·)
 tpos:∀ x∈st.wd.traces 0,1<=x/\x<=(st.wd.now:Int)
 hand:∀ p s k,st.hands.getD p (none,0)=(some s,k)->bY calls (aB st.evs k)=0/\QO n calls st p (aB st.evs k) s/\st.wd.inv.getD p 0=(aB st.evs k).inv
 done:∀ i,i<st.evs.length->(aB st.evs i).resp≠0->QG n calls st.evs (aB st.evs i)
 marks:st.wd.marks=List.replicate 16 []
 ilen:st.wd.inv.length=16
 fault:st.wd.mem.c.fault=0
 all:st.wd.mem.c.all<=st.wd.now
theorem From.tn {S:Sys} {calls:List aF} {st:aP S} {q i k:Nat} {s:S.σ} {aU:List EvD} {bQ:WD} (h:From calls st q i k s aU bQ) (hN:gU calls st.fin (q:Int)=some i):tn calls (aB aU k)=q:=by
 unfold Go.Proofs.Ytifhldnmcdbpfaa.tn
 rw [h.call,(fQ hN).2.1];simp
theorem From.apart {S:Sys} {calls:List aF} {st:aP S} {q i k:Nat} {s:S.σ} {aU:List EvD} {bQ:WD} (h:From calls st q i k s aU bQ) (hg:bH calls st) (hN:gU calls st.fin (q:Int)=some i) {p k2:Nat} {s2:S.σ} (hp:p≠q) (hh:st.hands.getD p (none,0)=(some s2,k2)):k2≠k/\k2<st.evs.length:=by
 obtain⟨a1,a2,a3,a4⟩:=hg.ev.hand p k2 (by unfold dU;rw [hh];rfl)
 refine⟨?_,a1⟩
 rintro rfl
 apply hp
 rw [<-a2,<-h.tn hN,h.obj.2 k2 a1]
theorem From.or {S:Sys} {calls:List aF} {st:aP S} {q i k:Nat} {s:S.σ} {aU:List EvD} {bQ:WD} (h:From calls st q i k s aU bQ) :
  (st.hands.getD q (none,0)=(some s,k)/\k<st.evs.length/\(aB st.evs k).call=i/\(aB st.evs k).resp=0/\aU=st.evs/\bQ=st.wd.tick)∨
  ((st.hands.getD q (none,0)).1=none/\dB S st.obj (st.wd.tick.begin q) q (calls.getD i d0)=.run s/\k=st.evs.length/\aU=st.evs++[eB i (st.wd.tick.begin q)]/\bQ=st.wd.tick.begin q):=by
 cases h with
 | old k s hh hk hc hr=>exact .inl ⟨hh,hk,hc,hr,rfl,rfl⟩
 | new s hh hs=>exact .inr ⟨hh,hs,rfl,rfl,rfl⟩
theorem From.inv {S:Sys} {calls:List aF} {st:aP S} {q i k:Nat} {s:S.σ} {aU:List EvD} {bQ:WD} (h:From calls st q i k s aU bQ) {p:Nat} (hp:p≠q):bQ.inv.getD p 0=st.wd.inv.getD p 0:=by
 cases h with
 | old k s hh hk hc hr=>rfl
 | new s hh hs=>exact aO (Ne.symm hp)
theorem mJ {wd:WD} {q:Nat} (h:wd.marks=List.replicate 16 []):(wd.tick.begin q).marks=List.replicate 16 []:=by
 show wd.marks.set q []=_
 rw [h]
 apply List.ext_getElem?
 intro j
 rw [List.getElem?_set]
 split
 ·rename_i e
  subst e
  rw [List.length_replicate,List.getElem?_replicate]
 ·rfl
theorem From.marks {S:Sys} {calls:List aF} {st:aP S} {q i k:Nat} {s:S.σ} {aU:List EvD} {bQ:WD} (h:From calls st q i k s aU bQ) (hm:st.wd.marks=List.replicate 16 []):bQ.marks=List.replicate 16 []:=by
 cases h with
 | old k s hh hk hc hr=>exact hm
 | new s hh hs=>exact mJ hm
theorem From.ilen {S:Sys} {calls:List aF} {st:aP S} {q i k:Nat} {s:S.σ} {aU:List EvD} {bQ:WD} (h:From calls st q i k s aU bQ) (hm:st.wd.inv.length=16):bQ.inv.length=16:=by
 cases h with
 | old k s hh hk hc hr=>exact hm
 | new s hh hs=>show(st.wd.inv.set q _).length=16;rw [List.length_set];exact hm
theorem zD {n:Int} {calls:List aF} {np:Nat} (hck:checkN n calls np=0):1<=n/\n<=16:=by
 obtain⟨hw0,_⟩:=jE hck
 obtain⟨z1,z2,z3,z4⟩:=kI hw0
 omega
theorem zN {n:Int} {calls:List aF} {np:Nat} (hck:checkN n calls np=0):np<=65536:=by
 obtain⟨_,h⟩:=jE hck
 omega
end
section
open Go.RowKit
variable {S:Sys}
structure Next (calls:List aF) (st:aP S) (q:Nat) (evs':List EvD) (k:Nat) (e1:EvD):Prop where
 lt:k<evs'.length
 self:aB evs' k=e1
 other:∀ j,j<evs'.length->j≠k->j<st.evs.length/\aB evs' j=aB st.evs j
 size:st.evs.length<=evs'.length
 old:k<st.evs.length->(aB st.evs k).resp=0
 cnt:∀ {P:EvD->Bool},(∀ e,e.resp=0->P e=false)->cnt P evs'=cnt P st.evs+(if P e1 then 1 else 0)
 apart:∀ p s2 k2,p≠q->st.hands.getD p (none,0)=(some s2,k2)->k2≠k/\k2<st.evs.length
 thr:tn calls e1=q
theorem From.next {calls:List aF} {st:aP S} {q i k:Nat} {s:S.σ} {aU:List EvD} {bQ:WD} (hg:bH calls st) (hf:From calls st q i k s aU bQ) (hN:gU calls st.fin (q:Int)=some i) (e1:EvD) (he:e1.call=(aB aU k).call):Next calls st q (aU.set k e1) k e1 where
 lt:=by rw [List.length_set];exact hf.len
 self:=hf.self e1
 other:=λj hj hjk=>hf.other e1 hj hjk
 size:=hf.size e1
 old:=λhk=>by have h1:=hf.obj.2 k hk;rw [<-h1];exact hf.open_
 cnt:=λhP=>hf.cnt hP e1
 apart:=λp s2 k2 hp hh=>hf.apart hg hN hp hh
 thr:=by have h1:=hf.tn hN;unfold Go.Proofs.Ytifhldnmcdbpfaa.tn at h1 ⊢;rw [he];exact h1
theorem qW {calls:List aF} {st:aP S} {q i:Nat} (hg:bH calls st) (hN:gU calls st.fin (q:Int)=some i) (e1:EvD) (he:e1.call=i):Next calls st q (st.evs++[e1]) st.evs.length e1 where
 lt:=by simp
 self:=jO
 other:=λj hj hjk=>by
  have h1:j<st.evs.length:=by simp at hj;omega
  exact⟨h1,uV h1⟩
 size:=by simp
 old:=λhk=>absurd hk (Nat.lt_irrefl _)
 cnt:=λhP=>by rw [tN,mK,DX];omega
 apart:=λp s2 k2 hp hh=>by
  obtain⟨a1,a2,a3,a4⟩:=hg.ev.hand p k2 (by unfold dU;rw [hh];rfl)
  exact⟨by omega,a1⟩
 thr:=by unfold tn;rw [he,(fQ hN).2.1];simp
theorem Next.past {calls:List aF} {st:aP S} {q k:Nat} {evs':List EvD} {e1:EvD} (h:Next calls st q evs' k e1) (hr:e1.resp=0∨e1.resp=st.wd.now+1) {t:Nat} (ht:t<=st.wd.now):Go.Proofs.Ytifhldnmcdbpfaa.cnt (tP4 calls t) evs'=Go.Proofs.Ytifhldnmcdbpfaa.cnt (tP4 calls t) st.evs:=by
 rw [h.cnt oU]
 have:tP4 calls t e1=false:=by
  rcases hr with h0|h0
  ·exact oU _ h0
  ·unfold tP4;rw [h0];simp;omega
 rw [this];simp
theorem Next.grow {calls:List aF} {st:aP S} {q k:Nat} {evs':List EvD} {e1:EvD} (h:Next calls st q evs' k e1):Go.Proofs.Ytifhldnmcdbpfaa.cnt (tP4 calls st.wd.now) st.evs<=Go.Proofs.Ytifhldnmcdbpfaa.cnt (tP4 calls (st.wd.now+1)) evs':=by
 rw [h.cnt oU]
 have:Go.Proofs.Ytifhldnmcdbpfaa.cnt (tP4 calls st.wd.now) st.evs<=Go.Proofs.Ytifhldnmcdbpfaa.cnt (tP4 calls (st.wd.now+1)) st.evs:=cnt_mono λj _ hp=>by
  unfold tP4 at hp ⊢
  simp only [Bool.and_eq_true,decide_eq_true_eq] at hp ⊢
  exact⟨hp.1,by omega⟩
 omega
theorem Next.more {calls:List aF} {st:aP S} {q k:Nat} {evs':List EvD} {e1:EvD} (h:Next calls st q evs' k e1) (h1:isK calls 0 e1=true) (h2:e1.resp=st.wd.now+1):Go.Proofs.Ytifhldnmcdbpfaa.cnt (tP4 calls st.wd.now) st.evs+1<=Go.Proofs.Ytifhldnmcdbpfaa.cnt (tP4 calls (st.wd.now+1)) evs':=by
 rw [h.cnt oU]
 have h3:tP4 calls (st.wd.now+1) e1=true:=by unfold tP4;rw [h1,h2];simp
 rw [h3,if_pos rfl]
 have:Go.Proofs.Ytifhldnmcdbpfaa.cnt (tP4 calls st.wd.now) st.evs<=Go.Proofs.Ytifhldnmcdbpfaa.cnt (tP4 calls (st.wd.now+1)) st.evs:=cnt_mono λj _ hp=>by
  unfold tP4 at hp ⊢
  simp only [Bool.and_eq_true,decide_eq_true_eq] at hp ⊢
  exact⟨hp.1,by omega⟩
 omega
end
section
open Go.RowKit
inductive DoS where
 | take (at_ ph:Nat)
 | once (c:aF) (r:Int×Nat)
def dK (wd:WD) (p v:Nat):WD:={ wd with mem:=iP wd.mem (p:Int) v }
def DL (c:aF) (wd:WD):WD×(Int×Nat):=(dM wd c.a,(0,dP wd c.a))
def PZ (n:Nat):Sys where
 σ:=DoS
 ω:=Unit
 start:=λ_ _ _ c=>if c.kind=0 then .run (.take 0 0) else if c.kind≠1 then .refuse 9 else if c.a<n then .run (.once c (0,0)) else .refuse 10
 step:=λ_ wd p s=>match s with
  | .take a v=>if a<n then ((),dM wd a,.take (a+1) (max v (dP wd a)),false) else ((),dK wd p (v+1),.take a (v+1),true)
  | .once c _=>((),(DL c wd).1,.once c (DL c wd).2,true)
 answer:=λs=>match s with
  | .take _ v=>(⟨0,v,[]⟩,[])
  | .once _ r=>(⟨r.1,r.2,[]⟩,[])
 late:=λ_ _ _ _=>none
def QQ (calls:List aF) (evs:List EvD) (a iv v:Nat):Prop:=∀ i,i<evs.length->isK calls 0 (aB evs i)=true->(aB evs i).resp<iv->tn calls (aB evs i)<a->(aB evs i).ans.val<=v
def SF (n:Nat) (calls:List aF) (st:aP (PZ n)) (p:Nat) (e:EvD):DoS->Prop
 | .take a v=>a<=n/\v<=cnt (tP4 calls st.wd.now) st.evs/\(p<a->st.wd.mem.ws.getD p 0<=v)/\QQ calls st.evs a e.inv v/\e.steps=a/\kindOf calls e=0/\1<=a
 | .once _ _=>False
def QZ (n:Nat) (calls:List aF) (evs:List EvD) (e:EvD):Prop:=
 e.steps<=n+1/\(bY calls e=0->kindOf calls e=0->e.inv<e.resp/\1<=e.ans.val/\e.ans.val<=cnt (tP4 calls e.resp) evs/\
  ∀ j,j<evs.length->isK calls 0 (aB evs j)=true->(aB evs j).resp<e.inv->(aB evs j).ans.val<e.ans.val)
structure YA (n:Nat) (calls:List aF) (st:aP (PZ n)):Prop where
 wlen:st.wd.mem.ws.length=n
 top:∀ t,t<n->st.wd.mem.ws.getD t 0<=cnt (tP4 calls st.wd.now) st.evs
 low:∀ i,i<st.evs.length->isK calls 0 (aB st.evs i)=true->(aB st.evs i).ans.val<=st.wd.mem.ws.getD (tn calls (aB st.evs i)) 0
 hand:∀ p s k,st.hands.getD p (none,0)=(some s,k)->bY calls (aB st.evs k)=0/\SF n calls st p (aB st.evs k) s
 done:∀ i,i<st.evs.length->(aB st.evs i).resp≠0->QZ n calls st.evs (aB st.evs i)
end
section
open Go.RowKit
structure LH where
 come:List Nat
 last:Nat
 now:Nat
inductive PiS where
 | wr (v q i ph:Nat)
 | rd (q k:Nat) (l:List Nat) (key:List Int)
def xC (q:Nat):Nat:=1+q
def mM (n w q i:Nat):Nat:=n+2+q*w+i
def KV (now q:Nat):Nat:=if q=now then q+1 else q
def BF (q now:Nat):Nat:=((q+18446744073709551616 - now) % 18446744073709551616)*4294967296 % 18446744073709551616
def QI (o:LH) (c:Nat):List Nat:=o.come.set o.now ((o.come.getD o.now 0+(c+18446744073709551616 - o.last) % 18446744073709551616) % 18446744073709551616)
def JH (wd:WD) (a d:Nat):WD:={ wd with mem:=(xF wd.mem (a:Int) d).1 }
def MK (wd:WD) (a d:Nat):Nat:=(xF wd.mem (a:Int) d).2
def OD (n w:Nat):Sys where
 σ:=PiS
 ω:=LH
 start:=λo _ p c=>if c.kind=1 then .run (.rd 0 0 [] []) else if c.kind≠0 then .refuse 9 else if p≠0 then .refuse 11 else .run (.wr c.a (KV o.now 0) 0 0)
 step:=λo wd _ s=>match s with
  | .wr v q i 0=>if dP wd (xC q)=o.come.getD q 0 then (o,dM wd (xC q),.wr v q i 1,false) else (o,dM wd (xC q),.wr v (KV o.now (q+1)) i 0,false)
  | .wr v q i 1=>(o,dK wd (mM n w q i) ((v+i) % 18446744073709551616),.wr v q (i+1) (if i+1=w then 2 else 1),false)
  | .wr v q i (k+2)=>(⟨QI o (MK wd 0 (BF q o.now) % 4294967296),MK wd 0 (BF q o.now) % 4294967296,q⟩,JH wd 0 (BF q o.now),.wr v q i (k+2),true)
  | .rd _ 0 l _=>(o,JH wd 0 1,.rd (MK wd 0 1 / 4294967296) 1 l (iW wd),false)
  | .rd q (k+1) l key=>if k<w then (o,dM wd (mM n w q k),.rd q (k+2) (l++[dP wd (mM n w q k)]) key,false) else (o,JH wd (xC q) 1,.rd q (k+2) l key,true)
 answer:=λs=>match s with
  | .wr _ _ _ _=>(⟨0,0,[]⟩,[])
  | .rd _ _ l key=>(⟨0,0,l⟩,key)
 late:=λ_ _ _ _=>none
end
section
open Go.RowKit
structure ScD where
 pc:Nat
 at_:Nat
 rounds:Nat
 old:List Nat
 now:List Nat
 last:Nat
 diff:List Bool
 from_:Nat
 list:List Nat
 moment:Int
inductive SnS where
 | rd (s:ScD) (key:List Int)
 | up (s:ScD) (p record next v:Nat) (scanned:Bool)
def XM:ScD:=⟨0,0,0,List.replicate 16 0,List.replicate 16 0,0,List.replicate 16 false,0,[],0⟩
def jG (n p t r:Nat):Nat:=n+(t*p+r)*(n+1)
def NI (old now:List Nat):Nat->Nat->List Bool->List Bool×Option Nat
 | 0,_,d=>(d,none)
 | m+1,t,d=>if old.getD t 0=now.getD t 0 then NI old now m (t+1) d
  else if d.getD t false=true then (d,some (now.getD t 0))
  else NI old now m (t+1) (d.set t true)
def BP (n:Nat):Nat->ScD->ScD
 | 0,s=>{ s with pc:=if s.at_=n then 3 else s.pc }
 | m+1,s=>if s.at_<n/\s.now.getD s.at_ 0=0 then BP n m { s with list:=s.list++[0],at_:=s.at_+1 } else { s with pc:=if s.at_=n then 3 else s.pc }
def SV (n:Nat) (wd:WD) (s:ScD):ScD:=
 if s.rounds+1=1 then { s with at_:=0,rounds:=s.rounds+1,old:=s.now,last:=wd.now }
 else if s.old=s.now then BP n n { s with at_:=0,rounds:=s.rounds+1,pc:=1,moment:=s.last }
 else match NI s.old s.now n 0 s.diff with
  | (d,some f)=>{ s with at_:=0,rounds:=s.rounds+1,diff:=d,pc:=2,from_:=f,moment:=(wd.traces f).headD 0 }
  | (d,none)=>{ s with at_:=0,rounds:=s.rounds+1,diff:=d,old:=s.now,last:=wd.now }
def NE (s:ScD):Nat:=if s.pc=0 then s.at_ else if s.pc=1 then s.now.getD s.at_ 0 else s.from_+1+s.at_
def RA (n:Nat) (wd:WD) (g:Nat) (s:ScD):ScD:=
 if s.pc=0 then (if s.at_+1=n then SV n wd { s with now:=s.now.set s.at_ g,at_:=s.at_+1 } else { s with now:=s.now.set s.at_ g,at_:=s.at_+1 })
 else if s.pc=1 then BP n n { s with list:=s.list++[g],at_:=s.at_+1 }
 else { s with list:=s.list++[g],at_:=s.at_+1,pc:=if s.at_+1=n then 3 else s.pc }
def UC (wd:WD) (s:ScD):WD:=dM wd (NE s)
def GN (n:Nat) (wd:WD) (s:ScD):ScD:=RA n wd (dP wd (NE s)) s
def nH (wd:WD) (r:Nat) (m:Int):WD:={ wd with traces:=vH wd.traces (r:Int) [m] }
def EE (n k:Nat):Sys where
 σ:=SnS
 ω:=List Nat
 start:=λo _ p c=>if c.kind=1 then .run (.rd XM []) else if c.kind≠0 then .refuse 9 else if k<=o.getD p 0 then .refuse 6 else .run (.up XM p (jG n k p (o.getD p 0)) 0 c.a false)
 step:=λo wd _ s=>match s with
  | .rd s key=>(o,UC wd s,.rd (GN n wd s) (if (GN n wd s).pc=3 then [2*(GN n wd s).moment,2*(wd.now:Int)] else key),decide ((GN n wd s).pc=3))
  | .up s p r nx v false=>(o,UC wd s,.up (GN n wd s) p r nx v (decide ((GN n wd s).pc=3)),false)
  | .up s p r 0 v true=>(o,dK wd r v,.up s p r 1 v true,false)
  | .up s p r (i+1) v true=>if i+1<=n then (o,dK wd (r+(i+1)) (s.list.getD i 0),.up s p r (i+2) v true,false)
   else (o.set p (o.getD p 0+1),dK (nH wd r s.moment) p r,.up s p r (i+2) v true,true)
 answer:=λs=>match s with
  | .rd s key=>(⟨0,0,s.list⟩,key)
  | .up _ _ _ _ _ _=>(⟨0,0,[]⟩,[])
 late:=λ_ _ _ _=>none
end
end Go.Proofs.Ytifhldnmcdbpfaa
