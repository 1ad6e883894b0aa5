/- Layer 5's reference: Wrong, and Now: the first call of a thread that is not finished. -/
import Derived.Test.YteffgpcjfnjlkaaGreatX07
import Derived.Test.YteffgpcjfnjlkaaGreatX12
import Derived.Test.YteffgpcjfnjlkaaGreatX14
import Derived.Test.YteffgpcjfnjlkaaGreatX13
import Derived.Test.YteffgpcjfnjlkaaGreatX05
import Derived.Deep.AppendLies
import Derived.Deep.Cut
import Derived.Test.YteffgpcjfnjlkaaGreatX15
import Derived.Test.YteffgpcjfnjlkaaGreatX01
set_option maxRecDepth 100000
set_option linter.unusedVariables false
set_option linter.unusedSimpArgs false
set_option linter.unnecessarySimpa false
namespace Go.Proofs.YteffgpcjfnjlkaaGreat
section
open Go.RowKit
theorem rwrong_any (n:Int) (l:List CallD) (a:Option Addr) (c:Nat) (w:World) (hs:SlAt w a l.length 6 (callG l)) :
  Calls Tryz.prog 68 #[.int .i64 n,.slice a l.length c] w λe w'=>e=.returned (.int .i64 (wrongN n l))/\Below w.heap.size w w':=by
 have hm:=hs.1
 unfold maxLen at hm
 have Hs:=Lib.hid hs;clear hs
 obtain⟨R,hR⟩:∃ R,R=wrongN n l:=⟨_,rfl⟩
 rw [<-hR]
 have HR:=Lib.hid hR;clear hR
 by_cases h1:n<1
 ·have hr:R=1:=by rw [HR.out];unfold wrongN;rw [if_pos (.inl h1)]
  subst hr
  go_enter Tryz.func68,Tryz.ntmps68
  go_wp2
  go_ret
  exact⟨rfl,Gr.refl _⟩
 by_cases h2:16<n
 ·have hr:R=1:=by rw [HR.out];unfold wrongN;rw [if_pos (.inr h2)]
  subst hr
  go_enter Tryz.func68,Tryz.ntmps68
  go_wp2
  go_ret
  exact⟨rfl,Gr.refl _⟩
 by_cases h3:1000<l.length
 ·have hr:R=3:=by rw [HR.out];unfold wrongN;rw [if_neg (by omega),if_pos h3]
  subst hr
  have h4:(1000:Int)<l.length:=by omega
  go_enter Tryz.func68,Tryz.ntmps68
  go_wp2
  go_ret
  exact⟨rfl,Gr.refl _⟩
 have hr:R=if anyBad n l=true then 1 else 0:=by rw [HR.out];unfold wrongN;rw [if_neg (by omega),if_neg h3];rfl
 have HR2:=Lib.hid hr
 clear hr HR
 go_enter Tryz.func68,Tryz.ntmps68
 go_wp2
 go_loopw [5,17] (λ_ i wr=>∃ k:Nat,k<=l.length/\i=.int .i64 k/\Hid (∀ j,(h:j<k)->(hl:j<l.length)->badT n l[j]=false)/\Below w.heap.size w wr) (λ_ i _=>l.length - (intOf i).toNat)
 case atStart=>exact⟨0,Nat.zero_le _,rfl,λj h=>absurd h (Nat.not_lt_zero j),Gr.refl _⟩
 case round=>
  obtain⟨k,hk,rfl,hok,hb⟩:=hrel
  by_cases hlt:k<l.length
  ·obtain⟨b,off,rfl,c0,_⟩:=call_cells Hs.out hb hlt
   obtain⟨t,ht⟩:∃ t,t=l[k].thread:=⟨_,rfl⟩
   rw [<-ht] at c0
   have Ht:=Lib.hid ht;clear ht
   have hl1:(k:Int)<l.length:=by omega
   by_cases hb1:t<0
   ·have hbad:R=1:=by rw [HR2.out,if_pos (by unfold anyBad;exact List.any_eq_true.2 ⟨l[k],List.getElem_mem hlt,by unfold badT;rw [<-Ht.out];simp [hb1]⟩)]
    subst hbad
    have hd:decide (t<0)=true:=by simpa using hb1
    go_wp2
    all_goals go_ret
    all_goals exact⟨rfl,hb⟩
   ·by_cases hb2:n<=t
    ·have hbad:R=1:=by rw [HR2.out,if_pos (by unfold anyBad;exact List.any_eq_true.2 ⟨l[k],List.getElem_mem hlt,by unfold badT;rw [<-Ht.out];simp [hb2]⟩)]
     subst hbad
     go_wp2
     all_goals go_ret
     all_goals exact⟨rfl,hb⟩
    ·go_wp2
     go_roundw
     case rel=>
      refine⟨k+1,by omega,by go_num,?_,hb⟩
      intro j h hl
      rcases Nat.lt_succ_iff_lt_or_eq.1 h with h|rfl
      ·exact hok.out j h hl
      ·unfold badT;rw [<-Ht.out];simp;omega
     case measure=>simp [intOf]<;>omega
  ·obtain rfl:k=l.length:=by omega
   have hz:R=0:=by
    rw [HR2.out,if_neg]
    unfold anyBad
    rw [List.any_eq_true]
    rintro⟨x,hx,hbx⟩
    obtain⟨j,hj,rfl⟩:=List.getElem_of_mem hx
    rw [hok.out j hj hj] at hbx
    cases hbx
   subst hz
   go_wp2
   go_ret
   exact⟨rfl,hb⟩
theorem rnow_any (l:List CallD) (fin:List Bool) (p:Int) (a a2:Option Addr) (c c2:Nat) (w:World) (hs:SlAt w a l.length 6 (callG l)) (hs2:SlAt w a2 l.length 1 (boolG fin)) :
  Calls Tryz.prog 54 #[.slice a l.length c,.slice a2 l.length c2,.int .i64 p] w λe w'=>e=.returned (.int .i64 (nowI (nowN l fin p)))/\w=w':=by
 have hm:=hs.1
 unfold maxLen at hm
 have Hs:=Lib.hid hs;have Hs2:=Lib.hid hs2;clear hs hs2
 obtain⟨R,hR⟩:∃ R,R=nowI (nowN l fin p):=⟨_,rfl⟩
 rw [<-hR]
 have HR:=Lib.hid hR;clear hR
 go_enter Tryz.func54,Tryz.ntmps54
 go_wp2
 go_loop [7,10] (λ_ i=>∃ k:Nat,k<=l.length/\i=.int .i64 k/\Hid (∀ j,(h:j<k)->nowIs l fin p j=false)) (λ_ i=>l.length - (intOf i).toNat)
 case atStart=>exact⟨0,Nat.zero_le _,rfl,λj h=>absurd h (Nat.not_lt_zero j)⟩
 case round=>
  obtain⟨k,hk,rfl,hok⟩:=hrel
  by_cases hlt:k<l.length
  ·obtain⟨b,off,rfl,c0,_⟩:=call_cells Hs.out (Gr.refl w) hlt
   obtain⟨b2,off2,rfl,hc2⟩:=Hs2.out.elem (Gr.refl w) hlt
   obtain⟨f,hf⟩:∃ f,f=fin.getD k false:=⟨_,rfl⟩
   have c1:w.cell? ⟨b2,off2+k,none⟩=some (.bool f):=by have h0:=hc2 0 (by omega);rw [Nat.mul_one,Nat.add_zero] at h0;rw [h0,hf];rfl
   obtain⟨t,ht⟩:∃ t,t=l[k].thread:=⟨_,rfl⟩
   rw [<-ht] at c0
   have hns:nowIs l fin p k=(decide (t=p) && !f):=by unfold nowIs;rw [<-hf,List.getD_eq_getElem?_getD];simp [hlt,<-ht]
   have Hns:=Lib.hid hns
   have hl1:(k:Int)<l.length:=by omega
   clear hc2 hf ht hns
   have hstep:nowIs l fin p k=false->Hid (∀ j,(h:j<k+1)->nowIs l fin p j=false):=λhn j h=>by
    rcases Nat.lt_succ_iff_lt_or_eq.1 h with h|rfl
    ·exact hok.out j h
    ·exact hn
   by_cases h1:t=p
   ·have hbeq:(t == p)=true:=by simpa using h1
    cases f with
    | false=>
     have hfound:R=(k:Int):=by
      rw [HR.out]
      unfold nowN
      rw [find_range_split _ _ k hk hok.out,show l.length - k=(l.length - k - 1)+1 by omega,List.range_succ_eq_map]
      simp [Hns.out,h1,nowI]
     have Hf:=Lib.hid hfound
     clear hstep h1 hfound
     go_wp2
     go_ret
     exact⟨ret_i64 Hf.out.symm,rfl⟩
    | true=>
     have Hst:=Lib.hid (hstep (by rw [Hns.out];simp))
     clear hstep h1
     go_wp2
     go_round
     case rel=>exact⟨k+1,by omega,by go_num,Hst.out⟩
     case measure=>simp [intOf]<;>omega
   ·have hbeq:(t == p)=false:=by simpa using h1
    have Hst:=Lib.hid (hstep (by rw [Hns.out];simp [h1]))
    clear hstep h1
    go_wp2
    go_round
    case rel=>exact⟨k+1,by omega,by go_num,Hst.out⟩
    case measure=>simp [intOf]<;>omega
  ·obtain rfl:k=l.length:=by omega
   have hnone:R=-1:=by
    rw [HR.out]
    unfold nowN
    rw [find_range_split _ _ l.length (Nat.le_refl _) hok.out]
    simp [nowI]
   subst hnone
   go_wp2
   go_ret
   exact⟨rfl,rfl⟩
end
section

/- Layer 6: cells as the loom's object. -/
open Go.RowKit
section
variable (w:World) (Mut:Nat->Prop) (I:WIds) (N:Nat) (wd:WD) (b bc ba:Nat) (c:CallD)
end
end
section

/- Layer 6: loom.Cells. -/
open Go.RowKit
end
section

/- Layer 6: the rows of a report (6.3), in plain numbers. -/
open Go.RowKit
def Within (k:List Int) (inv resp:Nat):Prop:=k≠[]/\2*(inv:Int)<=k.headD 0/\k.headD 0<=2*(resp:Int)
structure KeySys (S:Sys):Prop where
 now:∀ o wd p s,(S.step o wd p s).2.1.now=wd.now
 mlen:∀ o wd p s,(S.step o wd p s).2.1.marks.length=wd.marks.length
 mark:∀ o wd p s q,(S.step o wd p s).2.1.marks.getD q []=wd.marks.getD q []∨∃ rest,(S.step o wd p s).2.1.marks.getD q []=2*(wd.now:Int)::rest
 ans:∀ s,(S.answer s).2=[]
 late:∀ o wd p s,S.late o wd p s=none
structure KeyInv {S:Sys} (calls:List CallD) (st:PlayD S):Prop where
 good:StGood calls st
 m16:st.wd.marks.length=16
 keys:∀ i,i<st.evs.length->(evAt st.evs i).resp≠0->Within (evAt st.evs i).key (evAt st.evs i).inv (evAt st.evs i).resp
 none_:∀ i,i<st.evs.length->(evAt st.evs i).resp=0->(evAt st.evs i).key=[]
 marks:∀ p k,hndOf st.hands p=some k->st.wd.marks.getD p []=[]∨Within (st.wd.marks.getD p []) (evAt st.evs k).inv st.wd.now
variable {S:Sys}
theorem Within.more {k:List Int} {inv a b:Nat} (h:Within k inv a) (hab:a<=b):Within k inv b:=⟨h.1,h.2.1,by have:=h.2.2;omega⟩
end
section

/- Layer 6: a report's rows, in plain numbers: what roundelayplain.Rows asks for. -/
open Go.RowKit
variable {S:Sys}
structure RowGood (calls:List CallD) (n:Nat) (ticks:Nat) (e:EvD):Prop where
 call:e.call<calls.length
 thr:0<=(calls.getD e.call d0).thread/\(calls.getD e.call d0).thread<n
 inv1:1<=e.inv
 invt:e.inv<=ticks
 steps:1<=e.steps
 resp:e.resp≠0->e.inv<=e.resp/\e.resp<=ticks/\e.steps<=e.resp - e.inv+1/\Within e.key e.inv e.resp
 open_:e.resp=0->e.key=[]∨Within e.key e.inv ticks
structure RowsGood (calls:List CallD) (n:Nat) (r:RepD):Prop where
 n1:1<=n
 n16:n<=16
 ev:∀ i,i<r.evs.length->RowGood calls n r.ticks (evAt r.evs i)
 rise:∀ i j,i<j->j<r.evs.length->(evAt r.evs i).inv<(evAt r.evs j).inv
 same:∀ i j,i<j->j<r.evs.length->tn calls (evAt r.evs i)=tn calls (evAt r.evs j)->(evAt r.evs i).resp≠0/\(evAt r.evs i).resp<(evAt r.evs j).inv/\(evAt r.evs i).call<(evAt r.evs j).call
 sum:(r.evs.map (·.steps)).sum=r.ticks
 fault:r.c.fault=0
 all:r.c.read+r.c.write+r.c.swap+r.c.add<=r.ticks
 small:r.ticks<1000000
structure KeysFit (st:PlayD S):Prop where
 keys:∀ i,i<st.evs.length->(evAt st.evs i).resp≠0->Within (evAt st.evs i).key (evAt st.evs i).inv (evAt st.evs i).resp
 late:∀ p s k,st.hands.getD p (none,0)=(some s,k)->(S.late st.obj st.wd p s).getD (st.wd.marks.getD p [])=[]∨Within ((S.late st.obj st.wd p s).getD (st.wd.marks.getD p [])) (evAt st.evs k).inv st.wd.now
end
section

/- Counting events of a play, in plain numbers. -/
open Go.RowKit
def cnt (P:EvD->Bool) (l:List EvD):Nat:=(l.map λe=>if P e then 1 else 0).sum
theorem cnt_nil (P:EvD->Bool):cnt P []=0:=rfl
theorem cnt_cons (P:EvD->Bool) (e:EvD) (l:List EvD):cnt P (e::l)=(if P e then 1 else 0)+cnt P l:=rfl
theorem cnt_append (P:EvD->Bool) (l m:List EvD):cnt P (l++m)=cnt P l+cnt P m:=by unfold cnt;rw [List.map_append,List.sum_append]
theorem cnt_set (P:EvD->Bool) (l:List EvD) (k:Nat) (e:EvD) (hk:k<l.length):cnt P (l.set k e)+(if P (evAt l k) then 1 else 0)=cnt P l+(if P e then 1 else 0):=sum_map_set _ l k e hk
theorem cnt_mono {P Q:EvD->Bool}:∀ {l:List EvD},(∀ i,i<l.length->P (evAt l i)=true->Q (evAt l i)=true)->cnt P l<=cnt Q l
 | [],_=>Nat.le_refl _
 | e::l,h=>by
  rw [cnt_cons,cnt_cons]
  have h1:=cnt_mono (P:=P) (Q:=Q) (l:=l) (λi hi hp=>h (i+1) (by simp;omega) hp)
  have h2:=h 0 (by simp)
  have h3:evAt (e::l) 0=e:=rfl
  rw [h3] at h2
  cases hp:P e with
  | true=>rw [h2 hp];simp;omega
  | false=>simp;omega
variable {S:Sys}
theorem From.cnt {calls:List CallD} {st:PlayD S} {q i k:Nat} {s:S.σ} {evs0:List EvD} {wd0:WD} (h:From calls st q i k s evs0 wd0) {P:EvD->Bool} (hP:∀ e,e.resp=0->P e=false) (e:EvD):cnt P (evs0.set k e)=cnt P st.evs+(if P e then 1 else 0):=by
 have h1:=cnt_set P evs0 k e h.len
 rw [hP _ h.open_] at h1
 have h2:Go.Proofs.YteffgpcjfnjlkaaGreat.cnt P evs0=Go.Proofs.YteffgpcjfnjlkaaGreat.cnt P st.evs:=by
  cases h with
  | old k s hh hk hc hr=>rfl
  | new s hh hs=>rw [cnt_append,cnt_cons,hP _ rfl,cnt_nil];simp
 rw [h2] at h1
 simpa using h1
end
section

/- Layer 6: the order of keys, in plain lists. -/
open Go.RowKit
end
section

/- Layer 9: adder.Play. -/
open Go.RowKit
abbrev adderS:Sys:=onceSys adderRef adderAct
end
section

/- Layer 9: tickets, in plain numbers. -/
open Go.RowKit
def tkCall (n k:Nat):CallD:=⟨((k % n:Nat):Int),0,2,0,0,0⟩
def tk (n m:Nat):List CallD:=(List.range m).map (tkCall n)
structure TkInv (st:PlayD adderS) (k:Nat):Prop where
 h16:st.hands.length=16
 none_:∀ p,(st.hands.getD p (none,0)).1=none
 now:st.wd.now=st.evs.length
 ws:st.wd.mem.ws=[st.evs.length]
 evs:∀ i,i<st.evs.length->(st.evs.getD i ev0).ans.val=i/\(st.evs.getD i ev0).resp=i+1
 len:st.evs.length<=k
end
section

/- Layer 9: the walk of AdderTickets. -/
open Go.RowKit
theorem RepAt.event {X:Nat->Prop} {B:Nat} {w:World} {ea:Option Addr} {en ec:Nat} {wv:Value} {ers:List (Value×Value)} {r:RepD} (h:RepAt X B w (.slice ea en ec) wv ers r) (hn:en=r.evs.length) (h0:0<en) :
  ∃ g,ea=some ⟨g,0,none⟩/\g<w.heap.size/\∀ i f,i<en->f<8->w.cell? ⟨g,i*8+f,none⟩=(evCells (r.evs.getD i ev0) (ers.getD i vv0))[f]?:=by
 obtain⟨g,c,h1,h2,h3⟩:=h.row.form (by omega)
 simp only [Value.slice.injEq] at h1
 obtain⟨rfl,h4,h5⟩:=h1
 refine⟨g,rfl,h3,λi f hi hf=>?_⟩
 have hr:=h.row
 rw [<-hn] at hr
 rw [hr.cellAt _ (by omega),evRow_get _ _ _ _ h.elen.symm (by omega) hf]
theorem RepAt.word {X:Nat->Prop} {B:Nat} {w:World} {ev:Value} {va:Option Addr} {vn vc:Nat} {ers:List (Value×Value)} {r:RepD} (h:RepAt X B w ev (.slice va vn vc) ers r) (hn:vn=r.words.length) (h0:0<vn) :
  ∃ q,va=some ⟨q,0,none⟩/\q<w.heap.size/\∀ j,j<vn->w.cell? ⟨q,j,none⟩=some (.int .u64 ((r.words.getD j 0:Nat):Int)):=by
 obtain⟨g,c,h1,h2,h3⟩:=h.words.form (by omega)
 simp only [Value.slice.injEq] at h1
 obtain⟨rfl,h4,h5⟩:=h1
 refine⟨g,rfl,h3,λj hj=>?_⟩
 have hr:=h.words
 rw [<-hn] at hr
 rw [hr.cellAt _ (by omega)]
 simp [u64V,List.getD_eq_getElem?_getD,show j<r.words.length by omega]
def callL (c:CallD):List Value:=[.int .i64 c.thread,.int .i64 c.obj,.int .i64 c.kind,.int .u64 (c.a:Int),.int .u64 (c.b:Int),.int .u64 (c.c:Int)]
theorem callL_get:∀(l:List CallD) (j f:Nat),j<l.length->f<6->(l.flatMap callL)[j*6+f]?=some (callG l j f)
 | [],j,_,h,_=>by simp at h
 | c::l,0,f,_,hf=>by
  simp only [List.flatMap_cons,Nat.zero_mul,Nat.zero_add]
  rw [List.getElem?_append_left (by simpa [callL] using hf)]
  match f,hf with
  | 0,_=>rfl
  | 1,_=>rfl
  | 2,_=>rfl
  | 3,_=>rfl
  | 4,_=>rfl
  | 5,_=>rfl
 | c::l,j+1,f,h,hf=>by
  simp only [List.flatMap_cons]
  rw [List.getElem?_append_right (by simp [callL];omega),show(j+1)*6+f - (callL c).length=j*6+f by simp [callL];omega,callL_get l j f (by simpa using h) hf]
  simp [callG]
theorem calls_block {w:World} {b:Nat} {l:List CallD} {fz:Nat×Nat} (h:w.heap[b]?=some (.cells (l.flatMap callL).toArray 48 fz)) (hl:l.length<=1000000):SlAt w (some ⟨b,0,none⟩) l.length 6 (callG l):=by
 refine⟨by unfold maxLen;omega,λj hj=>⟨b,0,rfl,blk_lt h,λf hf=>?_⟩⟩
 rw [Nat.zero_add,cell_blk h]
 simpa using callL_get l j f hj hf
theorem ints_block {w:World} {b:Nat} {l:List Int} {fz:Nat×Nat} (h:w.heap[b]?=some (.cells (l.map (Value.int .i64)).toArray 3 fz)) (hl:l.length<=1000000):SlAt w (some ⟨b,0,none⟩) l.length 1 (intG l):=by
 refine⟨by unfold maxLen;omega,λj hj=>⟨b,0,rfl,blk_lt h,λf hf=>?_⟩⟩
 obtain rfl:f=0:=by omega
 rw [cell_blk h]
 simp [intG,List.getD_eq_getElem?_getD,hj]
theorem callOk_small {t k:Int} (h1:0<=t) (h2:t<16) (h3:0<=k) (h4:k<16) {a b c:Nat} (ha:a<100) (hb:b<100) (hc:c<100):CallOk ⟨t,0,k,a,b,c⟩:=
 ⟨by simp [Lit.wf,IntKind.min,IntKind.max,IntKind.signed,IntKind.bits];omega,by rfl,by simp [Lit.wf,IntKind.min,IntKind.max,IntKind.signed,IntKind.bits];omega,by simp only;omega,by simp only;omega,by simp only;omega⟩
end
section

/- Layer 6: the order of keys: the walks of ahead, Order. -/
open Go.RowKit
end
section

/- Layer 7: the walk of ConsAgrees. -/
open Go.RowKit
def manyB (l p:Nat):Bool:=decide ((60<l/\l<=1000)∨(600<p/\p<=65536)∨1100<l)
theorem many_any (ca pa:Option Addr) (l p cc pc:Nat) (w:World) (hl:l<=maxLen) (hp:p<=maxLen) :
    Calls Tryz.prog 11 #[.slice ca l cc,.slice pa p pc] w λe w'=>e=.returned (.bool (manyB l p))/\w=w':=by
  unfold maxLen at hl hp
  obtain⟨b,hb⟩:∃ b,b=manyB l p:=⟨_,rfl⟩
  rw [<-hb]
  by_cases h1:(60:Int)<(l:Int)<;>by_cases h2:(l:Int)<=1000<;>by_cases h3:(600:Int)<(p:Int)<;>by_cases h4:(p:Int)<=65536<;>by_cases h5:(1100:Int)<(l:Int)
  all_goals first|(exfalso;omega)|skip
  all_goals
    have hv:b=decide ((60<l/\l<=1000)∨(600<p/\p<=65536)∨1100<l):=hb
    first
      | (have hb2:b=true:=by rw [hv];simp;omega
         subst hb2;clear hb hv
         go_enter Tryz.func11,Tryz.ntmps11
         go_wp2
         go_ret
         exact⟨rfl,rfl⟩)
      | (have hb2:b=false:=by rw [hv];simp;omega
         subst hb2;clear hb hv
         go_enter Tryz.func11,Tryz.ntmps11
         go_wp2
         go_ret
         exact⟨rfl,rfl⟩)
end
section

/- A report's events, as the laws' checks meet them. -/
open Go.RowKit
theorem RepAt.ev8 {X:Nat->Prop} {B:Nat} {w wr:World} {ea:Option Addr} {en ec:Nat} {wv:Value} {ers:List (Value×Value)} {r:RepD} (h:RepAt X B w (.slice ea en ec) wv ers r) (hn:en=r.evs.length) {k:Nat} (hk:k<en) (hb:Below w.heap.size w wr) :
  ∃ g la lc ka kc,ea=some ⟨g,0,none⟩/\g<wr.heap.size/\
   wr.cell? ⟨g,k*8,none⟩=some (.int .i64 ((evAt r.evs k).call:Int))/\wr.cell? ⟨g,k*8+1,none⟩=some (.int .i64 ((evAt r.evs k).inv:Int))/\wr.cell? ⟨g,k*8+2,none⟩=some (.int .i64 ((evAt r.evs k).resp:Int))/\wr.cell? ⟨g,k*8+3,none⟩=some (.int .i64 ((evAt r.evs k).steps:Int))/\
   wr.cell? ⟨g,k*8+4,none⟩=some (.int .i64 (evAt r.evs k).ans.err)/\wr.cell? ⟨g,k*8+5,none⟩=some (.int .u64 ((evAt r.evs k).ans.val:Int))/\wr.cell? ⟨g,k*8+6,none⟩=some (.slice la (evAt r.evs k).ans.list.length lc)/\wr.cell? ⟨g,k*8+7,none⟩=some (.slice ka (evAt r.evs k).key.length kc)/\
   SlAt wr la (evAt r.evs k).ans.list.length 1 (u64G (evAt r.evs k).ans.list)/\SlAt wr ka (evAt r.evs k).key.length 1 (intG (evAt r.evs k).key)/\((evAt r.evs k).key=[]->ka=none/\kc=0):=by
 obtain⟨g,rfl,hg,hev⟩:=h.event hn (by omega)
 have hans:=h.ans k (by rw [<-hn];exact hk)
 obtain⟨V,hV⟩:∃ V,V=ers.getD k vv0:=⟨_,rfl⟩
 rw [<-hV] at hans
 obtain⟨⟨la,lc,hlv,hls,_⟩,⟨ka,kc,hkv,hkn,hks,_⟩⟩:=hans
 have hcells:∀ f,f<8->wr.cell? ⟨g,k*8+f,none⟩=(evCells (evAt r.evs k) V)[f]?:=λf hf=>by rw [hb.cell hg,hev k f hk hf,hV];rfl
 refine⟨g,la,lc,ka,kc,rfl,Nat.lt_of_lt_of_le hg hb.size,hcells 0 (by omega),hcells 1 (by omega),hcells 2 (by omega),hcells 3 (by omega),hcells 4 (by omega),hcells 5 (by omega),?_,?_,hls.grown hb,hks.grown hb,λh0=>?_⟩
 ·rw [hcells 6 (by omega)];exact congrArg some hlv
 ·rw [hcells 7 (by omega)];exact congrArg some hkv
 ·have:=hkn h0
  rw [hkv] at this
  simp only [Value.slice.injEq] at this
  exact⟨this.1,this.2.2⟩
end
section

/- Layer 6: the walk of roundelayplain.Order. -/
open Go.RowKit
theorem row_at {w:World} {B:Nat} {e:TypeId} {g n cap:Nat} {xs:List Value} (h:w.ownsRow B e 1 (.slice (some ⟨g,0,none⟩) n cap) n xs) {j:Nat} {u:Value} (hj:xs[j]?=some u):w.cell? ⟨g,j,none⟩=some u/\w.frozen? ⟨g,j,none⟩=false:=by
 have hc:=h
 obtain⟨h1,h2⟩:=h
 rcases h2 with⟨hv,_⟩|⟨g',cap',cur,hv,hg,hh,r1,r2,r3,r4⟩
 ·cases hv
 ·cases hv
  refine⟨?_,frozen_blk hh j⟩
  have:=hc.cells (g:=g) rfl j _ hj
  rw [addr_add0] at this
  exact this
end
section

/- The reference's play: why calls are not played, how many words an object has, where it begins. -/
open Go.RowKit
theorem rcheck_any (n:Int) (calls:List CallD) (np:Nat) (ca pa:Option Addr) (cc pc:Nat) (w:World) (hs:SlAt w ca calls.length 6 (callG calls)) (hp:np<=maxLen) :
  Calls Tryz.prog 50 #[.int .i64 n,.slice ca calls.length cc,.slice pa np pc] w λe w'=>e=.returned (.int .i64 (checkN n calls np))/\Below w.heap.size w w':=by
 have W:=Lib.hid (rwrong_any n calls ca cc w hs)
 have hm:=hs.1
 unfold maxLen at hm hp
 clear hs
 obtain⟨R,hR⟩:∃ R,R=checkN n calls np:=⟨_,rfl⟩
 rw [<-hR]
 by_cases h1:n<1
 ·have hr:R=1:=by rw [hR];unfold checkN;rw [if_pos (.inl h1)]
  subst hr
  clear hR
  go_enter Tryz.func50,Tryz.ntmps50
  go_wp2
  go_ret
  exact⟨rfl,Gr.refl _⟩
 by_cases h2:16<n
 ·have hr:R=1:=by rw [hR];unfold checkN;rw [if_pos (.inr h2)]
  subst hr
  clear hR
  go_enter Tryz.func50,Tryz.ntmps50
  go_wp2
  go_ret
  exact⟨rfl,Gr.refl _⟩
 by_cases h3:1000<calls.length
 ·have hr:R=3:=by rw [hR];unfold checkN;rw [if_neg (by omega),if_pos (.inl h3)]
  subst hr
  have h4:(1000:Int)<calls.length:=by omega
  clear hR
  go_enter Tryz.func50,Tryz.ntmps50
  go_wp2
  go_ret
  exact⟨rfl,Gr.refl _⟩
 by_cases h5:65536<np
 ·have hr:R=3:=by rw [hR];unfold checkN;rw [if_neg (by omega),if_pos (.inr h5)]
  subst hr
  have h4:¬ (1000:Int)<calls.length:=by omega
  have h6:(65536:Int)<np:=by omega
  clear hR
  go_enter Tryz.func50,Tryz.ntmps50
  go_wp2
  go_ret
  exact⟨rfl,Gr.refl _⟩
 ·have hr:R=wrongN n calls:=by rw [hR];unfold checkN;rw [if_neg (by omega),if_neg (by omega)]
  rw [<-hr] at W
  have h4:¬ (1000:Int)<calls.length:=by omega
  have h6:¬ (65536:Int)<np:=by omega
  clear hR hr
  go_enter Tryz.func50,Tryz.ntmps50
  go_wp2_with (go_at_call 68;refine(W.out).mono ?_;rintro e w' ⟨rfl,hb⟩)
  go_ret
  exact⟨rfl,hb⟩
theorem make_size3 (size:Nat) (v:Int) (hv:v=(size:Int)) (h64:size<=1000000) (u:World):(Instr.makeSlice 28 (.int .i64 v) (.int .i64 v)).run Tryz.prog u=.ok (.slice (some ⟨u.heap.size,0,none⟩) size size) (u.alloc (.cells (madeCells #[.int .u64 0] size) 46)):=by
 subst hv
 obtain⟨i0,hi,hz0,hz1,hz2⟩:=info_parts u64_info'
 have h:=run_make (P:=Tryz.prog) u 28 46 i0 (.int .u64 0) Tryz.underlying28 hi hz0 .i64 .i64 (size:Int) (size:Int) (by omega) (Int.le_refl _) (by rw [hz2];omega) (by omega)
 simpa [hz1,Value.cells] using h
theorem zeros_sl3 {u:World} {b size:Nat} (h:u.heap[b]?=some (.cells (madeCells #[.int .u64 0] size) 46 (0,0))) (h64:size<=1000000):SlAt u (some ⟨b,0,none⟩) (List.replicate size 0).length 1 (u64G (List.replicate size 0)):=by
 refine⟨by rw [List.length_replicate];unfold maxLen;omega,λj hj=>⟨b,0,rfl,blk_lt h,λf hf=>?_⟩⟩
 obtain rfl:f=0:=by omega
 rw [List.length_replicate] at hj
 rw [cell_blk h,madeCells_one]
 simp [u64G,u64V,List.getD_eq_getElem?_getD,List.getElem?_replicate,hj]
structure SpecAt (w:World) (bS:Nat) (kd P Q:Int):Prop where
 blk:w.heap[bS]?=some (.cells #[.int .i64 kd,.int .i64 P,.int .i64 Q] 39 (0,0))
theorem SpecAt.grown {w w':World} {bS:Nat} {kd P Q:Int} (h:SpecAt w bS kd P Q) (hb:Below w.heap.size w w'):SpecAt w' bS kd P Q:=⟨(hb.block _ (blk_lt h.blk)).trans h.blk⟩
set_option maxHeartbeats 4000000 in
theorem bases_bad (n kd P Q:Int) (bS:Nat) (w:World) (hS:SpecAt w bS kd P Q) (SC:∀ u:World,Calls Tryz.prog 69 #[.int .i64 n,.agg #[.int .i64 kd,.int .i64 P,.int .i64 Q]] u λe w'=>e=.returned (.int .i64 (-1))/\Below u.heap.size u w') :
  Calls Tryz.prog 51 #[.int .i64 n,.slice (some ⟨bS,0,none⟩) 1 1] w λe w'=>e=.returned (.tuple #[.slice none 0 0,.int .i64 0,.int .i64 10])/\Below w.heap.size w w':=by
 have SC':=Lib.hid SC
 have s0:w.cell? ⟨bS,0,none⟩=some (.int .i64 kd):=by rw [cell_blk hS.blk];rfl
 have s1:w.cell? ⟨bS,1,none⟩=some (.int .i64 P):=by rw [cell_blk hS.blk];rfl
 have s2:w.cell? ⟨bS,2,none⟩=some (.int .i64 Q):=by rw [cell_blk hS.blk];rfl
 clear SC hS
 go_enter Tryz.func51,Tryz.ntmps51
 go_wp2
 go_loopw [7,8,9,14] (λo e l i wr=>o=.slice none 0 0/\e=.int .i64 0/\l=.bool false/\i=.int .i64 0/\wr=w) (λ_ _ _ _ _=>0)
 case atStart=>exact⟨rfl,rfl,rfl,rfl,rfl⟩
 case round=>
  obtain⟨rfl,rfl,rfl,rfl,rfl⟩:=hrel
  go_wp2_with (go_at_call 69;refine(SC'.out _).mono ?_;rintro e w' ⟨rfl,hb⟩)
  go_ret3
  exact⟨rfl,hb⟩
set_option maxHeartbeats 4000000 in
theorem bases_one (n kd P Q:Int) (sz:Nat) (hsz:sz<=65536) (bS:Nat) (w:World) (hS:SpecAt w bS kd P Q) (SC:∀ u:World,Calls Tryz.prog 69 #[.int .i64 n,.agg #[.int .i64 kd,.int .i64 P,.int .i64 Q]] u λe w'=>e=.returned (.int .i64 (sz:Int))/\Below u.heap.size u w') :
  Calls Tryz.prog 51 #[.int .i64 n,.slice (some ⟨bS,0,none⟩) 1 1] w λe w'=>∃ g c,e=.returned (.tuple #[.slice (some ⟨g,0,none⟩) 1 c,.int .i64 (sz:Int),.int .i64 0])/\w'.cell? ⟨g,0,none⟩=some (.int .i64 0)/\w.heap.size<=g/\Below w.heap.size w w':=by
 obtain⟨k0,hk0,hu0,hu1,hu2⟩:=info_parts int_info0
 have SC':=Lib.hid SC
 have HS:=Lib.hid hS
 clear SC hS
 go_enter Tryz.func51,Tryz.ntmps51
 go_wp2
 go_loopw [7,8,9,14] (λo e l i wr=>l=.bool false/\Below w.heap.size w wr/\((o=.slice none 0 0/\e=.int .i64 0/\i=.int .i64 0)∨(∃ g c,o=.slice (some ⟨g,0,none⟩) 1 c/\e=.int .i64 (sz:Int)/\i=.int .i64 1/\wr.cell? ⟨g,0,none⟩=some (.int .i64 0)/\w.heap.size<=g))) (λ_ _ _ i _=>1 - (intOf i).toNat)
 case atStart=>exact⟨rfl,Gr.refl _,.inl ⟨rfl,rfl,rfl⟩⟩
 case round=>
  obtain⟨rfl,hb,⟨rfl,rfl,rfl⟩|⟨g,c,rfl,rfl,rfl,hc,hg⟩⟩:=hrel
  ·have hS:=HS.out.grown hb
   have s0:wr.cell? ⟨bS,0,none⟩=some (.int .i64 kd):=by rw [cell_blk hS.blk];rfl
   have s1:wr.cell? ⟨bS,1,none⟩=some (.int .i64 P):=by rw [cell_blk hS.blk];rfl
   have s2:wr.cell? ⟨bS,2,none⟩=some (.int .i64 Q):=by rw [cell_blk hS.blk];rfl
   have Hb:=Lib.hid hb
   clear hS hb
   go_wp2_with fail
   refine(SC'.out _).mono ?_
   rintro e w1 ⟨rfl,hb1⟩
   have Hb1:=Lib.hid hb1
   clear s0 s1 s2 hb1
   have l1:¬ (sz:Int)<0:=by omega
   have l2:¬ (65536:Int)<(sz:Int):=by omega
   have l3:IntKind.i64.wrap (sz:Int)=(sz:Int):=by rw [IntKind.wrap_i64];omega
   have hnil:w1.ownsRow 0 3 1 (.slice none 0 0) 0 []:=⟨rfl,.inl ⟨rfl,rfl⟩⟩
   have Hnil:=Lib.hid hnil
   clear hnil
   go_wp2_with (at_builtin;refine wpList_append_lies _ rfl _ _ 24 rfl 0 3 k0 (.int .i64 0) 1 8 Tryz.underlying24 hk0 hu0 hu1 hu2 rfl (by decide) _ _ _ rfl (row_below Hnil.out (Gr.new _ _)) ⟨w1.heap.size,0,none⟩ 1 1 [.int .i64 0] rfl rfl ?c1 ?c2 (by decide) ?c3 ?c4 ?c5 (w1.heap.size+1) ?c6 ?_)
   case c1=>exact cell_one_new _ _ _
   case c2=>simp [Value.oneCell']
   case c3=>decide
   case c4=>decide
   case c5=>exact Nat.zero_le _
   case c6=>simp
   intro g c w2 hown hgrow hat hlt
   have hb2:Below w1.heap.size w1 w2:=((Chg.refl noB w1).alloc _ |>.grown hgrow (λq hq=>by cases hq)).below (λk h=>h.elim) (Nat.le_refl _)
   have hg:w.heap.size<=g:=by
    rcases hat with h9|h9
    ·cases h9
    ·have:=Hb.out.size;have:=Hb1.out.size;omega
   have hc0:w2.cell? ⟨g,0,none⟩=some (.int .i64 0):=(row_at hown (j:=0) rfl).1
   have Hb2:=Lib.hid (Gr.trans Hb.out (Gr.trans Hb1.out hb2))
   clear hown hgrow hat hlt hb2
   go_wp2
   go_roundw
   case rel=>exact⟨rfl,Hb2.out,.inr ⟨g,c,rfl,by go_num,rfl,hc0,hg⟩⟩
   case measure=>simp [intOf]
  ·have Hb:=Lib.hid hb
   clear hb
   go_wp2
   go_ret3
   exact⟨g,c,rfl,hc,hg,Hb.out⟩
set_option maxHeartbeats 4000000 in
theorem words_one (n kd P Q:Int) (sz g c:Nat) (hk:¬ kd=8) (hsz:sz<=1000000) (bS:Nat) (w:World) (hS:SpecAt w bS kd P Q) :
  Calls Tryz.prog 53 #[.int .i64 n,.slice (some ⟨bS,0,none⟩) 1 1,.slice (some ⟨g,0,none⟩) 1 c,.int .i64 (sz:Int)] w λe w'=>e=.returned (.slice (some ⟨w.heap.size,0,none⟩) sz sz)/\w'=w.alloc (.cells (madeCells #[.int .u64 0] sz) 46):=by
 have hmk:=make_size3 sz (sz:Int) rfl hsz
 obtain⟨w1,hw1⟩:∃ w1,w1=w.alloc (.cells (madeCells #[.int .u64 0] sz) 46):=⟨_,rfl⟩
 have s0:w1.cell? ⟨bS,0,none⟩=some (.int .i64 kd):=by
  have:=(hS.grown (w':=w1) (by rw [hw1];exact Gr.new _ _)).blk
  rw [cell_blk this];rfl
 have hkd:(kd == 8)=false:=by simpa using hk
 have Hw1:=Lib.hid hw1
 clear hS
 rw [<-hw1]
 clear hw1
 go_enter Tryz.func53,Tryz.ntmps53
 go_upto_region 2 with fail
 rw [<-Hw1.out]
 go_wp2
 go_loopw [15] (λi wr=>wr=w1/\(i=.int .i64 0∨i=.int .i64 1)) (λi _=>1 - (intOf i).toNat)
 case atStart=>exact⟨rfl,.inl rfl⟩
 case round=>
  obtain⟨rfl,rfl|rfl⟩:=hrel
  ·go_wp2
   go_roundw
   case rel=>exact⟨by trivial,.inr (by trivial)⟩
   case measure=>simp [intOf]
  ·go_wp2
   go_ret
   exact⟨rfl,rfl⟩
end
section

/- The reference's play: an event that has responded: roundelayplain.done. -/
open Go.RowKit
theorem event_info9:(Tryz.prog.info? 52).map (λi=>(i.zero,i.size,i.bytes))=some (some (.agg #[.int .i64 0,.int .i64 0,.int .i64 0,.int .i64 0,.int .i64 0,.int .u64 0,.slice none 0 0,.slice none 0 0]),8,96):=by kernel_rfl
theorem event_load (w:World) (b:Nat) (cs:Array Value) (h:w.heap[b]?=some (.cells cs 52 (0,0))) (hc:cs.size=8):(loadVar 52 ⟨b,0,none⟩).run Tryz.prog w=.ok (.agg cs) w:=by
 obtain⟨i0,hi,hz0,hz1,hz2⟩:=info_parts event_info9
 have:=run_loadVar_mid (P:=Tryz.prog) w b 0 52 cs.toList _ (λj v hv=>by rw [Nat.zero_add,cell_blk h];simpa using hv) Tryz.underlying52 rfl (by rw [hi];simp [hc,hz1])
 simpa using this
end
section

/- An empty list of words is copied. -/
open Go.RowKit
theorem run_append_zero (w:World) (ty:TypeId) (b:Nat) (oa:Option Addr) (oc:Nat):(Builtin.append_ #[28,28] ty #[.slice (some ⟨b,0,none⟩) 0 0,.slice oa 0 oc]).run Tryz.prog w=.ok (.slice (some ⟨b,0,none⟩) 0 0) w:=by
 obtain⟨j0,hj0,hy0,hy1,hy2⟩:=info_parts uint64_info0
 cases oa<;>simp [Builtin.append_,run_underlying (P:=Tryz.prog) Tryz.underlying28,sizeOf,typeInfo,hj0,Builtin.lenOf,Builtin.firstCells,storeCells,loadCells,loadCellsFrom]
theorem step_append_zero {ops:Array Oper} {o:Oper} {a:Act} {w:World} {K:Act->World->Prop} {Q:Exit->Act->World->Prop} {E:Prop} (hgd:o.guard=none) (s x:Operand) (ho:o.op=.call { callee:=.builtin .append,args:=#[s,x],argTypes:=#[28,28] })
  (b:Nat) (oa:Option Addr) (oc:Nat) (hs:a.eval s=.slice (some ⟨b,0,none⟩) 0 0) (hx:a.eval x=.slice oa 0 oc) (h:K (a.put o.dst (.slice (some ⟨b,0,none⟩) 0 0)) w) :
  if Region.wanted o (yielded ops a.tmps)=true then Oper.wp Tryz.prog o a w K Q else E:=by
 have hw:Region.wanted o (yielded ops a.tmps)=true:=by simp [Region.wanted,hgd]
 rw [if_pos hw]
 have hrun:=run_append_zero w o.type b oa oc
 unfold Oper.wp
 simp [execOp,ho,resolve,invoke,builtin,hs,hx,hrun,Result.andThen]
 exact h
end
end Go.Proofs.YteffgpcjfnjlkaaGreat
