/- Layer 19: the reference's contracts; desc.Waits. -/
import Derived.Test.YtlanekkbciffcaaG04
import Derived.Test.YtlanekkbciffcaaG11
set_option maxRecDepth 100000
set_option linter.unusedVariables false
set_option linter.unusedSimpArgs false
set_option linter.unnecessarySimpa false
namespace Go.Proofs.Ytlanekkbciffcaa
section
open Go.RowKit
def wordN (p t:Bool) (l ph:Nat):Nat:=bN p+2*bN t+4*l+4294967296*ph
theorem rpending19 (x:Nat) (w:World) (hx:U64 x) :
  Calls Try.prog 34 #[.int .u64 (x:Int)] w λe w'=>e=.returned (.bool (dP x))/\w=w':=by
 have hx':x<18446744073709551616:=hx
 go_enter Try.func34,Try.ntmps34
 go_wp2
 go_ret
 exact⟨ret_bool (by unfold dP;rw [Bool.eq_iff_iff];simp;try omega),rfl⟩
theorem dPh_lt {x:Nat} (hx:U64 x):dPh x<4294967296:=by have:=hx.lt;unfold dPh;omega
end
section

/- Layer 19: the laws: the walks. -/
open Go.RowKit
theorem wordN_parts {p t:Bool} {l ph:Nat} (hl:l<1073741824) (hph:ph<4294967296):U64 (wordN p t l ph)/\dP (wordN p t l ph)=p/\dT (wordN p t l ph)=t/\dL (wordN p t l ph)=l/\dPh (wordN p t l ph)=ph:=by
 unfold wordN U64 dP dT dL dPh
 cases p<;>cases t<;>simp [bN]<;>omega
end
section

/- Layer 19: the law DescFinishes: the walk. -/
open Go.RowKit
theorem putN_word {x l:Nat} (hx:U64 x):putN x 2 30 l=wordN (dP x) (dT x) l (dPh x):=by
 have h:=hx.lt
 have e1:bN (dP x)=x % 2:=by unfold dP bN;by_cases c:x % 2=1<;>simp [c]<;>omega
 have e2:bN (dT x)=x / 2 % 2:=by unfold dT bN;by_cases c:x / 2 % 2=1<;>simp [c]<;>omega
 unfold putN wordN
 rw [e1,e2]
 unfold dPh
 simp
 omega
theorem clr_parts {x:Nat}:dP (x / 2*2)=false/\dT (x / 2*2)=dT x/\dPh (x / 2*2)=dPh x:=by
 unfold dP dT dPh
 refine⟨?_,?_,?_⟩
 ·rw [Bool.eq_iff_iff];simp
 ·congr 1;omega
 ·omega
end
section

/- Layer 21: what finishing at an end of a queue comes to. -/
open Go.RowKit
theorem memSwap_ws (m:MemD) (a:Int) (o f:Nat):(memSwap m a o f).1.ws=m.ws∨(memSwap m a o f).1.ws=m.ws.set a.toNat f:=by
 unfold memSwap
 split
 ·exact .inl rfl
 ·split
  ·exact .inr rfl
  ·exact .inl rfl
theorem memSwap_all (m:MemD) (a:Int) (o f:Nat):(memSwap m a o f).1.c.all=m.c.all+1:=by
 unfold memSwap
 split
 ·show(MemD.fault m).c.all=_;unfold MemD.fault CountsD.all;simp only;omega
 ·split<;>(unfold CountsD.all;simp only;omega)
theorem memRead_all (m:MemD) (a:Int):(memRead m a).1.c.all=m.c.all+1:=by
 unfold memRead
 split
 ·show(MemD.fault m).c.all=_;unfold MemD.fault CountsD.all;simp only;omega
 ·unfold CountsD.all;simp only;omega
theorem memRead_ws9 (m:MemD) (a:Int):(memRead m a).1.ws=m.ws:=by
 unfold memRead
 split<;>rfl
theorem fin_put_p {d x:Nat} (hd:U64 d) (hx:x<1073741824):dP (putN (d / 2*2) 2 30 x)=false:=by
 have hxc:U64 (d / 2*2):=by have:=hd.lt;unfold U64;omega
 rw [putN_word hxc,(clr_parts (x:=d)).1]
 exact(wordN_parts (p:=false) (t:=dT (d / 2*2)) hx (dPh_lt hxc)).2.1
def DescTo (n:Nat) (ws wd:List Nat):Prop:=wd=ws∨∃ o v,o<n/\dP v=false/\wd=ws.set (2+o) v
theorem DescTo.swap {n ow d p:Nat} {ws:List Nat} {m:MemD} (hm:m.ws=ws) (ho:ow<n) (hp:dP p=false):DescTo n ws (memSwap m ((2+ow:Nat):Int) d p).1.ws:=by
 rcases memSwap_ws m ((2+ow:Nat):Int) d p with h|h
 ·rw [h,hm];exact .inl rfl
 ·rw [h,hm,Int.toNat_natCast];exact .inr ⟨ow,p,ho,hp,rfl⟩
def TailTo (n:Nat) (ws w2:List Nat) (j:Nat):Prop:=1<=j/\j<=5/\∃ wd,DescTo n ws wd/\(w2=wd∨∃ v,w2=wd.set 1 v)
def TlInv (n k:Nat) (ws:List Nat) (s:FinD) (m:MemD) (j:Nat):Prop:=
 m.c.all<=j/\((s.pc=0/\m.ws=ws/\j=0)∨(s.pc=1/\m.ws=ws/\j=1)∨(s.pc=3/\m.ws=ws/\j=2/\s.ow<n)∨(s.pc=5/\m.ws=ws/\j=3/\s.ow<n/\s.x<1073741824)∨(s.pc=6/\j<=4/\DescTo n ws m.ws))
theorem dL_lt (x:Nat):dL x<1073741824:=by unfold dL;omega
theorem fin_own_lt {n k i:Nat} (h:ownB (n:Int) (k:Int) (i:Int)=true):(i - 2) / k<n:=by
 obtain⟨h1,h2,h3,h4,h5,h6⟩:=fin_own_parts h
 rw [Nat.div_lt_iff_lt_mul (by omega)];omega
def StepTo (cells:FinD->Array Value) (T:TypeId) (w:World) (bT bW bm:Nat) (bw:Option Nat) (J:FinD->MemD->Nat->Prop) (Z:List Nat->Nat->Prop) (j:Nat) (e:Ending) (w':World):Prop:=
 ∃ s' m' b,e=.returned (.bool b)/\FinAt cells T w' bT bW bm bw s' m'/\Chg (FinS bT bm bw) w w'/\(b=false->J s' m' (j+1))/\(b=true->Z m'.ws (j+1))
theorem stepTo_of {cells:FinD->Array Value} {T:TypeId} {w:World} {bT bW bm:Nat} {bw:Option Nat} {J:FinD->MemD->Nat->Prop} {Z:List Nat->Nat->Prop} {j:Nat} {F:FuncId} {args:Array Value} {b:Bool} {s':FinD} {m':MemD}
  (h:Calls Try.prog F args w λe w'=>e=.returned (.bool b)/\FinAt cells T w' bT bW bm bw s' m'/\Chg (FinS bT bm bw) w w') (hJ:b=false->J s' m' (j+1)) (hZ:b=true->Z m'.ws (j+1)):Calls Try.prog F args w (StepTo cells T w bT bW bm bw J Z j):=
 h.mono λe w' ⟨h1,h2,h3⟩=>⟨s',m',b,h1,h2,h3,hJ,hZ⟩
theorem tl_step {w:World} {n k bT bW bm:Nat} {bw:Option Nat} {ws:List Nat} {s:FinD} {m:MemD} {j:Nat} (h:FinAt (tlCells n k) 127 w bT bW bm bw s m) (hn:n<=16) (hI:TlInv n k ws s m j) :
  Calls Try.prog 153 #[.pointer (some ⟨bT,0,none⟩),.pointer (some ⟨bW,0,none⟩)] w (StepTo (tlCells n k) 127 w bT bW bm bw (TlInv n k ws) (TailTo n ws) j):=by
 obtain⟨hc,hI⟩:=hI
 have hcnt:m.c.all+1<1000000000000:=by omega
 obtain⟨pc,ow,a,x,d,y⟩:=s
 simp only at hI
 rcases hI with⟨rfl,hw,rfl⟩|⟨rfl,hw,rfl⟩|⟨rfl,hw,rfl,ho⟩|⟨rfl,hw,rfl,ho,hx⟩|⟨rfl,hj,hd⟩
 ·refine stepTo_of (tl_0 h hn hcnt) (λ_=>⟨?_,.inr (.inl ⟨rfl,?_,rfl⟩)⟩) (λ_=>⟨by omega,by omega,ws,.inl rfl,.inl ?_⟩)
  ·rw [memRead_all];omega
  ·rw [memRead_ws9];exact hw
  ·rw [memRead_ws9];exact hw
 ·by_cases hy:(memRead m (fAt n k a 0)).2 / 1073741824=a / 1024/\(memRead m (fAt n k a 0)).2 % 1073741824≠0/\ownB (n:Int) (k:Int) (((memRead m (fAt n k a 0)).2 % 1073741824 % 1024:Nat):Int)=true
  ·refine stepTo_of (tl_1_yes h hn hcnt hy) (λ_=>⟨?_,.inr (.inr (.inl ⟨rfl,?_,rfl,fin_own_lt hy.2.2⟩))⟩) (λe=>by cases e)
   ·rw [memRead_all];omega
   ·rw [memRead_ws9];exact hw
  ·refine stepTo_of (tl_1_no h hn hcnt hy) (λe=>by cases e) (λ_=>⟨by omega,by omega,ws,.inl rfl,.inl ?_⟩)
   rw [memRead_ws9];exact hw
 ·by_cases hy:dP (memRead m ((2+ow:Nat):Int)).2=true/\dT (memRead m ((2+ow:Nat):Int)).2=false/\dL (memRead m ((2+ow:Nat):Int)).2=x
  ·refine stepTo_of (tl_3_yes h hn hcnt hy) (λ_=>⟨?_,.inr (.inr (.inr (.inl ⟨rfl,?_,rfl,ho,?_⟩)))⟩) (λe=>by cases e)
   ·rw [memRead_all];omega
   ·rw [memRead_ws9];exact hw
   ·show x<_;rw [<-hy.2.2];exact dL_lt _
  ·refine stepTo_of (tl_3_no h hn hcnt hy) (λ_=>⟨?_,.inr (.inr (.inr (.inr ⟨rfl,by omega,?_⟩)))⟩) (λe=>by cases e)
   ·rw [memRead_all];omega
   ·rw [memRead_ws9,hw];exact .inl rfl
 ·refine stepTo_of (tl_5 h hn hcnt hx) (λ_=>⟨?_,.inr (.inr (.inr (.inr ⟨rfl,by omega,DescTo.swap hw ho (fin_put_p h.ok.2.2.1 hx)⟩)))⟩) (λe=>by cases e)
  rw [memSwap_all];omega
 ·refine stepTo_of (tl_6 h hn hcnt) (λe=>by cases e) (λ_=>⟨by omega,by omega,m.ws,hd,?_⟩)
  rcases memSwap_ws m 1 a x with h9|h9
  ·exact .inl h9
  ·exact .inr ⟨x,h9⟩
def MarkAt (n p:Nat):Prop:=p=0∨(2+n<p/\(p - 2 - n) % 4=3)
def HeadTo (n:Nat) (ws w3:List Nat) (j:Nat):Prop:=1<=j/\j<=8/\∃ wd w2,DescTo n ws wd/\(w2=wd∨∃ v,w2=wd.set 0 v)/\(w3=w2∨∃ p v,MarkAt n p/\w3=w2.set p v)
def HdInv (n k:Nat) (ws:List Nat) (s:FinD) (m:MemD) (j:Nat):Prop:=
 m.c.all<=j/\((s.pc=0/\m.ws=ws/\j=0)∨(s.pc=1/\m.ws=ws/\j=1)∨(s.pc=2/\m.ws=ws/\j=2)∨(s.pc=3/\m.ws=ws/\j=3/\s.ow<n)∨(s.pc=4/\m.ws=ws/\j=4/\s.ow<n)∨(s.pc=5/\m.ws=ws/\j=5/\s.ow<n)∨(s.pc=6/\j<=6/\DescTo n ws m.ws)∨(s.pc=7/\j<=7/\∃ wd,DescTo n ws wd/\(m.ws=wd∨∃ v,m.ws=wd.set 0 v)))
theorem fAt_mark (n k a:Nat):MarkAt n (fAt n k a 3).toNat:=by
 unfold fAt
 split
 ·rename_i hf
  unfold fOk atB at hf
  simp at hf
  right
  omega
 ·exact .inl rfl
theorem hd_step {w:World} {n k bT bW bm:Nat} {bw:Option Nat} {ws:List Nat} {s:FinD} {m:MemD} {j:Nat} (h:FinAt (hdCells n k) 129 w bT bW bm bw s m) (hn:n<=16) (hI:HdInv n k ws s m j) :
  Calls Try.prog 173 #[.pointer (some ⟨bT,0,none⟩),.pointer (some ⟨bW,0,none⟩)] w (StepTo (hdCells n k) 129 w bT bW bm bw (HdInv n k ws) (HeadTo n ws) j):=by
 obtain⟨hc,hI⟩:=hI
 obtain⟨pc,ow,a,x,d,y⟩:=s
 simp only at hI
 have hcnt:m.c.all+1<1000000000000:=by omega
 have none_:∀ {m':MemD} {i:Nat},m'.ws=ws->1<=i->i<=8->HeadTo n ws m'.ws i:=λh1 h2 h3=>⟨h2,h3,ws,ws,.inl rfl,.inl rfl,.inl h1⟩
 rcases hI with⟨rfl,hw,rfl⟩|⟨rfl,hw,rfl⟩|⟨rfl,hw,rfl⟩|⟨rfl,hw,rfl,ho⟩|⟨rfl,hw,rfl,ho⟩|⟨rfl,hw,rfl,ho⟩|⟨rfl,hj,hd⟩|⟨rfl,hj,wd,hd,h0⟩
 ·refine stepTo_of (hd_0 h hn hcnt) (λ_=>⟨?_,.inr (.inl ⟨rfl,?_,rfl⟩)⟩) (λ_=>none_ ?_ (by omega) (by omega))
  ·rw [memRead_all];omega
  ·rw [memRead_ws9];exact hw
  ·rw [memRead_ws9];exact hw
 ·refine stepTo_of (hd_1 h hn hcnt) (λ_=>⟨?_,.inr (.inr (.inl ⟨rfl,?_,rfl⟩))⟩) (λ_=>none_ ?_ (by omega) (by omega))
  ·rw [memRead_all];omega
  ·rw [memRead_ws9];exact hw
  ·rw [memRead_ws9];exact hw
 ·by_cases hy:(memRead m (fAt n k a 1)).2 / 1073741824=a / 1024/\(memRead m (fAt n k a 1)).2 % 1073741824≠0
  ·by_cases hz:(memRead m (fAt n k a 1)).2 % 1073741824<=n
   ·refine stepTo_of (hd_2_le h hn hcnt hy hz) (λ_=>⟨?_,.inr (.inr (.inr (.inl ⟨rfl,?_,rfl,?_⟩)))⟩) (λe=>by cases e)
    ·rw [memRead_all];omega
    ·rw [memRead_ws9];exact hw
    ·show(memRead m (fAt n k a 1)).2 % 1073741824 - 1<n
     have:=hy.2
     omega
   ·refine stepTo_of (hd_2_gt h hn hcnt hy hz) (λ_=>⟨?_,.inr (.inr (.inr (.inr (.inr (.inr (.inl ⟨rfl,by omega,?_⟩))))))⟩) (λe=>by cases e)
    ·rw [memRead_all];omega
    ·rw [memRead_ws9,hw];exact .inl rfl
  ·refine stepTo_of (hd_2_no h hn hcnt hy) (λe=>by cases e) (λ_=>none_ ?_ (by omega) (by omega))
   rw [memRead_ws9];exact hw
 ·by_cases hy:dP (memRead m ((2+ow:Nat):Int)).2=true/\dT (memRead m ((2+ow:Nat):Int)).2=true/\dL (memRead m ((2+ow:Nat):Int)).2=a
  ·refine stepTo_of (hd_3_yes h hn hcnt hy) (λ_=>⟨?_,.inr (.inr (.inr (.inr (.inl ⟨rfl,?_,rfl,ho⟩))))⟩) (λe=>by cases e)
   ·rw [memRead_all];omega
   ·rw [memRead_ws9];exact hw
  ·refine stepTo_of (hd_3_no h hn hcnt hy) (λ_=>⟨?_,.inr (.inr (.inr (.inr (.inr (.inr (.inl ⟨rfl,by omega,?_⟩))))))⟩) (λe=>by cases e)
   ·rw [memRead_all];omega
   ·rw [memRead_ws9,hw];exact .inl rfl
 ·refine stepTo_of (hd_4 h hn hcnt) (λ_=>⟨?_,.inr (.inr (.inr (.inr (.inr (.inl ⟨rfl,?_,rfl,ho⟩)))))⟩) (λe=>by cases e)
  ·rw [memRead_all];omega
  ·rw [memRead_ws9];exact hw
 ·refine stepTo_of (hd_5 h hn hcnt) (λ_=>⟨?_,.inr (.inr (.inr (.inr (.inr (.inr (.inl ⟨rfl,by omega,DescTo.swap hw ho (fin_put_p h.ok.2.2.1 (by omega))⟩))))))⟩) (λe=>by cases e)
  rw [memSwap_all];omega
 ·have hs:=memSwap_ws m 0 a x
  refine stepTo_of (hd_6 h hn hcnt) (λ_=>⟨?_,.inr (.inr (.inr (.inr (.inr (.inr (.inr ⟨rfl,by omega,m.ws,hd,?_⟩))))))⟩) (λ_=>⟨by omega,by omega,m.ws,_,hd,?_,.inl rfl⟩)
  ·rw [memSwap_all];omega
  ·rcases hs with h9|h9
   ·exact .inl h9
   ·exact .inr ⟨x,h9⟩
  ·rcases hs with h9|h9
   ·exact .inl h9
   ·exact .inr ⟨x,h9⟩
 ·refine stepTo_of (hd_7 h hn hcnt) (λe=>by cases e) (λ_=>⟨by omega,by omega,wd,m.ws,hd,h0,?_⟩)
  rcases memSwap_ws m (fAt n k a 3) (2*(a / 1024)+1) (2*(a / 1024)) with h9|h9
  ·exact .inl h9
  ·exact .inr ⟨_,_,fAt_mark n k a,h9⟩
end
end Go.Proofs.Ytlanekkbciffcaa
