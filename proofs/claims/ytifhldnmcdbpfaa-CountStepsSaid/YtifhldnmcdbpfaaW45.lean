/- Layer 11: what a report of a counter's play tells, in plain numbers. -/
import Derived.Test.YtifhldnmcdbpfaaW43
import Derived.Test.YtifhldnmcdbpfaaW44
import Derived.Test.YtifhldnmcdbpfaaW18
import Derived.Test.YtifhldnmcdbpfaaW19
set_option maxRecDepth 100000
set_option linter.unusedVariables false
set_option linter.unusedSimpArgs false
set_option linter.unnecessarySimpa false
namespace Go.Proofs.Ytifhldnmcdbpfaa
section
open Go.RowKit
theorem GV {n m:Nat} (calls:List aF):jB n m calls (bT (bH n m) (List.replicate n 0) (List.replicate (fV n m) 0) calls) (λ_=>0) (λ_=>0):=by
 obtain⟨st,hst⟩:∃ st:aQ (bH n m),st=bT (bH n m) (List.replicate n 0) (List.replicate (fV n m) 0) calls:=⟨_,rfl⟩
 rw [<-hst]
 have hws:st.wd.mem.ws=List.replicate (fV n m) 0:=by rw [hst];rfl
 have hgz:∀ t,st.wd.mem.ws.getD t 0=0:=λt=>by rw [hws];exact iX
 have hob:obO st=List.replicate n 0:=by rw [hst];rfl
 have hhd:∀ p,(haO st).getD p (none,0)=(none,0):=λp=>by
  rw [hst]
  exact iX
 have hw:∀ t,ctW (haO st) t=0:=λt=>rU (by rw [hhd])
 have hev:st.evs.length=0:=by rw [hst];rfl
 have ha:∀ t,(ctG st (λ_=>0) (λ_=>0)).a t=0:=λt=>by
  show ghA n st.wd.mem.ws t=0
  unfold ghA
  split
  ·exact hgz t
  ·rfl
 have hS:∀ u,(ctG st (λ_=>0) (λ_=>0)).S n (aJ n) u=0:=λu=>iY λt _=>by
  split
  ·exact ha t
  ·rfl
 refine⟨by rw [hws,List.length_replicate];rfl,by rw [hob,List.length_replicate],⟨λt _ h=>absurd (hw t) h,λv _ _=>GE.zero _ _ _,λv _ _ r h1 h2=>?_,λv _ _ k d j _ _ _ hs=>?_,λv _ _=>Nat.zero_le _,by rw [hS];exact Nat.two_pow_pos _⟩,λt _=>by rw [hgz,hob,hw t,iX];rfl,λt _=>by rw [hob,iX,show st.evs=[] from List.length_eq_zero_iff.1 hev];rfl,λt _=>by rw [hgz,Nat.zero_mul];exact Nat.zero_le _,(λp s k hp=>by rw [hhd] at hp;cases hp),λi hi=>absurd hi (by omega),λi hi=>absurd hi (by omega),λa x hx=>?_,λp=>?_⟩
 ·have:=Gh.A_le n (aJ n) (ctG st (λ_=>0) (λ_=>0)) v
  rw [hS] at this
  have h1:0<r:=h1
  omega
 ·have:=(kC.1 (show ghS n m st.wd.mem.ws v k=true from hs)).2.2.2.2
  rw [hgz] at this
  cases this
 ·rw [hst] at hx;cases hx
 ·rw [hst]
  show(List.replicate 16 0).getD p 0<=0
  rw [iX]
  exact Nat.le_refl 0
theorem LF {n m:Nat} (hn1:1<=n) (hn:n<=16) (hm:m<=8):∀(o:(bH n m).ω) (wd:WD) (p:Nat) (s:(bH n m).σ),((bH n m).step o wd p s).2.1.now=wd.now:=(HY n m 0 0 hn1 hn hm).now
theorem yC {n m:Nat} (hm1:1<=m) (zR:m<=8) {calls:List aF} {np:Nat} (hck:checkN n calls np=0) (l:List Int):eB calls (eH (bH n m) calls (bT (bH n m) (List.replicate n 0) (List.replicate (fV n m) 0) calls) l)/\(∃ M rk,jB n m calls (eH (bH n m) calls (bT (bH n m) (List.replicate n 0) (List.replicate (fV n m) 0) calls) l) M rk)/\
  (eH (bH n m) calls (bT (bH n m) (List.replicate n 0) (List.replicate (fV n m) 0) calls) l).wd.now<=l.length:=by
 obtain⟨h1,h2⟩:=DZ hck
 have hthr:∀ c,c<calls.length->0<=(calls.getD c d0).thread/\(calls.getD c d0).thread<n:=λc hc=>by have:=zQ hck c hc;omega
 have hnow:=LF (n:=n) (m:=m) (by omega) (by omega) zR
 obtain⟨a,b⟩:=uR (S:=bH n m) hnow (OQ hck) (J:=λst=>∃ M rk,jB n m calls st M rk) (λst st' hg _ hj ht=>KV (by omega) (by omega) (by omega) hnow hthr hg hj ht) l (AC (S:=bH n m) calls (List.replicate n 0) (List.replicate (fV n m) 0)) ⟨_,_,GV calls⟩
 refine⟨a,b,?_⟩
 have htk:=pY hnow (bT (bH n m) (List.replicate n 0) (List.replicate (fV n m) 0) calls) l (calls:=calls)
 rw [show(bT (bH n m) (List.replicate n 0) (List.replicate (fV n m) 0) calls).wd.now=0 from rfl,show(bT (bH n m) (List.replicate n 0) (List.replicate (fV n m) 0) calls).idle=0 from rfl] at htk
 omega
theorem pG {n m lo:Nat} {g:Gh} {l:LkD} (h:qK n m g lo l) (hk:l.kind≠2) (hv:l.v<=32):vM l:=by
 refine⟨hk,hv,λh0=>?_⟩
 rcases h with h|⟨a,_⟩|⟨a,_⟩
 ·exact h.2.2.2.2.2
 ·omega
 ·omega
theorem CK {n m:Nat} (hn1:1<=n) (hn:n<=16) (hm:0<m) (zR:m<=8) {calls:List aF} (hthr:∀ c,c<calls.length->0<=(calls.getD c d0).thread/\(calls.getD c d0).thread<n) {st:aQ (bH n m)} {M rk:Nat->Nat} {q i k:Nat} {s:CtS} {bJ:List EvD} {dK:WD} (hg:eB calls st) (h:jB n m calls st M rk) (hnow:st.wd.now<100000) (hqn:q<n) (hf:From calls st q i k s bJ dK) :
  vY n m (obO st) dK q s/\∀ t,(obO st).getD t 0<999999:=by
 obtain⟨p1,p2,p3⟩:=JV hn1 hn hm hthr hg h hf
 have hn0:=hf.now;have hmem:=hf.mem;have OW:=hf.traces
 have XI:2^m<=256:=Nat.pow_le_pow_right (n:=2) (by decide) zR
 have ho:∀ t,(obO st).getD t 0<999999:=λt=>by
  by_cases ht:t<n
  ·have h1:=h.own t ht
   have h2:=h.full t ht
   have h3:st.wd.mem.ws.getD t 0*1<=st.wd.mem.ws.getD t 0*n:=Nat.mul_le_mul_left _ hn1
   omega
  ·have:(obO st).getD t 0=0:=by
    rw [List.getD_eq_getElem?_getD,List.getElem?_eq_none (by rw [h.olen];omega)];rfl
   omega
 have hT:iT dK:=by
  refine⟨λa x hx=>?_,λp=>?_⟩
  ·rw [OW] at hx
   have:=h.tr a x hx
   omega
  ·have:=hf.invs h.invs p
   omega
 have eG:ctG st M rk=dS n m dK.mem.ws (ctW (haO st)) M rk:=by unfold ctG;rw [hmem]
 have uJ:dK.mem.ws.length=n+(aJ n - 1)*(2^m - 1):=by rw [hmem];exact h.len
 have hG0:=h.inv
 rw [eG] at hG0
 obtain⟨l1,l2,l3⟩:=bL hn
 refine⟨⟨hT,by omega,hqn,Nat.lt_of_lt_of_le (ho q) (by decide),?_⟩,ho⟩
 match s,p3 with
 | .rd l,⟨⟨k1,k2,k3,k4,k5,lo,k6,k7,k8⟩,hw⟩=>exact pG k6 k3 (by omega)
 | .ad x,p3=>
  rcases p3 with⟨⟨_,⟨b1,b2,b3⟩,_⟩,hw⟩|⟨rfl,_⟩
  case inr=>exact .inl ⟨rfl,rfl⟩
  refine .inr ⟨b1,by omega,?_⟩
  rw [eG] at b3
  rcases b3 with⟨⟨a,b,c,d,cl,cr,e,f,k⟩,l⟩|⟨⟨a,b,c,cl,cr,e,f,k⟩,l⟩|⟨a,b,c,d⟩
  ·refine .inl ⟨a,pG e l (by omega),λhd=>?_⟩
   have h9:=((xK (p:=q) hn uJ hG0 e l).2.2.2 hd).2.1
   have h8:=hG0.lt hn (aI n m q dK x.left).2.1.v
   omega
  ·refine .inr (.inl ⟨a,pG f l (by omega),λhd=>?_⟩)
   obtain⟨u1,u2,u3,u4⟩:=xK (p:=q) hn uJ hG0 f l
   have h9:=(u4 hd).2.1
   rw [u2,b] at h9
   have h8:=hG0.lt hn x.v
   rw [Gh.S_split hn _ b1 b2] at h8
   omega
  ·exact .inr (.inr ⟨a,b.2.2.1,by have:=b.2.2.2;omega⟩)
theorem LU (n m:Nat) (hm1:1<=m) (zR:m<=8) (calls:List aF) (picks:List Int) (hck:checkN n calls picks.length=0):∀ l p k,picks=l++p::k->oO (rM n m 0 0) calls (eH (bH n m) calls (bT (bH n m) (List.replicate n 0) (List.replicate (fV n m) 0) calls) l) p:=by
 intro l p m' hl i hN
 obtain⟨a,⟨M,rk,b⟩,c⟩:=yC hm1 zR hck l
 have hnp:=MP hck
 have hll:l.length<picks.length:=by rw [hl];simp
 obtain⟨h1,h2⟩:=DZ hck
 have hthr:∀ c,c<calls.length->0<=(calls.getD c d0).thread/\(calls.getD c d0).thread<n:=λc hc=>by have:=zQ hck c hc;omega
 obtain⟨n1,n2,n3⟩:=dO hN
 have ht:=hthr i n1
 obtain⟨q,rfl⟩:∃ q:Nat,p=(q:Int):=⟨p.toNat,by omega⟩
 have hq:q<n:=by omega
 simp only [Int.toNat_natCast]
 refine⟨λs k hh=>?_,λhh s hs=>?_⟩
 ·obtain⟨k1,k2,k3,k4⟩:=a.ev.hand q k (by unfold eT;rw [hh];rfl)
  have hc:(aD (eH (bH n m) calls (bT (bH n m) (List.replicate n 0) (List.replicate (fV n m) 0) calls) l).evs k).call=i:=by rw [hN] at k4;exact(Option.some.inj k4).symm
  exact CK (by omega) (by omega) (by omega) zR hthr a b (by omega) hq (.old k s hh k1 hc k3)
 ·exact CK (by omega) (by omega) (by omega) zR hthr a b (by omega) hq (.new s hh hs)
theorem pK {P:EvD->Bool}:∀ {l m:List EvD},l.length=m.length->(∀ i,i<l.length->P (aD l i)=P (aD m i))->cnt P l=cnt P m
 | [],[],_,_=>rfl
 | [],_::_,h,_=>by simp at h
 | _::_,[],h,_=>by simp at h
 | a::l,b::m,h,g=>by
  rw [eQ,eQ,pK (l:=l) (m:=m) (by simpa using h) (λi hi=>g (i+1) (by simp;omega))]
  have h0:=g 0 (by simp)
  have e1:aD (a::l) 0=a:=rfl
  have e2:aD (b::m) 0=b:=rfl
  rw [e1,e2] at h0
  rw [h0]
theorem oU {n m:Nat} (hm1:1<=m) (zR:m<=8) {calls:List aF} {np:Nat} (hck:checkN n calls np=0) (picks:List Int) :
  (iO (bH n m) (List.replicate n 0) (List.replicate (fV n m) 0) calls picks).evs.length<=picks.length/\LX calls (iO (bH n m) (List.replicate n 0) (List.replicate (fV n m) 0) calls picks).evs/\∀ i,i<(iO (bH n m) (List.replicate n 0) (List.replicate (fV n m) 0) calls picks).evs.length->
   (aD (iO (bH n m) (List.replicate n 0) (List.replicate (fV n m) 0) calls picks).evs i).steps<=fF n m/\(kindOf calls (aD (iO (bH n m) (List.replicate n 0) (List.replicate (fV n m) 0) calls picks).evs i)=1->(aD (iO (bH n m) (List.replicate n 0) (List.replicate (fV n m) 0) calls picks).evs i).steps<=m):=by
 obtain⟨h1,h2⟩:=DZ hck
 obtain⟨hg,⟨M,rk,h⟩,hnow⟩:=yC hm1 zR hck picks
 obtain⟨st,hst⟩:∃ st,st=eH (bH n m) calls (bT (bH n m) (List.replicate n 0) (List.replicate (fV n m) 0) calls) picks:=⟨_,rfl⟩
 rw [<-hst] at hg h hnow
 have hE:(iO (bH n m) (List.replicate n 0) (List.replicate (fV n m) 0) calls picks).evs=oP (bH n m) st:=by rw [hst];rfl
 rw [hE]
 have hlen:=AZ (calls:=calls) hg
 obtain⟨e1,e2⟩:=xN st (λ_ _ _ _=>rfl) (List.range 16) st.evs
 have hev:=hg.ev.len_le
 have hsame:∀ i,(aD (oP (bH n m) st) i).call=(aD st.evs i).call/\(aD (oP (bH n m) st) i).inv=(aD st.evs i).inv/\(aD (oP (bH n m) st) i).resp=(aD st.evs i).resp/\(aD (oP (bH n m) st) i).steps=(aD st.evs i).steps/\(aD (oP (bH n m) st) i).ans=(aD st.evs i).ans:=e2
 refine⟨by omega,⟨λi hi=>?_,λi hi ho hk hr he=>?_⟩,λi hi=>?_⟩
 ·rw [hlen] at hi
  rw [(hsame i).1];exact hg.ev.call i hi
 ·rw [hlen] at hi
  obtain⟨s1,s2,s3,s4,s5⟩:=hsame i
  rw [s1] at ho hk
  rw [s3] at hr
  rw [s5] at he ⊢
  rw [s2,s3]
  obtain⟨_,q1,q2,q3⟩:=h.past i hi ⟨ho,hk,hr,he⟩
  refine⟨λj hj je jo jk jr jlt=>?_,?_,?_⟩
  ·rw [hlen] at hj
   obtain⟨t1,t2,t3,t4,t5⟩:=hsame j
   rw [t1] at jo jk
   rw [t3] at jr jlt
   rw [t5] at je ⊢
   exact q1 j hj ⟨jo,jk,jr,je⟩ jlt
  ·rw [pK hlen (λm' hm=>by
    obtain⟨t1,t2,t3,t4,t5⟩:=hsame m'
    unfold bD;rw [t1,t3,t5]:∀ m',m'<_->bD calls (aD st.evs i).inv (aD (oP (bH n m) st) m')=bD calls (aD st.evs i).inv (aD st.evs m'))]
   exact q2
  ·rw [pK hlen (λm' hm=>by
    obtain⟨t1,t2,t3,t4,t5⟩:=hsame m'
    unfold bB;rw [t1,t2,t5]:∀ m',m'<_->bB calls (aD st.evs i).resp (aD (oP (bH n m) st) m')=bB calls (aD st.evs i).resp (aD st.evs m'))]
   exact q3
 ·rw [hlen] at hi
  obtain⟨s1,s2,s3,s4,s5⟩:=hsame i
  have hkk:kindOf calls (aD (oP (bH n m) st) i)=kindOf calls (aD st.evs i):=by unfold kindOf;rw [s1]
  rw [hkk,s4]
  by_cases hr:(aD st.evs i).resp=0
  ·have ho:=(hg.ev.open_ i hi hr).2
   unfold eT at ho
   obtain⟨p,hp⟩:∃ p,p=tn calls (aD st.evs i):=⟨_,rfl⟩
   rw [<-hp] at ho
   cases hh:st.hands.getD p (none,0) with
   | mk m' k=>
    rw [hh] at ho
    cases m' with
    | none=>simp at ho
    | some s=>
     simp only [Option.isSome_some,if_true,Option.some.injEq] at ho
     subst ho
     obtain⟨_,_,_,g2⟩:=h.hand p s k hh
     match s,g2 with
     | .rd l,⟨k1,k2,k3,k4,k5,_⟩=>exact⟨by omega,λ_=>by omega⟩
     | .ad x,⟨k1,k2,k3⟩=>exact⟨by omega,λh9=>by omega⟩
  ·exact h.steps i hi hr
end
section
open Go.RowKit
theorem oD (X:Nat->Prop) (w:World) (n m:Int) (calls:List aF) (picks:List Int) (ca pa:Option Addr) (cc pc:Nat) (hX:∀ b,X b->b<w.heap.size) (hc:lS X w ca calls) (hp:lT w pa picks) :
  Calls Try.prog 12 #[.int .i64 n,.int .i64 m,.slice ca calls.length cc,.slice pa picks.length pc] w λe w'=>qX X w w' (fO n m calls picks.length) (iO (bH n.toNat m.toNat) (List.replicate n.toNat 0) (List.replicate (fV n.toNat m.toNat) 0) calls picks) e:=by
 refine yN X w n m calls picks ca pa cc pc hX hc hp λhck hm1 zR=>?_
 obtain⟨h1,h2⟩:=DZ hck
 obtain⟨n',rfl⟩:∃ n':Nat,n=(n':Int):=⟨n.toNat,by omega⟩
 obtain⟨m',rfl⟩:∃ m':Nat,m=(m':Int):=⟨m.toNat,by omega⟩
 simp only [Int.toNat_natCast]
 exact LU n' m' (by omega) (by omega) calls picks hck
theorem LW {n m:Int} {calls:List aF} {np:Nat} (h:fO n m calls np=0):checkN n calls np=0/\1<=m/\m<=8:=by
 unfold fO at h
 split at h
 ·rename_i h1;exact absurd h h1
 ·rename_i h1
  split at h
  ·exact absurd h (by decide)
  ·exact⟨by simpa using h1,by omega,by omega⟩
def iI:List aF:=[⟨0,0,0,0,0,0⟩,⟨1,0,1,0,0,0⟩]
theorem EY:iO (bH 2 2) (List.replicate 2 0) (List.replicate (fV 2 2) 0) iI [0,0,0,0,0,1,1]=⟨[⟨0,1,5,5,⟨0,0,[]⟩,[10]⟩,⟨1,6,7,2,⟨0,1,[]⟩,[14]⟩],[1,0,0,1,0],⟨5,2,0,0,0⟩,7,0⟩:=by rfl
theorem xG:fO 2 2 iI 7=0:=by rfl
set_option maxHeartbeats 4000000 in
theorem KX (w:World):Calls Try.prog 11 #[] w λe w'=>e=.returned (.bool true)/\Below w.heap.size w w':=by
 obtain⟨wa,hwa⟩:∃ wa,wa=(w.alloc (.cells #[.int .i64 0,.int .i64 0,.int .i64 0,.int .u64 0,.int .u64 0,.int .u64 0,.int .i64 1,.int .i64 0,.int .i64 1,.int .u64 0,.int .u64 0,.int .u64 0] 46)).alloc (.cells #[.int .i64 0,.int .i64 0,.int .i64 0,.int .i64 0,.int .i64 0,.int .i64 1,.int .i64 1] 3):=⟨_,rfl⟩
 have hga:Below w.heap.size w wa:=by rw [hwa];exact Gr.alloc (Gr.new _ _) _
 have h1:wa.heap[w.heap.size]?=some (.cells (iI.flatMap tO).toArray 46 (0,0)):=by rw [hwa,Below.heap_alloc _ _ _ (by simp),heap_alloc_new];rfl
 have h2:wa.heap[w.heap.size+1]?=some (.cells (([0,0,0,0,0,1,1]:List Int).map (Value.int .i64)).toArray 3 (0,0)):=by
  rw [hwa]
  have:=heap_alloc_new (w.alloc (.cells #[.int .i64 0,.int .i64 0,.int .i64 0,.int .u64 0,.int .u64 0,.int .u64 0,.int .i64 1,.int .i64 0,.int .i64 1,.int .u64 0,.int .u64 0,.int .u64 0] 46)) (.cells #[.int .i64 0,.int .i64 0,.int .i64 0,.int .i64 0,.int .i64 0,.int .i64 1,.int .i64 1] 3 (0,0))
  simp only [World.size_alloc] at this
  exact this
 have P:=oD noB wa 2 2 iI [0,0,0,0,0,1,1] (some ⟨w.heap.size,0,none⟩) (some ⟨w.heap.size+1,0,none⟩) 2 7 (λb hb=>hb.elim) ⟨yR h1 (by decide),(by
   intro x hx
   simp only [iI,List.mem_cons,List.not_mem_nil,or_false] at hx
   rcases hx with rfl|rfl<;>exact vP (by decide) (by decide) (by decide) (by decide) (by decide) (by decide) (by decide)),λ_ _ _ _ h=>h⟩ ⟨zM h2 (by decide),by intro x hx;simp only [List.mem_cons,List.not_mem_nil,or_false] at hx;rcases hx with rfl|rfl|rfl|rfl|rfl|rfl|rfl<;>rfl⟩
 rw [show([0,0,0,0,0,1,1]:List Int).length=7 from rfl,xG,show(2:Int).toNat=2 from rfl,EY,show iI.length=2 from rfl] at P
 have HP:=Lib.hid P;have Hwa:=Lib.hid hwa;have Hga:=Lib.hid hga
 clear P h1 h2 hwa hga
 go_enter Try.func11,Try.ntmps11
 go_wp2_with fail
 rw [<-Hwa.out]
 refine HP.out.mono ?_
 rintro e w1 ⟨ea,en,ec,va,vn,vc,rp,rfl,hb,hr⟩
 rcases hr with⟨h0,_⟩|⟨_,hrp,hen,hvn,ers,hrep⟩
 ·exact absurd rfl h0
 obtain⟨g,rfl,hg,hev⟩:=hrep.event hen (by rw [hen];decide)
 obtain⟨q,rfl,hq,hwd⟩:=hrep.word hvn (by rw [hvn];decide)
 have SX:en=2:=hen
 have SC:vn=5:=hvn
 subst SX SC hrp
 have c2:w1.cell? ⟨g,2,none⟩=some (.int .i64 5):=hev 0 2 (by omega) (by omega)
 have c13:w1.cell? ⟨g,13,none⟩=some (.int .u64 1):=hev 1 5 (by omega) (by omega)
 have d0:w1.cell? ⟨q,0,none⟩=some (.int .u64 1):=hwd 0 (by omega)
 have d3:w1.cell? ⟨q,3,none⟩=some (.int .u64 1):=hwd 3 (by omega)
 have Hb:=Lib.hid hb
 clear hrep hev hwd hb hen hvn
 unfold mQ
 go_wp2
 go_ret
 exact⟨rfl,Gr.trans Hga.out (Gr.trans Hb.out (Gr.new _ _))⟩
end
section
open Go.RowKit
theorem iC.ev8 {X:Nat->Prop} {B:Nat} {w wr:World} {ea:Option Addr} {en ec:Nat} {wv:Value} {ers:List (Value×Value)} {r:jC} (h:iC X B w (.slice ea en ec) wv ers r) (hn:en=r.evs.length) {k:Nat} (hk:k<en) (hb:Below w.heap.size w wr) :
  ∃ g la lc ka kc,ea=some ⟨g,0,none⟩/\g<wr.heap.size/\
   wr.cell? ⟨g,k*8,none⟩=some (.int .i64 ((aD r.evs k).call:Int))/\wr.cell? ⟨g,k*8+1,none⟩=some (.int .i64 ((aD r.evs k).inv:Int))/\wr.cell? ⟨g,k*8+2,none⟩=some (.int .i64 ((aD r.evs k).resp:Int))/\wr.cell? ⟨g,k*8+3,none⟩=some (.int .i64 ((aD r.evs k).steps:Int))/\
   wr.cell? ⟨g,k*8+4,none⟩=some (.int .i64 (aD r.evs k).ans.err)/\wr.cell? ⟨g,k*8+5,none⟩=some (.int .u64 ((aD r.evs k).ans.val:Int))/\wr.cell? ⟨g,k*8+6,none⟩=some (.slice la (aD r.evs k).ans.list.length lc)/\wr.cell? ⟨g,k*8+7,none⟩=some (.slice ka (aD r.evs k).key.length kc)/\
   bS wr la (aD r.evs k).ans.list.length 1 (oV (aD r.evs k).ans.list)/\bS wr ka (aD r.evs k).key.length 1 (gQ (aD r.evs k).key)/\((aD r.evs k).key=[]->ka=none/\kc=0):=by
 obtain⟨g,rfl,hg,hev⟩:=h.event hn (by omega)
 have hans:=h.ans k (by rw [<-hn];exact hk)
 obtain⟨V,hV⟩:∃ V,V=ers.getD k tQ:=⟨_,rfl⟩
 rw [<-hV] at hans
 obtain⟨⟨la,lc,hlv,hls,_⟩,⟨ka,kc,hkv,hkn,hks,_⟩⟩:=hans
 have hcells:∀ f,f<8->wr.cell? ⟨g,k*8+f,none⟩=(dM (aD r.evs k) V)[f]?:=λf hf=>by rw [hb.cell hg,hev k f hk hf,hV];rfl
 refine⟨g,la,lc,ka,kc,rfl,Nat.lt_of_lt_of_le hg hb.size,hcells 0 (by omega),hcells 1 (by omega),hcells 2 (by omega),hcells 3 (by omega),hcells 4 (by omega),hcells 5 (by omega),?_,?_,hls.grown hb,hks.grown hb,λh0=>?_⟩
 ·rw [hcells 6 (by omega)];exact congrArg some hlv
 ·rw [hcells 7 (by omega)];exact congrArg some hkv
 ·have:=hkn h0
  rw [hkv] at this
  simp only [Value.slice.injEq] at this
  exact⟨this.1,this.2.2⟩
end
section
open Go.RowKit
structure ED (n m:Nat) (calls:List aF) (evs:List EvD):Prop where
 call:∀ i,i<evs.length->(aD evs i).call<calls.length
 steps:∀ i,i<evs.length->(aD evs i).steps<=fF n m/\(kindOf calls (aD evs i)=1->(aD evs i).steps<=m)
theorem OJ (v:Nat):lev v<=4:=by
 unfold lev
 repeat' split
 all_goals omega
theorem BF (n:Nat) (hn:n<=16) (w:World):Calls Try.prog 15 #[.int .i64 (n:Int)] w λe w'=>e=.returned (.int .i64 ((aJ n:Nat):Int))/\w=w':=by
 go_enter Try.func15,Try.ntmps15
 go_wp2
 go_loopw [3,4] (λl i wr=>∃ k L:Nat,k<=5/\l=.int .i64 (L:Int)/\i=.int .i64 (k:Int)/\wr=w/\L<=32/\wT n (5 - k) L=aJ n) (λ_ i _=>5 - (intOf i).toNat)
 case atStart=>exact⟨0,1,by decide,rfl,rfl,(by first|rfl|trivial),by decide,rfl⟩
 case round=>
  obtain⟨k,L,hk,rfl,rfl,hwr,hL,hup⟩:=hrel
  have hwr2:=hwr.symm
  clear hwr
  subst hwr2
  by_cases hk5:k<5
  ·have l1:(k:Int)<5:=by omega
   obtain⟨f,hf⟩:∃ f,5 - k=f+1:=⟨5 - k - 1,by omega⟩
   have hf2:5 - (k+1)=f:=by omega
   rw [hf] at hup
   by_cases hlt:L<n
   ·have l2:(L:Int)<(n:Int):=by omega
    have wL:IntKind.i64.wrap (2*(L:Int))=2*(L:Int):=by rw [IntKind.wrap_i64];omega
    have H:=Lib.hid (show wT n (5 - (k+1)) (2*L)=aJ n by rw [hf2,<-hup];exact(if_pos hlt).symm)
    have hL2:2*L<=32:=by omega
    clear hup hf hf2
    go_wp2
    go_roundw
    case rel=>exact⟨k+1,2*L,by omega,by go_num,by go_num,(by first|rfl|trivial),hL2,H.out⟩
    case measure=>simp [intOf]<;>omega
   ·have l2:¬ (L:Int)<(n:Int):=by omega
    have H:=Lib.hid (show wT n (5 - (k+1)) L=aJ n by rw [hf2,tN hlt,<-hup,tN hlt])
    clear hup hf hf2
    go_wp2
    go_roundw
    case rel=>exact⟨k+1,L,by omega,rfl,by go_num,(by first|rfl|trivial),hL,H.out⟩
    case measure=>simp [intOf]<;>omega
  ·have l1:¬ (k:Int)<5:=by omega
   have H:=Lib.hid (show L=aJ n by rw [show 5 - k=0 by omega] at hup;exact hup)
   clear hup
   go_wp2
   go_ret
   exact⟨by rw [<-H.out];rfl,(by first|rfl|trivial)⟩
end
end Go.Proofs.Ytifhldnmcdbpfaa
